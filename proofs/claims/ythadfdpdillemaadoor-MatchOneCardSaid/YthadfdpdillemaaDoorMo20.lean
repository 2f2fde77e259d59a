/-
  WHERE A PLAN STOPS, and what a view is behind it: plain Lean, no program.
-/
import Derived.Test.YthadfdpdillemaaDoorMo4
import Derived.Test.YthadfdpdillemaaDoorMo19
set_option linter.unusedVariables false
namespace Go.Proofs.YthadfdpdillemaaDoor
open Go.RowKit

def aboveB (b : Idt) (x : Ent) : Bool := decide (b.idx < x.idx)
/-- The plan of a row stops at place m. -/
structure Stops (b : Idt) (l : List Idt) (sh : Int) (prev : Idt) (es : List Ent) (p : Pln) (m : Nat) : Prop where
  le : m ≤ es.length
  fit : ∀ i x, i < m → es[i]? = some x → b.idx < x.idx → fitK b l sh x.idx x.trm = 0
  same : p.same = (es.take m).filter (aboveB b)
  stop : (m = es.length ∧ p.cut = 0 ∧ p.add = [] ∧ p.idx = max (prev.idx + (m : Int)) b.idx) ∨
    ∃ x, es[m]? = some x ∧ b.idx < x.idx ∧
      ((fitK b l sh x.idx x.trm = 1 ∧ p.cut = 0 ∧ p.add = es.drop m ∧ p.idx = prev.idx + (es.length : Int)) ∨
       (fitK b l sh x.idx x.trm = 2 ∧ p.cut = x.idx ∧ p.add = es.drop m ∧ p.idx = prev.idx + (es.length : Int)) ∨
       (fitK b l sh x.idx x.trm = 3 ∧ p.cut = 0 ∧ p.add = [] ∧ p.idx = max (prev.idx + (m : Int)) b.idx))

theorem fol_idx {prev : Idt} {es : List Ent} (hf : folE prev es = 0) {i : Nat} {x : Ent} (hx : es[i]? = some x) : x.idx = prev.idx + 1 + (i : Int) := (fol_each es prev hf i x hx).2.1
theorem fol_knd {prev : Idt} {es : List Ent} (hf : folE prev es = 0) {i : Nat} {x : Ent} (hx : es[i]? = some x) : x.knd ≠ 0 := by
  have h := (fol_each es prev hf i x hx).1
  unfold goodE rangeE at h
  simp only [Bool.and_eq_true, decide_eq_true_eq] at h
  omega
theorem lastE_get : ∀ (es : List Ent) (d : Idt) (x : Ent), es[es.length - 1]? = some x → lastE d es = ofE x := by
  intro es
  induction es with
  | nil => intro d x h; simp at h
  | cons y r ih =>
    intro d x h
    cases r with
    | nil => simp at h; subst h; rfl
    | cons z r => exact ih (ofE y) x (by simpa using h)
theorem lastE_drop {prev : Idt} {es : List Ent} (hf : folE prev es = 0) {k : Nat} (hk : k < es.length) (d : Idt) : (lastE d (es.drop k)).idx = prev.idx + (es.length : Int) := by
  have hx := List.getElem?_eq_getElem (show es.length - 1 < es.length by omega)
  have h2 : (es.drop k)[(es.drop k).length - 1]? = some (es[es.length - 1]'(by omega)) := by
    rw [List.getElem?_drop, List.length_drop, ← hx]; congr 1; omega
  rw [lastE_get _ d _ h2]
  have := fol_idx hf hx
  show (es[es.length - 1]'(by omega)).idx = _
  omega
theorem filter_take {b : Idt} {es : List Ent} {k : Nat} {x : Ent} (hx : es[k]? = some x) : (es.take (k + 1)).filter (aboveB b) = if b.idx < x.idx then (es.take k).filter (aboveB b) ++ [x] else (es.take k).filter (aboveB b) := by
  rw [take_at hx, List.filter_append]
  by_cases h : b.idx < x.idx
  · rw [if_pos h]; simp [aboveB, h]
  · rw [if_neg h]; simp [aboveB, h]

theorem planV_stops {b : Idt} {l : List Idt} {sh : Int} {prev : Idt} {es : List Ent} (hf : folE prev es = 0) : ∀ (n k : Nat), es.length - k = n → k ≤ es.length →
    (∀ i x, i < k → es[i]? = some x → b.idx < x.idx → fitK b l sh x.idx x.trm = 0) → ∀ ix s, ix = max (prev.idx + (k : Int)) b.idx → s = (es.take k).filter (aboveB b) → ∃ m, Stops b l sh prev es (planV b l sh (es.drop k) ix s) m := by
  intro n
  induction n with
  | zero =>
    intro k h0 hk hfit ix s hix hs
    have : k = es.length := by omega
    subst this
    rw [planV_end (Nat.le_refl _)]
    exact ⟨es.length, Nat.le_refl _, hfit, hs, .inl ⟨rfl, rfl, rfl, hix⟩⟩
  | succ n ih =>
    intro k h0 hk hfit ix s hix hs
    have hlt : k < es.length := by omega
    obtain ⟨x, hx⟩ : ∃ x, es[k]? = some x := ⟨_, List.getElem?_eq_getElem hlt⟩
    have hxi := fol_idx hf hx
    by_cases hb : x.idx ≤ b.idx
    · rw [planV_skip hx hb]
      refine ih (k + 1) (by omega) (by omega) (fun i y hi hy hby => ?_) _ _ (by push_cast; omega) (by rw [filter_take hx, if_neg (by omega), hs])
      by_cases hik : i = k
      · subst hik; rw [hx] at hy; injection hy with hy; subst hy; omega
      · exact hfit i y (by omega) hy hby
    · have hlast := lastE_drop hf hlt ⟨0, 0, 0⟩
      have hlt4 := @fitK_lt b l sh x.idx x.trm
      rcases (by omega : fitK b l sh x.idx x.trm = 0 ∨ fitK b l sh x.idx x.trm = 1 ∨ fitK b l sh x.idx x.trm = 2 ∨ fitK b l sh x.idx x.trm = 3) with h | h | h | h
      · rw [planV_0 hx hb h]
        refine ih (k + 1) (by omega) (by omega) (fun i y hi hy hby => ?_) _ _ (by push_cast; omega) (by rw [filter_take hx, if_pos (by omega), hs])
        by_cases hik : i = k
        · subst hik; rw [hx] at hy; injection hy with hy; subst hy; exact h
        · exact hfit i y (by omega) hy hby
      · rw [planV_1 hx hb h]
        exact ⟨k, by omega, hfit, hs, .inr ⟨x, hx, by omega, .inl ⟨h, rfl, rfl, hlast⟩⟩⟩
      · rw [planV_2 hx hb h]
        exact ⟨k, by omega, hfit, hs, .inr ⟨x, hx, by omega, .inr (.inl ⟨h, rfl, rfl, hlast⟩)⟩⟩
      · rw [planV_3 hx hb h]
        exact ⟨k, by omega, hfit, hs, .inr ⟨x, hx, by omega, .inr (.inr ⟨h, rfl, rfl, hix⟩)⟩⟩

/-- Identities put in their places. -/
def setsV (b : Idt) : List Idt → List Ent → List Idt
  | l, [] => l
  | l, e :: r => setsV b (l.set (e.idx - b.idx - 1).toNat (ofE e)) r
theorem setsV_append (b : Idt) (s t : List Ent) : ∀ l, setsV b l (s ++ t) = setsV b (setsV b l s) t := by
  induction s with
  | nil => intro l; rfl
  | cons e s ih => intro l; exact ih _
theorem setsV_length (b : Idt) (s : List Ent) : ∀ l, (setsV b l s).length = l.length := by
  induction s with
  | nil => intro l; rfl
  | cons e s ih => intro l; exact (ih _).trans (List.length_set ..)
theorem setsV_far (b : Idt) (j : Nat) (s : List Ent) : ∀ l, (∀ e ∈ s, (e.idx - b.idx - 1).toNat ≠ j) → (setsV b l s)[j]? = l[j]? := by
  induction s with
  | nil => intro l _; rfl
  | cons e s ih =>
    intro l h
    refine (ih _ (fun x hx => h x (List.mem_cons_of_mem _ hx))).trans ?_
    rw [List.getElem?_set_ne (h e (List.mem_cons_self ..))]
theorem setsV_near (b : Idt) (j : Nat) (x : Ent) (s : List Ent) : ∀ l : List Idt, j < l.length → x ∈ s → (x.idx - b.idx - 1).toNat = j → (∀ e ∈ s, (e.idx - b.idx - 1).toNat = j → e = x) → (setsV b l s)[j]? = some (ofE x) := by
  induction s with
  | nil => intro l _ h; simp at h
  | cons e s ih =>
    intro l hj hx hp hu
    show (setsV b (l.set (e.idx - b.idx - 1).toNat (ofE e)) s)[j]? = _
    by_cases hs : x ∈ s
    · exact ih _ (by rw [List.length_set]; exact hj) hs hp (fun y hy => hu y (List.mem_cons_of_mem _ hy))
    · have he : e = x := by
        rcases List.mem_cons.1 hx with h | h
        · exact h.symm
        · exact absurd h hs
      subst he
      rw [setsV_far b j s _ (fun y hy hpy => hs (by rw [← hu y (List.mem_cons_of_mem _ hy) hpy]; exact hy)), hp]
      rw [List.getElem?_set_self hj]
/-- A view behind a plan. -/
def cutV (b : Idt) (l : List Idt) (p : Pln) : List Idt := if 0 < p.cut then l.take (p.cut - b.idx - 1).toNat else l
def behV (b : Idt) (l : List Idt) (p : Pln) : List Idt := setsV b (cutV b l p) p.same ++ p.add.map ofE

section
variable {b prev : Idt} {l : List Idt} {es : List Ent} {p : Pln} {m : Nat} {sh : Int}
/-- What a place ahead of the stop is. -/
theorem stops_last (hb : 0 ≤ b.idx) (hf : folE prev es = 0) (hp : fitK b l sh prev.idx prev.trm = 0) (h : Stops b l sh prev es p m) : ∀ k, k ≤ m → prev.idx + (k : Int) ≤ lastI b l := by
  intro k hk
  have hll : b.idx ≤ lastI b l := by unfold lastI; omega
  cases k with
  | zero =>
    by_cases h1 : prev.idx ≤ b.idx
    · simp; omega
    · by_cases h2 : lastI b l < prev.idx
      · rw [fitK_far h1 h2] at hp; omega
      · simp; omega
  | succ k =>
    have hlt : k < es.length := by have := h.le; omega
    obtain ⟨x, hx⟩ : ∃ x, es[k]? = some x := ⟨_, List.getElem?_eq_getElem hlt⟩
    have hxi := fol_idx hf hx
    by_cases h1 : x.idx ≤ b.idx
    · push_cast; omega
    · have h0 := h.fit k x (by omega) hx (by omega)
      by_cases h2 : lastI b l < x.idx
      · rw [fitK_far h1 h2] at h0; omega
      · push_cast; omega
theorem stops_mem (hf : folE prev es = 0) (h : Stops b l sh prev es p m) {e : Ent} (he : e ∈ p.same) : ∃ i, i < m ∧ es[i]? = some e ∧ b.idx < e.idx := by
  rw [h.same, List.mem_filter] at he
  obtain ⟨h1, h2⟩ := he
  obtain ⟨i, hi⟩ := List.getElem?_of_mem h1
  rw [List.getElem?_take] at hi
  by_cases hm : i < m
  · rw [if_pos hm] at hi
    exact ⟨i, hm, hi, by simpa [aboveB] using h2⟩
  · rw [if_neg hm] at hi; simp at hi
theorem stops_in (hf : folE prev es = 0) (h : Stops b l sh prev es p m) {i : Nat} {e : Ent} (hi : i < m) (he : es[i]? = some e) (hb : b.idx < e.idx) : e ∈ p.same := by
  rw [h.same, List.mem_filter]
  refine ⟨?_, by simp [aboveB, hb]⟩
  have : (es.take m)[i]? = some e := by rw [List.getElem?_take, if_pos hi]; exact he
  exact List.mem_of_getElem? this
theorem fol_same (hf : folE prev es = 0) {i j : Nat} {x y : Ent} (hx : es[i]? = some x) (hy : es[j]? = some y) (h : x.idx = y.idx) : i = j ∧ x = y := by
  have h1 := fol_idx hf hx
  have h2 := fol_idx hf hy
  have : i = j := by omega
  subst this
  rw [hx] at hy; injection hy with hy
  exact ⟨rfl, hy⟩
/-- How long the view is, cut. -/
theorem cutV_length (hb : 0 ≤ b.idx) (hf : folE prev es = 0) (hp : fitK b l sh prev.idx prev.trm = 0) (h : Stops b l sh prev es p m) :
    (0 < p.cut → prev.idx + (m : Int) + 1 = p.cut ∧ b.idx < p.cut ∧ p.cut ≤ lastI b l ∧ ((cutV b l p).length : Int) = p.cut - b.idx - 1) ∧ (¬ 0 < p.cut → cutV b l p = l) := by
  refine ⟨fun hc => ?_, fun hc => by unfold cutV; rw [if_neg hc]⟩
  rcases h.stop with ⟨-, h1, -, -⟩ | ⟨x, hx, hbx, ⟨-, h1, -, -⟩ | ⟨h2, h1, -, -⟩ | ⟨-, h1, -, -⟩⟩
  · omega
  · omega
  · have hxi := fol_idx hf hx
    have hr : x.idx ≤ lastI b l := by
      by_cases h3 : lastI b l < x.idx
      · rw [fitK_far (by omega) h3] at h2; omega
      · omega
    refine ⟨by omega, by omega, by omega, ?_⟩
    unfold cutV
    rw [if_pos hc, List.length_take]
    unfold lastI at hr
    omega
  · omega
/-- What is behind the plan where it has an entry. -/
theorem beh_in (hb : 0 ≤ b.idx) (hf : folE prev es = 0) (hp : fitK b l sh prev.idx prev.trm = 0) (h : Stops b l sh prev es p m) {q : Nat} {x : Ent} (hx : es[q]? = some x) (hbx : b.idx < x.idx) (hle : x.idx ≤ p.idx) :
    (behV b l p)[(x.idx - b.idx - 1).toNat]? = some (ofE x) := by
  have hxi := fol_idx hf hx
  obtain ⟨hc1, hc2⟩ := cutV_length hb hf hp h
  have hl0 := stops_last hb hf hp h
  unfold behV
  by_cases hq : q < m
  · have hin := stops_in hf h hq hx hbx
    have hlen : (x.idx - b.idx - 1).toNat < (cutV b l p).length := by
      by_cases hc : 0 < p.cut
      · have := hc1 hc; omega
      · rw [hc2 hc]; have := hl0 (q + 1) (by omega); unfold lastI at this; push_cast at this; omega
    rw [List.getElem?_append_left (by rw [setsV_length]; exact hlen)]
    refine setsV_near b _ x p.same _ hlen hin rfl (fun e he hpe => ?_)
    obtain ⟨i, hi, he2, hbe⟩ := stops_mem hf h he
    exact (fol_same hf he2 hx (by omega)).2
  · have hqlt : q < es.length := (List.getElem?_eq_some_iff.1 hx).1
    have hadd : p.add = es.drop m ∧ ((cutV b l p).length : Int) = prev.idx + (m : Int) - b.idx := by
      rcases h.stop with ⟨h1, -, -, -⟩ | ⟨y, hy, hby, ⟨h2, h1, h3, -⟩ | ⟨h2, h1, h3, -⟩ | ⟨-, -, -, h4⟩⟩
      · omega
      · have hyi := fol_idx hf hy
        refine ⟨h3, ?_⟩
        rw [hc2 (by omega)]
        have h5 := hl0 m (Nat.le_refl _)
        have h6 : lastI b l < y.idx := by
          by_cases h7 : lastI b l < y.idx
          · exact h7
          · exfalso
            cases ha : atV b l y.idx with
            | some z => rw [fitK_some (by omega) h7 ha] at h2; split at h2 <;> omega
            | none => rw [fitK_none (by omega) h7 ha] at h2; split at h2 <;> omega
        unfold lastI at h5 h6
        omega
      · have hyi := fol_idx hf hy
        refine ⟨h3, ?_⟩
        have := hc1 (by omega); omega
      · omega
    obtain ⟨ha1, ha2⟩ := hadd
    rw [List.getElem?_append_right (by rw [setsV_length]; omega), setsV_length, ha1, List.getElem?_map, List.getElem?_drop]
    have e : m + ((x.idx - b.idx - 1).toNat - (cutV b l p).length) = q := by omega
    rw [e, hx]; rfl
/-- What is behind the plan where it has none. -/
theorem beh_old (hb : 0 ≤ b.idx) (hf : folE prev es = 0) (hp : fitK b l sh prev.idx prev.trm = 0) (h : Stops b l sh prev es p m) {i : Int} (hbi : b.idx < i) (hi : i ≤ prev.idx ∨ p.idx < i) (hc : p.cut ≤ 0 ∨ i < p.cut) (hil : i ≤ lastI b l) :
    (behV b l p)[(i - b.idx - 1).toNat]? = l[(i - b.idx - 1).toNat]? := by
  obtain ⟨hc1, hc2⟩ := cutV_length hb hf hp h
  have hl0 := stops_last hb hf hp h
  have hlen : (i - b.idx - 1).toNat < (cutV b l p).length := by
    by_cases hc0 : 0 < p.cut
    · have := hc1 hc0; omega
    · rw [hc2 hc0]; unfold lastI at hil; omega
  unfold behV
  rw [List.getElem?_append_left (by rw [setsV_length]; exact hlen)]
  rw [setsV_far]
  · by_cases hc0 : 0 < p.cut
    · unfold cutV; rw [if_pos hc0, List.getElem?_take, if_pos (by have := hc1 hc0; omega)]
    · rw [hc2 hc0]
  · intro e he hpe
    obtain ⟨q, hq, he2, hbe⟩ := stops_mem hf h he
    have hei := fol_idx hf he2
    have hqi : e.idx ≤ p.idx := by
      rcases h.stop with ⟨h1, -, -, h4⟩ | ⟨y, hy, hby, ⟨-, -, -, h4⟩ | ⟨-, -, -, h4⟩ | ⟨-, -, -, h4⟩⟩
      · omega
      · have := h.le; omega
      · have := h.le; omega
      · omega
    omega
/-- Where it ends. -/
theorem beh_last (hb : 0 ≤ b.idx) (hf : folE prev es = 0) (hp : fitK b l sh prev.idx prev.trm = 0) (h : Stops b l sh prev es p m) :
    lastI b (behV b l p) = if 0 < p.cut then p.idx else max (lastI b l) p.idx := by
  obtain ⟨hc1, hc2⟩ := cutV_length hb hf hp h
  have hl0 := stops_last hb hf hp h
  have e : lastI b (behV b l p) = b.idx + ((cutV b l p).length : Int) + (p.add.length : Int) := by
    unfold lastI behV; rw [List.length_append, setsV_length, List.length_map]; push_cast; omega
  rw [e]
  have hlm := hl0 m (Nat.le_refl _)
  have hbl : b.idx ≤ lastI b l := by unfold lastI; omega
  rcases h.stop with ⟨h1, h2, h3, h4⟩ | ⟨y, hy, hby, ⟨h5, h2, h3, h4⟩ | ⟨h5, h2, h3, h4⟩ | ⟨h5, h2, h3, h4⟩⟩
  · rw [if_neg (by omega), hc2 (by omega), h3]; unfold lastI at hlm ⊢; simp; omega
  · have hyi := fol_idx hf hy
    have hlt : m < es.length := (List.getElem?_eq_some_iff.1 hy).1
    have h6 : lastI b l < y.idx := by
      by_cases h7 : lastI b l < y.idx
      · exact h7
      · exfalso
        cases ha : atV b l y.idx with
        | some z => rw [fitK_some (by omega) h7 ha] at h5; split at h5 <;> omega
        | none => rw [fitK_none (by omega) h7 ha] at h5; split at h5 <;> omega
    rw [if_neg (by omega), hc2 (by omega), h3, List.length_drop]; unfold lastI at hlm h6 ⊢; omega
  · have hyi := fol_idx hf hy
    have hlt : m < es.length := (List.getElem?_eq_some_iff.1 hy).1
    have := hc1 (by omega)
    rw [if_pos (by omega), h3, List.length_drop]; omega
  · rw [if_neg (by omega), hc2 (by omega), h3]; unfold lastI at hlm ⊢; simp; omega
end
end Go.Proofs.YthadfdpdillemaaDoor
