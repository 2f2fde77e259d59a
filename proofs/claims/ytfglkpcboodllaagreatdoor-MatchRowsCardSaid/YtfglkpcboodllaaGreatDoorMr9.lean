/-
  Merged: FitPlan, FitAgain.
-/
import Derived.Test.YtfglkpcboodllaaGreatDoorMr2
import Derived.Test.YtfglkpcboodllaaGreatDoorMr8
/-
  WHERE A PLAN STOPS, and what a view is behind it: plain Lean, no program.
-/
set_option linter.unusedVariables false
namespace Go.Proofs.YtfglkpcboodllaaGreatDoor
open Go.RowKit

def aboveB (b : Idt) (x : Ent) : Bool := decide (b.idx < x.idx)
/-- The plan of a row stops at place m. -/
structure Stops (b : Idt) (l : List Idt) (sh : Int) (prev : Idt) (es : List Ent) (p : Pln) (m : Nat) : Prop where
  le : m ≤ es.length
  fit : ∀ i x, i < m → es[i]? = some x → b.idx < x.idx → fitK b l sh x.idx x.trm = 0
  same : p.same = (es.take m).filter (aboveB b)
  stop : (m = es.length ∧ p.cut = 0 ∧ p.add = [] ∧ p.idx = max (prev.idx + (m : Int)) b.idx) ∨
    ∃ x, es[m]? = some x ∧ b.idx < x.idx ∧
      ((fitK b l sh x.idx x.trm = 1 ∧ p.cut = 0 ∧ p.add = es.drop m ∧ p.idx = prev.idx + (es.length : Int)) ∨
       (fitK b l sh x.idx x.trm = 2 ∧ p.cut = x.idx ∧ p.add = es.drop m ∧ p.idx = prev.idx + (es.length : Int)) ∨
       (fitK b l sh x.idx x.trm = 3 ∧ p.cut = 0 ∧ p.add = [] ∧ p.idx = max (prev.idx + (m : Int)) b.idx))

theorem fol_idx {prev : Idt} {es : List Ent} (hf : folE prev es = 0) {i : Nat} {x : Ent} (hx : es[i]? = some x) : x.idx = prev.idx + 1 + (i : Int) := (fol_each es prev hf i x hx).2.1
theorem fol_knd {prev : Idt} {es : List Ent} (hf : folE prev es = 0) {i : Nat} {x : Ent} (hx : es[i]? = some x) : x.knd ≠ 0 := by
  have h := (fol_each es prev hf i x hx).1
  unfold goodE rangeE at h
  simp only [Bool.and_eq_true, decide_eq_true_eq] at h
  omega
theorem lastE_get : ∀ (es : List Ent) (d : Idt) (x : Ent), es[es.length - 1]? = some x → lastE d es = ofE x := by
  intro es
  induction es with
  | nil => intro d x h; simp at h
  | cons y r ih =>
    intro d x h
    cases r with
    | nil => simp at h; subst h; rfl
    | cons z r => exact ih (ofE y) x (by simpa using h)
theorem lastE_drop {prev : Idt} {es : List Ent} (hf : folE prev es = 0) {k : Nat} (hk : k < es.length) (d : Idt) : (lastE d (es.drop k)).idx = prev.idx + (es.length : Int) := by
  have hx := List.getElem?_eq_getElem (show es.length - 1 < es.length by omega)
  have h2 : (es.drop k)[(es.drop k).length - 1]? = some (es[es.length - 1]'(by omega)) := by
    rw [List.getElem?_drop, List.length_drop, ← hx]; congr 1; omega
  rw [lastE_get _ d _ h2]
  have := fol_idx hf hx
  show (es[es.length - 1]'(by omega)).idx = _
  omega
theorem filter_take {b : Idt} {es : List Ent} {k : Nat} {x : Ent} (hx : es[k]? = some x) : (es.take (k + 1)).filter (aboveB b) = if b.idx < x.idx then (es.take k).filter (aboveB b) ++ [x] else (es.take k).filter (aboveB b) := by
  rw [take_at hx, List.filter_append]
  by_cases h : b.idx < x.idx
  · rw [if_pos h]; simp [aboveB, h]
  · rw [if_neg h]; simp [aboveB, h]

theorem planV_stops {b : Idt} {l : List Idt} {sh : Int} {prev : Idt} {es : List Ent} (hf : folE prev es = 0) : ∀ (n k : Nat), es.length - k = n → k ≤ es.length →
    (∀ i x, i < k → es[i]? = some x → b.idx < x.idx → fitK b l sh x.idx x.trm = 0) → ∀ ix s, ix = max (prev.idx + (k : Int)) b.idx → s = (es.take k).filter (aboveB b) → ∃ m, Stops b l sh prev es (planV b l sh (es.drop k) ix s) m := by
  intro n
  induction n with
  | zero =>
    intro k h0 hk hfit ix s hix hs
    have : k = es.length := by omega
    subst this
    rw [planV_end (Nat.le_refl _)]
    exact ⟨es.length, Nat.le_refl _, hfit, hs, .inl ⟨rfl, rfl, rfl, hix⟩⟩
  | succ n ih =>
    intro k h0 hk hfit ix s hix hs
    have hlt : k < es.length := by omega
    obtain ⟨x, hx⟩ : ∃ x, es[k]? = some x := ⟨_, List.getElem?_eq_getElem hlt⟩
    have hxi := fol_idx hf hx
    by_cases hb : x.idx ≤ b.idx
    · rw [planV_skip hx hb]
      refine ih (k + 1) (by omega) (by omega) (fun i y hi hy hby => ?_) _ _ (by push_cast; omega) (by rw [filter_take hx, if_neg (by omega), hs])
      by_cases hik : i = k
      · subst hik; rw [hx] at hy; injection hy with hy; subst hy; omega
      · exact hfit i y (by omega) hy hby
    · have hlast := lastE_drop hf hlt ⟨0, 0, 0⟩
      have hlt4 := @fitK_lt b l sh x.idx x.trm
      rcases (by omega : fitK b l sh x.idx x.trm = 0 ∨ fitK b l sh x.idx x.trm = 1 ∨ fitK b l sh x.idx x.trm = 2 ∨ fitK b l sh x.idx x.trm = 3) with h | h | h | h
      · rw [planV_0 hx hb h]
        refine ih (k + 1) (by omega) (by omega) (fun i y hi hy hby => ?_) _ _ (by push_cast; omega) (by rw [filter_take hx, if_pos (by omega), hs])
        by_cases hik : i = k
        · subst hik; rw [hx] at hy; injection hy with hy; subst hy; exact h
        · exact hfit i y (by omega) hy hby
      · rw [planV_1 hx hb h]
        exact ⟨k, by omega, hfit, hs, .inr ⟨x, hx, by omega, .inl ⟨h, rfl, rfl, hlast⟩⟩⟩
      · rw [planV_2 hx hb h]
        exact ⟨k, by omega, hfit, hs, .inr ⟨x, hx, by omega, .inr (.inl ⟨h, rfl, rfl, hlast⟩)⟩⟩
      · rw [planV_3 hx hb h]
        exact ⟨k, by omega, hfit, hs, .inr ⟨x, hx, by omega, .inr (.inr ⟨h, rfl, rfl, hix⟩)⟩⟩

/-- Identities put in their places. -/
def setsV (b : Idt) : List Idt → List Ent → List Idt
  | l, [] => l
  | l, e :: r => setsV b (l.set (e.idx - b.idx - 1).toNat (ofE e)) r
theorem setsV_append (b : Idt) (s t : List Ent) : ∀ l, setsV b l (s ++ t) = setsV b (setsV b l s) t := by
  induction s with
  | nil => intro l; rfl
  | cons e s ih => intro l; exact ih _
theorem setsV_length (b : Idt) (s : List Ent) : ∀ l, (setsV b l s).length = l.length := by
  induction s with
  | nil => intro l; rfl
  | cons e s ih => intro l; exact (ih _).trans (List.length_set ..)
theorem setsV_far (b : Idt) (j : Nat) (s : List Ent) : ∀ l, (∀ e ∈ s, (e.idx - b.idx - 1).toNat ≠ j) → (setsV b l s)[j]? = l[j]? := by
  induction s with
  | nil => intro l _; rfl
  | cons e s ih =>
    intro l h
    refine (ih _ (fun x hx => h x (List.mem_cons_of_mem _ hx))).trans ?_
    rw [List.getElem?_set_ne (h e (List.mem_cons_self ..))]
theorem setsV_near (b : Idt) (j : Nat) (x : Ent) (s : List Ent) : ∀ l : List Idt, j < l.length → x ∈ s → (x.idx - b.idx - 1).toNat = j → (∀ e ∈ s, (e.idx - b.idx - 1).toNat = j → e = x) → (setsV b l s)[j]? = some (ofE x) := by
  induction s with
  | nil => intro l _ h; simp at h
  | cons e s ih =>
    intro l hj hx hp hu
    show (setsV b (l.set (e.idx - b.idx - 1).toNat (ofE e)) s)[j]? = _
    by_cases hs : x ∈ s
    · exact ih _ (by rw [List.length_set]; exact hj) hs hp (fun y hy => hu y (List.mem_cons_of_mem _ hy))
    · have he : e = x := by
        rcases List.mem_cons.1 hx with h | h
        · exact h.symm
        · exact absurd h hs
      subst he
      rw [setsV_far b j s _ (fun y hy hpy => hs (by rw [← hu y (List.mem_cons_of_mem _ hy) hpy]; exact hy)), hp]
      rw [List.getElem?_set_self hj]
/-- A view behind a plan. -/
def cutV (b : Idt) (l : List Idt) (p : Pln) : List Idt := if 0 < p.cut then l.take (p.cut - b.idx - 1).toNat else l
def behV (b : Idt) (l : List Idt) (p : Pln) : List Idt := setsV b (cutV b l p) p.same ++ p.add.map ofE

section
variable {b prev : Idt} {l : List Idt} {es : List Ent} {p : Pln} {m : Nat} {sh : Int}
/-- What a place ahead of the stop is. -/
theorem stops_last (hb : 0 ≤ b.idx) (hf : folE prev es = 0) (hp : fitK b l sh prev.idx prev.trm = 0) (h : Stops b l sh prev es p m) : ∀ k, k ≤ m → prev.idx + (k : Int) ≤ lastI b l := by
  intro k hk
  have hll : b.idx ≤ lastI b l := by unfold lastI; omega
  cases k with
  | zero =>
    by_cases h1 : prev.idx ≤ b.idx
    · simp; omega
    · by_cases h2 : lastI b l < prev.idx
      · rw [fitK_far h1 h2] at hp; omega
      · simp; omega
  | succ k =>
    have hlt : k < es.length := by have := h.le; omega
    obtain ⟨x, hx⟩ : ∃ x, es[k]? = some x := ⟨_, List.getElem?_eq_getElem hlt⟩
    have hxi := fol_idx hf hx
    by_cases h1 : x.idx ≤ b.idx
    · push_cast; omega
    · have h0 := h.fit k x (by omega) hx (by omega)
      by_cases h2 : lastI b l < x.idx
      · rw [fitK_far h1 h2] at h0; omega
      · push_cast; omega
theorem stops_mem (hf : folE prev es = 0) (h : Stops b l sh prev es p m) {e : Ent} (he : e ∈ p.same) : ∃ i, i < m ∧ es[i]? = some e ∧ b.idx < e.idx := by
  rw [h.same, List.mem_filter] at he
  obtain ⟨h1, h2⟩ := he
  obtain ⟨i, hi⟩ := List.getElem?_of_mem h1
  rw [List.getElem?_take] at hi
  by_cases hm : i < m
  · rw [if_pos hm] at hi
    exact ⟨i, hm, hi, by simpa [aboveB] using h2⟩
  · rw [if_neg hm] at hi; simp at hi
theorem stops_in (hf : folE prev es = 0) (h : Stops b l sh prev es p m) {i : Nat} {e : Ent} (hi : i < m) (he : es[i]? = some e) (hb : b.idx < e.idx) : e ∈ p.same := by
  rw [h.same, List.mem_filter]
  refine ⟨?_, by simp [aboveB, hb]⟩
  have : (es.take m)[i]? = some e := by rw [List.getElem?_take, if_pos hi]; exact he
  exact List.mem_of_getElem? this
theorem fol_same (hf : folE prev es = 0) {i j : Nat} {x y : Ent} (hx : es[i]? = some x) (hy : es[j]? = some y) (h : x.idx = y.idx) : i = j ∧ x = y := by
  have h1 := fol_idx hf hx
  have h2 := fol_idx hf hy
  have : i = j := by omega
  subst this
  rw [hx] at hy; injection hy with hy
  exact ⟨rfl, hy⟩
/-- How long the view is, cut. -/
theorem cutV_length (hb : 0 ≤ b.idx) (hf : folE prev es = 0) (hp : fitK b l sh prev.idx prev.trm = 0) (h : Stops b l sh prev es p m) :
    (0 < p.cut → prev.idx + (m : Int) + 1 = p.cut ∧ b.idx < p.cut ∧ p.cut ≤ lastI b l ∧ ((cutV b l p).length : Int) = p.cut - b.idx - 1) ∧ (¬ 0 < p.cut → cutV b l p = l) := by
  refine ⟨fun hc => ?_, fun hc => by unfold cutV; rw [if_neg hc]⟩
  rcases h.stop with ⟨-, h1, -, -⟩ | ⟨x, hx, hbx, ⟨-, h1, -, -⟩ | ⟨h2, h1, -, -⟩ | ⟨-, h1, -, -⟩⟩
  · omega
  · omega
  · have hxi := fol_idx hf hx
    have hr : x.idx ≤ lastI b l := by
      by_cases h3 : lastI b l < x.idx
      · rw [fitK_far (by omega) h3] at h2; omega
      · omega
    refine ⟨by omega, by omega, by omega, ?_⟩
    unfold cutV
    rw [if_pos hc, List.length_take]
    unfold lastI at hr
    omega
  · omega
/-- What is behind the plan where it has an entry. -/
theorem beh_in (hb : 0 ≤ b.idx) (hf : folE prev es = 0) (hp : fitK b l sh prev.idx prev.trm = 0) (h : Stops b l sh prev es p m) {q : Nat} {x : Ent} (hx : es[q]? = some x) (hbx : b.idx < x.idx) (hle : x.idx ≤ p.idx) :
    (behV b l p)[(x.idx - b.idx - 1).toNat]? = some (ofE x) := by
  have hxi := fol_idx hf hx
  obtain ⟨hc1, hc2⟩ := cutV_length hb hf hp h
  have hl0 := stops_last hb hf hp h
  unfold behV
  by_cases hq : q < m
  · have hin := stops_in hf h hq hx hbx
    have hlen : (x.idx - b.idx - 1).toNat < (cutV b l p).length := by
      by_cases hc : 0 < p.cut
      · have := hc1 hc; omega
      · rw [hc2 hc]; have := hl0 (q + 1) (by omega); unfold lastI at this; push_cast at this; omega
    rw [List.getElem?_append_left (by rw [setsV_length]; exact hlen)]
    refine setsV_near b _ x p.same _ hlen hin rfl (fun e he hpe => ?_)
    obtain ⟨i, hi, he2, hbe⟩ := stops_mem hf h he
    exact (fol_same hf he2 hx (by omega)).2
  · have hqlt : q < es.length := (List.getElem?_eq_some_iff.1 hx).1
    have hadd : p.add = es.drop m ∧ ((cutV b l p).length : Int) = prev.idx + (m : Int) - b.idx := by
      rcases h.stop with ⟨h1, -, -, -⟩ | ⟨y, hy, hby, ⟨h2, h1, h3, -⟩ | ⟨h2, h1, h3, -⟩ | ⟨-, -, -, h4⟩⟩
      · omega
      · have hyi := fol_idx hf hy
        refine ⟨h3, ?_⟩
        rw [hc2 (by omega)]
        have h5 := hl0 m (Nat.le_refl _)
        have h6 : lastI b l < y.idx := by
          by_cases h7 : lastI b l < y.idx
          · exact h7
          · exfalso
            cases ha : atV b l y.idx with
            | some z => rw [fitK_some (by omega) h7 ha] at h2; split at h2 <;> omega
            | none => rw [fitK_none (by omega) h7 ha] at h2; split at h2 <;> omega
        unfold lastI at h5 h6
        omega
      · have hyi := fol_idx hf hy
        refine ⟨h3, ?_⟩
        have := hc1 (by omega); omega
      · omega
    obtain ⟨ha1, ha2⟩ := hadd
    rw [List.getElem?_append_right (by rw [setsV_length]; omega), setsV_length, ha1, List.getElem?_map, List.getElem?_drop]
    have e : m + ((x.idx - b.idx - 1).toNat - (cutV b l p).length) = q := by omega
    rw [e, hx]; rfl
/-- What is behind the plan where it has none. -/
theorem beh_old (hb : 0 ≤ b.idx) (hf : folE prev es = 0) (hp : fitK b l sh prev.idx prev.trm = 0) (h : Stops b l sh prev es p m) {i : Int} (hbi : b.idx < i) (hi : i ≤ prev.idx ∨ p.idx < i) (hc : p.cut ≤ 0 ∨ i < p.cut) (hil : i ≤ lastI b l) :
    (behV b l p)[(i - b.idx - 1).toNat]? = l[(i - b.idx - 1).toNat]? := by
  obtain ⟨hc1, hc2⟩ := cutV_length hb hf hp h
  have hl0 := stops_last hb hf hp h
  have hlen : (i - b.idx - 1).toNat < (cutV b l p).length := by
    by_cases hc0 : 0 < p.cut
    · have := hc1 hc0; omega
    · rw [hc2 hc0]; unfold lastI at hil; omega
  unfold behV
  rw [List.getElem?_append_left (by rw [setsV_length]; exact hlen)]
  rw [setsV_far]
  · by_cases hc0 : 0 < p.cut
    · unfold cutV; rw [if_pos hc0, List.getElem?_take, if_pos (by have := hc1 hc0; omega)]
    · rw [hc2 hc0]
  · intro e he hpe
    obtain ⟨q, hq, he2, hbe⟩ := stops_mem hf h he
    have hei := fol_idx hf he2
    have hqi : e.idx ≤ p.idx := by
      rcases h.stop with ⟨h1, -, -, h4⟩ | ⟨y, hy, hby, ⟨-, -, -, h4⟩ | ⟨-, -, -, h4⟩ | ⟨-, -, -, h4⟩⟩
      · omega
      · have := h.le; omega
      · have := h.le; omega
      · omega
    omega
/-- Where it ends. -/
theorem beh_last (hb : 0 ≤ b.idx) (hf : folE prev es = 0) (hp : fitK b l sh prev.idx prev.trm = 0) (h : Stops b l sh prev es p m) :
    lastI b (behV b l p) = if 0 < p.cut then p.idx else max (lastI b l) p.idx := by
  obtain ⟨hc1, hc2⟩ := cutV_length hb hf hp h
  have hl0 := stops_last hb hf hp h
  have e : lastI b (behV b l p) = b.idx + ((cutV b l p).length : Int) + (p.add.length : Int) := by
    unfold lastI behV; rw [List.length_append, setsV_length, List.length_map]; push_cast; omega
  rw [e]
  have hlm := hl0 m (Nat.le_refl _)
  have hbl : b.idx ≤ lastI b l := by unfold lastI; omega
  rcases h.stop with ⟨h1, h2, h3, h4⟩ | ⟨y, hy, hby, ⟨h5, h2, h3, h4⟩ | ⟨h5, h2, h3, h4⟩ | ⟨h5, h2, h3, h4⟩⟩
  · rw [if_neg (by omega), hc2 (by omega), h3]; unfold lastI at hlm ⊢; simp; omega
  · have hyi := fol_idx hf hy
    have hlt : m < es.length := (List.getElem?_eq_some_iff.1 hy).1
    have h6 : lastI b l < y.idx := by
      by_cases h7 : lastI b l < y.idx
      · exact h7
      · exfalso
        cases ha : atV b l y.idx with
        | some z => rw [fitK_some (by omega) h7 ha] at h5; split at h5 <;> omega
        | none => rw [fitK_none (by omega) h7 ha] at h5; split at h5 <;> omega
    rw [if_neg (by omega), hc2 (by omega), h3, List.length_drop]; unfold lastI at hlm h6 ⊢; omega
  · have hyi := fol_idx hf hy
    have hlt : m < es.length := (List.getElem?_eq_some_iff.1 hy).1
    have := hc1 (by omega)
    rw [if_pos (by omega), h3, List.length_drop]; omega
  · rw [if_neg (by omega), hc2 (by omega), h3]; unfold lastI at hlm ⊢; simp; omega
end
end Go.Proofs.YtfglkpcboodllaaGreatDoor
/-
  THE SAME APPEND AGAIN: plain Lean, no program.
-/
set_option linter.unusedVariables false
namespace Go.Proofs.YtfglkpcboodllaaGreatDoor
open Go.RowKit

theorem atV_eq {b : Idt} {l l' : List Idt} {i : Int} (hb : b.idx < i) (h : l'[(i - b.idx - 1).toNat]? = l[(i - b.idx - 1).toNat]?) : atV b l' i = atV b l i := by
  unfold atV
  have h1 : ¬ i = b.idx := by omega
  simp only [if_neg h1, if_pos hb, h]
theorem showsE_iff {b : Idt} {l : List Idt} {e : Ent} : showsE b l e = true ↔ b.idx < e.idx ∧ ∃ p, atV b l e.idx = some p ∧ p.trm = e.trm := by
  unfold showsE
  cases h : atV b l e.idx with
  | none => simp
  | some p => simp [and_comm]
theorem shown_to {b prev : Idt} {l : List Idt} {es : List Ent} (hf : folE prev es = 0) : ∀ k, k ≤ es.length →
    (∀ i x, i < k → es[i]? = some x → showsE b l x = true → x.idx ≤ shownV b l 0 (es.take k)) ∧ (shownV b l 0 (es.take k) = 0 ∨ ∃ i x, i < k ∧ es[i]? = some x ∧ showsE b l x = true ∧ x.idx = shownV b l 0 (es.take k)) := by
  intro k
  induction k with
  | zero => intro _; exact ⟨fun i x h => absurd h (by omega), .inl (by simp [shownV])⟩
  | succ k ih =>
    intro hk
    obtain ⟨h1, h2⟩ := ih (by omega)
    obtain ⟨y, hy⟩ : ∃ y, es[k]? = some y := ⟨_, List.getElem?_eq_getElem (by omega)⟩
    have hyi := fol_idx hf hy
    rw [shownV_take hy]
    by_cases hs : showsE b l y = true
    · rw [if_pos hs]
      refine ⟨fun i x hi hx hsx => ?_, .inr ⟨k, y, by omega, hy, hs, rfl⟩⟩
      have := fol_idx hf hx
      omega
    · rw [if_neg hs]
      refine ⟨fun i x hi hx hsx => ?_, ?_⟩
      · by_cases hik : i = k
        · subst hik; rw [hy] at hx; injection hx with hx; subst hx; exact absurd hsx hs
        · exact h1 i x (by omega) hx hsx
      · rcases h2 with h2 | ⟨i, x, hi, hx, hsx, he⟩
        · exact .inl h2
        · exact .inr ⟨i, x, by omega, hx, hsx, he⟩
section
variable {b prev : Idt} {l : List Idt} {es : List Ent}
theorem shown_max (hf : folE prev es = 0) {i : Nat} {x : Ent} (hx : es[i]? = some x) (hs : showsE b l x = true) : x.idx ≤ shownV b l 0 es := by
  have h := (shown_to (b := b) (l := l) hf es.length (Nat.le_refl _)).1 i x (List.getElem?_eq_some_iff.1 hx).1 hx hs
  rwa [List.take_length] at h
theorem shown_one (hf : folE prev es = 0) : shownV b l 0 es = 0 ∨ ∃ (i : Nat) (x : Ent), es[i]? = some x ∧ showsE b l x = true ∧ x.idx = shownV b l 0 es := by
  have h := (shown_to (b := b) (l := l) hf es.length (Nat.le_refl _)).2
  rw [List.take_length] at h
  rcases h with h | ⟨i, x, -, h⟩
  · exact .inl h
  · exact .inr ⟨i, x, h⟩
/-- What the document's 'shown' says. -/
theorem shown_above (hb : 0 ≤ b.idx) (hf : folE prev es = 0) {a : Int} (ha : b.idx < a) : a < shownV b l 0 es ↔ ∃ (i : Nat) (x : Ent), es[i]? = some x ∧ a < x.idx ∧ showsE b l x = true := by
  constructor
  · intro h
    rcases shown_one (b := b) (l := l) hf with h0 | ⟨i, x, hx, hs, he⟩
    · omega
    · exact ⟨i, x, hx, by omega, hs⟩
  · rintro ⟨i, x, hx, hlt, hs⟩
    have := shown_max hf hx hs; omega

variable {p : Pln} {m : Nat}
theorem beh_at (hb : 0 ≤ b.idx) (hf : folE prev es = 0) {sh : Int} (hp : fitK b l sh prev.idx prev.trm = 0) (h : Stops b l sh prev es p m) {q : Nat} {x : Ent} (hx : es[q]? = some x) (hbx : b.idx < x.idx) (hle : x.idx ≤ p.idx) :
    atV b (behV b l p) x.idx = some (ofE x) := by
  rw [atV_in (j := (x.idx - b.idx - 1).toNat) (by omega) (beh_in hb hf hp h hx hbx hle), if_neg (show ¬ (ofE x).knd = 0 from fol_knd hf hx)]
theorem beh_at_old (hb : 0 ≤ b.idx) (hf : folE prev es = 0) {sh : Int} (hp : fitK b l sh prev.idx prev.trm = 0) (h : Stops b l sh prev es p m) {i : Int} (hbi : b.idx < i) (hi : i ≤ prev.idx ∨ p.idx < i) (hc : p.cut ≤ 0 ∨ i < p.cut) (hil : i ≤ lastI b l) :
    atV b (behV b l p) i = atV b l i := atV_eq hbi (beh_old hb hf hp h hbi hi hc hil)

/-- What stands open stays open. -/
theorem again_open (hb : 0 ≤ b.idx) (hf : folE prev es = 0) (hp : fitK b l (shownV b l 0 es) prev.idx prev.trm = 0) (h : Stops b l (shownV b l 0 es) prev es p m) {y : Ent} (hy : es[m]? = some y) (hby : b.idx < y.idx)
    (h5 : fitK b l (shownV b l 0 es) y.idx y.trm = 3) (h2 : p.cut = 0) (h4 : p.idx = max (prev.idx + (m : Int)) b.idx) : fitK b (behV b l p) (shownV b (behV b l p) 0 es) y.idx y.trm = 3 := by
  have hyi := fol_idx hf hy
  have hl := beh_last hb hf hp h
  rw [if_neg (by omega)] at hl
  have hyl : y.idx ≤ lastI b l := by
    by_cases h7 : lastI b l < y.idx
    · rw [fitK_far (by omega) h7] at h5; omega
    · omega
  have hnone : atV b l y.idx = none ∧ ¬ y.idx < shownV b l 0 es := by
    cases ha : atV b l y.idx with
    | some z => rw [fitK_some (by omega) (by omega) ha] at h5; split at h5 <;> omega
    | none => rw [fitK_none (by omega) (by omega) ha] at h5; exact ⟨rfl, by split at h5 <;> omega⟩
  have hat : atV b (behV b l p) y.idx = none := (beh_at_old hb hf hp h hby (.inr (by omega)) (.inl (by omega)) hyl).trans hnone.1
  rw [fitK_none (by omega) (by omega) hat, if_neg]
  intro hlt
  obtain ⟨i, z, hz, hzi, hs⟩ := (shown_above hb hf hby).1 hlt
  obtain ⟨hbz, q, hq, hqt⟩ := showsE_iff.1 hs
  have hr := (atV_range hq).2
  have e : b.idx + ((behV b l p).length : Int) = lastI b (behV b l p) := rfl
  rw [e, hl] at hr
  have hold := beh_at_old hb hf hp h hbz (.inr (by omega)) (.inl (by omega)) (i := z.idx) (by omega)
  have hs2 : showsE b l z = true := showsE_iff.2 ⟨hbz, q, hold.symm.trans hq, hqt⟩
  have := shown_max hf hz hs2
  omega
theorem again_prev (hb : 0 ≤ b.idx) (hf : folE prev es = 0) (hp : fitK b l (shownV b l 0 es) prev.idx prev.trm = 0) (h : Stops b l (shownV b l 0 es) prev es p m) : fitK b (behV b l p) (shownV b (behV b l p) 0 es) prev.idx prev.trm = 0 := by
  by_cases hbp : prev.idx ≤ b.idx
  · exact fitK_low hbp
  have hl := beh_last hb hf hp h
  obtain ⟨hc1, hc2⟩ := cutV_length hb hf hp h
  have hpl : prev.idx ≤ lastI b l := by
    by_cases h7 : lastI b l < prev.idx
    · rw [fitK_far hbp h7] at hp; omega
    · omega
  have hcut : p.cut ≤ 0 ∨ prev.idx < p.cut := by
    by_cases hc : 0 < p.cut
    · have := hc1 hc; exact .inr (by omega)
    · exact .inl (by omega)
  have hpi : prev.idx ≤ p.idx := by
    rcases h.stop with ⟨h1, -, -, h4⟩ | ⟨y, hy, hby, ⟨-, -, -, h4⟩ | ⟨-, -, -, h4⟩ | ⟨-, -, -, h4⟩⟩ <;> omega
  have hat := beh_at_old hb hf hp h (i := prev.idx) (by omega) (.inl (Int.le_refl _)) hcut hpl
  have hwl : prev.idx ≤ lastI b (behV b l p) := by rw [hl]; split <;> omega
  cases ha : atV b l prev.idx with
  | some z =>
    rw [fitK_some hbp (by omega) ha] at hp
    rw [fitK_some hbp (by omega) (hat.trans ha)]
    exact hp
  | none =>
    have hp' := hp
    rw [fitK_none hbp (by omega) ha] at hp'
    rw [fitK_none hbp (by omega) (hat.trans ha), if_pos]
    have hlt : prev.idx < shownV b l 0 es := by
      by_cases h8 : prev.idx < shownV b l 0 es
      · exact h8
      · rw [if_neg h8] at hp'; omega
    rcases shown_one (b := b) (l := l) hf with h0 | ⟨j, z, hz, hs, he⟩
    · omega
    · have hzi := fol_idx hf hz
      have hjl : j < es.length := (List.getElem?_eq_some_iff.1 hz).1
      have hbz := (showsE_iff.1 hs).1
      have hzp : z.idx ≤ p.idx := by
        rcases h.stop with ⟨h1, -, -, h4⟩ | ⟨y, hy, hby, ⟨-, -, -, h4⟩ | ⟨-, -, -, h4⟩ | ⟨h5, -, -, h4⟩⟩
        · omega
        · omega
        · omega
        · have hyi := fol_idx hf hy
          have hyl : ¬ lastI b l < y.idx := by
            intro h7; rw [fitK_far (by omega) h7] at h5; omega
          cases hay : atV b l y.idx with
          | some q => rw [fitK_some (by omega) hyl hay] at h5; split at h5 <;> omega
          | none =>
            rw [fitK_none (by omega) hyl hay] at h5
            have hge : ¬ y.idx < shownV b l 0 es := by split at h5 <;> omega
            have hne : z.idx ≠ y.idx := by
              intro h9
              obtain ⟨-, q, hq, -⟩ := showsE_iff.1 hs
              rw [h9, hay] at hq; simp at hq
            omega
      have hs2 : showsE b (behV b l p) z = true := showsE_iff.2 ⟨hbz, _, beh_at hb hf hp h hz hbz hzp, rfl⟩
      have := shown_max hf hz hs2
      omega
theorem again_plan (hb : 0 ≤ b.idx) (hf : folE prev es = 0) (hp : fitK b l (shownV b l 0 es) prev.idx prev.trm = 0) (h : Stops b l (shownV b l 0 es) prev es p m) :
    ∃ p', planV b (behV b l p) (shownV b (behV b l p) 0 es) es (max prev.idx b.idx) [] = p' ∧ p'.idx = p.idx ∧ p'.cut = 0 ∧ p'.add = [] := by
  refine ⟨_, rfl, ?_⟩
  obtain ⟨m', h'⟩ := planV_stops (b := b) (l := behV b l p) (sh := shownV b (behV b l p) 0 es) hf _ 0 rfl (Nat.zero_le _) (fun i x hi => absurd hi (by omega)) (max prev.idx b.idx) [] (by simp) (by simp)
  rw [List.drop_zero] at h'
  have hl := beh_last hb hf hp h
  have hle := h'.le
  -- what stands in the view behind the plan fits
  have hfit : ∀ (q : Nat) (x : Ent), es[q]? = some x → b.idx < x.idx → x.idx ≤ p.idx → fitK b (behV b l p) (shownV b (behV b l p) 0 es) x.idx x.trm = 0 := by
    intro q x hx hbx hxp
    have ha := beh_at hb hf hp h hx hbx hxp
    have hr := (atV_range ha).2
    rw [fitK_some (by omega) (by unfold lastI; omega) ha, if_pos (show (ofE x).trm = x.trm from rfl)]
  rcases h'.stop with ⟨h1, h2, h3, h4⟩ | ⟨x, hx, hbx, hcase⟩
  · refine ⟨?_, h2, h3⟩
    rw [h4]
    rcases h.stop with ⟨g1, -, -, g4⟩ | ⟨y, hy, hby, ⟨-, -, -, g4⟩ | ⟨-, -, -, g4⟩ | ⟨g5, g2, -, g4⟩⟩
    · omega
    · have hyi := fol_idx hf hy
      have hlt : m < es.length := (List.getElem?_eq_some_iff.1 hy).1
      omega
    · have hyi := fol_idx hf hy
      have hlt : m < es.length := (List.getElem?_eq_some_iff.1 hy).1
      omega
    · have hlt : m < es.length := (List.getElem?_eq_some_iff.1 hy).1
      have e1 := again_open hb hf hp h hy hby g5 g2 g4
      have e2 := h'.fit m y (by omega) hy hby
      omega
  · have hxi := fol_idx hf hx
    have hltx : m' < es.length := (List.getElem?_eq_some_iff.1 hx).1
    have hne : fitK b (behV b l p) (shownV b (behV b l p) 0 es) x.idx x.trm ≠ 0 := by
      rcases hcase with ⟨h, -⟩ | ⟨h, -⟩ | ⟨h, -⟩ <;> omega
    have hgt : p.idx < x.idx := by
      by_cases h9 : p.idx < x.idx
      · exact h9
      · exact absurd (hfit m' x hx hbx (by omega)) hne
    rcases h.stop with ⟨g1, -, -, g4⟩ | ⟨y, hy, hby, ⟨-, -, -, g4⟩ | ⟨-, -, -, g4⟩ | ⟨g5, g2, -, g4⟩⟩
    · omega
    · omega
    · omega
    · have hyi := fol_idx hf hy
      have e1 := again_open hb hf hp h hy hby g5 g2 g4
      have hmm : m' = m := by
        rcases Nat.lt_trichotomy m' m with h9 | h9 | h9
        · omega
        · exact h9
        · have e2 := h'.fit m y h9 hy hby
          omega
      subst hmm
      rw [hx] at hy; injection hy with hy; subst hy
      rcases hcase with ⟨h9, -⟩ | ⟨h9, -⟩ | ⟨-, k2, k3, k4⟩
      · omega
      · omega
      · exact ⟨by rw [k4, g4], k2, k3⟩
end
end Go.Proofs.YtfglkpcboodllaaGreatDoor
