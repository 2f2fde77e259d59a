/-
  THE SAME APPEND AGAIN: plain Lean, no program.
-/
import Derived.Test.YthadfdpdillemaaDoorMo20
set_option linter.unusedVariables false
namespace Go.Proofs.YthadfdpdillemaaDoor
open Go.RowKit

theorem atV_eq {b : Idt} {l l' : List Idt} {i : Int} (hb : b.idx < i) (h : l'[(i - b.idx - 1).toNat]? = l[(i - b.idx - 1).toNat]?) : atV b l' i = atV b l i := by
  unfold atV
  have h1 : ¬ i = b.idx := by omega
  simp only [if_neg h1, if_pos hb, h]
theorem showsE_iff {b : Idt} {l : List Idt} {e : Ent} : showsE b l e = true ↔ b.idx < e.idx ∧ ∃ p, atV b l e.idx = some p ∧ p.trm = e.trm := by
  unfold showsE
  cases h : atV b l e.idx with
  | none => simp
  | some p => simp [and_comm]
theorem shown_to {b prev : Idt} {l : List Idt} {es : List Ent} (hf : folE prev es = 0) : ∀ k, k ≤ es.length →
    (∀ i x, i < k → es[i]? = some x → showsE b l x = true → x.idx ≤ shownV b l 0 (es.take k)) ∧ (shownV b l 0 (es.take k) = 0 ∨ ∃ i x, i < k ∧ es[i]? = some x ∧ showsE b l x = true ∧ x.idx = shownV b l 0 (es.take k)) := by
  intro k
  induction k with
  | zero => intro _; exact ⟨fun i x h => absurd h (by omega), .inl (by simp [shownV])⟩
  | succ k ih =>
    intro hk
    obtain ⟨h1, h2⟩ := ih (by omega)
    obtain ⟨y, hy⟩ : ∃ y, es[k]? = some y := ⟨_, List.getElem?_eq_getElem (by omega)⟩
    have hyi := fol_idx hf hy
    rw [shownV_take hy]
    by_cases hs : showsE b l y = true
    · rw [if_pos hs]
      refine ⟨fun i x hi hx hsx => ?_, .inr ⟨k, y, by omega, hy, hs, rfl⟩⟩
      have := fol_idx hf hx
      omega
    · rw [if_neg hs]
      refine ⟨fun i x hi hx hsx => ?_, ?_⟩
      · by_cases hik : i = k
        · subst hik; rw [hy] at hx; injection hx with hx; subst hx; exact absurd hsx hs
        · exact h1 i x (by omega) hx hsx
      · rcases h2 with h2 | ⟨i, x, hi, hx, hsx, he⟩
        · exact .inl h2
        · exact .inr ⟨i, x, by omega, hx, hsx, he⟩
section
variable {b prev : Idt} {l : List Idt} {es : List Ent}
theorem shown_max (hf : folE prev es = 0) {i : Nat} {x : Ent} (hx : es[i]? = some x) (hs : showsE b l x = true) : x.idx ≤ shownV b l 0 es := by
  have h := (shown_to (b := b) (l := l) hf es.length (Nat.le_refl _)).1 i x (List.getElem?_eq_some_iff.1 hx).1 hx hs
  rwa [List.take_length] at h
theorem shown_one (hf : folE prev es = 0) : shownV b l 0 es = 0 ∨ ∃ (i : Nat) (x : Ent), es[i]? = some x ∧ showsE b l x = true ∧ x.idx = shownV b l 0 es := by
  have h := (shown_to (b := b) (l := l) hf es.length (Nat.le_refl _)).2
  rw [List.take_length] at h
  rcases h with h | ⟨i, x, -, h⟩
  · exact .inl h
  · exact .inr ⟨i, x, h⟩
/-- What the document's 'shown' says. -/
theorem shown_above (hb : 0 ≤ b.idx) (hf : folE prev es = 0) {a : Int} (ha : b.idx < a) : a < shownV b l 0 es ↔ ∃ (i : Nat) (x : Ent), es[i]? = some x ∧ a < x.idx ∧ showsE b l x = true := by
  constructor
  · intro h
    rcases shown_one (b := b) (l := l) hf with h0 | ⟨i, x, hx, hs, he⟩
    · omega
    · exact ⟨i, x, hx, by omega, hs⟩
  · rintro ⟨i, x, hx, hlt, hs⟩
    have := shown_max hf hx hs; omega

variable {p : Pln} {m : Nat}
theorem beh_at (hb : 0 ≤ b.idx) (hf : folE prev es = 0) {sh : Int} (hp : fitK b l sh prev.idx prev.trm = 0) (h : Stops b l sh prev es p m) {q : Nat} {x : Ent} (hx : es[q]? = some x) (hbx : b.idx < x.idx) (hle : x.idx ≤ p.idx) :
    atV b (behV b l p) x.idx = some (ofE x) := by
  rw [atV_in (j := (x.idx - b.idx - 1).toNat) (by omega) (beh_in hb hf hp h hx hbx hle), if_neg (show ¬ (ofE x).knd = 0 from fol_knd hf hx)]
theorem beh_at_old (hb : 0 ≤ b.idx) (hf : folE prev es = 0) {sh : Int} (hp : fitK b l sh prev.idx prev.trm = 0) (h : Stops b l sh prev es p m) {i : Int} (hbi : b.idx < i) (hi : i ≤ prev.idx ∨ p.idx < i) (hc : p.cut ≤ 0 ∨ i < p.cut) (hil : i ≤ lastI b l) :
    atV b (behV b l p) i = atV b l i := atV_eq hbi (beh_old hb hf hp h hbi hi hc hil)

/-- What stands open stays open. -/
theorem again_open (hb : 0 ≤ b.idx) (hf : folE prev es = 0) (hp : fitK b l (shownV b l 0 es) prev.idx prev.trm = 0) (h : Stops b l (shownV b l 0 es) prev es p m) {y : Ent} (hy : es[m]? = some y) (hby : b.idx < y.idx)
    (h5 : fitK b l (shownV b l 0 es) y.idx y.trm = 3) (h2 : p.cut = 0) (h4 : p.idx = max (prev.idx + (m : Int)) b.idx) : fitK b (behV b l p) (shownV b (behV b l p) 0 es) y.idx y.trm = 3 := by
  have hyi := fol_idx hf hy
  have hl := beh_last hb hf hp h
  rw [if_neg (by omega)] at hl
  have hyl : y.idx ≤ lastI b l := by
    by_cases h7 : lastI b l < y.idx
    · rw [fitK_far (by omega) h7] at h5; omega
    · omega
  have hnone : atV b l y.idx = none ∧ ¬ y.idx < shownV b l 0 es := by
    cases ha : atV b l y.idx with
    | some z => rw [fitK_some (by omega) (by omega) ha] at h5; split at h5 <;> omega
    | none => rw [fitK_none (by omega) (by omega) ha] at h5; exact ⟨rfl, by split at h5 <;> omega⟩
  have hat : atV b (behV b l p) y.idx = none := (beh_at_old hb hf hp h hby (.inr (by omega)) (.inl (by omega)) hyl).trans hnone.1
  rw [fitK_none (by omega) (by omega) hat, if_neg]
  intro hlt
  obtain ⟨i, z, hz, hzi, hs⟩ := (shown_above hb hf hby).1 hlt
  obtain ⟨hbz, q, hq, hqt⟩ := showsE_iff.1 hs
  have hr := (atV_range hq).2
  have e : b.idx + ((behV b l p).length : Int) = lastI b (behV b l p) := rfl
  rw [e, hl] at hr
  have hold := beh_at_old hb hf hp h hbz (.inr (by omega)) (.inl (by omega)) (i := z.idx) (by omega)
  have hs2 : showsE b l z = true := showsE_iff.2 ⟨hbz, q, hold.symm.trans hq, hqt⟩
  have := shown_max hf hz hs2
  omega
theorem again_prev (hb : 0 ≤ b.idx) (hf : folE prev es = 0) (hp : fitK b l (shownV b l 0 es) prev.idx prev.trm = 0) (h : Stops b l (shownV b l 0 es) prev es p m) : fitK b (behV b l p) (shownV b (behV b l p) 0 es) prev.idx prev.trm = 0 := by
  by_cases hbp : prev.idx ≤ b.idx
  · exact fitK_low hbp
  have hl := beh_last hb hf hp h
  obtain ⟨hc1, hc2⟩ := cutV_length hb hf hp h
  have hpl : prev.idx ≤ lastI b l := by
    by_cases h7 : lastI b l < prev.idx
    · rw [fitK_far hbp h7] at hp; omega
    · omega
  have hcut : p.cut ≤ 0 ∨ prev.idx < p.cut := by
    by_cases hc : 0 < p.cut
    · have := hc1 hc; exact .inr (by omega)
    · exact .inl (by omega)
  have hpi : prev.idx ≤ p.idx := by
    rcases h.stop with ⟨h1, -, -, h4⟩ | ⟨y, hy, hby, ⟨-, -, -, h4⟩ | ⟨-, -, -, h4⟩ | ⟨-, -, -, h4⟩⟩ <;> omega
  have hat := beh_at_old hb hf hp h (i := prev.idx) (by omega) (.inl (Int.le_refl _)) hcut hpl
  have hwl : prev.idx ≤ lastI b (behV b l p) := by rw [hl]; split <;> omega
  cases ha : atV b l prev.idx with
  | some z =>
    rw [fitK_some hbp (by omega) ha] at hp
    rw [fitK_some hbp (by omega) (hat.trans ha)]
    exact hp
  | none =>
    have hp' := hp
    rw [fitK_none hbp (by omega) ha] at hp'
    rw [fitK_none hbp (by omega) (hat.trans ha), if_pos]
    have hlt : prev.idx < shownV b l 0 es := by
      by_cases h8 : prev.idx < shownV b l 0 es
      · exact h8
      · rw [if_neg h8] at hp'; omega
    rcases shown_one (b := b) (l := l) hf with h0 | ⟨j, z, hz, hs, he⟩
    · omega
    · have hzi := fol_idx hf hz
      have hjl : j < es.length := (List.getElem?_eq_some_iff.1 hz).1
      have hbz := (showsE_iff.1 hs).1
      have hzp : z.idx ≤ p.idx := by
        rcases h.stop with ⟨h1, -, -, h4⟩ | ⟨y, hy, hby, ⟨-, -, -, h4⟩ | ⟨-, -, -, h4⟩ | ⟨h5, -, -, h4⟩⟩
        · omega
        · omega
        · omega
        · have hyi := fol_idx hf hy
          have hyl : ¬ lastI b l < y.idx := by
            intro h7; rw [fitK_far (by omega) h7] at h5; omega
          cases hay : atV b l y.idx with
          | some q => rw [fitK_some (by omega) hyl hay] at h5; split at h5 <;> omega
          | none =>
            rw [fitK_none (by omega) hyl hay] at h5
            have hge : ¬ y.idx < shownV b l 0 es := by split at h5 <;> omega
            have hne : z.idx ≠ y.idx := by
              intro h9
              obtain ⟨-, q, hq, -⟩ := showsE_iff.1 hs
              rw [h9, hay] at hq; simp at hq
            omega
      have hs2 : showsE b (behV b l p) z = true := showsE_iff.2 ⟨hbz, _, beh_at hb hf hp h hz hbz hzp, rfl⟩
      have := shown_max hf hz hs2
      omega
theorem again_plan (hb : 0 ≤ b.idx) (hf : folE prev es = 0) (hp : fitK b l (shownV b l 0 es) prev.idx prev.trm = 0) (h : Stops b l (shownV b l 0 es) prev es p m) :
    ∃ p', planV b (behV b l p) (shownV b (behV b l p) 0 es) es (max prev.idx b.idx) [] = p' ∧ p'.idx = p.idx ∧ p'.cut = 0 ∧ p'.add = [] := by
  refine ⟨_, rfl, ?_⟩
  obtain ⟨m', h'⟩ := planV_stops (b := b) (l := behV b l p) (sh := shownV b (behV b l p) 0 es) hf _ 0 rfl (Nat.zero_le _) (fun i x hi => absurd hi (by omega)) (max prev.idx b.idx) [] (by simp) (by simp)
  rw [List.drop_zero] at h'
  have hl := beh_last hb hf hp h
  have hle := h'.le
  -- what stands in the view behind the plan fits
  have hfit : ∀ (q : Nat) (x : Ent), es[q]? = some x → b.idx < x.idx → x.idx ≤ p.idx → fitK b (behV b l p) (shownV b (behV b l p) 0 es) x.idx x.trm = 0 := by
    intro q x hx hbx hxp
    have ha := beh_at hb hf hp h hx hbx hxp
    have hr := (atV_range ha).2
    rw [fitK_some (by omega) (by unfold lastI; omega) ha, if_pos (show (ofE x).trm = x.trm from rfl)]
  rcases h'.stop with ⟨h1, h2, h3, h4⟩ | ⟨x, hx, hbx, hcase⟩
  · refine ⟨?_, h2, h3⟩
    rw [h4]
    rcases h.stop with ⟨g1, -, -, g4⟩ | ⟨y, hy, hby, ⟨-, -, -, g4⟩ | ⟨-, -, -, g4⟩ | ⟨g5, g2, -, g4⟩⟩
    · omega
    · have hyi := fol_idx hf hy
      have hlt : m < es.length := (List.getElem?_eq_some_iff.1 hy).1
      omega
    · have hyi := fol_idx hf hy
      have hlt : m < es.length := (List.getElem?_eq_some_iff.1 hy).1
      omega
    · have hlt : m < es.length := (List.getElem?_eq_some_iff.1 hy).1
      have e1 := again_open hb hf hp h hy hby g5 g2 g4
      have e2 := h'.fit m y (by omega) hy hby
      omega
  · have hxi := fol_idx hf hx
    have hltx : m' < es.length := (List.getElem?_eq_some_iff.1 hx).1
    have hne : fitK b (behV b l p) (shownV b (behV b l p) 0 es) x.idx x.trm ≠ 0 := by
      rcases hcase with ⟨h, -⟩ | ⟨h, -⟩ | ⟨h, -⟩ <;> omega
    have hgt : p.idx < x.idx := by
      by_cases h9 : p.idx < x.idx
      · exact h9
      · exact absurd (hfit m' x hx hbx (by omega)) hne
    rcases h.stop with ⟨g1, -, -, g4⟩ | ⟨y, hy, hby, ⟨-, -, -, g4⟩ | ⟨-, -, -, g4⟩ | ⟨g5, g2, -, g4⟩⟩
    · omega
    · omega
    · omega
    · have hyi := fol_idx hf hy
      have e1 := again_open hb hf hp h hy hby g5 g2 g4
      have hmm : m' = m := by
        rcases Nat.lt_trichotomy m' m with h9 | h9 | h9
        · omega
        · exact h9
        · have e2 := h'.fit m y h9 hy hby
          omega
      subst hmm
      rw [hx] at hy; injection hy with hy; subst hy
      rcases hcase with ⟨h9, -⟩ | ⟨h9, -⟩ | ⟨-, k2, k3, k4⟩
      · omega
      · omega
      · exact ⟨by rw [k4, g4], k2, k3⟩
end
end Go.Proofs.YthadfdpdillemaaDoor
