/-
  WHAT A MAJORITY HAS: the element in the middle of a sorted row. Plain Lean, no program.
-/
import Derived.Test.YtclphcbjdcdkfaaDoorLeadMath
set_option linter.unusedVariables false
namespace Go.Proofs.YtclphcbjdcdkfaaDoor
open Go.RowKit

/-- How many are not below a number. -/
def cntG (l : List Int) (x : Int) : Nat := l.countP (fun y => decide (x ≤ y))
/-- Have more than half a number? -/
def majG (l : List Int) (x : Int) : Bool := decide (l.length - cntG l x < cntG l x)
/-- The middle of a row. -/
def midI (s : List Int) : Int := (s[(s.length - 1) / 2]?).getD 0
def Rising (s : List Int) : Prop := s.Pairwise (· ≤ ·)
theorem cntG_le (l : List Int) (x : Int) : cntG l x ≤ l.length := List.countP_le_length
theorem cntG_perm {l s : List Int} (h : s.Perm l) (x : Int) : cntG s x = cntG l x := h.countP_eq _
theorem majG_perm {l s : List Int} (h : s.Perm l) (x : Int) : majG s x = majG l x := by unfold majG; rw [cntG_perm h, h.length_eq]
theorem majG_iff {l : List Int} {x : Int} : majG l x = true ↔ l.length < 2 * cntG l x := by
  have := cntG_le l x
  unfold majG; rw [decide_eq_true_iff]; omega
theorem rising_at {s : List Int} (h : Rising s) {i j : Nat} {x y : Int} (hij : i ≤ j) (hx : s[i]? = some x) (hy : s[j]? = some y) : x ≤ y := by
  obtain ⟨hi, rfl⟩ := List.getElem?_eq_some_iff.1 hx
  obtain ⟨hj, rfl⟩ := List.getElem?_eq_some_iff.1 hy
  rcases Nat.lt_or_ge i j with h1 | h1
  · exact List.pairwise_iff_getElem.1 h i j hi hj h1
  · have : i = j := by omega
    subst this; exact Int.le_refl _
/-- From place i on all are at least what stands there. -/
theorem cntG_from {s : List Int} (h : Rising s) {i : Nat} {x : Int} (hx : s[i]? = some x) : s.length - i ≤ cntG s x := by
  unfold cntG
  rw [← List.take_append_drop i s, List.countP_append]
  have : (s.drop i).countP (fun y => decide (x ≤ y)) = (s.drop i).length := by
    rw [List.countP_eq_length]
    intro y hy
    obtain ⟨j, hj⟩ := List.getElem?_of_mem hy
    rw [List.getElem?_drop] at hj
    simpa using rising_at h (by omega) hx hj
  rw [this, List.take_append_drop, List.length_drop]; omega
/-- What is above it, only what stands behind has. -/
theorem cntG_above {s : List Int} (h : Rising s) {i : Nat} {x y : Int} (hx : s[i]? = some x) (hxy : x < y) : cntG s y ≤ s.length - i - 1 := by
  unfold cntG
  rw [← List.take_append_drop (i + 1) s, List.countP_append]
  have h0 : (s.take (i + 1)).countP (fun z => decide (y ≤ z)) = 0 := by
    rw [List.countP_eq_zero]
    intro z hz
    obtain ⟨j, hj⟩ := List.getElem?_of_mem hz
    rw [List.getElem?_take] at hj
    by_cases hji : j < i + 1
    · rw [if_pos hji] at hj
      have := rising_at h (by omega) hj hx
      simp; omega
    · rw [if_neg hji] at hj; simp at hj
  have h1 := List.countP_le_length (p := fun z => decide (y ≤ z)) (l := s.drop (i + 1))
  rw [List.length_drop] at h1
  rw [h0, List.take_append_drop]; omega
theorem mid_at {s : List Int} (h : s ≠ []) : s[(s.length - 1) / 2]? = some (midI s) := by
  have hl : 0 < s.length := List.length_pos_iff.2 h
  have hlt : (s.length - 1) / 2 < s.length := by omega
  unfold midI; rw [List.getElem?_eq_getElem hlt]; rfl
/-- The middle is one of them; more than half have it; what is above it, not. -/
theorem mid_is {s l : List Int} (hr : Rising s) (hp : s.Perm l) (hl : l ≠ []) : midI s ∈ l ∧ majG l (midI s) = true ∧ ∀ y, midI s < y → majG l y = false := by
  have hs : s ≠ [] := fun h => hl (by rw [h] at hp; exact hp.symm.eq_nil)
  have hm := mid_at hs
  have hlen : 0 < s.length := List.length_pos_iff.2 hs
  refine ⟨hp.mem_iff.1 (List.mem_of_getElem? hm), ?_, fun y hy => ?_⟩
  · rw [← majG_perm hp, majG_iff]
    have := cntG_from hr hm; omega
  · rw [← majG_perm hp]
    have h1 := cntG_above hr hm hy
    cases hc : majG s y with
    | false => rfl
    | true => have := majG_iff.1 hc; omega
/-- The document's loop. -/
def bestG (l : List Int) : List Int → Option Int → Option Int
  | [], b => b
  | x :: r, b => bestG l r (if majG l x = true ∧ (∀ y, b = some y → y < x) then some x else b)
theorem bestG_of {l : List Int} {m : Int} (hm : majG l m = true) (hmax : ∀ y, m < y → majG l y = false) : ∀ (r : List Int) (b : Option Int), (∀ y, b = some y → y ≤ m) → (m ∈ r ∨ b = some m) → bestG l r b = some m := by
  intro r
  induction r with
  | nil => intro b _ h; exact h.resolve_left (by simp)
  | cons x r ih =>
    intro b hb h
    show bestG l r _ = some m
    have hxm : majG l x = true → x ≤ m := fun hx => by
      by_cases h1 : m < x
      · rw [hmax x h1] at hx; simp at hx
      · omega
    apply ih
    · intro y hy
      split at hy
      · rename_i h1; injection hy with hy; subst hy; exact hxm h1.1
      · exact hb y hy
    · by_cases hx : x = m
      · right
        subst hx
        by_cases hbm : b = some x
        · rw [if_neg]
          · exact hbm
          · rintro ⟨-, h2⟩; have := h2 x hbm; omega
        · rw [if_pos]
          refine ⟨hm, fun y hy => ?_⟩
          have h1 := hb y hy
          have h2 : y ≠ x := fun he => hbm (by rw [hy, he])
          omega
      · rcases h with h | h
        · rcases List.mem_cons.1 h with h | h
          · exact absurd h.symm hx
          · exact .inl h
        · right
          rw [if_neg]
          · exact h
          · rintro ⟨h1, h2⟩
            have h3 := h2 m h
            have h4 := hxm h1
            omega
/-- One that rises leaves none behind. -/
theorem cntG_set : ∀ (l : List Int) (i : Nat) (x v z : Int), l[i]? = some x → x ≤ v → cntG l z ≤ cntG (l.set i v) z := by
  intro l
  induction l with
  | nil => intro i x v z h; simp at h
  | cons y l ih =>
    intro i x v z hx hv
    cases i with
    | zero =>
      simp only [List.getElem?_cons_zero, Option.some.injEq] at hx
      subst hx
      unfold cntG
      simp only [List.set_cons_zero, List.countP_cons, decide_eq_true_eq]
      by_cases h1 : z ≤ y
      · rw [if_pos h1, if_pos (by omega)]; exact Nat.le_refl _
      · rw [if_neg h1]; omega
    | succ i =>
      have h1 := ih i x v z (by simpa using hx) hv
      unfold cntG at h1 ⊢
      simp only [List.set_cons_succ, List.countP_cons]
      omega
theorem majG_set {l : List Int} {i : Nat} {x v z : Int} (hx : l[i]? = some x) (hv : x ≤ v) (h : majG l z = true) : majG (l.set i v) z = true := by
  rw [majG_iff] at h ⊢
  have := cntG_set l i x v z hx hv
  rw [List.length_set]; omega
/-- What a majority has, by the sort. -/
def medI (l : List Int) : Int := if l = [] then 0 else midI (l.mergeSort fun x y => decide (x ≤ y))
theorem rising_sort (l : List Int) : Rising (l.mergeSort fun x y => decide (x ≤ y)) := by
  have h := List.pairwise_mergeSort (le := fun x y : Int => decide (x ≤ y)) (by intro a b c; simp; omega) (by intro a b; simp; omega) l
  exact h.imp (by intro a b h; simpa using h)
theorem med_is {l : List Int} (hl : l ≠ []) : medI l ∈ l ∧ majG l (medI l) = true ∧ ∀ y, medI l < y → majG l y = false := by
  unfold medI; rw [if_neg hl]
  exact mid_is (rising_sort l) (List.mergeSort_perm l _) hl
theorem med_only {l : List Int} {m : Int} (hl : l ≠ []) (h1 : majG l m = true) (h2 : ∀ y, m < y → majG l y = false) : medI l = m := by
  obtain ⟨-, g1, g2⟩ := med_is hl
  rcases Int.lt_trichotomy (medI l) m with h | h | h
  · rw [g2 m h] at h1; simp at h1
  · exact h
  · rw [h2 _ h] at g1; simp at g1
theorem best_med {l : List Int} (hl : l ≠ []) : bestG l l none = some (medI l) := by
  obtain ⟨g0, g1, g2⟩ := med_is hl
  exact bestG_of g1 g2 l none (fun y h => by simp at h) (.inl g0)
theorem med_perm {l s : List Int} (h : s.Perm l) : medI s = medI l := by
  by_cases hl : l = []
  · subst hl; rw [h.eq_nil]
  · have hs : s ≠ [] := fun h0 => hl (by rw [h0] at h; exact h.symm.eq_nil)
    obtain ⟨-, g1, g2⟩ := med_is hl
    exact med_only hs (by rw [majG_perm h]; exact g1) (fun y hy => by rw [majG_perm h]; exact g2 y hy)
theorem med_set {l : List Int} {i : Nat} {x v : Int} (hx : l[i]? = some x) (hv : x ≤ v) : medI l ≤ medI (l.set i v) := by
  have hl : l ≠ [] := by rintro rfl; simp at hx
  have hs : l.set i v ≠ [] := fun h => hl (by have := congrArg List.length h; rw [List.length_set] at this; exact List.eq_nil_of_length_eq_zero this)
  obtain ⟨-, g1, -⟩ := med_is hl
  obtain ⟨-, -, g2⟩ := med_is hs
  by_cases h : medI l ≤ medI (l.set i v)
  · exact h
  · have := g2 (medI l) (by omega)
    rw [majG_set hx hv g1] at this; simp at this
end Go.Proofs.YtclphcbjdcdkfaaDoor
