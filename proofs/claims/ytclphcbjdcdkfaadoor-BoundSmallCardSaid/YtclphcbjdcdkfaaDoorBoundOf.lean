/-
  WHAT IS COMMITTED, WHAT MAY BE APPLIED: plain Lean, no program.
-/
import Derived.Test.YtclphcbjdcdkfaaDoorBoundMath
import Derived.Test.YtclphcbjdcdkfaaDoorAbMath
set_option linter.unusedVariables false
namespace Go.Proofs.YtclphcbjdcdkfaaDoor
open Go.RowKit

def ofI (c t n : Int) (a : Idt) : Int := if n ≤ c then c else if a.idx ≠ n then c else if a.trm ≠ t then c else n
def inN (n : Int) : Bool := decide (0 ≤ n ∧ n ≤ 1099511627776)
def lowI (c r : Int) : Int := if 0 < r then min c (r - 1) else c
def appOk (c a r m : Int) : Prop := 0 ≤ c ∧ c ≤ 1099511627776 ∧ 0 ≤ a ∧ a ≤ 1099511627776 ∧ 1 ≤ m ∧ a < lowI c r
instance (c a r m : Int) : Decidable (appOk c a r m) := by unfold appOk; infer_instance
def topI (c a r m : Int) : Int := a + min (lowI c r - a) m
def appV (c a r m : Int) : Int × Int := if appOk c a r m then (a + 1, topI c a r m) else (0, 0)
theorem cntG_take {l : List Int} {k : Nat} {y : Int} (hy : l[k]? = some y) (x : Int) : cntG (l.take (k + 1)) x = cntG (l.take k) x + if x ≤ y then 1 else 0 := by
  unfold cntG
  rw [take_at hy, List.countP_append]
  simp [List.countP_cons]
theorem cntG_all (l : List Int) (x : Int) : cntG (l.take l.length) x = cntG l x := by rw [List.take_length]
theorem bestG_drop {l : List Int} {k : Nat} {x : Int} (hx : l[k]? = some x) (b : Option Int) : bestG l (l.drop k) b = bestG l (l.drop (k + 1)) (if majG l x = true ∧ (∀ y, b = some y → y < x) then some x else b) := by
  obtain ⟨hk, rfl⟩ := List.getElem?_eq_some_iff.1 hx
  rw [List.drop_eq_getElem_cons hk]; rfl
/-- What the document's loop tells. -/
theorem best_end {l : List Int} {b : Option Int} (h : bestG l (l.drop l.length) b = bestG l l none) : b.getD 0 = medI l := by
  rw [List.drop_length] at h
  by_cases hl : l = []
  · subst hl
    have h' : b = none := h
    subst h'; rfl
  · rw [best_med hl] at h
    have h' : b = some (medI l) := h
    subst h'; rfl
theorem has_more {l : List Int} (hl : l ≠ []) : l.length < 2 * cntG l (medI l) := majG_iff.1 (med_is hl).2.1
theorem above_less {l : List Int} (hl : l ≠ []) : 2 * cntG l (medI l + 1) ≤ l.length := by
  have h := (med_is hl).2.2 (medI l + 1) (by omega)
  have := mt majG_iff.2 (by rw [h]; simp)
  omega
theorem one_in {l : List Int} (hl : l ≠ []) : medI l ∈ l := (med_is hl).1
theorem med_turn (l : List Int) (k : Nat) : medI (l.drop k ++ l.take k) = medI l := med_perm (by
  have h : (l.take k ++ l.drop k).Perm (l.drop k ++ l.take k) := List.perm_append_comm
  rw [List.take_append_drop] at h; exact h.symm)
theorem med_mid {l : List Int} (hl : l ≠ []) : (l.mergeSort fun x y => decide (x ≤ y))[(l.length - 1) / 2]? = some (medI l) := by
  have hs : (l.mergeSort fun x y => decide (x ≤ y)) ≠ [] := fun h => hl (by have := congrArg List.length h; rw [List.length_mergeSort] at this; exact List.eq_nil_of_length_eq_zero this)
  have := mid_at hs
  rw [List.length_mergeSort] at this
  unfold medI; rw [if_neg hl]; exact this
end Go.Proofs.YtclphcbjdcdkfaaDoor
