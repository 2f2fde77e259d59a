/-
  A ROW THAT FOLLOWS: what its entries are; a row in two parts. Plain Lean, no program.
-/
import Derived.Test.YtfglkpcboodllaaGreatDoorEntMath
set_option linter.unusedVariables false
namespace Go.Proofs.YtfglkpcboodllaaGreatDoor
open Go.RowKit

theorem stepE_zero {p : Idt} {x : Ent} (h : stepE p x = 0) : goodE x = true ∧ x.idx - 1 = p.idx ∧ p.trm ≤ x.trm := by
  unfold stepE at h
  by_cases h1 : goodE x = false
  · rw [if_pos h1] at h; omega
  · rw [if_neg h1] at h
    by_cases h2 : x.idx - 1 ≠ p.idx ∨ x.trm < p.trm
    · rw [if_pos h2] at h; omega
    · exact ⟨by simpa using h1, by omega, by omega⟩
theorem goodE_range {x : Ent} (h : goodE x = true) : 1 ≤ x.idx ∧ x.idx ≤ 1099511627776 ∧ 0 ≤ x.trm ∧ x.trm ≤ 1099511627776 := by
  unfold goodE rangeE at h
  simp only [Bool.and_eq_true, decide_eq_true_eq] at h
  omega
/-- What the entries of a row that follows are. -/
theorem fol_each : ∀ (l : List Ent) (p : Idt), folE p l = 0 → ∀ (i : Nat) (x : Ent), l[i]? = some x → goodE x = true ∧ x.idx = p.idx + 1 + i ∧ p.trm ≤ x.trm ∧ ∀ y, 0 < i → l[i - 1]? = some y → y.trm ≤ x.trm := by
  intro l
  induction l with
  | nil => intro p _ i x hx; simp at hx
  | cons z l ih =>
    intro p h i x hx
    have e0 : folE p (z :: l) = if stepE p z = 0 then folE (ofE z) l else stepE p z := rfl
    rw [e0] at h
    by_cases hs : stepE p z = 0
    · rw [if_pos hs] at h
      obtain ⟨g1, g2, g3⟩ := stepE_zero hs
      cases i with
      | zero =>
        simp only [List.getElem?_cons_zero, Option.some.injEq] at hx
        subst hx
        exact ⟨g1, by simp; omega, g3, fun y h0 => absurd h0 (by omega)⟩
      | succ i =>
        simp only [List.getElem?_cons_succ] at hx
        obtain ⟨f1, f2, f3, f4⟩ := ih (ofE z) h i x hx
        have e1 : (ofE z).idx = z.idx := rfl
        have e2 : (ofE z).trm = z.trm := rfl
        refine ⟨f1, by rw [f2, e1]; omega, by rw [e2] at f3; omega, fun y _ hy => ?_⟩
        cases i with
        | zero =>
          simp only [Nat.zero_add, Nat.sub_self, List.getElem?_cons_zero, Option.some.injEq] at hy
          subst hy; exact f3
        | succ j => exact f4 y (by omega) (by simpa using hy)
    · rw [if_neg hs] at h; exact absurd h hs
theorem fol_two (p : Idt) (l : List Ent) (k : Nat) : folE p l = if folE p (l.take k) = 0 then folE (lastE p (l.take k)) (l.drop k) else folE p (l.take k) := by
  rw [← folE_append, List.take_append_drop]
theorem last_two (p : Idt) (l : List Ent) (k : Nat) : lastE (lastE p (l.take k)) (l.drop k) = lastE p l := by
  rw [← lastE_append, List.take_append_drop]
end Go.Proofs.YtfglkpcboodllaaGreatDoor
