/-
  limpetref17, 1: Of, Right, Members, Good, Older: contracts.
-/
import Derived.Test.YtnhodaconlodbaaDoorEnt7
set_option linter.unusedVariables false
set_option linter.unusedSimpArgs false
namespace Go.Proofs.YtnhodaconlodbaaDoor
open Go.RowKit
theorem memFrom_next {p x : Int} {l : List Int} {k : Nat} (hp : 0 ≤ p) (hm : memFrom 0 l = memFrom p (l.drop k)) (hx : l[k]? = some x) : memFrom 0 l = (decide (p < x ∧ x ≤ 7) && memFrom x (l.drop (k + 1))) := by
  rw [hm, drop_at hx]
  show (decide (1 ≤ x ∧ x ≤ 7 ∧ p < x) && memFrom x (l.drop (k + 1))) = _
  congr 1
  rw [decide_eq_decide]; omega

theorem memOk_take {b : List Int} {k : Nat} (hk : k = b.length ∧ k ≤ 8 ∨ k = 8 ∧ 8 ≤ b.length) : memRight (b.take k) = memOk b := by
  unfold memOk
  rcases hk with ⟨rfl, h8⟩ | ⟨rfl, h8⟩
  · rw [List.take_length]
    by_cases h : b.length ≤ 7
    · rw [decide_eq_true h]; rfl
    · rw [decide_eq_false h]
      cases hm : memRight b with
      | false => rfl
      | true => exact absurd (memRight_short hm) h
  · rw [decide_eq_false (by omega)]
    cases hm : memRight (b.take 8) with
    | false => rfl
    | true => have := memRight_short hm; rw [List.length_take] at this; omega
theorem memOk_len {b : List Int} (h : memOk b = true) : b.length ≤ 7 := by unfold memOk at h; simp only [Bool.and_eq_true, decide_eq_true_eq] at h; exact h.1

end Go.Proofs.YtnhodaconlodbaaDoor
