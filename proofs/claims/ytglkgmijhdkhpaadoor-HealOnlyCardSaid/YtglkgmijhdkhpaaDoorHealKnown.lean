/-
  heal.known, the comparisons: contracts.
-/
import Derived.Test.YtglkgmijhdkhpaaDoorHealMath
import Derived.Test.YtglkgmijhdkhpaaDoorEnt
set_option linter.unusedVariables false
set_option linter.unusedSimpArgs false
namespace Go.Proofs.YtglkgmijhdkhpaaDoor
open Go.RowKit

set_option maxHeartbeats 1000000 in
theorem healKnown (p : Idt) (w : World) :
    Calls Tryd.prog 40 #[.agg #[.int .i64 p.idx, .int .i64 p.trm, .int .i64 p.knd]] w fun e w' => e = .returned (.bool (knownI p)) ∧ Below w.heap.size w w' := by
  by_cases h0 : 0 < p.idx
  · have d0 : decide (0 < p.idx) = true := decide_eq_true h0
    by_cases h1 : 1 ≤ p.knd
    · have d1 : decide (1 ≤ p.knd) = true := decide_eq_true h1
      have HK := Lib.hid (show knownI p = decide (p.knd ≤ 3) by unfold knownI; rw [d0, d1]; rfl)
      by_cases h2 : p.knd ≤ 3
      · have d2 : decide (p.knd ≤ 3) = true := decide_eq_true h2
        go_enter Tryd.func40, Tryd.ntmps40
        go_wp2_with fail
        go_ret
        exact ⟨ret_bool (by rw [HK.out, d2]), below_new _ _⟩
      · have d2 : decide (p.knd ≤ 3) = false := decide_eq_false h2
        have h3 : 3 < p.knd := by omega
        go_enter Tryd.func40, Tryd.ntmps40
        go_wp2_with fail
        go_ret
        exact ⟨ret_bool (by rw [HK.out, d2]), below_new _ _⟩
    · have d1 : decide (1 ≤ p.knd) = false := decide_eq_false h1
      have h3 : p.knd < 1 := by omega
      have HK := Lib.hid (show knownI p = false by unfold knownI; rw [d1]; simp)
      go_enter Tryd.func40, Tryd.ntmps40
      go_wp2_with fail
      go_ret
      exact ⟨ret_bool HK.out.symm, below_new _ _⟩
  · have d0 : decide (0 < p.idx) = false := decide_eq_false h0
    have h3 : p.idx ≤ 0 := by omega
    have HK := Lib.hid (show knownI p = false by unfold knownI; rw [d0]; rfl)
    go_enter Tryd.func40, Tryd.ntmps40
    go_wp2_with fail
    go_ret
    exact ⟨ret_bool HK.out.symm, below_new _ _⟩
end Go.Proofs.YtglkgmijhdkhpaaDoor
