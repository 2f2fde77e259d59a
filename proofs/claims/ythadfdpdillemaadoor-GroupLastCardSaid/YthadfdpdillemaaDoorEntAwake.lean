/-
  limpetlaw17's of; limpetkit's Pick: contracts.
-/
import Derived.Test.YthadfdpdillemaaDoorEnt6
import Derived.Test.YthadfdpdillemaaDoorEnt7
import Derived.Test.YthadfdpdillemaaDoorKitEnt
import Derived.Test.YthadfdpdillemaaDoorKitSameBytes
set_option linter.unusedVariables false
set_option linter.unusedSimpArgs false
namespace Go.Proofs.YthadfdpdillemaaDoor
open Go.RowKit
/-- A number brought into 0 to n - 1. -/
def pickI (x : Int) (n : Nat) : Nat := (x % (n : Int)).toNat
theorem pickI_lt {x : Int} {n : Nat} (h : 0 < n) : pickI x n < n := by
  unfold pickI
  have := Int.emod_lt_of_pos x (show (0 : Int) < n by omega)
  have := Int.emod_nonneg x (show (n : Int) ≠ 0 by omega)
  omega
set_option maxHeartbeats 1000000 in
theorem pick_ (x : Int) (n : Nat) (w : World) (h0 : 0 < n) (hn : n ≤ 1000000000) (hx0 : -9223372036854775808 ≤ x) (hx1 : x ≤ 9223372036854775807) :
    Calls Tryd.prog 38 #[.int .i64 x, .int .i64 n] w fun e w' => e = .returned (.int .i64 (pickI x n)) ∧ w = w' := by
  have hp : (0 : Int) < (n : Int) := by omega
  have hp1 : (1 : Int) ≤ (n : Int) := by omega
  have d0 : decide ((n : Int) < 1) = false := decide_eq_false (by omega)
  have hr1 := Int.tmod_lt_of_pos x hp
  have hr2 := Int.lt_tmod_of_pos x hp
  have hE : (pickI x n : Int) = x % (n : Int) := by
    unfold pickI
    have := Int.emod_nonneg x (show (n : Int) ≠ 0 by omega)
    omega
  have hT : x % (n : Int) = if x.tmod n < 0 then x.tmod n + n else x.tmod n := by
    have h1 := Int.tmod_add_mul_tdiv x (n : Int)
    have h2 := Int.emod_add_mul_ediv x (n : Int)
    have h3 := Int.emod_nonneg x (show (n : Int) ≠ 0 by omega)
    have h4 := Int.emod_lt_of_pos x hp
    by_cases hneg : x.tmod n < 0
    · rw [if_pos hneg]
      have := Int.emod_emod_of_dvd x (Int.dvd_refl (n : Int))
      have e : (x.tmod n + n) % (n : Int) = x % (n : Int) := by
        have : x.tmod n + n = x + (n : Int) * (1 - x.tdiv n) := by rw [Int.mul_sub, Int.mul_one]; omega
        rw [this, Int.add_mul_emod_self_left]
      rw [← e, Int.emod_eq_of_lt (by omega) (by omega)]
    · rw [if_neg hneg]
      have e : (x.tmod n) % (n : Int) = x % (n : Int) := by
        have : x.tmod n = x + (n : Int) * (- x.tdiv n) := by rw [Int.mul_neg]; omega
        rw [this, Int.add_mul_emod_self_left]
      rw [← e, Int.emod_eq_of_lt (by omega) (by omega)]
  obtain ⟨r, hr⟩ : ∃ r, x.tmod n = r := ⟨_, rfl⟩
  rw [hr] at hr1 hr2 hT
  have hnz : ((n : Int) == 0) = false := by simp; omega
  by_cases hneg : r < 0
  · have HF := Lib.hid (show r + (n : Int) = (pickI x n : Int) by rw [hE, hT, if_pos hneg])
    have d1 : decide (r < 0) = true := decide_eq_true hneg
    clear hE hT
    go_enter Tryd.func38, Tryd.ntmps38
    go_wp2_with fail
    go_ret
    exact ⟨ret_int HF.out, rfl⟩
  · have HF := Lib.hid (show r = (pickI x n : Int) by rw [hE, hT, if_neg hneg])
    have d1 : decide (r < 0) = false := decide_eq_false hneg
    clear hE hT
    go_enter Tryd.func38, Tryd.ntmps38
    go_wp2_with fail
    go_ret
    exact ⟨ret_int HF.out, rfl⟩
end Go.Proofs.YthadfdpdillemaaDoor
