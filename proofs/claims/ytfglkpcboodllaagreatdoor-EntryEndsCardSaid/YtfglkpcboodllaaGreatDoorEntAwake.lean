/-
  limpetlaw17's of; limpetkit's Pick: contracts.
-/
import Derived.Test.YtfglkpcboodllaaGreatDoorEnt6
import Derived.Test.YtfglkpcboodllaaGreatDoorEnt7
import Derived.Test.YtfglkpcboodllaaGreatDoorKitEnt
import Derived.Test.YtfglkpcboodllaaGreatDoorKitSameBytes
set_option linter.unusedVariables false
set_option linter.unusedSimpArgs false
namespace Go.Proofs.YtfglkpcboodllaaGreatDoor
open Go.RowKit

set_option maxHeartbeats 400000 in
theorem ofLaw (a b c : Int) (A : Option Addr) (n cp : Nat) (w : World) :
    Calls Tryz.prog 8 #[.int .i64 a, .int .i64 b, .int .i64 c, .slice A n cp] w fun e w' => e = .returned (.agg #[.int .i64 a, .int .i64 b, .int .i64 c, .slice A n cp]) ∧ Below w.heap.size w w' := by
  go_enter Tryz.func8, Tryz.ntmps8
  go_wp2_with fail
  refine bodyPost_ret (v := .agg #[.int .i64 a, .int .i64 b, .int .i64 c, .slice A n cp]) (by simp [results, Tryz.results8, go_sem]) rfl ⟨rfl, ?_⟩
  first | exact below_new _ _ | (repeat (first | exact Below.refl _ _ | refine Below.alloc ?_ (by simp) _ | refine below_set ?_ (by simp)))

/-- A number brought into 0 to n - 1. -/
def pickI (x : Int) (n : Nat) : Nat := (x % (n : Int)).toNat
theorem pickI_lt {x : Int} {n : Nat} (h : 0 < n) : pickI x n < n := by
  unfold pickI
  have := Int.emod_lt_of_pos x (show (0 : Int) < n by omega)
  have := Int.emod_nonneg x (show (n : Int) ≠ 0 by omega)
  omega
end Go.Proofs.YtfglkpcboodllaaGreatDoor
