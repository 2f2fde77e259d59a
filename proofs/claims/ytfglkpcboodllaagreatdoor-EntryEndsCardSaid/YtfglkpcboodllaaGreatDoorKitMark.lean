/-
  limpetkit's marks: contracts.
-/
import Derived.Test.YtfglkpcboodllaaGreatDoorEntRef
import Derived.Test.YtfglkpcboodllaaGreatDoorKitSameBytes
import Derived.Test.YtfglkpcboodllaaGreatDoorExt
import Derived.Test.YtfglkpcboodllaaGreatDoorGrow
set_option linter.unusedVariables false
set_option linter.unusedSimpArgs false
namespace Go.Proofs.YtfglkpcboodllaaGreatDoor
open Go.RowKit

def mkI (k x : Int) : Int := 1000003 * (k + 7) + x
def mkB (k x : Int) : Int := IntKind.u64.wrap ((1000003 * (k + 7) + x) * 11400714819323198485) / 72057594037927936 % 256
theorem mkB_byte (k x : Int) : 0 ≤ mkB k x ∧ mkB k x ≤ 255 := by unfold mkB; omega
set_option maxHeartbeats 400000 in
theorem markAny (k x : Int) (w : World) (k0 : 0 ≤ k) (k1 : k ≤ 1000000) (h0 : 0 ≤ x) (h1 : x ≤ 1000000) : Calls Tryz.prog 115 #[.int .i64 k, .int .i64 x] w fun e w' => e = .returned (.int .i64 (mkI k x)) ∧ w = w' := by
  go_enter Tryz.func115, Tryz.ntmps115
  go_wp2
  go_ret
  exact ⟨rfl, rfl⟩
set_option maxHeartbeats 400000 in
theorem markByteAny (k x : Int) (w : World) (k0 : 0 ≤ k) (k1 : k ≤ 1000000) (h0 : 0 ≤ x) (h1 : x ≤ 1000000) : Calls Tryz.prog 116 #[.int .i64 k, .int .i64 x] w fun e w' => e = .returned (.int .u8 (mkB k x)) ∧ w = w' := by
  go_enter Tryz.func116, Tryz.ntmps116
  go_wp2_with (go_at_call 115; refine (markAny k x _ k0 k1 h0 h1).mono ?_; unfold mkI; rintro e w2 ⟨rfl, rfl⟩)
  go_ret
  exact ⟨rfl, rfl⟩
set_option maxHeartbeats 400000 in
theorem markEntryAny (k x : Int) (w : World) (k0 : 0 ≤ k) (k1 : k ≤ 1000000) (h0 : 0 ≤ x) (h1 : x ≤ 1000000) : Calls Tryz.prog 78 #[.int .i64 k, .int .i64 x] w fun e w' => e = .returned (.agg #[.int .i64 (mkI k x), .int .i64 0, .int .i64 0, .slice none 0 0]) ∧ Below w.heap.size w w' := by
  go_enter Tryz.func78, Tryz.ntmps78
  go_wp2_with (go_at_call 115; refine (markAny k x _ k0 k1 h0 h1).mono ?_; rintro e w2 ⟨rfl, rfl⟩)
  refine bodyPost_ret (v := .agg #[.int .i64 (mkI k x), .int .i64 0, .int .i64 0, .slice none 0 0]) (by simp [results, Tryz.results78, go_sem]) rfl ⟨rfl, ?_⟩
  repeat refine below_set ?_ (by simp)
  exact below_new _ _
end Go.Proofs.YtfglkpcboodllaaGreatDoor
