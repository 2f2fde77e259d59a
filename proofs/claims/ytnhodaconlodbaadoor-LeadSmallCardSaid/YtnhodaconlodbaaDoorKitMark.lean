/-
  limpetkit's marks: contracts.
-/
import Derived.Test.YtnhodaconlodbaaDoorEntRef
import Derived.Test.YtnhodaconlodbaaDoorKitSameBytes
import Derived.Test.YtnhodaconlodbaaDoorExt
import Derived.Test.YtnhodaconlodbaaDoorGrow
set_option linter.unusedVariables false
set_option linter.unusedSimpArgs false
namespace Go.Proofs.YtnhodaconlodbaaDoor
open Go.RowKit

def mkI (k x : Int) : Int := 1000003 * (k + 7) + x
def mkB (k x : Int) : Int := IntKind.u64.wrap ((1000003 * (k + 7) + x) * 11400714819323198485) / 72057594037927936 % 256
theorem mkB_byte (k x : Int) : 0 ≤ mkB k x ∧ mkB k x ≤ 255 := by unfold mkB; omega
set_option maxHeartbeats 400000 in
theorem markAny (k x : Int) (w : World) (k0 : 0 ≤ k) (k1 : k ≤ 1000000) (h0 : 0 ≤ x) (h1 : x ≤ 1000000) : Calls Tryd.prog 66 #[.int .i64 k, .int .i64 x] w fun e w' => e = .returned (.int .i64 (mkI k x)) ∧ w = w' := by
  go_enter Tryd.func66, Tryd.ntmps66
  go_wp2
  go_ret
  exact ⟨rfl, rfl⟩
end Go.Proofs.YtnhodaconlodbaaDoor
