/-
  limpetkit's LentBytes, KeptBytes: contracts.
-/
import Derived.Test.YtnhodaconlodbaaDoorKitMark
set_option linter.unusedVariables false
set_option linter.unusedSimpArgs false
namespace Go.Proofs.YtnhodaconlodbaaDoor
open Go.RowKit

def mrkB (i : Nat) : Int := mkB 1 (i : Int)
def marksB : List Int := (List.range 12).map mrkB
theorem marksB_length : marksB.length = 12 := rfl
theorem marksB_at {i : Nat} (h : i < 12) : marksB[i]? = some (mrkB i) := by simp [marksB, h]
theorem marksB_more {i : Nat} (h : i < 12) : marksB.take (i + 1) = marksB.take i ++ [mrkB i] := take_at (marksB_at h)

end Go.Proofs.YtnhodaconlodbaaDoor
