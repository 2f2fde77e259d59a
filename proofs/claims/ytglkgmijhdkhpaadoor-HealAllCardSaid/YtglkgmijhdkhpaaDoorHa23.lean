/-
  limpetkit's LentIdents, KeptIdents: contracts.
-/
import Derived.Test.YtglkgmijhdkhpaaDoorHa7
import Derived.Test.YtglkgmijhdkhpaaDoorHa4
import Derived.Deep.RegionHeld3
namespace Go.Proofs.YtglkgmijhdkhpaaDoor
open Go.RowKit
set_option linter.unusedVariables false
set_option linter.unusedSimpArgs false

theorem identInfo : (Tryd.prog.info? 31).map (fun i => (i.zero, i.size, i.bytes)) = some (some (.agg #[.int .i64 0, .int .i64 0, .int .i64 0]), 3, 24) := by kernel_rfl
def mrkI (i : Nat) : Idt := ⟨8000024 + (i : Int), 0, 0⟩
def marksI : List Idt := (List.range 12).map mrkI
theorem marksI_length : marksI.length = 12 := rfl
theorem marksI_at {i : Nat} (h : i < 12) : marksI[i]? = some (mrkI i) := by simp [marksI, h]
theorem marksI_more {i : Nat} (h : i < 12) : marksI.take (i + 1) = marksI.take i ++ [mrkI i] := take_at (marksI_at h)

end Go.Proofs.YtglkgmijhdkhpaaDoor
