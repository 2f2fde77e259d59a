/-
  limpetkit's LentInts, KeptInts, SameInts: contracts.
-/
import Derived.Test.YtglkgmijhdkhpaaDoorProg
import Derived.Test.YtglkgmijhdkhpaaDoorLent
import Derived.Test.YtglkgmijhdkhpaaDoorLeadMath
import Derived.WalkLawsBesides
import Derived.Lib.Hide
import Derived.Deep.QuietTactic
import Derived.BigQuiet
import Derived.IntWalk
namespace Go.Proofs.YtglkgmijhdkhpaaDoor
open Go.RowKit
set_option linter.unusedVariables false

theorem i64Row_length (x : Int) : (i64Row x).length = 1 := rfl
theorem i64Row_one (x : Int) : ∀ u ∈ i64Row x, u.oneCell' = true := by
  intro u hu; simp [i64Row] at hu; rcases hu with rfl; rfl
theorem intInfo : (Tryd.prog.info? 3).map (fun i => (i.zero, i.size, i.bytes)) = some (some (.int .i64 0), 1, 8) := by kernel_rfl
def mrk (i : Nat) : Int := 8000024 + (i : Int)
def marks : List Int := (List.range 12).map mrk
theorem marks_length : marks.length = 12 := rfl
theorem marks_at {i : Nat} (h : i < 12) : marks[i]? = some (mrk i) := by simp [marks, h]
theorem marks_more {i : Nat} (h : i < 12) : marks.take (i + 1) = marks.take i ++ [mrk i] := take_at (marks_at h)

end Go.Proofs.YtglkgmijhdkhpaaDoor
