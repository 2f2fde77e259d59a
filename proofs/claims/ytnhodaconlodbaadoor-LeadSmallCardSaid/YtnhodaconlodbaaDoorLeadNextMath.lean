/-
  WHAT A LEADER SENDS: plain Lean, no program.
-/
import Derived.Test.YtnhodaconlodbaaDoorMatchMath
import Derived.Deep.RegionHeld3
import Derived.Deep.DeepCutAuto
import Derived.StillTailTactics
set_option linter.unusedVariables false
set_option linter.unusedSimpArgs false
namespace Go.Proofs.YtnhodaconlodbaaDoor
open Go.RowKit

structure Snd where
  pc : Bool
  pv : Idt
  fr : Int
  to_ : Int
def sndRow (s : Snd) : List Value := [.bool s.pc, .int .i64 s.pv.idx, .int .i64 s.pv.trm, .int .i64 s.pv.knd, .int .i64 s.fr, .int .i64 s.to_]
def sndV (s : Snd) : Value := .agg #[.bool s.pc, .int .i64 s.pv.idx, .int .i64 s.pv.trm, .int .i64 s.pv.knd, .int .i64 s.fr, .int .i64 s.to_]
def snd0 : Snd := ⟨false, ⟨0, 0, 0⟩, 0, 0⟩
def sndP : Snd := ⟨true, ⟨0, 0, 0⟩, 0, 0⟩
def toN (b : Idt) (l : List Idt) (nx many : Int) : Int := if many < 1 then nx - 1 else if many ≤ b.idx + (l.length : Int) - nx then nx + many - 1 else b.idx + (l.length : Int)
def nextN (b : Idt) (l : List Idt) (nx many : Int) : Int × Snd :=
  if rightV b l = false then (2, snd0) else if b.idx + (l.length : Int) + 1 < nx then (7, snd0) else if nx ≤ b.idx then (0, sndP) else
    match atV b l (nx - 1) with
    | none => (9, snd0)
    | some p => (0, ⟨false, p, nx, toN b l nx many⟩)
section
variable {b : Idt} {l : List Idt} {nx many : Int}
theorem nextN_bad (h : rightV b l = false) : nextN b l nx many = (2, snd0) := by unfold nextN; rw [if_pos h]
theorem nextN_far (h : rightV b l = true) (h1 : b.idx + (l.length : Int) + 1 < nx) : nextN b l nx many = (7, snd0) := by unfold nextN; rw [if_neg (by simp [h]), if_pos h1]
theorem nextN_piece (h : rightV b l = true) (h1 : ¬ b.idx + (l.length : Int) + 1 < nx) (h2 : nx ≤ b.idx) : nextN b l nx many = (0, sndP) := by unfold nextN; rw [if_neg (by simp [h]), if_neg h1, if_pos h2]
theorem nextN_rot (h : rightV b l = true) (h1 : ¬ b.idx + (l.length : Int) + 1 < nx) (h2 : ¬ nx ≤ b.idx) (h3 : atV b l (nx - 1) = none) : nextN b l nx many = (9, snd0) := by unfold nextN; rw [if_neg (by simp [h]), if_neg h1, if_neg h2, h3]
theorem nextN_send {p : Idt} (h : rightV b l = true) (h1 : ¬ b.idx + (l.length : Int) + 1 < nx) (h2 : ¬ nx ≤ b.idx) (h3 : atV b l (nx - 1) = some p) : nextN b l nx many = (0, ⟨false, p, nx, toN b l nx many⟩) := by unfold nextN; rw [if_neg (by simp [h]), if_neg h1, if_neg h2, h3]
end
end Go.Proofs.YtnhodaconlodbaaDoor
