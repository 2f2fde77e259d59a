/-
  limpetlaw19.awake, TermAgain: walks.
-/
import Derived.Test.YtgbdnkmfinoopaaDoorTerm4
set_option linter.unusedVariables false
namespace Go.Proofs.YtgbdnkmfinoopaaDoor
open Go.RowKit

theorem tk1 : grantM ⟨5, 2, 0⟩ ⟨4, 2, 0⟩ 3 4 ⟨1, 3, 0⟩ = (⟨6, 4, 3⟩, true) := rfl
theorem tk2 : grantM ⟨6, 4, 3⟩ ⟨4, 2, 0⟩ 2 4 ⟨9, 3, 0⟩ = (⟨6, 4, 3⟩, false) := rfl
theorem errType_later {w w' : World} (h : errTypeIs w) (hb : Below w.heap.size w w') : errTypeIs w' := (hb.cell (p := ⟨0, 0, none⟩) (World.block_lt_of_cell? _ _ h)).trans h

set_option maxHeartbeats 1000000 in
theorem tAwake (w : World) (hG : errTypeIs w) : Calls Tryd.prog 7 #[] w fun e w' => e = .returned (.bool true) ∧ Below w.heap.size w w' := by
  have HG := Lib.hid hG
  clear hG
  go_enter Tryd.func7, Tryd.ntmps7
  go_wp2_with fail
  refine (tGrant ⟨5, 2, 0⟩ ⟨4, 2, 0⟩ 3 4 ⟨1, 3, 0⟩ _ HG.out).mono ?_
  rintro e w1 ⟨rfl, hb1⟩
  rw [tk1]
  go_wp2_with fail
  refine (tGrant ⟨6, 4, 3⟩ ⟨4, 2, 0⟩ 2 4 ⟨9, 3, 0⟩ _ (errType_later (errType_later HG.out hb1) (below_new _ _))).mono ?_
  rintro e w2 ⟨rfl, hb2⟩
  rw [tk2]
  obtain ⟨k1, f1, z1⟩ := ((Box.new w1 #[.int .i64 6, .int .i64 4, .int .i64 3] 23).later hb2).facts
  have HB := Lib.hid (below_call (below_call hb1 (below_new w1 (.cells #[.int .i64 6, .int .i64 4, .int .i64 3] 23))) hb2)
  clear hb1 hb2
  go_wp2_with fail
  go_ret
  exact ⟨rfl, below_call HB.out (below_new _ _)⟩
end Go.Proofs.YtgbdnkmfinoopaaDoor
