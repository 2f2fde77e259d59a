/-
  limpetlaw21.awake: true. Condition: errors.errorType holds its value.
-/
import Derived.Test.YtclphcbjdcdkfaaDoorBoundMost
set_option linter.unusedVariables false
set_option linter.unusedSimpArgs false
namespace Go.Proofs.YtclphcbjdcdkfaaDoor
open Go.RowKit

theorem med735 : medI [7, 3, 5] = 5 := med_only (by simp) (by decide) (fun y hy => by
  have h3 : ¬ y ≤ 3 := by omega
  have h5 : ¬ y ≤ 5 := by omega
  by_cases h7 : y ≤ 7 <;> simp [majG, cntG, List.countP_cons, h3, h5, h7])

set_option maxRecDepth 100000 in
set_option maxHeartbeats 4000000 in
theorem awake21 (w : World) (hG : errTypeIs w) :
    Calls Tryd.prog 20 #[] w fun e w' => e = .returned (.bool true) ∧ Below w.heap.size w w' := by
  have HS := Lib.hid (show Sl 1 i64Row (w.alloc (.cells #[.int .i64 7, .int .i64 3, .int .i64 5] 3)).heap.size (w.alloc (.cells #[.int .i64 7, .int .i64 3, .int .i64 5] 3)) (.slice (some ⟨w.heap.size, 0, none⟩) 3 3) [7, 3, 5] from Box.sl i64Row_length [7, 3, 5] (Box.new w #[.int .i64 7, .int .i64 3, .int .i64 5] 3) rfl (by unfold maxLen; simp))
  have HG := Lib.hid (errType_later hG (below_new w (.cells #[.int .i64 7, .int .i64 3, .int .i64 5] 3)))
  have HB := Lib.hid (below_new w (.cells #[.int .i64 7, .int .i64 3, .int .i64 5] 3))
  clear hG
  go_enter Tryd.func20, Tryd.ntmps20
  go_upto_region 2 with fail
  obtain ⟨g, hg⟩ : ∃ g, w.heap.size = g := ⟨_, rfl⟩
  obtain ⟨W, hW⟩ : ∃ W : World, W = w.alloc (.cells #[.int .i64 7, .int .i64 3, .int .i64 5] 3) := ⟨_, rfl⟩
  rw [← hW] at HS HG HB
  rw [← hW]
  rw [hg] at HS ⊢
  clear hW hg
  have C1 := Lib.hid (fun x : Ext W => ext_of x (by have h := majB [7, 3, 5] _ x.wd (HS.out.later x.low) (by simp); rw [med735] at h; exact h))
  have C2 := Lib.hid (fun x : Ext W => ext_of x (by have h := ofB 4 2 ⟨5, 2, 0⟩ [7, 3, 5] _ x.wd (HS.out.later x.low) (by simp) (errType_later HG.out x.low); rw [med735, show ofI 4 2 5 ⟨5, 2, 0⟩ = 5 by decide] at h; exact h))
  have C3 := Lib.hid (fun x : Ext W => ext_of x (by have h := ofB 4 2 ⟨5, 1, 0⟩ [7, 3, 5] _ x.wd (HS.out.later x.low) (by simp) (errType_later HG.out x.low); rw [med735, show ofI 4 2 5 ⟨5, 1, 0⟩ = 4 by decide] at h; exact h))
  refine wp_region_ext_plain ?_
  repeat (go_big_quiet_step ((rename_i x5; first
    | (go_at_call 21; exact C1.out x5)
    | (go_at_call 26; first | (with_reducible exact C2.out x5) | (with_reducible exact C3.out x5)))))
  refine wpQuiet_nil ?_
  intro _ hw'
  obtain ⟨x5, hw''⟩ := hw'
  subst hw''
  go_wp2_with fail
  go_ret
  exact ⟨rfl, HB.out.trans (x5.low.mono HB.out.size)⟩
end Go.Proofs.YtclphcbjdcdkfaaDoor
