/-
  THE PACKAGE entry, 2: what is right, members of bytes: contracts.
-/
import Derived.Test.YtglkgmijhdkhpaaDoorHa7
import Derived.Test.YtglkgmijhdkhpaaDoorHa9
import Derived.OwnWalk
import Derived.Deep.DeepCutAuto
set_option linter.unusedVariables false
set_option linter.unusedSimpArgs false
namespace Go.Proofs.YtglkgmijhdkhpaaDoor
open Go.RowKit

set_option maxHeartbeats 400000 in
theorem within (n least : Int) (b : Bool) (hb : (decide (least ≤ n) && decide (n ≤ 1099511627776)) = b) (w : World) :
    Calls Tryd.prog 52 #[.int .i64 n, .int .i64 least] w fun e w' => e = .returned (.bool b) ∧ w = w' := by
  by_cases h1 : least ≤ n
  · have d1 : decide (least ≤ n) = true := decide_eq_true h1
    by_cases h2 : n ≤ 1099511627776
    · have d2 : decide (n ≤ 1099511627776) = true := decide_eq_true h2
      have HB := Lib.hid (show true = b by rw [← hb, d1, d2]; rfl)
      clear hb
      go_enter Tryd.func52, Tryd.ntmps52
      go_wp2
      go_ret
      exact ⟨ret_bool HB.out, rfl⟩
    · have d2 : decide (n ≤ 1099511627776) = false := decide_eq_false h2
      have HB := Lib.hid (show false = b by rw [← hb, d1, d2]; rfl)
      clear hb
      go_enter Tryd.func52, Tryd.ntmps52
      go_wp2
      go_ret
      exact ⟨ret_bool HB.out, rfl⟩
  · have d1 : decide (least ≤ n) = false := decide_eq_false h1
    have HB := Lib.hid (show false = b by rw [← hb, d1]; rfl)
    clear hb
    go_enter Tryd.func52, Tryd.ntmps52
    go_wp2
    go_ret
    exact ⟨ret_bool HB.out, rfl⟩

set_option maxHeartbeats 2000000 in
theorem codeRight (x : Ent) (w : World) :
    Calls Tryd.prog 29 #[.agg #[.int .i64 x.idx, .int .i64 x.trm, .int .i64 x.knd, .slice x.ba x.bd.length x.bc]] w fun e w' => e = .returned (.bool (rangeE x)) ∧ Below w.heap.size w w' := by
  have hbx : Box (w.alloc (.cells #[.int .i64 x.idx, .int .i64 x.trm, .int .i64 x.knd, .slice x.ba x.bd.length x.bc] 35)) w.heap.size #[.int .i64 x.idx, .int .i64 x.trm, .int .i64 x.knd, .slice x.ba x.bd.length x.bc] 35 := Box.new _ _ _
  have hB : Below w.heap.size w (w.alloc (.cells #[.int .i64 x.idx, .int .i64 x.trm, .int .i64 x.knd, .slice x.ba x.bd.length x.bc] 35)) := below_new _ _
  obtain ⟨b1, h1⟩ : ∃ b, (decide (1 ≤ x.idx) && decide (x.idx ≤ 1099511627776)) = b := ⟨_, rfl⟩
  obtain ⟨b2, h2⟩ : ∃ b, (decide (0 ≤ x.trm) && decide (x.trm ≤ 1099511627776)) = b := ⟨_, rfl⟩
  obtain ⟨b3, h3⟩ : ∃ b, decide (1 ≤ x.knd) = b := ⟨_, rfl⟩
  obtain ⟨b4, h4⟩ : ∃ b, decide (x.knd ≤ 3) = b := ⟨_, rfl⟩
  obtain ⟨b5, h5⟩ : ∃ b, decide ((x.bd.length : Int) ≤ 200) = b := ⟨_, rfl⟩
  have h5' : decide (x.bd.length ≤ 200) = b5 := by rw [← h5]; simp only [decide_eq_decide]; omega
  have HR := Lib.hid (show rangeE x = (b1 && b2 && b3 && b4 && b5) by unfold rangeE; rw [← h1, ← h2, h3, h4, h5']; simp only [Bool.and_assoc])
  have C1 := Lib.hid (fun w => within x.idx 1 b1 h1 w)
  have C2 := Lib.hid (fun w => within x.trm 0 b2 h2 w)
  clear h1 h2
  obtain ⟨W, hW⟩ : ∃ W : World, W = w.alloc (.cells #[.int .i64 x.idx, .int .i64 x.trm, .int .i64 x.knd, .slice x.ba x.bd.length x.bc] 35) := ⟨_, rfl⟩
  rw [← hW] at hbx hB
  have HB := Lib.hid hB
  have k0 : ∀ zw : Ext W, zw.wd.cell? ⟨w.heap.size, 0, none⟩ = some (.int .i64 x.idx) := hbx.ext 0
  have k1 : ∀ zw : Ext W, zw.wd.cell? ⟨w.heap.size, 1, none⟩ = some (.int .i64 x.trm) := hbx.ext 1
  have k2 : ∀ zw : Ext W, zw.wd.cell? ⟨w.heap.size, 2, none⟩ = some (.int .i64 x.knd) := hbx.ext 2
  have k3 : ∀ zw : Ext W, zw.wd.cell? ⟨w.heap.size, 3, none⟩ = some (.slice x.ba x.bd.length x.bc) := hbx.ext 3
  clear hbx hB
  go_enter Tryd.func29, Tryd.ntmps29
  go_upto_region 2 with fail
  rw [← hW]
  clear hW
  have FIN : ∀ x5 : Ext W, Below w.heap.size w x5.wd := fun x5 => HB.out.trans (x5.low.mono HB.out.size)
  have FIN := Lib.hid FIN
  cases b1 with
  | false =>
    refine wp_region_ext_plain ?_
    repeat (go_big_quiet_step ((rename_i x5; have h5 := x5.low; first
      | (go_at_call 52; first | (with_reducible exact ext_of_same x5 (C1.out x5.wd)) | (with_reducible exact ext_of_same x5 (C2.out x5.wd))))))
    refine wpQuiet_nil ?_
    intro _ hw'
    obtain ⟨x5, hw''⟩ := hw'
    subst hw''
    go_wp2_with fail
    go_ret
    exact ⟨ret_bool (by rw [HR.out]; first | rfl | simp), FIN.out x5⟩
  | true =>
    cases b2 with
    | false =>
      refine wp_region_ext_plain ?_
      repeat (go_big_quiet_step ((rename_i x5; have h5 := x5.low; first
        | (go_at_call 52; first | (with_reducible exact ext_of_same x5 (C1.out x5.wd)) | (with_reducible exact ext_of_same x5 (C2.out x5.wd))))))
      refine wpQuiet_nil ?_
      intro _ hw'
      obtain ⟨x5, hw''⟩ := hw'
      subst hw''
      go_wp2_with fail
      go_ret
      exact ⟨ret_bool (by rw [HR.out]; first | rfl | simp), FIN.out x5⟩
    | true =>
      cases b3 with
      | false =>
        refine wp_region_ext_plain ?_
        repeat (go_big_quiet_step ((rename_i x5; have h5 := x5.low; first
          | (go_at_call 52; first | (with_reducible exact ext_of_same x5 (C1.out x5.wd)) | (with_reducible exact ext_of_same x5 (C2.out x5.wd))))))
        refine wpQuiet_nil ?_
        intro _ hw'
        obtain ⟨x5, hw''⟩ := hw'
        subst hw''
        go_wp2_with fail
        go_ret
        exact ⟨ret_bool (by rw [HR.out]; first | rfl | simp), FIN.out x5⟩
      | true =>
        cases b4 with
        | false =>
          refine wp_region_ext_plain ?_
          repeat (go_big_quiet_step ((rename_i x5; have h5 := x5.low; first
            | (go_at_call 52; first | (with_reducible exact ext_of_same x5 (C1.out x5.wd)) | (with_reducible exact ext_of_same x5 (C2.out x5.wd))))))
          refine wpQuiet_nil ?_
          intro _ hw'
          obtain ⟨x5, hw''⟩ := hw'
          subst hw''
          go_wp2_with fail
          go_ret
          exact ⟨ret_bool (by rw [HR.out]; first | rfl | simp), FIN.out x5⟩
        | true =>
          cases b5 with
          | false =>
            refine wp_region_ext_plain ?_
            repeat (go_big_quiet_step ((rename_i x5; have h5 := x5.low; first
              | (go_at_call 52; first | (with_reducible exact ext_of_same x5 (C1.out x5.wd)) | (with_reducible exact ext_of_same x5 (C2.out x5.wd))))))
            refine wpQuiet_nil ?_
            intro _ hw'
            obtain ⟨x5, hw''⟩ := hw'
            subst hw''
            go_wp2_with fail
            go_ret
            exact ⟨ret_bool (by rw [HR.out]; first | rfl | simp), FIN.out x5⟩
          | true =>
            refine wp_region_ext_plain ?_
            repeat (go_big_quiet_step ((rename_i x5; have h5 := x5.low; first
              | (go_at_call 52; first | (with_reducible exact ext_of_same x5 (C1.out x5.wd)) | (with_reducible exact ext_of_same x5 (C2.out x5.wd))))))
            refine wpQuiet_nil ?_
            intro _ hw'
            obtain ⟨x5, hw''⟩ := hw'
            subst hw''
            go_wp2_with fail
            go_ret
            exact ⟨ret_bool (by rw [HR.out]; first | rfl | simp), FIN.out x5⟩
end Go.Proofs.YtglkgmijhdkhpaaDoor
