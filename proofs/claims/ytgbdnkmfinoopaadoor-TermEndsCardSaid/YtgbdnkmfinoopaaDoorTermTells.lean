/-
  TermTells: whatever the meta, the ends, the numbers: true; the input stays. Condition: errors.errorType holds its value.
-/
import Derived.Test.YtgbdnkmfinoopaaDoorTermAwake
import Derived.Test.YtgbdnkmfinoopaaDoorTermRef2
import Derived.Test.YtgbdnkmfinoopaaDoorTermAgain
import Derived.Deep.RegionHeld3
set_option linter.unusedVariables false
namespace Go.Proofs.YtgbdnkmfinoopaaDoor
open Go.RowKit

theorem s15_later {W w w' : World} {a1 a2 a3 a4 a5 a6 a7 a8 a9 a10 a11 a12 a13 a14 a15 : Addr} {v1 v2 v3 v4 v5 v6 v7 v8 v9 v10 v11 v12 v13 v14 v15 : Value}
    (h : w.cell? a1 = some v1 ∧ w.cell? a2 = some v2 ∧ w.cell? a3 = some v3 ∧ w.cell? a4 = some v4 ∧ w.cell? a5 = some v5 ∧ w.cell? a6 = some v6 ∧ w.cell? a7 = some v7 ∧ w.cell? a8 = some v8 ∧ w.cell? a9 = some v9 ∧ w.cell? a10 = some v10 ∧ w.cell? a11 = some v11 ∧ w.cell? a12 = some v12 ∧ w.cell? a13 = some v13 ∧ w.cell? a14 = some v14 ∧ w.cell? a15 = some v15 ∧ Below W.heap.size W w) (hb : Below w.heap.size w w') :
    w'.cell? a1 = some v1 ∧ w'.cell? a2 = some v2 ∧ w'.cell? a3 = some v3 ∧ w'.cell? a4 = some v4 ∧ w'.cell? a5 = some v5 ∧ w'.cell? a6 = some v6 ∧ w'.cell? a7 = some v7 ∧ w'.cell? a8 = some v8 ∧ w'.cell? a9 = some v9 ∧ w'.cell? a10 = some v10 ∧ w'.cell? a11 = some v11 ∧ w'.cell? a12 = some v12 ∧ w'.cell? a13 = some v13 ∧ w'.cell? a14 = some v14 ∧ w'.cell? a15 = some v15 ∧ Below W.heap.size W w' := by
  obtain ⟨h1, h2, h3, h4, h5, h6, h7, h8, h9, h10, h11, h12, h13, h14, h15, h16⟩ := h
  exact ⟨cell_later hb h1, cell_later hb h2, cell_later hb h3, cell_later hb h4, cell_later hb h5, cell_later hb h6, cell_later hb h7, cell_later hb h8, cell_later hb h9, cell_later hb h10, cell_later hb h11, cell_later hb h12, cell_later hb h13, cell_later hb h14, cell_later hb h15, below_call h16 hb⟩
theorem s15_below {W w : World} {a1 a2 a3 a4 a5 a6 a7 a8 a9 a10 a11 a12 a13 a14 a15 : Addr} {v1 v2 v3 v4 v5 v6 v7 v8 v9 v10 v11 v12 v13 v14 v15 : Value}
    (h : w.cell? a1 = some v1 ∧ w.cell? a2 = some v2 ∧ w.cell? a3 = some v3 ∧ w.cell? a4 = some v4 ∧ w.cell? a5 = some v5 ∧ w.cell? a6 = some v6 ∧ w.cell? a7 = some v7 ∧ w.cell? a8 = some v8 ∧ w.cell? a9 = some v9 ∧ w.cell? a10 = some v10 ∧ w.cell? a11 = some v11 ∧ w.cell? a12 = some v12 ∧ w.cell? a13 = some v13 ∧ w.cell? a14 = some v14 ∧ w.cell? a15 = some v15 ∧ Below W.heap.size W w) : Below W.heap.size W w := by
  obtain ⟨h1, h2, h3, h4, h5, h6, h7, h8, h9, h10, h11, h12, h13, h14, h15, h16⟩ := h
  exact h16

set_option maxRecDepth 100000 in
set_option maxHeartbeats 4000000 in
theorem tells_walk (m a c s : Met) (yes r : Bool) (f : Int) (own last : Idt) (frm at_ : Int) (w : World) (hG : errTypeIs w) (H1 : Hid (grantM m own frm at_ last = (a, yes))) (H2 : Hid (startM m frm = (c, f))) (HS : Hid (seeM m at_ = s)) (HR : Hid (metRight m = r)) :
    Calls Tryd.prog 4 #[.agg #[.int .i64 m.ver, .int .i64 m.trm, .int .i64 m.vot], .agg #[.int .i64 own.idx, .int .i64 own.trm, .int .i64 own.knd], .agg #[.int .i64 last.idx, .int .i64 last.trm, .int .i64 last.knd], .int .i64 frm, .int .i64 at_] w fun e w' => e = .returned (.bool true) ∧ Below w.heap.size w w' := by
  have HG := Lib.hid hG
  clear hG
  go_enter Tryd.func4, Tryd.ntmps4
  go_wp2_with fail
  refine (tGrant m own frm at_ last _ ?_).mono ?_
  · exact errType_later (errType_later (errType_later HG.out (below_new _ _)) (below_new _ _)) (below_new _ _)
  rintro e w1 ⟨rfl, hb⟩
  rw [H1.out]
  obtain ⟨p1, p2, p3, P⟩ := boxes3 #[.int .i64 m.ver, .int .i64 m.trm, .int .i64 m.vot] #[.int .i64 own.idx, .int .i64 own.trm, .int .i64 own.knd] #[.int .i64 last.idx, .int .i64 last.trm, .int .i64 last.knd] 23 26 26 hb
  clear hb
  obtain ⟨kp1, -, zp1⟩ := p1.facts
  obtain ⟨kp2, -, zp2⟩ := p2.facts
  obtain ⟨kp3, -, zp3⟩ := p3.facts
  go_wp2_with fail
  have p1 := p1.alloc (.cells #[.int .i64 a.ver, .int .i64 a.trm, .int .i64 a.vot] 23)
  have p2 := p2.alloc (.cells #[.int .i64 a.ver, .int .i64 a.trm, .int .i64 a.vot] 23)
  have p3 := p3.alloc (.cells #[.int .i64 a.ver, .int .i64 a.trm, .int .i64 a.vot] 23)
  have p4 := Box.new w1 #[.int .i64 a.ver, .int .i64 a.trm, .int .i64 a.vot] 23
  have P := below_call P (below_new w1 (.cells #[.int .i64 a.ver, .int .i64 a.trm, .int .i64 a.vot] 23))
  refine (rGrant m own last frm at_ _).mono ?_
  rintro e w2 ⟨rfl, hb⟩
  rw [H1.out]
  have p1 := p1.later hb
  have p2 := p2.later hb
  have p3 := p3.later hb
  have p4 := p4.later hb
  have P := below_call P hb
  clear hb kp1 zp1 kp2 zp2 kp3 zp3
  obtain ⟨kp1, -, zp1⟩ := p1.facts
  obtain ⟨kp2, -, zp2⟩ := p2.facts
  obtain ⟨kp3, -, zp3⟩ := p3.facts
  obtain ⟨kp4, -, zp4⟩ := p4.facts
  go_wp2_with fail
  have p1 := p1.alloc (.cells #[.int .i64 a.ver, .int .i64 a.trm, .int .i64 a.vot] 23)
  have p2 := p2.alloc (.cells #[.int .i64 a.ver, .int .i64 a.trm, .int .i64 a.vot] 23)
  have p3 := p3.alloc (.cells #[.int .i64 a.ver, .int .i64 a.trm, .int .i64 a.vot] 23)
  have p4 := p4.alloc (.cells #[.int .i64 a.ver, .int .i64 a.trm, .int .i64 a.vot] 23)
  have p5 := Box.new w2 #[.int .i64 a.ver, .int .i64 a.trm, .int .i64 a.vot] 23
  have P := below_call P (below_new w2 (.cells #[.int .i64 a.ver, .int .i64 a.trm, .int .i64 a.vot] 23))
  refine (tStart m frm _).mono ?_
  rintro e w3 ⟨rfl, hb⟩
  rw [H2.out]
  have p1 := p1.later hb
  have p2 := p2.later hb
  have p3 := p3.later hb
  have p4 := p4.later hb
  have p5 := p5.later hb
  have P := below_call P hb
  clear hb kp1 zp1 kp2 zp2 kp3 zp3 kp4 zp4
  obtain ⟨kp1, -, zp1⟩ := p1.facts
  obtain ⟨kp2, -, zp2⟩ := p2.facts
  obtain ⟨kp3, -, zp3⟩ := p3.facts
  obtain ⟨kp4, -, zp4⟩ := p4.facts
  obtain ⟨kp5, -, zp5⟩ := p5.facts
  go_wp2_with fail
  have p1 := p1.alloc (.cells #[.int .i64 c.ver, .int .i64 c.trm, .int .i64 c.vot] 23)
  have p2 := p2.alloc (.cells #[.int .i64 c.ver, .int .i64 c.trm, .int .i64 c.vot] 23)
  have p3 := p3.alloc (.cells #[.int .i64 c.ver, .int .i64 c.trm, .int .i64 c.vot] 23)
  have p4 := p4.alloc (.cells #[.int .i64 c.ver, .int .i64 c.trm, .int .i64 c.vot] 23)
  have p5 := p5.alloc (.cells #[.int .i64 c.ver, .int .i64 c.trm, .int .i64 c.vot] 23)
  have p6 := Box.new w3 #[.int .i64 c.ver, .int .i64 c.trm, .int .i64 c.vot] 23
  have P := below_call P (below_new w3 (.cells #[.int .i64 c.ver, .int .i64 c.trm, .int .i64 c.vot] 23))
  refine (rStart m frm _).mono ?_
  rintro e w4 ⟨rfl, hb⟩
  rw [H2.out]
  have p1 := p1.later hb
  have p2 := p2.later hb
  have p3 := p3.later hb
  have p4 := p4.later hb
  have p5 := p5.later hb
  have p6 := p6.later hb
  have P := below_call P hb
  clear hb kp1 zp1 kp2 zp2 kp3 zp3 kp4 zp4 kp5 zp5
  obtain ⟨kp1, -, zp1⟩ := p1.facts
  obtain ⟨kp2, -, zp2⟩ := p2.facts
  obtain ⟨kp3, -, zp3⟩ := p3.facts
  obtain ⟨kp4, -, zp4⟩ := p4.facts
  obtain ⟨kp5, -, zp5⟩ := p5.facts
  obtain ⟨kp6, -, zp6⟩ := p6.facts
  go_wp2_with fail
  have p1 := p1.alloc (.cells #[.int .i64 c.ver, .int .i64 c.trm, .int .i64 c.vot] 23)
  have p2 := p2.alloc (.cells #[.int .i64 c.ver, .int .i64 c.trm, .int .i64 c.vot] 23)
  have p3 := p3.alloc (.cells #[.int .i64 c.ver, .int .i64 c.trm, .int .i64 c.vot] 23)
  have p4 := p4.alloc (.cells #[.int .i64 c.ver, .int .i64 c.trm, .int .i64 c.vot] 23)
  have p5 := p5.alloc (.cells #[.int .i64 c.ver, .int .i64 c.trm, .int .i64 c.vot] 23)
  have p6 := p6.alloc (.cells #[.int .i64 c.ver, .int .i64 c.trm, .int .i64 c.vot] 23)
  have p7 := Box.new w4 #[.int .i64 c.ver, .int .i64 c.trm, .int .i64 c.vot] 23
  have P := below_call P (below_new w4 (.cells #[.int .i64 c.ver, .int .i64 c.trm, .int .i64 c.vot] 23))
  obtain ⟨WW, hWW⟩ : ∃ WW : World, WW = w4.alloc (.cells #[.int .i64 c.ver, .int .i64 c.trm, .int .i64 c.vot] 23) := ⟨_, rfl⟩
  clear kp1 zp1 kp2 zp2 kp3 zp3 kp4 zp4 kp5 zp5 kp6 zp6
  rw [← hWW] at P p1 p2 p3 p4 p5 p6 p7
  rw [← hWW]
  clear hWW
  apply join_normal (B := (fun w' => w'.cell? ⟨w.heap.size, 0, none⟩ = some (.int .i64 m.ver) ∧ w'.cell? ⟨w.heap.size, 1, none⟩ = some (.int .i64 m.trm) ∧ w'.cell? ⟨w.heap.size, 2, none⟩ = some (.int .i64 m.vot) ∧ w'.cell? ⟨w1.heap.size, 0, none⟩ = some (.int .i64 a.ver) ∧ w'.cell? ⟨w1.heap.size, 1, none⟩ = some (.int .i64 a.trm) ∧ w'.cell? ⟨w1.heap.size, 2, none⟩ = some (.int .i64 a.vot) ∧ w'.cell? ⟨w2.heap.size, 0, none⟩ = some (.int .i64 a.ver) ∧ w'.cell? ⟨w2.heap.size, 1, none⟩ = some (.int .i64 a.trm) ∧ w'.cell? ⟨w2.heap.size, 2, none⟩ = some (.int .i64 a.vot) ∧ w'.cell? ⟨w3.heap.size, 0, none⟩ = some (.int .i64 c.ver) ∧ w'.cell? ⟨w3.heap.size, 1, none⟩ = some (.int .i64 c.trm) ∧ w'.cell? ⟨w3.heap.size, 2, none⟩ = some (.int .i64 c.vot) ∧ w'.cell? ⟨w4.heap.size, 0, none⟩ = some (.int .i64 c.ver) ∧ w'.cell? ⟨w4.heap.size, 1, none⟩ = some (.int .i64 c.trm) ∧ w'.cell? ⟨w4.heap.size, 2, none⟩ = some (.int .i64 c.vot) ∧ Below WW.heap.size WW w'))
  case h =>
    first | go_region_held3 (fun w' => w'.cell? ⟨w.heap.size, 0, none⟩ = some (.int .i64 m.ver) ∧ w'.cell? ⟨w.heap.size, 1, none⟩ = some (.int .i64 m.trm) ∧ w'.cell? ⟨w.heap.size, 2, none⟩ = some (.int .i64 m.vot) ∧ w'.cell? ⟨w1.heap.size, 0, none⟩ = some (.int .i64 a.ver) ∧ w'.cell? ⟨w1.heap.size, 1, none⟩ = some (.int .i64 a.trm) ∧ w'.cell? ⟨w1.heap.size, 2, none⟩ = some (.int .i64 a.vot) ∧ w'.cell? ⟨w2.heap.size, 0, none⟩ = some (.int .i64 a.ver) ∧ w'.cell? ⟨w2.heap.size, 1, none⟩ = some (.int .i64 a.trm) ∧ w'.cell? ⟨w2.heap.size, 2, none⟩ = some (.int .i64 a.vot) ∧ w'.cell? ⟨w3.heap.size, 0, none⟩ = some (.int .i64 c.ver) ∧ w'.cell? ⟨w3.heap.size, 1, none⟩ = some (.int .i64 c.trm) ∧ w'.cell? ⟨w3.heap.size, 2, none⟩ = some (.int .i64 c.vot) ∧ w'.cell? ⟨w4.heap.size, 0, none⟩ = some (.int .i64 c.ver) ∧ w'.cell? ⟨w4.heap.size, 1, none⟩ = some (.int .i64 c.trm) ∧ w'.cell? ⟨w4.heap.size, 2, none⟩ = some (.int .i64 c.vot) ∧ Below WW.heap.size WW w') (first | exact ⟨p1.cell 0, p1.cell 1, p1.cell 2, p4.cell 0, p4.cell 1, p4.cell 2, p5.cell 0, p5.cell 1, p5.cell 2, p6.cell 0, p6.cell 1, p6.cell 2, p7.cell 0, p7.cell 1, p7.cell 2, (Below.refl _ _).drew⟩ | assumption | exact s15_later (by assumption) (by assumption) | exact s15_later (by assumption) (Below.refl _ _).drew) (first | (go_at_call 13; refine (tRight m _).mono ?_; rintro e w' ⟨rfl, hb⟩; rw [HR.out]) | (go_at_call 14; refine (rRight m _).mono ?_; rintro e w' ⟨rfl, hb⟩; rw [HR.out]) | (go_at_call 9; refine (tSee m at_ _).mono ?_; rintro e w' ⟨rfl, hb⟩; rw [HS.out]) | (go_at_call 15; refine (rSee m at_ _).mono ?_; rintro e w' ⟨rfl, hb⟩; rw [HS.out]) | (go_at_call 7; refine (tAwake _ (errType_later HG.out (below_call P (s15_below (by assumption))))).mono ?_; rintro e w' ⟨rfl, hb⟩)) | fail
    all_goals exact ⟨rfl, rfl, by assumption⟩
  rintro wz hH
  have hB := s15_below hH
  clear hH
  have P := below_call P hB
  clear hB
  go_wp2_with fail
  exact bodyPost_ret (v := .bool true) (by simp [results, Tryd.results4, go_sem]) rfl ⟨rfl, P⟩
end Go.Proofs.YtgbdnkmfinoopaaDoor
