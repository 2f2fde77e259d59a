/-
  TermAgain: whatever the meta, the ends, the numbers: true; the input stays. Condition: errors.errorType holds its value (the row lays it).
-/
import Derived.Test.YtgbdnkmfinoopaaDoorTermAwake
import Derived.Test.YtgbdnkmfinoopaaDoorTermLaw
import Derived.Deep.RegionHeld3
import Derived.Deep.RegionWith
set_option linter.unusedVariables false
set_option linter.unusedSimpArgs false
namespace Go.Proofs.YtgbdnkmfinoopaaDoor
open Go.RowKit

theorem s9_later {W w w' : World} {a1 a2 a3 a4 a5 a6 a7 a8 a9 : Addr} {v1 v2 v3 v4 v5 v6 v7 v8 v9 : Value}
    (h : w.cell? a1 = some v1 ∧ w.cell? a2 = some v2 ∧ w.cell? a3 = some v3 ∧ w.cell? a4 = some v4 ∧ w.cell? a5 = some v5 ∧ w.cell? a6 = some v6 ∧ w.cell? a7 = some v7 ∧ w.cell? a8 = some v8 ∧ w.cell? a9 = some v9 ∧ Below W.heap.size W w) (hb : Below w.heap.size w w') :
    w'.cell? a1 = some v1 ∧ w'.cell? a2 = some v2 ∧ w'.cell? a3 = some v3 ∧ w'.cell? a4 = some v4 ∧ w'.cell? a5 = some v5 ∧ w'.cell? a6 = some v6 ∧ w'.cell? a7 = some v7 ∧ w'.cell? a8 = some v8 ∧ w'.cell? a9 = some v9 ∧ Below W.heap.size W w' := by
  obtain ⟨h1, h2, h3, h4, h5, h6, h7, h8, h9, h10⟩ := h
  exact ⟨cell_later hb h1, cell_later hb h2, cell_later hb h3, cell_later hb h4, cell_later hb h5, cell_later hb h6, cell_later hb h7, cell_later hb h8, cell_later hb h9, below_call h10 hb⟩

/-- Many ways into one: the state behind them is the same. -/
theorem join_normal {P : Program} {c : Code} {Q : Exit → Act → World → Prop} {a : Act} {w : World} {B : World → Prop} {A : Act} (h : c.wp P (fun e a' w' => e = .normal ∧ a' = A ∧ B w') a w) (k : ∀ w', B w' → Q .normal A w') : c.wp P Q a w :=
  Code.wp_mono (fun e a' w' ⟨he, ha, hb⟩ => by subst he ha; exact k w' hb) h

set_option maxRecDepth 100000 in
set_option maxHeartbeats 4000000 in
theorem again_yes (m a s : Met) (y : Bool) (own last : Idt) (frm at_ other : Int) (w : World) (hG : errTypeIs w) (H1 : Hid (grantM m own frm at_ last = (a, true))) (L1 : Hid (grantM a own frm at_ last = (a, true))) (HS : Hid (seeM m at_ = s)) (L2 : Hid (seeM s at_ = s)) (HC : Hid (grantM a own other at_ last = (a, y))) (L3 : Hid (seeM a at_ = a)) (HQ : Hid ((other == frm) = true ∨ ((other == frm) = false ∧ y = false))) :
    Calls Tryd.prog 3 #[.agg #[.int .i64 m.ver, .int .i64 m.trm, .int .i64 m.vot], .agg #[.int .i64 own.idx, .int .i64 own.trm, .int .i64 own.knd], .agg #[.int .i64 last.idx, .int .i64 last.trm, .int .i64 last.knd], .int .i64 frm, .int .i64 at_, .int .i64 other] w fun e w' => e = .returned (.bool true) ∧ Below w.heap.size w w' := by
  have HG := Lib.hid hG
  clear hG
  go_enter Tryd.func3, Tryd.ntmps3
  go_wp2_with fail
  refine (tAwake _ ?_).mono ?_
  · exact errType_later (errType_later (errType_later HG.out (below_new _ _)) (below_new _ _)) (below_new _ _)
  rintro e w1 ⟨rfl, hb⟩
  obtain ⟨p1, p2, p3, P⟩ := boxes3 #[.int .i64 m.ver, .int .i64 m.trm, .int .i64 m.vot] #[.int .i64 own.idx, .int .i64 own.trm, .int .i64 own.knd] #[.int .i64 last.idx, .int .i64 last.trm, .int .i64 last.knd] 23 26 26 hb
  clear hb
  obtain ⟨kp1, -, zp1⟩ := p1.facts
  obtain ⟨kp2, -, zp2⟩ := p2.facts
  obtain ⟨kp3, -, zp3⟩ := p3.facts
  go_wp2_with fail
  refine (tGrant m own frm at_ last _ (errType_later HG.out P)).mono ?_
  rintro e w2 ⟨rfl, hb⟩
  rw [H1.out]
  have p1 := p1.later hb
  have p2 := p2.later hb
  have p3 := p3.later hb
  have P := below_call P hb
  clear hb kp1 zp1 kp2 zp2 kp3 zp3
  obtain ⟨kp1, -, zp1⟩ := p1.facts
  obtain ⟨kp2, -, zp2⟩ := p2.facts
  obtain ⟨kp3, -, zp3⟩ := p3.facts
  go_wp2_with fail
  have p1 := p1.alloc (.cells #[.int .i64 a.ver, .int .i64 a.trm, .int .i64 a.vot] 23)
  have p2 := p2.alloc (.cells #[.int .i64 a.ver, .int .i64 a.trm, .int .i64 a.vot] 23)
  have p3 := p3.alloc (.cells #[.int .i64 a.ver, .int .i64 a.trm, .int .i64 a.vot] 23)
  have p4 := Box.new w2 #[.int .i64 a.ver, .int .i64 a.trm, .int .i64 a.vot] 23
  have P := below_call P (below_new w2 (.cells #[.int .i64 a.ver, .int .i64 a.trm, .int .i64 a.vot] 23))
  refine (tGrant a own frm at_ last _ (errType_later HG.out P)).mono ?_
  rintro e w3 ⟨rfl, hb⟩
  rw [L1.out]
  have p1 := p1.later hb
  have p2 := p2.later hb
  have p3 := p3.later hb
  have p4 := p4.later hb
  have P := below_call P hb
  clear hb kp1 zp1 kp2 zp2 kp3 zp3
  obtain ⟨kp1, -, zp1⟩ := p1.facts
  obtain ⟨kp2, -, zp2⟩ := p2.facts
  obtain ⟨kp3, -, zp3⟩ := p3.facts
  obtain ⟨kp4, -, zp4⟩ := p4.facts
  go_wp2_with fail
  have p1 := p1.alloc (.cells #[.int .i64 a.ver, .int .i64 a.trm, .int .i64 a.vot] 23)
  have p2 := p2.alloc (.cells #[.int .i64 a.ver, .int .i64 a.trm, .int .i64 a.vot] 23)
  have p3 := p3.alloc (.cells #[.int .i64 a.ver, .int .i64 a.trm, .int .i64 a.vot] 23)
  have p4 := p4.alloc (.cells #[.int .i64 a.ver, .int .i64 a.trm, .int .i64 a.vot] 23)
  have p5 := Box.new w3 #[.int .i64 a.ver, .int .i64 a.trm, .int .i64 a.vot] 23
  have P := below_call P (below_new w3 (.cells #[.int .i64 a.ver, .int .i64 a.trm, .int .i64 a.vot] 23))
  refine (tSee m at_ _).mono ?_
  rintro e w4 ⟨rfl, hb⟩
  rw [HS.out]
  have p1 := p1.later hb
  have p2 := p2.later hb
  have p3 := p3.later hb
  have p4 := p4.later hb
  have p5 := p5.later hb
  have P := below_call P hb
  clear hb kp1 zp1 kp2 zp2 kp3 zp3 kp4 zp4
  obtain ⟨kp1, -, zp1⟩ := p1.facts
  obtain ⟨kp2, -, zp2⟩ := p2.facts
  obtain ⟨kp3, -, zp3⟩ := p3.facts
  obtain ⟨kp4, -, zp4⟩ := p4.facts
  obtain ⟨kp5, -, zp5⟩ := p5.facts
  go_wp2_with fail
  have p1 := p1.alloc (.cells #[.int .i64 s.ver, .int .i64 s.trm, .int .i64 s.vot] 23)
  have p2 := p2.alloc (.cells #[.int .i64 s.ver, .int .i64 s.trm, .int .i64 s.vot] 23)
  have p3 := p3.alloc (.cells #[.int .i64 s.ver, .int .i64 s.trm, .int .i64 s.vot] 23)
  have p4 := p4.alloc (.cells #[.int .i64 s.ver, .int .i64 s.trm, .int .i64 s.vot] 23)
  have p5 := p5.alloc (.cells #[.int .i64 s.ver, .int .i64 s.trm, .int .i64 s.vot] 23)
  have p6 := Box.new w4 #[.int .i64 s.ver, .int .i64 s.trm, .int .i64 s.vot] 23
  have P := below_call P (below_new w4 (.cells #[.int .i64 s.ver, .int .i64 s.trm, .int .i64 s.vot] 23))
  refine (tGrant a own other at_ last _ (errType_later HG.out P)).mono ?_
  rintro e w5 ⟨rfl, hb⟩
  rw [HC.out]
  have p1 := p1.later hb
  have p2 := p2.later hb
  have p3 := p3.later hb
  have p4 := p4.later hb
  have p5 := p5.later hb
  have p6 := p6.later hb
  have P := below_call P hb
  clear hb kp1 zp1 kp2 zp2 kp3 zp3 kp4 zp4 kp5 zp5
  obtain ⟨kp1, -, zp1⟩ := p1.facts
  obtain ⟨kp2, -, zp2⟩ := p2.facts
  obtain ⟨kp3, -, zp3⟩ := p3.facts
  obtain ⟨kp4, -, zp4⟩ := p4.facts
  obtain ⟨kp5, -, zp5⟩ := p5.facts
  obtain ⟨kp6, -, zp6⟩ := p6.facts
  go_wp2_with fail
  have p1 := p1.alloc (.cells #[.int .i64 a.ver, .int .i64 a.trm, .int .i64 a.vot] 23)
  have p2 := p2.alloc (.cells #[.int .i64 a.ver, .int .i64 a.trm, .int .i64 a.vot] 23)
  have p3 := p3.alloc (.cells #[.int .i64 a.ver, .int .i64 a.trm, .int .i64 a.vot] 23)
  have p4 := p4.alloc (.cells #[.int .i64 a.ver, .int .i64 a.trm, .int .i64 a.vot] 23)
  have p5 := p5.alloc (.cells #[.int .i64 a.ver, .int .i64 a.trm, .int .i64 a.vot] 23)
  have p6 := p6.alloc (.cells #[.int .i64 a.ver, .int .i64 a.trm, .int .i64 a.vot] 23)
  have p7 := Box.new w5 #[.int .i64 a.ver, .int .i64 a.trm, .int .i64 a.vot] 23
  have P := below_call P (below_new w5 (.cells #[.int .i64 a.ver, .int .i64 a.trm, .int .i64 a.vot] 23))
  obtain ⟨WW, hWW⟩ : ∃ WW : World, WW = w5.alloc (.cells #[.int .i64 a.ver, .int .i64 a.trm, .int .i64 a.vot] 23) := ⟨_, rfl⟩
  clear kp1 zp1 kp2 zp2 kp3 zp3 kp4 zp4 kp5 zp5 kp6 zp6
  rw [← hWW] at P p1 p2 p3 p4 p5 p6 p7
  rw [← hWW]
  clear hWW
  first | go_region_held3 (fun w' => w'.cell? ⟨w2.heap.size, 0, none⟩ = some (.int .i64 a.ver) ∧ w'.cell? ⟨w2.heap.size, 1, none⟩ = some (.int .i64 a.trm) ∧ w'.cell? ⟨w2.heap.size, 2, none⟩ = some (.int .i64 a.vot) ∧ w'.cell? ⟨w3.heap.size, 0, none⟩ = some (.int .i64 a.ver) ∧ w'.cell? ⟨w3.heap.size, 1, none⟩ = some (.int .i64 a.trm) ∧ w'.cell? ⟨w3.heap.size, 2, none⟩ = some (.int .i64 a.vot) ∧ w'.cell? ⟨w4.heap.size, 0, none⟩ = some (.int .i64 s.ver) ∧ w'.cell? ⟨w4.heap.size, 1, none⟩ = some (.int .i64 s.trm) ∧ w'.cell? ⟨w4.heap.size, 2, none⟩ = some (.int .i64 s.vot) ∧ Below WW.heap.size WW w') (first | exact ⟨p4.cell 0, p4.cell 1, p4.cell 2, p5.cell 0, p5.cell 1, p5.cell 2, p6.cell 0, p6.cell 1, p6.cell 2, (Below.refl _ _).drew⟩ | assumption | exact s9_later (by assumption) (by assumption) | exact s9_later (by assumption) (Below.refl _ _).drew) (first | (go_at_call_of 9 (Value.agg #[.int .i64 s.ver, .int .i64 s.trm, .int .i64 s.vot] : Value); refine (tSee s at_ _).mono ?_; rintro e w' ⟨rfl, hb⟩; rw [L2.out]) | (go_at_call_of 9 (Value.agg #[.int .i64 a.ver, .int .i64 a.trm, .int .i64 a.vot] : Value); refine (tSee a at_ _).mono ?_; rintro e w' ⟨rfl, hb⟩; rw [L3.out])) | fail
  rename_i hH
  obtain ⟨-, -, -, -, -, -, -, -, -, hB⟩ := hH
  have p1 := p1.later hB
  have p2 := p2.later hB
  have p3 := p3.later hB
  have p4 := p4.later hB
  have p5 := p5.later hB
  have p6 := p6.later hB
  have p7 := p7.later hB
  have P := below_call P hB
  clear hB hb
  obtain ⟨kp2, -, zp2⟩ := p2.facts
  obtain ⟨kp3, -, zp3⟩ := p3.facts
  obtain ⟨kp7, -, zp7⟩ := p7.facts
  obtain ⟨kp4, -, zp4⟩ := p4.facts
  go_wp2_with fail
  refine (tGrant a own frm at_ last _ (errType_later HG.out P)).mono ?_
  rintro e w8 ⟨rfl, hb⟩
  rw [L1.out]
  have p1 := p1.later hb
  have p2 := p2.later hb
  have p3 := p3.later hb
  have p4 := p4.later hb
  have p5 := p5.later hb
  have p6 := p6.later hb
  have p7 := p7.later hb
  have P := below_call P hb
  clear hb kp2 zp2 kp3 zp3 kp7 zp7 kp4 zp4
  obtain ⟨kp1, -, zp1⟩ := p1.facts
  obtain ⟨kp2, -, zp2⟩ := p2.facts
  obtain ⟨kp3, -, zp3⟩ := p3.facts
  obtain ⟨kp4, -, zp4⟩ := p4.facts
  obtain ⟨kp5, -, zp5⟩ := p5.facts
  obtain ⟨kp6, -, zp6⟩ := p6.facts
  obtain ⟨kp7, -, zp7⟩ := p7.facts
  go_wp2_with fail
  have p1 := p1.alloc (.cells #[.int .i64 a.ver, .int .i64 a.trm, .int .i64 a.vot] 23)
  have p2 := p2.alloc (.cells #[.int .i64 a.ver, .int .i64 a.trm, .int .i64 a.vot] 23)
  have p3 := p3.alloc (.cells #[.int .i64 a.ver, .int .i64 a.trm, .int .i64 a.vot] 23)
  have p4 := p4.alloc (.cells #[.int .i64 a.ver, .int .i64 a.trm, .int .i64 a.vot] 23)
  have p5 := p5.alloc (.cells #[.int .i64 a.ver, .int .i64 a.trm, .int .i64 a.vot] 23)
  have p6 := p6.alloc (.cells #[.int .i64 a.ver, .int .i64 a.trm, .int .i64 a.vot] 23)
  have p7 := p7.alloc (.cells #[.int .i64 a.ver, .int .i64 a.trm, .int .i64 a.vot] 23)
  have p8 := Box.new w8 #[.int .i64 a.ver, .int .i64 a.trm, .int .i64 a.vot] 23
  have P := below_call P (below_new w8 (.cells #[.int .i64 a.ver, .int .i64 a.trm, .int .i64 a.vot] 23))
  all_goals first
    | (exfalso; have hq := HQ.out; rename_i h1 h2; simp [h1, h2] at hq; done)
    | (refine bodyPost_ret (v := .bool true) (by simp [results, Tryd.results3, go_sem]) rfl ⟨rfl, ?_⟩; first | exact P | exact below_call P (below_new _ _))

set_option maxRecDepth 100000 in
set_option maxHeartbeats 4000000 in
theorem again_no (m a s c : Met) (y : Bool) (own last : Idt) (frm at_ other : Int) (w : World) (hG : errTypeIs w) (H1 : Hid (grantM m own frm at_ last = (a, false))) (L1 : Hid (grantM a own frm at_ last = (a, false))) (HS : Hid (seeM m at_ = s)) (L2 : Hid (seeM s at_ = s)) (HC : Hid (grantM a own other at_ last = (c, y))) :
    Calls Tryd.prog 3 #[.agg #[.int .i64 m.ver, .int .i64 m.trm, .int .i64 m.vot], .agg #[.int .i64 own.idx, .int .i64 own.trm, .int .i64 own.knd], .agg #[.int .i64 last.idx, .int .i64 last.trm, .int .i64 last.knd], .int .i64 frm, .int .i64 at_, .int .i64 other] w fun e w' => e = .returned (.bool true) ∧ Below w.heap.size w w' := by
  have HG := Lib.hid hG
  clear hG
  go_enter Tryd.func3, Tryd.ntmps3
  go_wp2_with fail
  refine (tAwake _ ?_).mono ?_
  · exact errType_later (errType_later (errType_later HG.out (below_new _ _)) (below_new _ _)) (below_new _ _)
  rintro e w1 ⟨rfl, hb⟩
  obtain ⟨p1, p2, p3, P⟩ := boxes3 #[.int .i64 m.ver, .int .i64 m.trm, .int .i64 m.vot] #[.int .i64 own.idx, .int .i64 own.trm, .int .i64 own.knd] #[.int .i64 last.idx, .int .i64 last.trm, .int .i64 last.knd] 23 26 26 hb
  clear hb
  obtain ⟨kp1, -, zp1⟩ := p1.facts
  obtain ⟨kp2, -, zp2⟩ := p2.facts
  obtain ⟨kp3, -, zp3⟩ := p3.facts
  go_wp2_with fail
  refine (tGrant m own frm at_ last _ (errType_later HG.out P)).mono ?_
  rintro e w2 ⟨rfl, hb⟩
  rw [H1.out]
  have p1 := p1.later hb
  have p2 := p2.later hb
  have p3 := p3.later hb
  have P := below_call P hb
  clear hb kp1 zp1 kp2 zp2 kp3 zp3
  obtain ⟨kp1, -, zp1⟩ := p1.facts
  obtain ⟨kp2, -, zp2⟩ := p2.facts
  obtain ⟨kp3, -, zp3⟩ := p3.facts
  go_wp2_with fail
  have p1 := p1.alloc (.cells #[.int .i64 a.ver, .int .i64 a.trm, .int .i64 a.vot] 23)
  have p2 := p2.alloc (.cells #[.int .i64 a.ver, .int .i64 a.trm, .int .i64 a.vot] 23)
  have p3 := p3.alloc (.cells #[.int .i64 a.ver, .int .i64 a.trm, .int .i64 a.vot] 23)
  have p4 := Box.new w2 #[.int .i64 a.ver, .int .i64 a.trm, .int .i64 a.vot] 23
  have P := below_call P (below_new w2 (.cells #[.int .i64 a.ver, .int .i64 a.trm, .int .i64 a.vot] 23))
  refine (tGrant a own frm at_ last _ (errType_later HG.out P)).mono ?_
  rintro e w3 ⟨rfl, hb⟩
  rw [L1.out]
  have p1 := p1.later hb
  have p2 := p2.later hb
  have p3 := p3.later hb
  have p4 := p4.later hb
  have P := below_call P hb
  clear hb kp1 zp1 kp2 zp2 kp3 zp3
  obtain ⟨kp1, -, zp1⟩ := p1.facts
  obtain ⟨kp2, -, zp2⟩ := p2.facts
  obtain ⟨kp3, -, zp3⟩ := p3.facts
  obtain ⟨kp4, -, zp4⟩ := p4.facts
  go_wp2_with fail
  have p1 := p1.alloc (.cells #[.int .i64 a.ver, .int .i64 a.trm, .int .i64 a.vot] 23)
  have p2 := p2.alloc (.cells #[.int .i64 a.ver, .int .i64 a.trm, .int .i64 a.vot] 23)
  have p3 := p3.alloc (.cells #[.int .i64 a.ver, .int .i64 a.trm, .int .i64 a.vot] 23)
  have p4 := p4.alloc (.cells #[.int .i64 a.ver, .int .i64 a.trm, .int .i64 a.vot] 23)
  have p5 := Box.new w3 #[.int .i64 a.ver, .int .i64 a.trm, .int .i64 a.vot] 23
  have P := below_call P (below_new w3 (.cells #[.int .i64 a.ver, .int .i64 a.trm, .int .i64 a.vot] 23))
  refine (tSee m at_ _).mono ?_
  rintro e w4 ⟨rfl, hb⟩
  rw [HS.out]
  have p1 := p1.later hb
  have p2 := p2.later hb
  have p3 := p3.later hb
  have p4 := p4.later hb
  have p5 := p5.later hb
  have P := below_call P hb
  clear hb kp1 zp1 kp2 zp2 kp3 zp3 kp4 zp4
  obtain ⟨kp1, -, zp1⟩ := p1.facts
  obtain ⟨kp2, -, zp2⟩ := p2.facts
  obtain ⟨kp3, -, zp3⟩ := p3.facts
  obtain ⟨kp4, -, zp4⟩ := p4.facts
  obtain ⟨kp5, -, zp5⟩ := p5.facts
  go_wp2_with fail
  have p1 := p1.alloc (.cells #[.int .i64 s.ver, .int .i64 s.trm, .int .i64 s.vot] 23)
  have p2 := p2.alloc (.cells #[.int .i64 s.ver, .int .i64 s.trm, .int .i64 s.vot] 23)
  have p3 := p3.alloc (.cells #[.int .i64 s.ver, .int .i64 s.trm, .int .i64 s.vot] 23)
  have p4 := p4.alloc (.cells #[.int .i64 s.ver, .int .i64 s.trm, .int .i64 s.vot] 23)
  have p5 := p5.alloc (.cells #[.int .i64 s.ver, .int .i64 s.trm, .int .i64 s.vot] 23)
  have p6 := Box.new w4 #[.int .i64 s.ver, .int .i64 s.trm, .int .i64 s.vot] 23
  have P := below_call P (below_new w4 (.cells #[.int .i64 s.ver, .int .i64 s.trm, .int .i64 s.vot] 23))
  refine (tGrant a own other at_ last _ (errType_later HG.out P)).mono ?_
  rintro e w5 ⟨rfl, hb⟩
  rw [HC.out]
  have p1 := p1.later hb
  have p2 := p2.later hb
  have p3 := p3.later hb
  have p4 := p4.later hb
  have p5 := p5.later hb
  have p6 := p6.later hb
  have P := below_call P hb
  clear hb kp1 zp1 kp2 zp2 kp3 zp3 kp4 zp4 kp5 zp5
  obtain ⟨kp1, -, zp1⟩ := p1.facts
  obtain ⟨kp2, -, zp2⟩ := p2.facts
  obtain ⟨kp3, -, zp3⟩ := p3.facts
  obtain ⟨kp4, -, zp4⟩ := p4.facts
  obtain ⟨kp5, -, zp5⟩ := p5.facts
  obtain ⟨kp6, -, zp6⟩ := p6.facts
  go_wp2_with fail
  have p1 := p1.alloc (.cells #[.int .i64 c.ver, .int .i64 c.trm, .int .i64 c.vot] 23)
  have p2 := p2.alloc (.cells #[.int .i64 c.ver, .int .i64 c.trm, .int .i64 c.vot] 23)
  have p3 := p3.alloc (.cells #[.int .i64 c.ver, .int .i64 c.trm, .int .i64 c.vot] 23)
  have p4 := p4.alloc (.cells #[.int .i64 c.ver, .int .i64 c.trm, .int .i64 c.vot] 23)
  have p5 := p5.alloc (.cells #[.int .i64 c.ver, .int .i64 c.trm, .int .i64 c.vot] 23)
  have p6 := p6.alloc (.cells #[.int .i64 c.ver, .int .i64 c.trm, .int .i64 c.vot] 23)
  have p7 := Box.new w5 #[.int .i64 c.ver, .int .i64 c.trm, .int .i64 c.vot] 23
  have P := below_call P (below_new w5 (.cells #[.int .i64 c.ver, .int .i64 c.trm, .int .i64 c.vot] 23))
  obtain ⟨WW, hWW⟩ : ∃ WW : World, WW = w5.alloc (.cells #[.int .i64 c.ver, .int .i64 c.trm, .int .i64 c.vot] 23) := ⟨_, rfl⟩
  clear kp1 zp1 kp2 zp2 kp3 zp3 kp4 zp4 kp5 zp5 kp6 zp6
  rw [← hWW] at P p1 p2 p3 p4 p5 p6 p7
  rw [← hWW]
  clear hWW
  refine wp_region_held_drew (S := (fun w' => w'.cell? ⟨w2.heap.size, 0, none⟩ = some (.int .i64 a.ver) ∧ w'.cell? ⟨w2.heap.size, 1, none⟩ = some (.int .i64 a.trm) ∧ w'.cell? ⟨w2.heap.size, 2, none⟩ = some (.int .i64 a.vot) ∧ w'.cell? ⟨w3.heap.size, 0, none⟩ = some (.int .i64 a.ver) ∧ w'.cell? ⟨w3.heap.size, 1, none⟩ = some (.int .i64 a.trm) ∧ w'.cell? ⟨w3.heap.size, 2, none⟩ = some (.int .i64 a.vot) ∧ w'.cell? ⟨w4.heap.size, 0, none⟩ = some (.int .i64 s.ver) ∧ w'.cell? ⟨w4.heap.size, 1, none⟩ = some (.int .i64 s.trm) ∧ w'.cell? ⟨w4.heap.size, 2, none⟩ = some (.int .i64 s.vot) ∧ Below WW.heap.size WW w')) (by kernel_rfl) ⟨p4.cell 0, p4.cell 1, p4.cell 2, p5.cell 0, p5.cell 1, p5.cell 2, p6.cell 0, p6.cell 1, p6.cell 2, (Below.refl _ _).drew⟩ (fun hHeld => ?_)
  refine wpAnyH_take (i := 0) (v := .agg #[.int .i64 a.ver, .int .i64 a.trm, .int .i64 a.vot]) rfl (by kernel_rfl) (by kernel_rfl) (by kernel_rfl) (fun _ _ _ h => h) (Or.inl ⟨by rfl, by intro w hSw; go_split_ands; go_simp⟩) (by assumption) ?_
  try simp only [Act.put, List.setIfInBounds_toArray, List.set_cons_zero, List.set_cons_succ, List.getElem_toArray, List.getElem_cons_zero, List.getElem_cons_succ]
  refine wpAnyH_take (i := 1) (v := .agg #[.int .i64 a.ver, .int .i64 a.trm, .int .i64 a.vot]) rfl (by kernel_rfl) (by kernel_rfl) (by kernel_rfl) (fun _ _ _ h => h) (Or.inl ⟨by rfl, by intro w hSw; go_split_ands; go_simp⟩) (by assumption) ?_
  try simp only [Act.put, List.setIfInBounds_toArray, List.set_cons_zero, List.set_cons_succ, List.getElem_toArray, List.getElem_cons_zero, List.getElem_cons_succ]
  refine wpAnyH_take (i := 2) (v := .bool false) rfl (by kernel_rfl) (by kernel_rfl) (by kernel_rfl) (fun _ _ _ h => h) (Or.inl ⟨by rfl, by intro w hSw; go_split_ands; go_simp⟩) (by assumption) ?_
  try simp only [Act.put, List.setIfInBounds_toArray, List.set_cons_zero, List.set_cons_succ, List.getElem_toArray, List.getElem_cons_zero, List.getElem_cons_succ]
  refine wpAnyH_take (i := 3) (v := .bool false) rfl (by kernel_rfl) (by kernel_rfl) (by kernel_rfl) (fun _ _ _ h => h) (Or.inl ⟨by rfl, by intro w hSw; go_split_ands; go_simp⟩) (by assumption) ?_
  try simp only [Act.put, List.setIfInBounds_toArray, List.set_cons_zero, List.set_cons_succ, List.getElem_toArray, List.getElem_cons_zero, List.getElem_cons_succ]
  refine wpAnyH_take (i := 4) (v := .bool false) rfl (by kernel_rfl) (by kernel_rfl) (by kernel_rfl) (fun _ _ _ h => h) (Or.inl ⟨by rfl, by intro w hSw; go_split_ands; go_simp⟩) (by assumption) ?_
  try simp only [Act.put, List.setIfInBounds_toArray, List.set_cons_zero, List.set_cons_succ, List.getElem_toArray, List.getElem_cons_zero, List.getElem_cons_succ]
  refine wpAnyH_take (i := 5) (v := .bool false) rfl (by kernel_rfl) (by kernel_rfl) (by kernel_rfl) (fun _ _ _ h => h) (Or.inl ⟨by rfl, by intro w hSw; go_split_ands; go_simp⟩) (by assumption) ?_
  try simp only [Act.put, List.setIfInBounds_toArray, List.set_cons_zero, List.set_cons_succ, List.getElem_toArray, List.getElem_cons_zero, List.getElem_cons_succ]
  refine wpAnyH_take (i := 6) (v := .bool false) rfl (by kernel_rfl) (by kernel_rfl) (by kernel_rfl) (fun _ _ _ h => h) (Or.inl ⟨by rfl, by intro w hSw; go_split_ands; go_simp⟩) (by assumption) ?_
  try simp only [Act.put, List.setIfInBounds_toArray, List.set_cons_zero, List.set_cons_succ, List.getElem_toArray, List.getElem_cons_zero, List.getElem_cons_succ]
  refine wpAnyH_take (i := 7) (v := .bool false) rfl (by kernel_rfl) (by kernel_rfl) (by kernel_rfl) (fun _ _ _ h => h) (Or.inl ⟨by rfl, by intro w hSw; go_split_ands; go_simp⟩) (by assumption) ?_
  try simp only [Act.put, List.setIfInBounds_toArray, List.set_cons_zero, List.set_cons_succ, List.getElem_toArray, List.getElem_cons_zero, List.getElem_cons_succ]
  refine wpAnyH_take (i := 8) (v := .bool false) rfl (by kernel_rfl) (by kernel_rfl) (by kernel_rfl) (fun _ _ _ h => h) (Or.inl ⟨by rfl, by intro w hSw; go_split_ands; go_simp⟩) (by assumption) ?_
  try simp only [Act.put, List.setIfInBounds_toArray, List.set_cons_zero, List.set_cons_succ, List.getElem_toArray, List.getElem_cons_zero, List.getElem_cons_succ]
  refine wpAnyH_take (i := 9) (v := .agg #[.int .i64 s.ver, .int .i64 s.trm, .int .i64 s.vot]) rfl (by kernel_rfl) (by kernel_rfl) (by kernel_rfl) (fun _ _ _ h => h) (Or.inl ⟨by rfl, by intro w hSw; go_split_ands; go_simp⟩) (by assumption) ?_
  try simp only [Act.put, List.setIfInBounds_toArray, List.set_cons_zero, List.set_cons_succ, List.getElem_toArray, List.getElem_cons_zero, List.getElem_cons_succ]
  refine wpAnyH_take (i := 10) (v := .int .i64 at_) rfl (by kernel_rfl) (by kernel_rfl) (by kernel_rfl) (fun _ _ _ h => h) (Or.inl ⟨by rfl, by intro w hSw; go_split_ands; go_simp⟩) (by assumption) ?_
  try simp only [Act.put, List.setIfInBounds_toArray, List.set_cons_zero, List.set_cons_succ, List.getElem_toArray, List.getElem_cons_zero, List.getElem_cons_succ]
  refine wpAnyH_take (i := 12) (v := .agg #[.int .i64 s.ver, .int .i64 s.trm, .int .i64 s.vot]) rfl (by kernel_rfl) (by kernel_rfl) (by kernel_rfl) (fun _ _ _ h => h) (Or.inl ⟨by rfl, by intro w hSw; go_split_ands; go_simp⟩) (by assumption) ?_
  try simp only [Act.put, List.setIfInBounds_toArray, List.set_cons_zero, List.set_cons_succ, List.getElem_toArray, List.getElem_cons_zero, List.getElem_cons_succ]
  refine wpAnyH_ready (rs := [11]) (by kernel_rfl) (by simp) ?_
  refine AllReadyH.cons rfl (fun K hK => ?_) AllReadyH.nil
  go_simp
  go_at_call 9
  refine (tSee s at_ _).mono ?_
  rintro e w' ⟨rfl, hb⟩
  rw [L2.out]
  refine hK.out _ _ (s9_later hHeld hb) (fun hH => ?_)
  clear hK K hHeld
  try simp only [Act.put, List.setIfInBounds_toArray, List.set_cons_zero, List.set_cons_succ, List.getElem_toArray, List.getElem_cons_zero, List.getElem_cons_succ]
  refine wpAnyH_take (i := 13) (v := .bool false) rfl (by kernel_rfl) (by kernel_rfl) (by kernel_rfl) (fun _ _ _ h => h) (Or.inl ⟨by rfl, by intro w hSw; go_split_ands; go_simp⟩) (by assumption) ?_
  try simp only [Act.put, List.setIfInBounds_toArray, List.set_cons_zero, List.set_cons_succ, List.getElem_toArray, List.getElem_cons_zero, List.getElem_cons_succ]
  refine wpAnyH_take (i := 14) (v := .bool false) rfl (by kernel_rfl) (by kernel_rfl) (by kernel_rfl) (fun _ _ _ h => h) (Or.inl ⟨by rfl, by intro w hSw; go_split_ands; go_simp⟩) (by assumption) ?_
  try simp only [Act.put, List.setIfInBounds_toArray, List.set_cons_zero, List.set_cons_succ, List.getElem_toArray, List.getElem_cons_zero, List.getElem_cons_succ]
  refine wpAnyH_take (i := 15) (v := .bool false) rfl (by kernel_rfl) (by kernel_rfl) (by kernel_rfl) (fun _ _ _ h => h) (Or.inl ⟨by rfl, by intro w hSw; go_split_ands; go_simp⟩) (by assumption) ?_
  try simp only [Act.put, List.setIfInBounds_toArray, List.set_cons_zero, List.set_cons_succ, List.getElem_toArray, List.getElem_cons_zero, List.getElem_cons_succ]
  refine wpAnyH_take (i := 16) (v := .bool false) rfl (by kernel_rfl) (by kernel_rfl) (by kernel_rfl) (fun _ _ _ h => h) (Or.inl ⟨by rfl, by intro w hSw; go_split_ands; go_simp⟩) (by assumption) ?_
  try simp only [Act.put, List.setIfInBounds_toArray, List.set_cons_zero, List.set_cons_succ, List.getElem_toArray, List.getElem_cons_zero, List.getElem_cons_succ]
  refine wpAnyH_take (i := 17) (v := .bool false) rfl (by kernel_rfl) (by kernel_rfl) (by kernel_rfl) (fun _ _ _ h => h) (Or.inl ⟨by rfl, by intro w hSw; go_split_ands; go_simp⟩) (by assumption) ?_
  try simp only [Act.put, List.setIfInBounds_toArray, List.set_cons_zero, List.set_cons_succ, List.getElem_toArray, List.getElem_cons_zero, List.getElem_cons_succ]
  refine wpAnyH_take (i := 18) (v := undef) rfl (by kernel_rfl) (by kernel_rfl) (by kernel_rfl) (fun _ _ _ h => h) (Or.inr ⟨by rfl, rfl⟩) (by assumption) ?_
  try simp only [Act.put, List.setIfInBounds_toArray, List.set_cons_zero, List.set_cons_succ, List.getElem_toArray, List.getElem_cons_zero, List.getElem_cons_succ]
  refine wpAnyH_take (i := 19) (v := undef) rfl (by kernel_rfl) (by kernel_rfl) (by kernel_rfl) (fun _ _ _ h => h) (Or.inr ⟨by rfl, rfl⟩) (by assumption) ?_
  try simp only [Act.put, List.setIfInBounds_toArray, List.set_cons_zero, List.set_cons_succ, List.getElem_toArray, List.getElem_cons_zero, List.getElem_cons_succ]
  refine wpAnyH_take (i := 20) (v := undef) rfl (by kernel_rfl) (by kernel_rfl) (by kernel_rfl) (fun _ _ _ h => h) (Or.inr ⟨by rfl, rfl⟩) (by assumption) ?_
  try simp only [Act.put, List.setIfInBounds_toArray, List.set_cons_zero, List.set_cons_succ, List.getElem_toArray, List.getElem_cons_zero, List.getElem_cons_succ]
  refine wpAnyH_take (i := 21) (v := undef) rfl (by kernel_rfl) (by kernel_rfl) (by kernel_rfl) (fun _ _ _ h => h) (Or.inr ⟨by rfl, rfl⟩) (by assumption) ?_
  try simp only [Act.put, List.setIfInBounds_toArray, List.set_cons_zero, List.set_cons_succ, List.getElem_toArray, List.getElem_cons_zero, List.getElem_cons_succ]
  refine wpAnyH_take (i := 22) (v := undef) rfl (by kernel_rfl) (by kernel_rfl) (by kernel_rfl) (fun _ _ _ h => h) (Or.inr ⟨by rfl, rfl⟩) (by assumption) ?_
  try simp only [Act.put, List.setIfInBounds_toArray, List.set_cons_zero, List.set_cons_succ, List.getElem_toArray, List.getElem_cons_zero, List.getElem_cons_succ]
  refine wpAnyH_take (i := 23) (v := .bool false) rfl (by kernel_rfl) (by kernel_rfl) (by kernel_rfl) (fun _ _ _ h => h) (Or.inl ⟨by rfl, by intro w hSw; go_split_ands; go_simp⟩) (by assumption) ?_
  try simp only [Act.put, List.setIfInBounds_toArray, List.set_cons_zero, List.set_cons_succ, List.getElem_toArray, List.getElem_cons_zero, List.getElem_cons_succ]
  refine wpAnyH_take (i := 24) (v := .bool false) rfl (by kernel_rfl) (by kernel_rfl) (by kernel_rfl) (fun _ _ _ h => h) (Or.inl ⟨by rfl, by intro w hSw; go_split_ands; go_simp⟩) (by assumption) ?_
  try simp only [Act.put, List.setIfInBounds_toArray, List.set_cons_zero, List.set_cons_succ, List.getElem_toArray, List.getElem_cons_zero, List.getElem_cons_succ]
  refine wpAnyH_done (by kernel_rfl) ?_ _
  obtain ⟨-, -, -, -, -, -, -, -, -, hB⟩ := hH
  have p1 := p1.later hB
  have p2 := p2.later hB
  have p3 := p3.later hB
  have p4 := p4.later hB
  have p5 := p5.later hB
  have p6 := p6.later hB
  have p7 := p7.later hB
  have P := below_call P hB
  clear hB hb
  obtain ⟨kp2, -, zp2⟩ := p2.facts
  obtain ⟨kp3, -, zp3⟩ := p3.facts
  obtain ⟨kp7, -, zp7⟩ := p7.facts
  obtain ⟨kp4, -, zp4⟩ := p4.facts
  go_wp2_with fail
  obtain ⟨d, z, hd⟩ : ∃ d z, grantM c own frm at_ last = (d, z) := ⟨_, _, rfl⟩
  have HD := Lib.hid hd
  clear hd
  refine (tGrant c own frm at_ last _ (errType_later HG.out P)).mono ?_
  rintro e w8 ⟨rfl, hb⟩
  rw [HD.out]
  have p1 := p1.later hb
  have p2 := p2.later hb
  have p3 := p3.later hb
  have p4 := p4.later hb
  have p5 := p5.later hb
  have p6 := p6.later hb
  have p7 := p7.later hb
  have P := below_call P hb
  clear hb kp2 zp2 kp3 zp3 kp7 zp7 kp4 zp4
  obtain ⟨kp1, -, zp1⟩ := p1.facts
  obtain ⟨kp2, -, zp2⟩ := p2.facts
  obtain ⟨kp3, -, zp3⟩ := p3.facts
  obtain ⟨kp4, -, zp4⟩ := p4.facts
  obtain ⟨kp5, -, zp5⟩ := p5.facts
  obtain ⟨kp6, -, zp6⟩ := p6.facts
  obtain ⟨kp7, -, zp7⟩ := p7.facts
  go_wp2_with fail
  have p1 := p1.alloc (.cells #[.int .i64 d.ver, .int .i64 d.trm, .int .i64 d.vot] 23)
  have p2 := p2.alloc (.cells #[.int .i64 d.ver, .int .i64 d.trm, .int .i64 d.vot] 23)
  have p3 := p3.alloc (.cells #[.int .i64 d.ver, .int .i64 d.trm, .int .i64 d.vot] 23)
  have p4 := p4.alloc (.cells #[.int .i64 d.ver, .int .i64 d.trm, .int .i64 d.vot] 23)
  have p5 := p5.alloc (.cells #[.int .i64 d.ver, .int .i64 d.trm, .int .i64 d.vot] 23)
  have p6 := p6.alloc (.cells #[.int .i64 d.ver, .int .i64 d.trm, .int .i64 d.vot] 23)
  have p7 := p7.alloc (.cells #[.int .i64 d.ver, .int .i64 d.trm, .int .i64 d.vot] 23)
  have p8 := Box.new w8 #[.int .i64 d.ver, .int .i64 d.trm, .int .i64 d.vot] 23
  have P := below_call P (below_new w8 (.cells #[.int .i64 d.ver, .int .i64 d.trm, .int .i64 d.vot] 23))
  all_goals first
    | (refine bodyPost_ret (v := .bool true) (by simp [results, Tryd.results3, go_sem]) rfl ⟨rfl, ?_⟩; first | exact P | exact below_call P (below_new _ _))
end Go.Proofs.YtgbdnkmfinoopaaDoor
