/-
  AbstainTells: whatever the state, the numbers: true; the input stays. Condition: errors.errorType holds its value.
-/
import Derived.Test.YtaembglohjgkhaaDoorAbAwake
import Derived.Test.YtaembglohjgkhaaDoorClass
import Derived.Test.YtaembglohjgkhaaDoorExt
set_option linter.unusedVariables false
set_option linter.unusedSimpArgs false
namespace Go.Proofs.YtaembglohjgkhaaDoor
open Go.RowKit

theorem keptIntsB (l : List Int) (v v' : Value) (w : World) (h : Lnt 1 i64Row marks w.heap.size w v l) (h' : Sl 1 i64Row w.heap.size w v' l) (hn : l.length ≤ 1000000) :
    Calls Tryd.prog 19 #[v, v'] w fun e w' => e = .returned (.bool true) ∧ Below w.heap.size w w' :=
  (keptInts l v v' w h h' hn).mono fun _ _ ⟨he, hw⟩ => ⟨he, by obtain ⟨n, rfl⟩ := hw; exact below_drewN (Below.refl _ _) n⟩

theorem s4_later {W w w' : World} {a1 a2 a3 a4 : Addr} {v1 v2 v3 v4 : Value} (h : w.cell? a1 = some v1 ∧ w.cell? a2 = some v2 ∧ w.cell? a3 = some v3 ∧ w.cell? a4 = some v4 ∧ Below W.heap.size W w) (hb : Below w.heap.size w w') :
    w'.cell? a1 = some v1 ∧ w'.cell? a2 = some v2 ∧ w'.cell? a3 = some v3 ∧ w'.cell? a4 = some v4 ∧ Below W.heap.size W w' :=
  ⟨cell_later hb h.1, cell_later hb h.2.1, cell_later hb h.2.2.1, cell_later hb h.2.2.2.1, below_call h.2.2.2.2 hb⟩
theorem s4_below {W w : World} {a1 a2 a3 a4 : Addr} {v1 v2 v3 v4 : Value} (h : w.cell? a1 = some v1 ∧ w.cell? a2 = some v2 ∧ w.cell? a3 = some v3 ∧ w.cell? a4 = some v4 ∧ Below W.heap.size W w) : Below W.heap.size W w := h.2.2.2.2
section
variable {α : Type} {k : Nat} {row : α → List Value} {mks : List α} {B : Nat} {w : World} {l : List α}
theorem Lnt.lt {g n c : Nat} (h : Lnt k row mks B w (.slice (some ⟨g, 0, none⟩) n c) l) : g < B := by
  obtain ⟨g', cap, hv, _, _, h3, _⟩ := h
  simp only [Value.slice.injEq, Option.some.injEq, Addr.mk.injEq, and_true] at hv
  obtain ⟨rfl, -⟩ := hv; exact h3
theorem Lnt.set_far {g n c p i : Nat} {u : Value} (h : Lnt k row mks B w (.slice (some ⟨g, 0, none⟩) n c) l) (hne : p ≠ g) : Lnt k row mks B (w.setCell ⟨p, i, none⟩ u) (.slice (some ⟨g, 0, none⟩) n c) l := by
  obtain ⟨g', cap, hv, h1, h2, h3, h4⟩ := h
  have hg : g = g' := by simp only [Value.slice.injEq, Option.some.injEq, Addr.mk.injEq, and_true] at hv; exact hv.1
  refine ⟨g', cap, hv, h1, h2, h3, fun i' x hx j u' hu => ?_⟩
  rw [World.cell?_of_block (a := ⟨g', i' * k + j, none⟩) (w := w) (Below.heap_setCell w ⟨p, i, none⟩ u g' (fun e => hne (by simpa [hg] using e.symm)))]
  exact h4 i' x hx j u' hu
end

set_option maxHeartbeats 1000000 in
theorem tells_big (lost : Bool) (self : Int) (ms : List Int) (l : List Idt) (Am Ar : Option Addr) (cm cr : Nat) (upto from_ upt : Int) (w : World) (hG : errTypeIs w) (hbig : 500 < ms.length + l.length) (z1 : ms.length ≤ 140737488351232) (z2 : l.length ≤ 140737488351232) :
    Calls Tryd.prog 3 #[.agg #[.bool lost, .int .i64 self, .slice Am ms.length cm, .slice Ar l.length cr], .int .i64 upto, .int .i64 from_, .int .i64 upt] w fun e w' => e = .returned (.bool true) ∧ Below w.heap.size w w' := by
  have hb : (500 : Int) < (ms.length : Int) + (l.length : Int) := by omega
  have HG := Lib.hid hG
  clear hG
  go_enter Tryd.func3, Tryd.ntmps3
  go_wp2_with (go_at_call 6; refine (awake _ (errType_later HG.out (below_new _ _))).mono ?_; rintro e w' ⟨rfl, hb⟩)
  go_ret
  exact ⟨rfl, below_call (below_new _ _) (by assumption)⟩

set_option maxRecDepth 100000 in
set_option maxHeartbeats 4000000 in
theorem tells_go (lost : Bool) (self : Int) (ms : List Int) (l : List Idt) (Am Ar : Option Addr) (cm cr : Nat) (upto from_ upt : Int) (w : World) (hm : Sl 1 i64Row w.heap.size w (.slice Am ms.length cm) ms) (hl : Sl 3 idRow w.heap.size w (.slice Ar l.length cr) l) (hG : errTypeIs w) (hsm : ms.length + l.length ≤ 500) :
    Calls Tryd.prog 3 #[.agg #[.bool lost, .int .i64 self, .slice Am ms.length cm, .slice Ar l.length cr], .int .i64 upto, .int .i64 from_, .int .i64 upt] w fun e w' => e = .returned (.bool true) ∧ Below w.heap.size w w' := by
  have g0 : (ms.length : Int) + (l.length : Int) ≤ 500 := by omega
  have HG := Lib.hid hG
  have hm0 := hm.alloc (.cells #[.bool lost, .int .i64 self, .slice Am ms.length cm, .slice Ar l.length cr] 25)
  have hl0 := hl.alloc (.cells #[.bool lost, .int .i64 self, .slice Am ms.length cm, .slice Ar l.length cr] 25)
  have p0 := Box.new w #[.bool lost, .int .i64 self, .slice Am ms.length cm, .slice Ar l.length cr] 25
  have P : Below w.heap.size w (w.alloc (.cells #[.bool lost, .int .i64 self, .slice Am ms.length cm, .slice Ar l.length cr] 25)) := below_new _ _
  clear hG hm hl
  go_enter Tryd.func3, Tryd.ntmps3
  go_upto_region 3 with fail
  obtain ⟨W, hW⟩ : ∃ W : World, W = w.alloc (.cells #[.bool lost, .int .i64 self, .slice Am ms.length cm, .slice Ar l.length cr] 25) := ⟨_, rfl⟩
  rw [← hW] at hm0 hl0 p0 P
  rw [← hW]
  clear hW
  have HM := Lib.hid hm0
  have HL := Lib.hid hl0
  have HP := Lib.hid p0
  have HB := Lib.hid P
  have HF : Hid (∀ w', Below W.heap.size W w' → w'.cell? ⟨w.heap.size, 0, none⟩ = some (.bool lost) ∧ w'.cell? ⟨w.heap.size, 1, none⟩ = some (.int .i64 self) ∧ w'.cell? ⟨w.heap.size, 2, none⟩ = some (.slice Am ms.length cm) ∧ w'.cell? ⟨w.heap.size, 3, none⟩ = some (.slice Ar l.length cr) ∧ Below W.heap.size W w') :=
    fun w' q => ⟨cell_later q (p0.cell 0), cell_later q (p0.cell 1), cell_later q (p0.cell 2), cell_later q (p0.cell 3), q⟩
  clear hm0 hl0 p0 P
  go_cut [9] (fun p wx => ∃ gb gx cx gy cy, p = .pointer (some ⟨gb, 0, none⟩) ∧ Box wx gb #[.bool lost, .int .i64 self, .slice (some ⟨gx, 0, none⟩) ms.length cx, .slice (some ⟨gy, 0, none⟩) l.length cy] 25 ∧ Lnt 1 i64Row marks wx.heap.size wx (.slice (some ⟨gx, 0, none⟩) ms.length cx) ms ∧ Lnt 3 idRow marksI wx.heap.size wx (.slice (some ⟨gy, 0, none⟩) l.length cy) l ∧ Below W.heap.size W wx)
  case first =>
    go_region_held3 (fun w' => w'.cell? ⟨w.heap.size, 0, none⟩ = some (.bool lost) ∧ w'.cell? ⟨w.heap.size, 1, none⟩ = some (.int .i64 self) ∧ w'.cell? ⟨w.heap.size, 2, none⟩ = some (.slice Am ms.length cm) ∧ w'.cell? ⟨w.heap.size, 3, none⟩ = some (.slice Ar l.length cr) ∧ Below W.heap.size W w')
      (first | exact HF.out _ (Below.refl _ _).drew | exact s4_later (by assumption) (by assumption) | exact s4_later (by assumption) (below_new _ _) | exact s4_later (by assumption) (below_new _ _).drew | exact HF.out _ (P7.alloc P7.size _) | (refine HF.out _ ?_; (iterate 4 (refine below_set ?_ (by have := P6.size; omega))); exact P7))
      (first
        | (go_at_call 7; refine (lentIntsF ms _ _ (HM.out.later (s4_below (by assumption))) (by omega)).mono ?_; rintro e w6 ⟨gx, cx, rfl, fx, hx, hb6⟩; have P6 := below_call (s4_below (by assumption)) hb6; have lx := hx.lt; (try have bz := Box.later (w := (W.alloc (.cells #[.bool false, .int .i64 0, .slice none 0 0, .slice none 0 0] 25)).drew) (Box.new W #[.bool false, .int .i64 0, .slice none 0 0, .slice none 0 0] 25) hb6); (try obtain ⟨kz, fz, zz⟩ := bz.facts))
        | (go_at_call 8; refine (lentIdentsF l _ _ (HL.out.later (s4_below (by assumption))) (by omega)).mono ?_; rintro e w7 ⟨gy, cy, rfl, fy, hy, hb7⟩; have P7 := below_call (s4_below (by assumption)) hb7; (try clear kz fz zz); (first | (have bz := Box.later bz hb7) | (have bz := Box.later (Box.new w6 #[.bool false, .int .i64 0, .slice none 0 0, .slice none 0 0] 25) hb7) | skip); (try obtain ⟨kz, fz, zz⟩ := bz.facts)))
    all_goals (go_wp2_with fail; go_meet)
    · exact ⟨_, gx, cx, gy, cy, rfl, Box.new w7 _ _, (hx.later hb7).alloc _, hy.alloc _, P7.alloc P7.size _⟩
    · have s6 := hb6.size
      have s7 := hb7.size
      have s8 := P6.size
      (try simp at fx)
      (try simp at fy)
      (try simp at s6)
      (try simp at s7)
      have hx7 := (hx.alloc _).later hb7
      refine ⟨_, gx, cx, gy, cy, rfl, (((bz.set_ 0 _).set_ 1 _).set_ 2 _).set_ 3 _, ?_, ?_, ?_⟩
      · exact Lnt.more (((((hx7.set_far (by omega)).set_far (by omega)).set_far (by omega)).set_far (by omega))) (by simp)
      · exact Lnt.more (((((hy.set_far (by omega)).set_far (by omega)).set_far (by omega)).set_far (by omega))) (by simp)
      · exact below_set (below_set (below_set (below_set P7 (by omega)) (by omega)) (by omega)) (by omega)
    · have s6 := hb6.size
      have s7 := hb7.size
      have s8 := P6.size
      (try simp at fx)
      (try simp at fy)
      (try simp at s6)
      (try simp at s7)
      have hx7 := hx.later hb7
      refine ⟨_, gx, cx, gy, cy, rfl, (((bz.set_ 0 _).set_ 1 _).set_ 2 _).set_ 3 _, ?_, ?_, ?_⟩
      · exact Lnt.more (((((hx7.set_far (by omega)).set_far (by omega)).set_far (by omega)).set_far (by omega))) (by simp)
      · exact Lnt.more (((((hy.set_far (by omega)).set_far (by omega)).set_far (by omega)).set_far (by omega))) (by simp)
      · exact below_set (below_set (below_set (below_set P7 (by omega)) (by omega)) (by omega)) (by omega)
  case rest =>
    obtain ⟨gb, gx, cx, gy, cy, rfl, bx, hx, hy, hBc⟩ := hcut
    obtain ⟨s0, s1, s2, s3, -⟩ := HF.out _ hBc
    obtain ⟨kb, -, zb⟩ := bx.facts
    have z0 : w.heap.size < wc.heap.size := by have := HP.out.lt; have := hBc.size; omega
    have BX := Lib.hid (bx.alloc (.cells #[.bool lost, .int .i64 self, .slice Am ms.length cm, .slice Ar l.length cr] 29))
    have HX := Lib.hid (hx.alloc (.cells #[.bool lost, .int .i64 self, .slice Am ms.length cm, .slice Ar l.length cr] 29))
    have HY := Lib.hid (hy.alloc (.cells #[.bool lost, .int .i64 self, .slice Am ms.length cm, .slice Ar l.length cr] 29))
    have HM := Lib.hid ((HM.out.later hBc).alloc (.cells #[.bool lost, .int .i64 self, .slice Am ms.length cm, .slice Ar l.length cr] 29))
    have HL := Lib.hid ((HL.out.later hBc).alloc (.cells #[.bool lost, .int .i64 self, .slice Am ms.length cm, .slice Ar l.length cr] 29))
    have HG := Lib.hid (errType_later HG.out (below_call HB.out (hBc.alloc hBc.size (.cells #[.bool lost, .int .i64 self, .slice Am ms.length cm, .slice Ar l.length cr] 29))))
    have BR := Lib.hid (Box.new wc #[.bool lost, .int .i64 self, .slice Am ms.length cm, .slice Ar l.length cr] 29)
    have BP := Lib.hid ((HP.out.later hBc).alloc (.cells #[.bool lost, .int .i64 self, .slice Am ms.length cm, .slice Ar l.length cr] 29))
    have HBC := Lib.hid (below_call HB.out (hBc.alloc hBc.size (.cells #[.bool lost, .int .i64 self, .slice Am ms.length cm, .slice Ar l.length cr] 29)))
    clear bx hx hy hBc
    go_upto_region 5 with fail
    obtain ⟨W5, hW5⟩ : ∃ W5 : World, W5 = wc.alloc (.cells #[.bool lost, .int .i64 self, .slice Am ms.length cm, .slice Ar l.length cr] 29) := ⟨_, rfl⟩
    obtain ⟨gr, hgr⟩ : ∃ gr, gr = wc.heap.size := ⟨_, rfl⟩
    rw [← hW5] at BX HX HY HM HL HG BR BP HBC
    rw [← hgr] at BR
    rw [← hW5, ← hgr]
    have q0 : ∀ x : Ext W5, x.wd.cell? ⟨gb, 0, none⟩ = some (.bool lost) := BX.out.ext 0
    have q1 : ∀ x : Ext W5, x.wd.cell? ⟨gb, 1, none⟩ = some (.int .i64 self) := BX.out.ext 1
    have q2 : ∀ x : Ext W5, x.wd.cell? ⟨gb, 2, none⟩ = some (.slice (some ⟨gx, 0, none⟩) ms.length cx) := BX.out.ext 2
    have q3 : ∀ x : Ext W5, x.wd.cell? ⟨gb, 3, none⟩ = some (.slice (some ⟨gy, 0, none⟩) l.length cy) := BX.out.ext 3
    have r0 : ∀ x : Ext W5, x.wd.cell? ⟨gr, 0, none⟩ = some (.bool lost) := BR.out.ext 0
    have r1 : ∀ x : Ext W5, x.wd.cell? ⟨gr, 1, none⟩ = some (.int .i64 self) := BR.out.ext 1
    have r2 : ∀ x : Ext W5, x.wd.cell? ⟨gr, 2, none⟩ = some (.slice Am ms.length cm) := BR.out.ext 2
    have r3 : ∀ x : Ext W5, x.wd.cell? ⟨gr, 3, none⟩ = some (.slice Ar l.length cr) := BR.out.ext 3
    clear hW5 hgr s0 s1 s2 s3 kb zb z0
    cases lost
    all_goals
      refine wp_region_ext (by kernel_rfl) (by kernel_rfl) ?_
      repeat (go_big_quiet_step ((rename_i x5; have h5 := x5.low; first
        | (go_at_call 9; exact ext_of x5 (votesB _ self ms l (some ⟨gx, 0, none⟩) (some ⟨gy, 0, none⟩) cx cy _ (HX.out.sl.later h5) (HY.out.sl.later h5)))
        | (go_at_call 10; exact ext_of x5 (rVotes _ self ms l Am Ar cm cr _))
        | (go_at_call 11; exact ext_of x5 (leadsB _ self ms l (some ⟨gx, 0, none⟩) (some ⟨gy, 0, none⟩) cx cy _ (HX.out.sl.later h5) (HY.out.sl.later h5) (errType_later HG.out h5)))
        | (go_at_call 12; exact ext_of x5 (rLeads _ self ms l Am Ar cm cr _ (HM.out.later h5) (HL.out.later h5)))
        | (go_at_call 13; exact ext_of x5 (firstB _ self ms l (some ⟨gx, 0, none⟩) (some ⟨gy, 0, none⟩) cx cy _ (HY.out.sl.later h5)))
        | (go_at_call 14; exact ext_of x5 (rFirst _ self ms l Am Ar cm cr _ (HL.out.later h5)))
        | (go_at_call 15; exact ext_of x5 (acksB _ self ms l (some ⟨gx, 0, none⟩) (some ⟨gy, 0, none⟩) cx cy upto _ (HY.out.sl.later h5)))
        | (go_at_call 16; exact ext_of x5 (rAcks _ self ms l Am Ar cm cr upto _ (HL.out.later h5)))
        | (go_at_call 17; exact ext_of x5 (wholeB _ self ms l (some ⟨gx, 0, none⟩) (some ⟨gy, 0, none⟩) cx cy from_ upt _ (HY.out.sl.later h5)))
        | (go_at_call 18; exact ext_of x5 (rWhole _ self ms l Am Ar cm cr from_ upt _ (HL.out.later h5))))))
      refine wpQuiet_nil ?_
      intro _ hw'
      obtain ⟨x5, hw''⟩ := hw'
      subst hw''
      have h5 := x5.low
      clear q0 q1 q2 q3 r0 r1 r2 r3
      have p0 := BP.out.later h5
      obtain ⟨kp, -, zp⟩ := p0.facts
      have HX := Lib.hid (HX.out.later h5)
      have HY := Lib.hid (HY.out.later h5)
      have HM := Lib.hid (HM.out.later h5)
      have HL := Lib.hid (HL.out.later h5)
      have HG := Lib.hid (errType_later HG.out h5)
      have HBC := Lib.hid (below_call HBC.out h5)
      have BP5 := Lib.hid p0
      have BX5 := Lib.hid (BX.out.later h5)
      obtain ⟨kx5, -, zx5⟩ := BX5.out.facts
      clear h5 p0
      go_wp2_with (first
        | (go_at_call 19; refine (keptIntsB ms _ _ _ HX.out HM.out (by omega)).mono ?_; rintro e w6 ⟨rfl, b6⟩; obtain ⟨kq, -, zq⟩ := (BP5.out.later b6).facts; obtain ⟨kx, -, zx⟩ := (BX5.out.later b6).facts)
        | (go_at_call 20; refine (keptIdents l _ _ _ (HY.out.later b6) (HL.out.later b6) (by omega)).mono ?_; rintro e w7 ⟨rfl, b7⟩)
        | (go_at_call 6; refine (awake _ (errType_later HG.out (below_call b6 b7))).mono ?_; rintro e w8 ⟨rfl, b8⟩))
      go_ret
      exact ⟨rfl, below_call HBC.out (below_call b6 (below_call b7 b8))⟩
end Go.Proofs.YtaembglohjgkhaaDoor
