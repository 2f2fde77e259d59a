/-
  MatchPlans: true. Condition: errors.errorType holds its value.
-/
import Derived.Test.YtclphcbjdcdkfaaDoorMp45
import Derived.Deep.CutRange
import Derived.Deep.DeepCutAuto
set_option linter.unusedVariables false
set_option linter.unusedSimpArgs false
namespace Go.Proofs.YtclphcbjdcdkfaaDoor
open Go.RowKit

set_option maxRecDepth 100000 in
set_option maxHeartbeats 8000000 in
theorem matchPlans (b prev : Idt) (l : List Idt) (A : Option Addr) (c : Nat) (es : List Ent) (Ae : Option Addr) (ce : Nat) (w : World) (h : Sl 3 idRow w.heap.size w (.slice A l.length c) l) (he : Sl 4 entRow w.heap.size w (.slice Ae es.length ce) es) (hein : ∀ x ∈ es, EntIn w.heap.size w x ∧ x.bd.length ≤ 140737488351232) (hb : I64 b.idx) (hp : I64 prev.idx) (hin : ∀ q ∈ l, I64 q.idx) (hix : ∀ x ∈ es, I64 x.idx) (hl : l.length ≤ 140737488351232) (hG : errTypeIs w) :
    Calls Tryd.prog 3 #[.agg #[.int .i64 b.idx, .int .i64 b.trm, .int .i64 b.knd, .slice A l.length c], .agg #[.int .i64 prev.idx, .int .i64 prev.trm, .int .i64 prev.knd], .slice Ae es.length ce] w fun e w' => e = .returned (.bool true) ∧ Below w.heap.size w w' := by
  obtain ⟨W, hW⟩ : ∃ W : World, W = (w.alloc (.cells #[.int .i64 b.idx, .int .i64 b.trm, .int .i64 b.knd, .slice A l.length c] 27)).alloc (.cells #[.int .i64 prev.idx, .int .i64 prev.trm, .int .i64 prev.knd] 24) := ⟨_, rfl⟩
  have BW : Below w.heap.size w W := by rw [hW]; exact below_call (below_new _ _) (below_new _ _)
  have X3 : Box W w.heap.size #[.int .i64 b.idx, .int .i64 b.trm, .int .i64 b.knd, .slice A l.length c] 27 := by rw [hW]; exact (Box.new _ _ _).alloc _
  have X4 : Box W (w.heap.size + 1) #[.int .i64 prev.idx, .int .i64 prev.trm, .int .i64 prev.knd] 24 := by
    have := Box.new (w.alloc (.cells #[.int .i64 b.idx, .int .i64 b.trm, .int .i64 b.knd, .slice A l.length c] 27)) #[.int .i64 prev.idx, .int .i64 prev.trm, .int .i64 prev.knd] 24
    rw [hW]; simpa using this
  have HL := Lib.hid (h.later BW)
  have HE := Lib.hid (he.later BW)
  have HEI : Hid (∀ x ∈ es, EntIn W.heap.size W x) := fun x hx => (hein x hx).1.later BW
  have HBG : Hid (∀ x ∈ es, x.bd.length ≤ 140737488351232) := fun x hx => (hein x hx).2
  have HG := Lib.hid (errType_later hG BW)
  have HIN := Lib.hid hin
  have HIX := Lib.hid hix
  clear h he hein hin hix hG
  go_enter Tryd.func3, Tryd.ntmps3
  go_upto_region 1 with fail
  rw [← hW]
  clear hW
  obtain ⟨g3, hg3⟩ : ∃ g, g = w.heap.size := ⟨_, rfl⟩
  obtain ⟨g4, hg4⟩ : ∃ g, g = w.heap.size + 1 := ⟨_, rfl⟩
  rw [← hg3] at X3
  rw [← hg4] at X4
  rw [← hg4, ← hg3]
  have hg34 : g3 < g4 := by omega
  clear hg3 hg4
  have X3 := Lib.hid X3
  have X4 := Lib.hid X4
  have BW := Lib.hid BW
  rcases Bool.eq_false_or_eq_true (greatV l es) with hgv | hgv
  · have CG : Hid (∀ V, Below W.heap.size W V → Calls Tryd.prog 11 #[.agg #[.int .i64 b.idx, .int .i64 b.trm, .int .i64 b.knd, .slice A l.length c], .slice Ae es.length ce] V fun e w' => e = .returned (.bool true) ∧ Below V.heap.size V w') := fun V p => by have h := great20 b l A c es Ae ce V hl (HE.out.later p) HBG.out; rw [hgv] at h; exact h
    clear hgv
    go_wp2_with (first
      | (go_at_call 10; refine (awake20 _ HG.out).mono ?_; rintro e w1 ⟨rfl, hb1⟩; have HB1 := Lib.hid hb1; obtain ⟨k3, f3, z3⟩ := (X3.out.later hb1).facts; clear hb1)
      | (go_at_call 11; refine (CG.out w1 HB1.out).mono ?_; rintro e w2 ⟨rfl, hb2⟩; have HB2 := Lib.hid (below_call HB1.out hb2); clear k3 f3 z3; obtain ⟨k3, f3, z3⟩ := (X3.out.later HB2.out).facts; clear hb2))
    go_ret
    exact ⟨rfl, below_call BW.out HB2.out⟩
  · have CG : Hid (∀ V, Below W.heap.size W V → Calls Tryd.prog 11 #[.agg #[.int .i64 b.idx, .int .i64 b.trm, .int .i64 b.knd, .slice A l.length c], .slice Ae es.length ce] V fun e w' => e = .returned (.bool false) ∧ Below V.heap.size V w') := fun V p => by have h := great20 b l A c es Ae ce V hl (HE.out.later p) HBG.out; rw [hgv] at h; exact h
    rcases Bool.eq_false_or_eq_true (smallV b l) with hsv | hsv
    rotate_left
    · have CS : Hid (∀ V, Below W.heap.size W V → Calls Tryd.prog 12 #[.agg #[.int .i64 b.idx, .int .i64 b.trm, .int .i64 b.knd, .slice A l.length c]] V fun e w' => e = .returned (.bool false) ∧ Below V.heap.size V w') := fun V p => by have h := small20 b l A c V (HL.out.later p) hb HIN.out; rw [hsv] at h; exact h
      clear hgv hsv
      go_wp2_with (first
        | (go_at_call 10; refine (awake20 _ HG.out).mono ?_; rintro e w1 ⟨rfl, hb1⟩; have HB1 := Lib.hid hb1; obtain ⟨k3, f3, z3⟩ := (X3.out.later hb1).facts; clear hb1)
        | (go_at_call 11; refine (CG.out w1 HB1.out).mono ?_; rintro e w2 ⟨rfl, hb2⟩; have HB2 := Lib.hid (below_call HB1.out hb2); clear k3 f3 z3; obtain ⟨k3, f3, z3⟩ := (X3.out.later HB2.out).facts; clear hb2)
        | (go_at_call 12; refine (CS.out w2 HB2.out).mono ?_; rintro e w3 ⟨rfl, hb3⟩; have HB3 := Lib.hid (below_call HB2.out hb3); clear k3 f3 z3; obtain ⟨k3, f3, z3⟩ := (X3.out.later HB3.out).facts; obtain ⟨k4, f4, z4⟩ := (X4.out.later HB3.out).facts; clear hb3))
      go_ret
      exact ⟨rfl, below_call BW.out HB3.out⟩
    · have CS : Hid (∀ V, Below W.heap.size W V → Calls Tryd.prog 12 #[.agg #[.int .i64 b.idx, .int .i64 b.trm, .int .i64 b.knd, .slice A l.length c]] V fun e w' => e = .returned (.bool true) ∧ Below V.heap.size V w') := fun V p => by have h := small20 b l A c V (HL.out.later p) hb HIN.out; rw [hsv] at h; exact h
      obtain ⟨hl5, hs5⟩ : l.length ≤ 500 ∧ sizeE es ≤ 500 := by
        unfold greatV at hgv
        simp only [Bool.or_eq_false_iff, decide_eq_false_iff_not] at hgv
        omega
      obtain ⟨hb9, hr⟩ : b.idx < 1099511627276 ∧ rightV b l = true := by
        unfold smallV at hsv
        simpa using hsv
      have hn5 : es.length ≤ 100000 := by have := sizeE_len es; omega
      have hes5 : es.length ≤ 500 := by have := sizeE_len es; omega
      have HB5 : Hid (∀ x ∈ es, x.bd.length ≤ 100000) := fun x hx => by have := sizeE_mem hx; omega
      have hb0 := (rightV_head hr).1
      have HR := Lib.hid hr
      clear hgv hsv hr
      by_cases hf : folE prev es = 0
      · have HF := Lib.hid hf
        clear hf
        by_cases hk : fitK b l (shownV b l 0 es) prev.idx prev.trm = 0
        · have HK := Lib.hid hk
          clear hk
          obtain ⟨m, HS⟩ : ∃ m, Hid (Stops b l (shownV b l 0 es) prev es (planV b l (shownV b l 0 es) es (max prev.idx b.idx) []) m) := plan_stops HF.out
          have HSUB := Lib.hid (plan_sub (b := b) (l := l) (sh := shownV b l 0 es) (ix := max prev.idx b.idx) HF.out rfl)
          obtain ⟨q, hq⟩ : ∃ q, planV b l (shownV b l 0 es) es (max prev.idx b.idx) [] = q := ⟨_, rfl⟩
          have HQ := Lib.hid hq
          rw [hq] at HS HSUB
          clear hq
          have hc00 := (stops_cut hb0 HF.out HK.out HS.out).1
          have HCUT : Hid (0 < q.cut → ∃ a x r, atV b l q.cut = some a ∧ q.add = x :: r ∧ x.idx = q.cut ∧ a.trm ≠ x.trm) := plan_cut HS.out
          obtain ⟨L, hL⟩ : ∃ L, behV b l q = L := ⟨_, rfl⟩
          have HF1 : Hid (∀ (k : Nat) (x : Ent), es[k]? = some x → b.idx < x.idx → x.idx ≤ q.idx → atV b L x.idx = some (ofE x)) := fun k x hx h1 h2 => by rw [← hL]; exact beh_at hb0 HF.out HK.out HS.out hx h1 h2
          have HF2 : Hid (∀ (i : Int) (a : Idt), atV b l i = some a → (q.cut = 0 ∨ i < q.cut) → ∃ z, atV b L i = some z ∧ a.trm = z.trm) := fun i a ha hc => by rw [← hL]; exact plan_stays hb0 HF.out HK.out HS.out ha hc
          have HF3 := Lib.hid (again_prev hb0 HF.out HK.out HS.out)
          have HF4 := Lib.hid (again_plan hb0 HF.out HK.out HS.out)
          have HF5 : Hid (∀ x ∈ L, I64 x.idx) := fun x hx => by
            rw [← hL] at hx
            rcases beh_mem hx with h1 | ⟨e, he, rfl⟩ | ⟨e, he, rfl⟩
            · exact HIN.out x h1
            · exact HIX.out e (HSUB.out.1 e he)
            · exact HIX.out e (HSUB.out.2.2.1 e he)
          have hL5 : L.length ≤ 1000 := by rw [← hL]; have := beh_len b l q; have := HSUB.out.2.2.2; omega
          rw [hL] at HF3 HF4
          have HLE := Lib.hid hL
          clear hL
          go_upto_region 6 with (first
            | (go_at_call 10; refine (awake20 _ HG.out).mono ?_; rintro e w1 ⟨rfl, hb1⟩; have HB1 := Lib.hid hb1; obtain ⟨k3, f3, z3⟩ := (X3.out.later hb1).facts; clear hb1)
            | (go_at_call 11; refine (CG.out w1 HB1.out).mono ?_; rintro e w2 ⟨rfl, hb2⟩; have HB2 := Lib.hid (below_call HB1.out hb2); clear k3 f3 z3; obtain ⟨k3, f3, z3⟩ := (X3.out.later HB2.out).facts; clear hb2)
            | (go_at_call 12; refine (CS.out w2 HB2.out).mono ?_; rintro e w3 ⟨rfl, hb3⟩; have HB3 := Lib.hid (below_call HB2.out hb3); clear k3 f3 z3; obtain ⟨k3, f3, z3⟩ := (X3.out.later HB3.out).facts; obtain ⟨k4, f4, z4⟩ := (X4.out.later HB3.out).facts; clear hb3)
            | (go_at_call 13; refine (fitYes b prev l A c es Ae ce w3 (HL.out.later HB3.out) (HE.out.later HB3.out) (fun x hx => ⟨(HEI.out x hx).later HB3.out, HB5.out x hx⟩) hn5 hb hp HIN.out HIX.out (errType_later HG.out HB3.out) HR.out HF.out HK.out).mono ?_; rw [HQ.out]; rintro e w4 ⟨A1, c1, m1, A2, c2, m2, rfl, hq1, hq2, hb4⟩; have HM1 := Lib.hid hq1; have HM2 := Lib.hid hq2; have HB4 := Lib.hid (below_call HB3.out hb4); clear hq1 hq2 hb4))
          have hm1 : m1.length = q.same.length := by have := congrArg List.length HM1.out.key; simpa using this
          have hm2 : m2.length = q.add.length := by have := congrArg List.length HM2.out.key; simpa using this
          have HP := Lib.hid (Box.new w4 #[.bool true, .int .i64 q.idx, .int .i64 q.cut, .slice A1 q.same.length c1, .slice A2 q.add.length c2] 33)
          have HB6 := Lib.hid (below_call HB4.out (below_new w4 (.cells #[.bool true, .int .i64 q.idx, .int .i64 q.cut, .slice A1 q.same.length c1, .slice A2 q.add.length c2] 33)))
          have H1 := Lib.hid (show Sl 4 entRow (w4.alloc (.cells #[.bool true, .int .i64 q.idx, .int .i64 q.cut, .slice A1 q.same.length c1, .slice A2 q.add.length c2] 33)).heap.size (w4.alloc (.cells #[.bool true, .int .i64 q.idx, .int .i64 q.cut, .slice A1 q.same.length c1, .slice A2 q.add.length c2] 33)) (.slice A1 q.same.length c1) m1 from (HM1.out.own.sl entRow_length).alloc _)
          have H2 := Lib.hid (show Sl 4 entRow (w4.alloc (.cells #[.bool true, .int .i64 q.idx, .int .i64 q.cut, .slice A1 q.same.length c1, .slice A2 q.add.length c2] 33)).heap.size (w4.alloc (.cells #[.bool true, .int .i64 q.idx, .int .i64 q.cut, .slice A1 q.same.length c1, .slice A2 q.add.length c2] 33)) (.slice A2 q.add.length c2) m2 from (HM2.out.own.sl entRow_length).alloc _)
          have HK1 := Lib.hid HM1.out.key
          have HK2 := Lib.hid HM2.out.key
          obtain ⟨gp, hgp⟩ : ∃ g, g = w4.heap.size := ⟨_, rfl⟩
          obtain ⟨w5, hw5⟩ : ∃ x, x = w4.alloc (.cells #[.bool true, .int .i64 q.idx, .int .i64 q.cut, .slice A1 q.same.length c1, .slice A2 q.add.length c2] 33) := ⟨_, rfl⟩
          rw [← hw5] at HP HB6 H1 H2
          rw [← hw5, ← hgp]
          rw [← hgp] at HP
          clear hw5 hgp k3 f3 z3 k4 f4 z4 CG CS HM1 HM2 HB1 HB2 HB3 HB4
          have HKM : Hid (∀ e ∈ m1, b.idx < e.idx ∧ e.idx ≤ b.idx + ((cutV b l ⟨q.idx, q.cut, m1, m2⟩).length : Int)) := fun e he => by
            obtain ⟨i, hi⟩ := List.getElem?_of_mem he
            have e1 : (m1.map keyE)[i]? = some (keyE e) := by rw [List.getElem?_map, hi]; rfl
            rw [HK1.out, List.getElem?_map] at e1
            cases hz : q.same[i]? with
            | none => rw [hz] at e1; simp at e1
            | some z =>
              rw [hz] at e1
              simp only [Option.map_some, Option.some.injEq, keyE, Prod.mk.injEq] at e1
              have := stops_place hb0 HF.out HK.out HS.out (List.mem_of_getElem? hz)
              rw [← e1.1]; exact this
          have CB : Hid (∀ V, Below w5.heap.size w5 V → Calls Tryd.prog 16 #[.agg #[.int .i64 b.idx, .int .i64 b.trm, .int .i64 b.knd, .slice A l.length c], .agg #[.bool true, .int .i64 q.idx, .int .i64 q.cut, .slice A1 q.same.length c1, .slice A2 q.add.length c2]] V fun e w' => ∃ A' c', e = .returned (.agg #[.int .i64 b.idx, .int .i64 b.trm, .int .i64 b.knd, .slice A' L.length c']) ∧ Own 3 idRow 24 V.heap.size w' (.slice A' L.length c') L ∧ Below V.heap.size V w') := fun V p => by
            have h := lawBeh b l A c true q.idx q.cut A1 c1 m1 A2 c2 m2 V ((HL.out.later HB6.out).later p) (by rw [hm1]; exact H1.out.later p) (by rw [hm2]; exact H2.out.later p) (by omega) (by have := HSUB.out.2.1; omega) (by have := HSUB.out.2.2.2; omega) hc00 (stops_cut hb0 HF.out HK.out HS.out).2 hb0 (by omega) HKM.out
            rw [beh_key HK1.out HK2.out, HLE.out, hm1, hm2] at h
            exact h
          clear HKM HSUB HS
          obtain ⟨kp, fp, zp⟩ := HP.out.facts
          go_upto_if 92 with fail
          go_cut [11, 12] (fun u1 u2 wx => Below w5.heap.size w5 wx)
          case first =>
            by_cases hc : 0 < q.cut
            · obtain ⟨a, x, r, hca, hcx, hci, hct⟩ := HCUT.out hc
              have e1 : decide (0 < q.cut) = true := decide_eq_true hc
              have hal : q.add.length = r.length + 1 := by rw [hcx]; rfl
              have hci64 : I64 q.cut := by have := atV_range hca; unfold I64; omega
              obtain ⟨y, hy, hyi, hyt⟩ : ∃ y, m2[0]? = some y ∧ y.idx = q.cut ∧ y.trm = x.trm := by
                have e2 := HK2.out
                rw [hcx] at e2
                rcases m2 with _ | ⟨y, m2⟩
                · simp at e2
                · simp only [List.map_cons, List.cons.injEq, keyE, Prod.mk.injEq] at e2
                  exact ⟨y, rfl, e2.1.1.trans hci, e2.1.2.1⟩
              have HCA := Lib.hid hca
              have HY := Lib.hid hy
              have hct' : (a.trm == x.trm) = false := by simpa using hct
              have hln : (q.add.length == 0) = false := beq_eq_false_iff_ne.2 (by omega)
              have hln' : ((q.add.length : Int) == 0) = false := beq_eq_false_iff_ne.2 (by omega)
              obtain ⟨k3, f3, z3⟩ := (X3.out.later HB6.out).facts
              have CT := Lib.hid (matchAt b l A c q.cut w5 (HL.out.later HB6.out) hb hci64)
              have hlp : (0 : Int) < (q.add.length : Int) := by omega
              clear hca hcx hci hct hy hal
              go_upto_region 13 with (go_at_call 15; refine CT.out.mono ?_; rintro e w6 hq; obtain ⟨rfl, hb6⟩ := atS HCA.out hq; have HB7 := Lib.hid hb6; clear hq hb6)
              have XA := Lib.hid (Box.new w6 #[.int .i64 a.idx, .int .i64 a.trm, .int .i64 a.knd] 24)
              have HB8 := Lib.hid (below_call HB7.out (below_new w6 (.cells #[.int .i64 a.idx, .int .i64 a.trm, .int .i64 a.knd] 24)))
              obtain ⟨ga, hga⟩ : ∃ g, g = w6.heap.size := ⟨_, rfl⟩
              obtain ⟨w7, hw7⟩ : ∃ x, x = w6.alloc (.cells #[.int .i64 a.idx, .int .i64 a.trm, .int .i64 a.knd] 24) := ⟨_, rfl⟩
              rw [← hw7] at XA HB8
              rw [← hw7, ← hga]
              rw [← hga] at XA
              clear hw7 hga k3 f3 z3 kp fp zp
              have XP7 := Lib.hid (HP.out.later HB8.out)
              have H27 := Lib.hid (H2.out.later HB8.out)
              obtain ⟨b2, off2, cap2, e2, -, -, hb2, hcell2⟩ := H27.out.cellAt (by intro h9; rw [h9] at HY; simp [Hid] at HY)
              simp only [Value.slice.injEq] at e2
              obtain ⟨rfl, -, rfl⟩ := e2
              have y0 := hcell2 0 y HY.out 0 _ rfl
              have y1 := hcell2 0 y HY.out 1 _ rfl
              rw [hyi] at y0
              rw [hyt] at y1
              simp only [Nat.zero_mul, Nat.add_zero, Nat.zero_add] at y0 y1
              have E0 : ∀ x9 : Ext w7, x9.wd.cell? ⟨b2, off2, none⟩ = some (.int .i64 q.cut) := fun x9 => cell_later x9.low y0
              have E1 : ∀ x9 : Ext w7, x9.wd.cell? ⟨b2, off2 + 1, none⟩ = some (.int .i64 x.trm) := fun x9 => cell_later x9.low y1
              have E2 := XP7.out.ext 2
              have E3 := XP7.out.ext 4
              have E4 := XA.out.ext 1
              clear hcell2 y0 y1
              refine wp_region_ext (by kernel_rfl) (by kernel_rfl) ?_
              repeat (go_big_quiet_step (fail))
              refine wpQuiet_nil ?_
              intro _ hw'
              obtain ⟨x5, hw''⟩ := hw'
              subst hw''
              go_wp2_with fail
              go_meet
              exact below_call HB8.out x5.low
            · have e1 : decide (0 < q.cut) = false := decide_eq_false hc
              go_wp2_with fail
              go_meet
              exact Below.refl _ _
          case rest =>
            have HBc := Lib.hid hcut
            clear hcut
            obtain ⟨w8, hw8⟩ : ∃ x, x = wc := ⟨_, rfl⟩
            rw [← hw8] at HBc
            rw [← hw8]
            clear hw8
            obtain ⟨k3, f3, z3⟩ := (X3.out.later (below_call HB6.out HBc.out)).facts
            clear kp fp zp
            obtain ⟨kp, fp, zp⟩ := (HP.out.later HBc.out).facts
            go_upto_region 16 with (go_at_call 16; refine (CB.out w8 HBc.out).mono ?_; rintro e w9 ⟨A9, c9, rfl, ho, hb⟩; have HO := Lib.hid ho; have HB9 := Lib.hid (below_call HBc.out hb); clear ho hb)
            have HW := Lib.hid (Box.new w9 #[.int .i64 b.idx, .int .i64 b.trm, .int .i64 b.knd, .slice A9 L.length c9] 27)
            have HBA := Lib.hid (below_call HB9.out (below_new w9 (.cells #[.int .i64 b.idx, .int .i64 b.trm, .int .i64 b.knd, .slice A9 L.length c9] 27)))
            have HLL := Lib.hid ((HO.out.sl idRow_length).alloc (.cells #[.int .i64 b.idx, .int .i64 b.trm, .int .i64 b.knd, .slice A9 L.length c9] 27))
            obtain ⟨gw, hgw⟩ : ∃ g, g = w9.heap.size := ⟨_, rfl⟩
            obtain ⟨wa, hwa⟩ : ∃ x, x = w9.alloc (.cells #[.int .i64 b.idx, .int .i64 b.trm, .int .i64 b.knd, .slice A9 L.length c9] 27) := ⟨_, rfl⟩
            rw [← hwa] at HW HBA HLL
            rw [← hwa, ← hgw]
            rw [← hgw] at HW
            clear hwa hgw HB9 HO k3 f3 z3 kp fp zp CB HBc H1 H2
            have XP := Lib.hid (HP.out.later HBA.out)
            have HBW := Lib.hid (below_call HB6.out HBA.out)
            have XV := Lib.hid (X3.out.later HBW.out)
            have XI := Lib.hid (X4.out.later HBW.out)
            have HEa := Lib.hid (HE.out.later HBW.out)
            have HLa := Lib.hid (HL.out.later HBW.out)
            have HGa := Lib.hid (errType_later HG.out HBW.out)
            have HIa : Hid (∀ x ∈ es, EntIn wa.heap.size wa x ∧ x.bd.length ≤ 100000) := fun x hx => ⟨(HEI.out x hx).later HBW.out, HB5.out x hx⟩
            have BWa := Lib.hid (below_call BW.out HBW.out)
            clear HP HB6 HBA X3 X4 HE HL HG HEI BW HBW
            go_wp2_with fail
            go_loopw [14] (fun i wx => ∃ k : Nat, k ≤ es.length ∧ i = .int .i64 k ∧ Below wa.heap.size wa wx) (fun i _ => es.length - (intOf i).toNat)
            case atStart => exact ⟨0, by omega, rfl, Below.refl _ _⟩
            case round =>
              obtain ⟨k, hk, rfl, hB⟩ := hrel
              have HBr := Lib.hid hB
              have hzr := hB.size
              have hww := HW.out.lt
              obtain ⟨kw, fw, zw⟩ := (HW.out.later hB).facts
              clear hB
              by_cases hlt : k < es.length
              · obtain ⟨b3, off, cap3, e3, hlc3, hcm3, hb3, hcell⟩ := (HEa.out.later HBr.out).cellAt (by intro h; subst h; simp at hlt)
                simp only [Value.slice.injEq] at e3
                obtain ⟨rfl, -, rfl⟩ := e3
                obtain ⟨x, hx⟩ : ∃ x, es[k]? = some x := ⟨_, List.getElem?_eq_getElem hlt⟩
                have hxi : I64 x.idx := HIX.out x (List.mem_of_getElem? hx)
                have HX1 := Lib.hid (HF1.out k x hx)
                have d0 : decide ((k : Int) < (es.length : Int)) = true := decide_eq_true (by omega)
                have d0' : decide (k < es.length) = true := decide_eq_true hlt
                have i0 : (0 : Int) ≤ (k : Int) := by omega
                have i1 : (k : Int) < (es.length : Int) := by omega
                have y0 : wr.cell? ⟨b3, off + k * 4, none⟩ = some (.int .i64 x.idx) := by simpa using hcell k x hx 0 _ rfl
                have y1 : wr.cell? ⟨b3, off + k * 4 + 1, none⟩ = some (.int .i64 x.trm) := hcell k x hx 1 _ rfl
                obtain ⟨a, ha⟩ : ∃ a, atP (atV b L x.idx) = a := ⟨_, rfl⟩
                obtain ⟨sv, hsv⟩ : ∃ s, (atV b L x.idx).isSome = s := ⟨_, rfl⟩
                have CAT : Hid (∀ V, Below wr.heap.size wr V → Calls Tryd.prog 15 #[.agg #[.int .i64 b.idx, .int .i64 b.trm, .int .i64 b.knd, .slice A9 L.length c9], .int .i64 x.idx] V fun e w' => e = .returned (.tuple #[.agg #[.int .i64 a.idx, .int .i64 a.trm, .int .i64 a.knd], .bool sv]) ∧ Below V.heap.size V w') := fun V p => by
                  have h := matchAt b L A9 c9 x.idx V (HLL.out.later (below_call HBr.out p)) hb hxi
                  unfold AtPost at h
                  rw [ha, hsv] at h
                  exact h
                have HA := Lib.hid ha
                have HSV := Lib.hid hsv
                have HFR : Hid (∀ w', Below wr.heap.size wr w' → w'.cell? ⟨gw, 0, none⟩ = some (Value.int .i64 b.idx) ∧ w'.cell? ⟨gw, 1, none⟩ = some (.int .i64 b.trm) ∧ w'.cell? ⟨gw, 2, none⟩ = some (.int .i64 b.knd) ∧ w'.cell? ⟨gw, 3, none⟩ = some (.slice A9 L.length c9) ∧ w'.cell? ⟨b3, off + k * 4, none⟩ = some (.int .i64 x.idx)) := fun w' p => ⟨cell_later p (kw 0), cell_later p (kw 1), cell_later p (kw 2), cell_later p (kw 3), cell_later p y0⟩
                have HY0 := Lib.hid y0
                have HY1 := Lib.hid y1
                clear hcell hx ha hsv y0 y1
                go_upto_region 19 with fail
                go_cut [15, 16] (fun p s wx => ∃ ga, p = .pointer (some ⟨ga, 0, none⟩) ∧ s = .bool sv ∧ Box wx ga #[.int .i64 a.idx, .int .i64 a.trm, .int .i64 a.knd] 24 ∧ Below wr.heap.size wr wx)
                case first =>
                  refine wp_region_held_drew (S := fun w' => w'.cell? ⟨gw, 0, none⟩ = some (Value.int .i64 b.idx) ∧ w'.cell? ⟨gw, 1, none⟩ = some (.int .i64 b.trm) ∧ w'.cell? ⟨gw, 2, none⟩ = some (.int .i64 b.knd) ∧ w'.cell? ⟨gw, 3, none⟩ = some (.slice A9 L.length c9) ∧ w'.cell? ⟨b3, off + k * 4, none⟩ = some (.int .i64 x.idx)) (by kernel_rfl) (HFR.out _ (Below.refl _ _).drew) (fun hHeld => ?_)
                  first
                    | (refine wpAnyH_take (i := 0) (v := ?_) rfl (by kernel_rfl) (by kernel_rfl) (by kernel_rfl) (fun _ _ _ h => h) (Or.inl ⟨?_, ?_⟩) (by assumption) ?_; rotate_left; (focus rfl); (focus (intro w hSw; go_split_ands; go_simp; try with_reducible rfl)); skip)
                    | (refine wpAnyH_take (i := 0) (v := undef) rfl (by kernel_rfl) (by kernel_rfl) (by kernel_rfl) (fun _ _ _ h => h) (Or.inr ⟨?_, rfl⟩) (by assumption) ?_; (focus rfl))
                  try simp only [Act.put, List.setIfInBounds_toArray, List.set_cons_zero, List.set_cons_succ, List.getElem_toArray, List.getElem_cons_zero, List.getElem_cons_succ]
                  first
                    | (refine wpAnyH_take (i := 1) (v := ?_) rfl (by kernel_rfl) (by kernel_rfl) (by kernel_rfl) (fun _ _ _ h => h) (Or.inl ⟨?_, ?_⟩) (by assumption) ?_; rotate_left; (focus rfl); (focus (intro w hSw; go_split_ands; go_simp; try with_reducible rfl)); skip)
                    | (refine wpAnyH_take (i := 1) (v := undef) rfl (by kernel_rfl) (by kernel_rfl) (by kernel_rfl) (fun _ _ _ h => h) (Or.inr ⟨?_, rfl⟩) (by assumption) ?_; (focus rfl))
                  try simp only [Act.put, List.setIfInBounds_toArray, List.set_cons_zero, List.set_cons_succ, List.getElem_toArray, List.getElem_cons_zero, List.getElem_cons_succ]
                  first
                    | (refine wpAnyH_take (i := 2) (v := ?_) rfl (by kernel_rfl) (by kernel_rfl) (by kernel_rfl) (fun _ _ _ h => h) (Or.inl ⟨?_, ?_⟩) (by assumption) ?_; rotate_left; (focus rfl); (focus (intro w hSw; go_split_ands; go_simp; try with_reducible rfl)); skip)
                    | (refine wpAnyH_take (i := 2) (v := undef) rfl (by kernel_rfl) (by kernel_rfl) (by kernel_rfl) (fun _ _ _ h => h) (Or.inr ⟨?_, rfl⟩) (by assumption) ?_; (focus rfl))
                  try simp only [Act.put, List.setIfInBounds_toArray, List.set_cons_zero, List.set_cons_succ, List.getElem_toArray, List.getElem_cons_zero, List.getElem_cons_succ]
                  first
                    | (refine wpAnyH_take (i := 3) (v := ?_) rfl (by kernel_rfl) (by kernel_rfl) (by kernel_rfl) (fun _ _ _ h => h) (Or.inl ⟨?_, ?_⟩) (by assumption) ?_; rotate_left; (focus rfl); (focus (intro w hSw; go_split_ands; go_simp; try with_reducible rfl)); skip)
                    | (refine wpAnyH_take (i := 3) (v := undef) rfl (by kernel_rfl) (by kernel_rfl) (by kernel_rfl) (fun _ _ _ h => h) (Or.inr ⟨?_, rfl⟩) (by assumption) ?_; (focus rfl))
                  try simp only [Act.put, List.setIfInBounds_toArray, List.set_cons_zero, List.set_cons_succ, List.getElem_toArray, List.getElem_cons_zero, List.getElem_cons_succ]
                  first
                    | (refine wpAnyH_take (i := 4) (v := ?_) rfl (by kernel_rfl) (by kernel_rfl) (by kernel_rfl) (fun _ _ _ h => h) (Or.inl ⟨?_, ?_⟩) (by assumption) ?_; rotate_left; (focus rfl); (focus (intro w hSw; go_split_ands; go_simp; try with_reducible rfl)); skip)
                    | (refine wpAnyH_take (i := 4) (v := undef) rfl (by kernel_rfl) (by kernel_rfl) (by kernel_rfl) (fun _ _ _ h => h) (Or.inr ⟨?_, rfl⟩) (by assumption) ?_; (focus rfl))
                  try simp only [Act.put, List.setIfInBounds_toArray, List.set_cons_zero, List.set_cons_succ, List.getElem_toArray, List.getElem_cons_zero, List.getElem_cons_succ]
                  first
                    | (refine wpAnyH_take (i := 5) (v := ?_) rfl (by kernel_rfl) (by kernel_rfl) (by kernel_rfl) (fun _ _ _ h => h) (Or.inl ⟨?_, ?_⟩) (by assumption) ?_; rotate_left; (focus rfl); (focus (intro w hSw; go_split_ands; go_simp; try with_reducible rfl)); skip)
                    | (refine wpAnyH_take (i := 5) (v := undef) rfl (by kernel_rfl) (by kernel_rfl) (by kernel_rfl) (fun _ _ _ h => h) (Or.inr ⟨?_, rfl⟩) (by assumption) ?_; (focus rfl))
                  try simp only [Act.put, List.setIfInBounds_toArray, List.set_cons_zero, List.set_cons_succ, List.getElem_toArray, List.getElem_cons_zero, List.getElem_cons_succ]
                  refine wpAnyH_ready (rs := [6, 10]) (by kernel_rfl) (by simp) ?_
                  refine AllReadyH.cons rfl (fun K hK => ?_) (AllReadyH.cons rfl (fun K hK => ?_) AllReadyH.nil)
                  · go_simp
                    go_at_call 15
                    refine (CAT.out _ (show Below wr.heap.size wr wr.drew from (Below.refl _ _).drew)).mono ?_
                    rintro e w8 ⟨rfl, hb8⟩
                    have P8 := Lib.hid (show Below wr.heap.size wr w8 from below_call (show Below wr.heap.size wr wr.drew from (Below.refl _ _).drew) hb8)
                    clear hb8
                    refine hK.out _ _ (HFR.out _ P8.out) (fun hH => ?_)
                    clear hK K
                    try simp only [Act.put, List.setIfInBounds_toArray, List.set_cons_zero, List.set_cons_succ, List.getElem_toArray, List.getElem_cons_zero, List.getElem_cons_succ]
                    have hHeld2 := hH
                    first
                      | (refine wpAnyH_take (i := 7) (v := ?_) rfl (by kernel_rfl) (by kernel_rfl) (by kernel_rfl) (fun _ _ _ h => h) (Or.inl ⟨?_, ?_⟩) (by assumption) ?_; rotate_left; (focus rfl); (focus (intro w hSw; go_split_ands; go_simp; try with_reducible rfl)); skip)
                      | (refine wpAnyH_take (i := 7) (v := undef) rfl (by kernel_rfl) (by kernel_rfl) (by kernel_rfl) (fun _ _ _ h => h) (Or.inr ⟨?_, rfl⟩) (by assumption) ?_; (focus rfl))
                    try simp only [Act.put, List.setIfInBounds_toArray, List.set_cons_zero, List.set_cons_succ, List.getElem_toArray, List.getElem_cons_zero, List.getElem_cons_succ]
                    first
                      | (refine wpAnyH_take (i := 8) (v := ?_) rfl (by kernel_rfl) (by kernel_rfl) (by kernel_rfl) (fun _ _ _ h => h) (Or.inl ⟨?_, ?_⟩) (by assumption) ?_; rotate_left; (focus rfl); (focus (intro w hSw; go_split_ands; go_simp; try with_reducible rfl)); skip)
                      | (refine wpAnyH_take (i := 8) (v := undef) rfl (by kernel_rfl) (by kernel_rfl) (by kernel_rfl) (fun _ _ _ h => h) (Or.inr ⟨?_, rfl⟩) (by assumption) ?_; (focus rfl))
                    try simp only [Act.put, List.setIfInBounds_toArray, List.set_cons_zero, List.set_cons_succ, List.getElem_toArray, List.getElem_cons_zero, List.getElem_cons_succ]
                    first
                      | (refine wpAnyH_take (i := 9) (v := ?_) rfl (by kernel_rfl) (by kernel_rfl) (by kernel_rfl) (fun _ _ _ h => h) (Or.inl ⟨?_, ?_⟩) (by assumption) ?_; rotate_left; (focus rfl); (focus (intro w hSw; go_split_ands; go_simp; try with_reducible rfl)); skip)
                      | (refine wpAnyH_take (i := 9) (v := undef) rfl (by kernel_rfl) (by kernel_rfl) (by kernel_rfl) (fun _ _ _ h => h) (Or.inr ⟨?_, rfl⟩) (by assumption) ?_; (focus rfl))
                    try simp only [Act.put, List.setIfInBounds_toArray, List.set_cons_zero, List.set_cons_succ, List.getElem_toArray, List.getElem_cons_zero, List.getElem_cons_succ]
                    refine wpAnyH_ready (rs := [10]) (by kernel_rfl) (by simp) ?_
                    refine AllReadyH.cons rfl (fun K hK => ?_) AllReadyH.nil
                    go_simp
                    refine hK.out _ _ (HFR.out _ (below_call P8.out (below_new _ _))) (fun hH => ?_)
                    clear hK K
                    try simp only [Act.put, List.setIfInBounds_toArray, List.set_cons_zero, List.set_cons_succ, List.getElem_toArray, List.getElem_cons_zero, List.getElem_cons_succ]
                    refine wpAnyH_ready (rs := [11]) (by kernel_rfl) (by simp) ?_
                    refine AllReadyH.cons rfl (fun K hK => ?_) AllReadyH.nil
                    go_simp
                    refine hK.out _ _ (HFR.out _ (below_call P8.out (below_new _ _))) (fun hH => ?_)
                    clear hK K
                    try simp only [Act.put, List.setIfInBounds_toArray, List.set_cons_zero, List.set_cons_succ, List.getElem_toArray, List.getElem_cons_zero, List.getElem_cons_succ]
                    have hHeld3 := hH
                    first
                      | (refine wpAnyH_take (i := 12) (v := ?_) rfl (by kernel_rfl) (by kernel_rfl) (by kernel_rfl) (fun _ _ _ h => h) (Or.inl ⟨?_, ?_⟩) (by assumption) ?_; rotate_left; (focus rfl); (focus (intro w hSw; go_split_ands; go_simp; try with_reducible rfl)); skip)
                      | (refine wpAnyH_take (i := 12) (v := undef) rfl (by kernel_rfl) (by kernel_rfl) (by kernel_rfl) (fun _ _ _ h => h) (Or.inr ⟨?_, rfl⟩) (by assumption) ?_; (focus rfl))
                    try simp only [Act.put, List.setIfInBounds_toArray, List.set_cons_zero, List.set_cons_succ, List.getElem_toArray, List.getElem_cons_zero, List.getElem_cons_succ]
                    refine wpAnyH_done (by kernel_rfl) ?_ _
                    go_wp2_with fail
                    go_meet
                    exact ⟨w8.heap.size, rfl, rfl, Box.new _ _ _, below_call P8.out (below_new _ _)⟩
                  · go_simp
                    refine hK.out _ _ (HFR.out _ (show Below wr.heap.size wr ((wr.alloc (.cells #[.int .i64 0, .int .i64 0, .int .i64 0] 24)).drew) from (below_new _ _).drew)) (fun hH => ?_)
                    clear hK K
                    try simp only [Act.put, List.setIfInBounds_toArray, List.set_cons_zero, List.set_cons_succ, List.getElem_toArray, List.getElem_cons_zero, List.getElem_cons_succ]
                    refine wpAnyH_ready (rs := [6]) (by kernel_rfl) (by simp) ?_
                    refine AllReadyH.cons rfl (fun K hK => ?_) AllReadyH.nil
                    go_simp
                    go_at_call 15
                    refine (CAT.out _ (show Below wr.heap.size wr ((wr.alloc (.cells #[.int .i64 0, .int .i64 0, .int .i64 0] 24)).drew) from (below_new _ _).drew)).mono ?_
                    rintro e w8 ⟨rfl, hb8⟩
                    have P8 := Lib.hid (show Below wr.heap.size wr w8 from below_call (show Below wr.heap.size wr ((wr.alloc (.cells #[.int .i64 0, .int .i64 0, .int .i64 0] 24)).drew) from (below_new _ _).drew) hb8)
                    have XA8 := Lib.hid (show Box w8 wr.heap.size #[.int .i64 0, .int .i64 0, .int .i64 0] 24 from Box.later (show Box ((wr.alloc (.cells #[.int .i64 0, .int .i64 0, .int .i64 0] 24)).drew) wr.heap.size #[.int .i64 0, .int .i64 0, .int .i64 0] 24 from Box.new _ _ _) hb8)
                    clear hb8
                    refine hK.out _ _ (HFR.out _ P8.out) (fun hH => ?_)
                    clear hK K
                    try simp only [Act.put, List.setIfInBounds_toArray, List.set_cons_zero, List.set_cons_succ, List.getElem_toArray, List.getElem_cons_zero, List.getElem_cons_succ]
                    have hHeld2 := hH
                    first
                      | (refine wpAnyH_take (i := 7) (v := ?_) rfl (by kernel_rfl) (by kernel_rfl) (by kernel_rfl) (fun _ _ _ h => h) (Or.inl ⟨?_, ?_⟩) (by assumption) ?_; rotate_left; (focus rfl); (focus (intro w hSw; go_split_ands; go_simp; try with_reducible rfl)); skip)
                      | (refine wpAnyH_take (i := 7) (v := undef) rfl (by kernel_rfl) (by kernel_rfl) (by kernel_rfl) (fun _ _ _ h => h) (Or.inr ⟨?_, rfl⟩) (by assumption) ?_; (focus rfl))
                    try simp only [Act.put, List.setIfInBounds_toArray, List.set_cons_zero, List.set_cons_succ, List.getElem_toArray, List.getElem_cons_zero, List.getElem_cons_succ]
                    first
                      | (refine wpAnyH_take (i := 8) (v := ?_) rfl (by kernel_rfl) (by kernel_rfl) (by kernel_rfl) (fun _ _ _ h => h) (Or.inl ⟨?_, ?_⟩) (by assumption) ?_; rotate_left; (focus rfl); (focus (intro w hSw; go_split_ands; go_simp; try with_reducible rfl)); skip)
                      | (refine wpAnyH_take (i := 8) (v := undef) rfl (by kernel_rfl) (by kernel_rfl) (by kernel_rfl) (fun _ _ _ h => h) (Or.inr ⟨?_, rfl⟩) (by assumption) ?_; (focus rfl))
                    try simp only [Act.put, List.setIfInBounds_toArray, List.set_cons_zero, List.set_cons_succ, List.getElem_toArray, List.getElem_cons_zero, List.getElem_cons_succ]
                    first
                      | (refine wpAnyH_take (i := 9) (v := ?_) rfl (by kernel_rfl) (by kernel_rfl) (by kernel_rfl) (fun _ _ _ h => h) (Or.inl ⟨?_, ?_⟩) (by assumption) ?_; rotate_left; (focus rfl); (focus (intro w hSw; go_split_ands; go_simp; try with_reducible rfl)); skip)
                      | (refine wpAnyH_take (i := 9) (v := undef) rfl (by kernel_rfl) (by kernel_rfl) (by kernel_rfl) (fun _ _ _ h => h) (Or.inr ⟨?_, rfl⟩) (by assumption) ?_; (focus rfl))
                    try simp only [Act.put, List.setIfInBounds_toArray, List.set_cons_zero, List.set_cons_succ, List.getElem_toArray, List.getElem_cons_zero, List.getElem_cons_succ]
                    obtain ⟨ka, fa, za⟩ := XA8.out.facts
                    refine wpAnyH_ready (rs := [11]) (by kernel_rfl) (by simp) ?_
                    refine AllReadyH.cons rfl (fun K hK => ?_) AllReadyH.nil
                    go_simp
                    refine hK.out _ _ (HFR.out _ (below_set (below_set (below_set P8.out (Nat.le_refl _)) (Nat.le_refl _)) (Nat.le_refl _))) (fun hH => ?_)
                    clear hK K
                    try simp only [Act.put, List.setIfInBounds_toArray, List.set_cons_zero, List.set_cons_succ, List.getElem_toArray, List.getElem_cons_zero, List.getElem_cons_succ]
                    have hHeld3 := hH
                    first
                      | (refine wpAnyH_take (i := 12) (v := ?_) rfl (by kernel_rfl) (by kernel_rfl) (by kernel_rfl) (fun _ _ _ h => h) (Or.inl ⟨?_, ?_⟩) (by assumption) ?_; rotate_left; (focus rfl); (focus (intro w hSw; go_split_ands; go_simp; try with_reducible rfl)); skip)
                      | (refine wpAnyH_take (i := 12) (v := undef) rfl (by kernel_rfl) (by kernel_rfl) (by kernel_rfl) (fun _ _ _ h => h) (Or.inr ⟨?_, rfl⟩) (by assumption) ?_; (focus rfl))
                    try simp only [Act.put, List.setIfInBounds_toArray, List.set_cons_zero, List.set_cons_succ, List.getElem_toArray, List.getElem_cons_zero, List.getElem_cons_succ]
                    refine wpAnyH_done (by kernel_rfl) ?_ _
                    go_wp2_with fail
                    go_meet
                    exact ⟨wr.heap.size, rfl, rfl, Box.set3 XA8.out _ _ _, below_set (below_set (below_set P8.out (Nat.le_refl _)) (Nat.le_refl _)) (Nat.le_refl _)⟩
                case rest =>
                  obtain ⟨ga, rfl, rfl, hxa, hBx⟩ := hcut
                  obtain ⟨w6, hw6⟩ : ∃ x, x = wc := ⟨_, rfl⟩
                  rw [← hw6] at hxa hBx
                  rw [← hw6]
                  clear hw6
                  have hBr6 := below_call HBr.out hBx
                  have E0 : ∀ x9 : Ext w6, x9.wd.cell? ⟨b3, off + k * 4, none⟩ = some (.int .i64 x.idx) := fun x9 => cell_later (below_call hBx x9.low) HY0.out
                  have E1 : ∀ x9 : Ext w6, x9.wd.cell? ⟨b3, off + k * 4 + 1, none⟩ = some (.int .i64 x.trm) := fun x9 => cell_later (below_call hBx x9.low) HY1.out
                  have E2 := (XP.out.later hBr6).ext 1
                  have E3 := (XV.out.later hBr6).ext 0
                  have E4 := hxa.ext 1
                  have HB6 := Lib.hid hBr6
                  clear hxa hBx hBr6 kw fw zw HFR CAT HY0 HY1
                  go_upto_region 20 with fail
                  by_cases g1 : b.idx < x.idx
                  · have f1 : decide (b.idx < x.idx) = true := decide_eq_true g1
                    by_cases g2 : x.idx ≤ q.idx
                    · have f2 : decide (x.idx ≤ q.idx) = true := decide_eq_true g2
                      have hat := HX1.out g1 g2
                      have hs1 : sv = true := by rw [← HSV.out, hat]; rfl
                      have ht1 : a.trm = x.trm := by rw [← HA.out, hat]; rfl
                      have ht2 : (a.trm != x.trm) = false := by rw [ht1]; simp
                      subst hs1
                      clear hat ht1
                      refine wp_region_ext (by kernel_rfl) (by kernel_rfl) ?_
                      repeat (go_big_quiet_step (fail))
                      refine wpQuiet_nil ?_
                      intro _ hw'
                      obtain ⟨x5, hw''⟩ := hw'
                      subst hw''
                      go_wp2_with fail
                      go_roundw
                      case rel => exact ⟨k + 1, by omega, by go_num, below_call HB6.out x5.low⟩
                      case measure => simp [intOf]; omega
                    · have f2 : decide (x.idx ≤ q.idx) = false := decide_eq_false g2
                      refine wp_region_ext (by kernel_rfl) (by kernel_rfl) ?_
                      repeat (go_big_quiet_step (fail))
                      refine wpQuiet_nil ?_
                      intro _ hw'
                      obtain ⟨x5, hw''⟩ := hw'
                      subst hw''
                      go_wp2_with fail
                      go_roundw
                      case rel => exact ⟨k + 1, by omega, by go_num, below_call HB6.out x5.low⟩
                      case measure => simp [intOf]; omega
                  · have f1 : decide (b.idx < x.idx) = false := decide_eq_false g1
                    refine wp_region_ext (by kernel_rfl) (by kernel_rfl) ?_
                    repeat (go_big_quiet_step (fail))
                    refine wpQuiet_nil ?_
                    intro _ hw'
                    obtain ⟨x5, hw''⟩ := hw'
                    subst hw''
                    go_wp2_with fail
                    go_roundw
                    case rel => exact ⟨k + 1, by omega, by go_num, below_call HB6.out x5.low⟩
                    case measure => simp [intOf]; omega
              · have d0 : decide ((k : Int) < (es.length : Int)) = false := decide_eq_false (by omega)
                have d0' : decide (k < es.length) = false := decide_eq_false hlt
                obtain ⟨kv, fv, zv⟩ := (XV.out.later HBr.out).facts
                clear HF1
                go_wp2_with fail
                clear d0 d0' hlt hk kv fv zv kw fw zw hzr hww
                go_loopw [17] (fun i wx => ∃ k2 : Nat, k2 ≤ l.length + 1 ∧ i = .int .i64 (b.idx + (k2 : Int)) ∧ Below wa.heap.size wa wx) (fun i _ => l.length + 1 - (intOf i - b.idx).toNat)
                case atStart => exact ⟨0, by omega, by simp, HBr.out⟩
                case round =>
                  clear HBr
                  obtain ⟨k2, hk2, rfl, hB⟩ := hrel
                  have HBs := Lib.hid hB
                  obtain ⟨kv, fv, zv⟩ := (XV.out.later hB).facts
                  clear hB
                  have w1 : wrap64 (b.idx + (l.length : Int)) = b.idx + (l.length : Int) := by unfold wrap64; omega
                  obtain ⟨i, hi⟩ : ∃ i, b.idx + (k2 : Int) = i := ⟨_, rfl⟩
                  rw [hi]
                  have HI := Lib.hid hi
                  have w2 : wrap64 (i + 1) = i + 1 := by unfold wrap64; omega
                  have hii : I64 i := by unfold I64; omega
                  by_cases hlt : i ≤ b.idx + (l.length : Int)
                  · have d0 : decide (i ≤ b.idx + (l.length : Int)) = true := decide_eq_true hlt
                    have hk3 : k2 ≤ l.length := by omega
                    obtain ⟨a, ha⟩ : ∃ a, atP (atV b l i) = a := ⟨_, rfl⟩
                    obtain ⟨s1, hs1⟩ : ∃ s, (atV b l i).isSome = s := ⟨_, rfl⟩
                    obtain ⟨a2, ha2⟩ : ∃ a, atP (atV b L i) = a := ⟨_, rfl⟩
                    obtain ⟨s2, hs2⟩ : ∃ s, (atV b L i).isSome = s := ⟨_, rfl⟩
                    have CA1 : Hid (∀ V, Below wa.heap.size wa V → Calls Tryd.prog 15 #[.agg #[.int .i64 b.idx, .int .i64 b.trm, .int .i64 b.knd, .slice A l.length c], .int .i64 i] V fun e w' => e = .returned (.tuple #[.agg #[.int .i64 a.idx, .int .i64 a.trm, .int .i64 a.knd], .bool s1]) ∧ Below V.heap.size V w') := fun V p => by
                      have h := matchAt b l A c i V (HLa.out.later p) hb hii
                      unfold AtPost at h
                      rw [ha, hs1] at h
                      exact h
                    have CA2 : Hid (∀ V, Below wa.heap.size wa V → Calls Tryd.prog 15 #[.agg #[.int .i64 b.idx, .int .i64 b.trm, .int .i64 b.knd, .slice A9 L.length c9], .int .i64 i] V fun e w' => e = .returned (.tuple #[.agg #[.int .i64 a2.idx, .int .i64 a2.trm, .int .i64 a2.knd], .bool s2]) ∧ Below V.heap.size V w') := fun V p => by
                      have h := matchAt b L A9 c9 i V (HLL.out.later p) hb hii
                      unfold AtPost at h
                      rw [ha2, hs2] at h
                      exact h
                    have HSS : Hid (s1 = false ∨ (s1 = true ∧ ((q.cut = 0 ∨ i < q.cut) → s2 = true ∧ (a.trm != a2.trm) = false))) := by
                      cases hv : atV b l i with
                      | none => left; rw [← hs1, hv]; rfl
                      | some z =>
                        right
                        refine ⟨by rw [← hs1, hv]; rfl, fun hc => ?_⟩
                        obtain ⟨z2, hz2, hzt⟩ := HF2.out i z hv hc
                        rw [← hs2, ← ha, ← ha2, hv, hz2]
                        exact ⟨rfl, by show (z.trm != z2.trm) = false; rw [hzt]; simp⟩
                    clear ha hs1 ha2 hs2 hi
                    go_upto_region 26 with (go_at_call 15; refine (CA1.out _ HBs.out).mono ?_; rintro e w6 ⟨rfl, hb6⟩; have HB6 := Lib.hid (below_call HBs.out hb6); clear hb6)
                    have XA1 := Lib.hid (Box.new w6 #[.int .i64 a.idx, .int .i64 a.trm, .int .i64 a.knd] 24)
                    have HB7 := Lib.hid (below_call HB6.out (below_new w6 (.cells #[.int .i64 a.idx, .int .i64 a.trm, .int .i64 a.knd] 24)))
                    obtain ⟨g18, hg18⟩ : ∃ g, g = w6.heap.size := ⟨_, rfl⟩
                    obtain ⟨w7, hw7⟩ : ∃ x, x = w6.alloc (.cells #[.int .i64 a.idx, .int .i64 a.trm, .int .i64 a.knd] 24) := ⟨_, rfl⟩
                    rw [← hw7] at XA1 HB7
                    rw [← hw7, ← hg18]
                    rw [← hg18] at XA1
                    clear hw7 hg18 kv fv zv HB6
                    obtain ⟨kw, fw, zw⟩ := (HW.out.later HB7.out).facts
                    go_upto_region 27 with (go_at_call 15; refine (CA2.out _ HB7.out).mono ?_; rintro e w8 ⟨rfl, hb8⟩; have HB8 := Lib.hid (below_call HB7.out hb8); have XA8 := Lib.hid (XA1.out.later hb8); clear hb8)
                    have XA2 := Lib.hid (Box.new w8 #[.int .i64 a2.idx, .int .i64 a2.trm, .int .i64 a2.knd] 24)
                    have XA9 := Lib.hid (XA8.out.alloc (.cells #[.int .i64 a2.idx, .int .i64 a2.trm, .int .i64 a2.knd] 24))
                    have HB9 := Lib.hid (below_call HB8.out (below_new w8 (.cells #[.int .i64 a2.idx, .int .i64 a2.trm, .int .i64 a2.knd] 24)))
                    obtain ⟨g20, hg20⟩ : ∃ g, g = w8.heap.size := ⟨_, rfl⟩
                    obtain ⟨w9, hw9⟩ : ∃ x, x = w8.alloc (.cells #[.int .i64 a2.idx, .int .i64 a2.trm, .int .i64 a2.knd] 24) := ⟨_, rfl⟩
                    rw [← hw9] at XA2 HB9 XA9
                    rw [← hw9, ← hg20]
                    rw [← hg20] at XA2
                    clear hw9 hg20 kw fw zw HB8 XA8 CA1 CA2
                    obtain ⟨kp, fp, zp⟩ := (XP.out.later HB9.out).facts
                    obtain ⟨ka, fa, za⟩ := XA9.out.facts
                    obtain ⟨kz, fz, zz⟩ := XA2.out.facts
                    by_cases hc : q.cut = 0
                    · have f1 : (q.cut == 0) = true := by simpa using hc
                      rcases HSS.out with h1 | ⟨h1, h2⟩
                      · subst h1
                        go_wp2_with fail
                        go_roundw
                        case rel => exact ⟨k2 + 1, by omega, by have := HI.out; (first | (congr 1; push_cast; omega) | (congr 2; push_cast; omega)), HB9.out⟩
                        case measure => (have := HI.out; simp [intOf]; omega)
                      · subst h1
                        obtain ⟨h3, h4⟩ := h2 (.inl hc)
                        subst h3
                        go_wp2_with fail
                        go_roundw
                        case rel => exact ⟨k2 + 1, by omega, by have := HI.out; (first | (congr 1; push_cast; omega) | (congr 2; push_cast; omega)), HB9.out⟩
                        case measure => (have := HI.out; simp [intOf]; omega)
                    · have f1 : (q.cut == 0) = false := by simpa using hc
                      by_cases hic : i < q.cut
                      · have f2 : decide (i < q.cut) = true := decide_eq_true hic
                        rcases HSS.out with h1 | ⟨h1, h2⟩
                        · subst h1
                          go_wp2_with fail
                          go_roundw
                          case rel => exact ⟨k2 + 1, by omega, by have := HI.out; (first | (congr 1; push_cast; omega) | (congr 2; push_cast; omega)), HB9.out⟩
                          case measure => (have := HI.out; simp [intOf]; omega)
                        · subst h1
                          obtain ⟨h3, h4⟩ := h2 (.inr hic)
                          subst h3
                          go_wp2_with fail
                          go_roundw
                          case rel => exact ⟨k2 + 1, by omega, by have := HI.out; (first | (congr 1; push_cast; omega) | (congr 2; push_cast; omega)), HB9.out⟩
                          case measure => (have := HI.out; simp [intOf]; omega)
                      · have f2 : decide (i < q.cut) = false := decide_eq_false hic
                        go_wp2_with fail
                        go_roundw
                        case rel => exact ⟨k2 + 1, by omega, by have := HI.out; (first | (congr 1; push_cast; omega) | (congr 2; push_cast; omega)), HB9.out⟩
                        case measure => (have := HI.out; simp [intOf]; omega)
                  · have d0 : decide (i ≤ b.idx + (l.length : Int)) = false := decide_eq_false hlt
                    clear hi HI w2 hii hlt hk2 HF2
                    obtain ⟨ku, fu, zu⟩ := (HW.out.later HBs.out).facts
                    obtain ⟨ki, fi, zi⟩ := (XI.out.later HBs.out).facts
                    by_cases hrl : rightV b L = true
                    · obtain ⟨p', hp', e1, e2, e3⟩ := HF4.out
                      have CF := Lib.hid (fitYes b prev L A9 c9 es Ae ce wr (HLL.out.later HBs.out) (HEa.out.later HBs.out) (fun x hx => ⟨(HIa.out x hx).1.later HBs.out, (HIa.out x hx).2⟩) hn5 hb hp HF5.out HIX.out (errType_later HGa.out HBs.out) hrl HF.out HF3.out)
                      rw [hp'] at CF
                      have CF2 : Hid (Calls Tryd.prog 13 #[.agg #[.int .i64 b.idx, .int .i64 b.trm, .int .i64 b.knd, .slice A9 L.length c9], .agg #[.int .i64 prev.idx, .int .i64 prev.trm, .int .i64 prev.knd], .slice Ae es.length ce] wr fun e w' => ∃ A1 n1 c1 A2 c2, e = .returned (.tuple #[.agg #[.bool true, .int .i64 q.idx, .int .i64 0, .slice A1 n1 c1, .slice A2 0 c2], .int .i64 0]) ∧ Below wr.heap.size wr w') := by
                        refine CF.out.mono ?_
                        rintro e w' ⟨B1, d1, n1, B2, d2, n2, rfl, -, -, hb9⟩
                        exact ⟨B1, p'.same.length, d1, B2, d2, by rw [e1, e2, e3]; rfl, hb9⟩
                      clear CF hp' e1 e2 e3 HF4 HF3 hrl
                      go_upto_region 30 with (go_at_call 13; refine CF2.out.mono ?_; rintro e w6 ⟨B1, n1, d1, B2, d2, rfl, hb6⟩; have HB6 := Lib.hid (below_call HBs.out hb6); clear hb6)
                      have XQ := Lib.hid (Box.new w6 #[.bool true, .int .i64 q.idx, .int .i64 0, .slice B1 n1 d1, .slice B2 0 d2] 33)
                      have HB7 := Lib.hid (below_call HB6.out (below_new w6 (.cells #[.bool true, .int .i64 q.idx, .int .i64 0, .slice B1 n1 d1, .slice B2 0 d2] 33)))
                      obtain ⟨g22, hg22⟩ : ∃ g, g = w6.heap.size := ⟨_, rfl⟩
                      obtain ⟨w7, hw7⟩ : ∃ x, x = w6.alloc (.cells #[.bool true, .int .i64 q.idx, .int .i64 0, .slice B1 n1 d1, .slice B2 0 d2] 33) := ⟨_, rfl⟩
                      rw [← hw7] at XQ HB7
                      rw [← hw7, ← hg22]
                      rw [← hg22] at XQ
                      clear hw7 hg22 ku fu zu ki fi zi kv fv zv HB6
                      obtain ⟨kp, fp, zp⟩ := (XP.out.later HB7.out).facts
                      obtain ⟨kq, fq, zq⟩ := XQ.out.facts
                      go_wp2_with fail
                      go_ret
                      exact ⟨rfl, below_call BWa.out HB7.out⟩
                    · have hrf : rightV b L = false := by simpa using hrl
                      have CF := Lib.hid (fitWrong b prev L A9 c9 es Ae ce wr (HLL.out.later HBs.out) (HEa.out.later HBs.out) (fun x hx => ⟨(HIa.out x hx).1.later HBs.out, (HIa.out x hx).2⟩) hn5 hb hp HF5.out HIX.out (errType_later HGa.out HBs.out) hrf)
                      clear hrl hrf HF4 HF3
                      go_upto_region 30 with (go_at_call 13; refine CF.out.mono ?_; rintro e w6 ⟨rfl, hb6⟩; have HB6 := Lib.hid (below_call HBs.out hb6); clear hb6)
                      have HB7 := Lib.hid (below_call HB6.out (below_new w6 (.cells #[.bool false, .int .i64 0, .int .i64 0, .slice none 0 0, .slice none 0 0] 33)))
                      go_wp2_with fail
                      go_ret
                      exact ⟨rfl, below_call BWa.out HB7.out⟩
        · obtain ⟨hs1, hs2⟩ := fitH_sure HR.out hk
          obtain ⟨a, ha⟩ := Option.isSome_iff_exists.1 hs1
          obtain ⟨fh, hfh⟩ : ∃ x, fitH b l prev.idx = x := ⟨_, rfl⟩
          have HK := Lib.hid hk
          rw [hfh] at ha hs2
          have HFH := Lib.hid hfh
          have HA := Lib.hid ha
          have d1 : decide (fh < prev.idx) = true := decide_eq_true hs2
          have hfi : I64 fh := by have := atV_range ha; unfold I64; omega
          clear hk hs1 hfh ha
          go_upto_region 6 with (first
            | (go_at_call 10; refine (awake20 _ HG.out).mono ?_; rintro e w1 ⟨rfl, hb1⟩; have HB1 := Lib.hid hb1; obtain ⟨k3, f3, z3⟩ := (X3.out.later hb1).facts; clear hb1)
            | (go_at_call 11; refine (CG.out w1 HB1.out).mono ?_; rintro e w2 ⟨rfl, hb2⟩; have HB2 := Lib.hid (below_call HB1.out hb2); clear k3 f3 z3; obtain ⟨k3, f3, z3⟩ := (X3.out.later HB2.out).facts; clear hb2)
            | (go_at_call 12; refine (CS.out w2 HB2.out).mono ?_; rintro e w3 ⟨rfl, hb3⟩; have HB3 := Lib.hid (below_call HB2.out hb3); clear k3 f3 z3; obtain ⟨k3, f3, z3⟩ := (X3.out.later HB3.out).facts; obtain ⟨k4, f4, z4⟩ := (X4.out.later HB3.out).facts; clear hb3)
            | (go_at_call 13; refine (fitNo b prev l A c es Ae ce w3 (HL.out.later HB3.out) (HE.out.later HB3.out) (fun x hx => ⟨(HEI.out x hx).later HB3.out, HB5.out x hx⟩) hn5 hb hp HIN.out HIX.out (errType_later HG.out HB3.out) HR.out HF.out HK.out).mono ?_; rw [HFH.out]; rintro e w4 ⟨rfl, hb4⟩; have HB4 := Lib.hid (below_call HB3.out hb4); clear hb4))
          have HP := Lib.hid (Box.new w4 #[.bool false, .int .i64 fh, .int .i64 0, .slice none 0 0, .slice none 0 0] 33)
          have HB6 := Lib.hid (below_call HB4.out (below_new w4 (.cells #[.bool false, .int .i64 fh, .int .i64 0, .slice none 0 0, .slice none 0 0] 33)))
          obtain ⟨gp, hgp⟩ : ∃ g, g = w4.heap.size := ⟨_, rfl⟩
          obtain ⟨w5, hw5⟩ : ∃ x, x = w4.alloc (.cells #[.bool false, .int .i64 fh, .int .i64 0, .slice none 0 0, .slice none 0 0] 33) := ⟨_, rfl⟩
          rw [← hw5] at HP HB6
          rw [← hw5, ← hgp]
          rw [← hgp] at HP
          clear hw5 hgp k3 f3 z3 k4 f4 z4
          obtain ⟨k3, f3, z3⟩ := (X3.out.later HB6.out).facts
          obtain ⟨kp, fp, zp⟩ := HP.out.facts
          go_upto_region 10 with (go_at_call 15; refine (matchAt b l A c fh w5 (HL.out.later HB6.out) hb hfi).mono ?_; rintro e w6 hq; obtain ⟨rfl, hb6⟩ := atS HA.out hq; have HB7 := Lib.hid (below_call HB6.out hb6); have HP7 := Lib.hid (HP.out.later hb6); clear hq hb6)
          have HP8 := Lib.hid (HP7.out.alloc (.cells #[.int .i64 a.idx, .int .i64 a.trm, .int .i64 a.knd] 24))
          have HB8 := Lib.hid (below_call HB7.out (below_new w6 (.cells #[.int .i64 a.idx, .int .i64 a.trm, .int .i64 a.knd] 24)))
          clear kp fp zp k3 f3 z3
          obtain ⟨kp, fp, zp⟩ := HP8.out.facts
          obtain ⟨k4, f4, z4⟩ := (X4.out.later HB8.out).facts
          go_wp2_with fail
          go_ret
          exact ⟨rfl, below_call BW.out HB8.out⟩
      · have HF := Lib.hid hf
        obtain ⟨fv, hfv⟩ : ∃ x, folE prev es = x := ⟨_, rfl⟩
        have hfn : (fv != 0) = true := by simp; rw [← hfv]; exact hf
        have HFV := Lib.hid hfv
        clear hf hfv
        go_upto_region 6 with (first
          | (go_at_call 10; refine (awake20 _ HG.out).mono ?_; rintro e w1 ⟨rfl, hb1⟩; have HB1 := Lib.hid hb1; obtain ⟨k3, f3, z3⟩ := (X3.out.later hb1).facts; clear hb1)
          | (go_at_call 11; refine (CG.out w1 HB1.out).mono ?_; rintro e w2 ⟨rfl, hb2⟩; have HB2 := Lib.hid (below_call HB1.out hb2); clear k3 f3 z3; obtain ⟨k3, f3, z3⟩ := (X3.out.later HB2.out).facts; clear hb2)
          | (go_at_call 12; refine (CS.out w2 HB2.out).mono ?_; rintro e w3 ⟨rfl, hb3⟩; have HB3 := Lib.hid (below_call HB2.out hb3); clear k3 f3 z3; obtain ⟨k3, f3, z3⟩ := (X3.out.later HB3.out).facts; obtain ⟨k4, f4, z4⟩ := (X4.out.later HB3.out).facts; clear hb3)
          | (go_at_call 13; refine (fitNone b prev l A c es Ae ce w3 (HL.out.later HB3.out) (HE.out.later HB3.out) (fun x hx => ⟨(HEI.out x hx).later HB3.out, HB5.out x hx⟩) hn5 hb hp HIN.out HIX.out (errType_later HG.out HB3.out) HR.out HF.out).mono ?_; rintro e w4 ⟨rfl, hb4⟩; have HB4 := Lib.hid (below_call HB3.out hb4); clear hb4))
        have HP := Lib.hid (Box.new w4 #[.bool false, .int .i64 0, .int .i64 0, .slice none 0 0, .slice none 0 0] 33)
        have HB6 := Lib.hid (below_call HB4.out (below_new w4 (.cells #[.bool false, .int .i64 0, .int .i64 0, .slice none 0 0, .slice none 0 0] 33)))
        obtain ⟨gp, hgp⟩ : ∃ g, g = w4.heap.size := ⟨_, rfl⟩
        obtain ⟨w5, hw5⟩ : ∃ x, x = w4.alloc (.cells #[.bool false, .int .i64 0, .int .i64 0, .slice none 0 0, .slice none 0 0] 33) := ⟨_, rfl⟩
        rw [← hw5] at HP HB6
        rw [← hw5, ← hgp]
        rw [← hgp] at HP
        clear hw5 hgp k3 f3 z3 k4 f4 z4
        obtain ⟨k4, f4, z4⟩ := (X4.out.later HB6.out).facts
        obtain ⟨kp, fp, zp⟩ := HP.out.facts
        go_wp2_with (go_at_call 14; refine (entFollows prev es _ w5 (HE.out.later HB6.out) (fun x hx => (HEI.out x hx).later HB6.out) (errType_later HG.out HB6.out)).mono ?_; rw [HFV.out]; rintro e w6 ⟨rfl, hb6⟩; have HB7 := Lib.hid (below_call HB6.out hb6); clear kp fp zp; obtain ⟨kp, fp, zp⟩ := (HP.out.later hb6).facts; clear hb6)
        go_ret
        exact ⟨rfl, below_call BW.out HB7.out⟩
end Go.Proofs.YtclphcbjdcdkfaaDoor
