/-
  limpetlaw17's EntryJoins: true.
-/
import Derived.Test.YteogfcellpdpjaaDoorEntAwake2
import Derived.Test.YteogfcellpdpjaaDoorEntJoinsMath
import Derived.Test.YteogfcellpdpjaaDoorSlCut
set_option linter.unusedVariables false
set_option linter.unusedSimpArgs false
namespace Go.Proofs.YteogfcellpdpjaaDoor
open Go.RowKit

theorem pick1 (x : Int) (n : Nat) (w : World) (hn : n ≤ 1000000) (hx0 : -9223372036854775808 ≤ x) (hx1 : x ≤ 9223372036854775807) :
    Calls Tryd.prog 27 #[.int .i64 x, .int .i64 ((n : Int) + 1)] w fun e w' => ∃ k : Nat, k ≤ n ∧ e = .returned (.int .i64 k) ∧ w = w' := by
  have h := pick_ x (n + 1) w (by omega) (by omega) hx0 hx1
  rw [show ((n + 1 : Nat) : Int) = (n : Int) + 1 by omega] at h
  exact h.mono fun e w' ⟨he, hw⟩ => ⟨_, by have := pickI_lt (x := x) (show 0 < n + 1 by omega); omega, he, hw⟩

theorem cnt4000 (l : List Ent) (v : Value) (w : World) (hl : Sl 4 entRow w.heap.size w v l) (hbig : ∀ x ∈ l, x.bd.length ≤ 140737488351232) :
    Calls Tryd.prog 26 #[v, .int .i64 4000] w fun e w' => ∃ n : Nat, e = .returned (.int .i64 n) ∧ (n = sizeE l ∨ 4000 < n ∧ 4000 < sizeE l) ∧ w = w' :=
  entriesOf l 4000 v w hl hbig (by omega)

set_option maxRecDepth 100000 in
set_option maxHeartbeats 1000000 in
theorem joins_big (p : Idt) (l : List Ent) (cut : Int) (v : Value) (w : World) (hl : Sl 4 entRow w.heap.size w v l) (hin : ∀ x ∈ l, EntIn w.heap.size w x ∧ x.bd.length ≤ 140737488351232) (c0 : -9223372036854775808 ≤ cut) (c1 : cut ≤ 9223372036854775807) (hG : errTypeIs w) (hbig : 4000 < sizeE l) :
    Calls Tryd.prog 4 #[.agg #[.int .i64 p.idx, .int .i64 p.trm, .int .i64 p.knd], v, .int .i64 cut] w fun e w' => e = .returned (.bool true) ∧ Below w.heap.size w w' := by
  have HG := Lib.hid hG
  have HL := Lib.hid hl
  have HIN := Lib.hid hin
  obtain ⟨A, cp, rfl, hlc, hcm, hnn, hnl⟩ := id hl
  have HN := Lib.hid hnn
  have HNL := Lib.hid hnl
  clear hG hl hin hnn hnl
  go_enter Tryd.func4, Tryd.ntmps4
  go_wp2_with (first
    | (go_at_call 11; refine (awake _ (errType_later HG.out (below_new _ _))).mono ?_; rintro e w1 ⟨rfl, hb1⟩; have HB1 := Lib.hid (below_call (below_new _ _) hb1); have HX := Lib.hid ((Box.new w #[.int .i64 p.idx, .int .i64 p.trm, .int .i64 p.knd] 42).later hb1); clear hb1)
    | (go_at_call 26; refine (cnt4000 l _ _ (HL.out.later HB1.out) (fun x hx => (HIN.out x hx).2)).mono ?_; rintro e w2 ⟨n, rfl, hn, rfl⟩; have hn' : (4000 : Int) < (n : Int) := (by omega); have hn2 : 4000 < n := (by omega); clear hn))
  go_ret
  exact ⟨rfl, HB1.out⟩

set_option maxRecDepth 100000 in
set_option maxHeartbeats 4000000 in
theorem joins_one (p : Idt) (l : List Ent) (cut : Int) (v : Value) (w : World) (hl : Sl 4 entRow w.heap.size w v l) (hin : ∀ x ∈ l, EntIn w.heap.size w x ∧ x.bd.length ≤ 140737488351232) (c0 : -9223372036854775808 ≤ cut) (c1 : cut ≤ 9223372036854775807) (hG : errTypeIs w) (hsm : sizeE l ≤ 4000) :
    Calls Tryd.prog 4 #[.agg #[.int .i64 p.idx, .int .i64 p.trm, .int .i64 p.knd], v, .int .i64 cut] w fun e w' => e = .returned (.bool true) ∧ Below w.heap.size w w' := by
  have hll : l.length ≤ 4000 := Nat.le_trans (sizeE_len l) hsm
  have HG := Lib.hid hG
  have HL := Lib.hid hl
  have HIN := Lib.hid hin
  obtain ⟨A, cp, rfl, hlc, hcm, hnn, hnl⟩ := id hl
  have HN := Lib.hid hnn
  have HNL := Lib.hid hnl
  clear hG hl hin hnn hnl
  go_enter Tryd.func4, Tryd.ntmps4
  go_upto_region 6 with (first
    | (go_at_call 11; refine (awake _ (errType_later HG.out (below_new _ _))).mono ?_; rintro e w1 ⟨rfl, hb1⟩; have HB1 := Lib.hid (below_call (below_new _ _) hb1); have HX := Lib.hid ((Box.new w #[.int .i64 p.idx, .int .i64 p.trm, .int .i64 p.knd] 42).later hb1); clear hb1)
    | (go_at_call 26; refine (cnt4000 l _ _ (HL.out.later HB1.out) (fun x hx => (HIN.out x hx).2)).mono ?_; rintro e w2 ⟨n, rfl, hn, rfl⟩; have hn' : (n : Int) ≤ 4000 := (by omega); have hn2 : n ≤ 4000 := (by omega); clear hn)
    | (go_at_call 27; refine (pick1 cut l.length _ (by omega) c0 c1).mono ?_; rintro e w2 ⟨k, hk, rfl, rfl⟩))
  have hkc : k ≤ cp := by omega
  have hnl : l.length - k ≤ l.length := by omega
  have HL1 := Lib.hid (HL.out.later HB1.out)
  go_cut [8, 9] (fun va vb wx => ∃ (A1 A2 : Option Addr) (q1 q2 : Nat), va = .slice A1 (l.take k).length q1 ∧ vb = .slice A2 (l.drop k).length q2 ∧ Sl 4 entRow wx.heap.size wx va (l.take k) ∧ Sl 4 entRow wx.heap.size wx vb (l.drop k) ∧ Below w1.heap.size w1 wx)
  case first =>
    have e1 : (l.take k).length = k := by rw [List.length_take]; omega
    have e2 : (l.drop k).length = l.length - k := by rw [List.length_drop]
    cases A with
    | none =>
      have hl0 : l = [] := by
        have := HN.out rfl
        exact List.eq_nil_of_length_eq_zero (by omega)
      have hc0 := HN.out rfl
      subst hl0 hc0
      have hk0 : k = 0 := by simpa using hk
      subst hk0
      refine wp_region_ext (by kernel_rfl) (by kernel_rfl) ?_
      repeat (go_big_quiet_step (fail))
      refine wpQuiet_nil ?_
      intro _ hw'
      obtain ⟨x6, hw''⟩ := hw'
      subst hw''
      go_wp2_with fail
      go_meet
      exact ⟨none, none, 0, 0, rfl, rfl, Sl.nil_ _ _ _ _, Sl.nil_ _ _ _ _, x6.low⟩
    | some ad =>
      refine wp_region_ext (by kernel_rfl) (by kernel_rfl) ?_
      repeat (go_big_quiet_step (fail))
      refine wpQuiet_nil ?_
      intro _ hw'
      obtain ⟨x6, hw''⟩ := hw'
      subst hw''
      obtain ⟨Ad, hAd⟩ : ∃ Ad, Ad = (if cp = k then some ad else some (ad.add (k * 4))) := ⟨_, rfl⟩
      rw [← hAd]
      go_wp2_with fail
      go_meet
      refine ⟨_, _, _, _, by rw [e1], by rw [e2], ?_, ?_, x6.low⟩
      · exact (HL1.out.take_ hk).later x6.low
      · rw [hAd]; exact (HL1.out.drop2 hk).later x6.low
  case rest =>
    obtain ⟨A1, A2, q1, q2, rfl, rfl, hs1, hs2, HB6⟩ := hcut
    have HS1 := Lib.hid hs1
    have HS2 := Lib.hid hs2
    have HB2 := Lib.hid (below_call HB1.out HB6)
    have HXc := Lib.hid (HX.out.later HB6)
    obtain ⟨gp, hgp⟩ : ∃ g, g = w.heap.size := ⟨_, rfl⟩
    rw [← hgp] at HXc
    rw [← hgp]
    have HIA := Lib.hid (show ∀ x ∈ l.take k, EntIn wc.heap.size wc x from fun x hx => (HIN.out x (List.mem_of_mem_take hx)).1.later HB2.out)
    have HIB := Lib.hid (show ∀ x ∈ l.drop k, EntIn wc.heap.size wc x from fun x hx => (HIN.out x (List.mem_of_mem_drop hx)).1.later HB2.out)
    have HIL := Lib.hid (show ∀ x ∈ l, EntIn wc.heap.size wc x from fun x hx => (HIN.out x hx).1.later HB2.out)
    have HLc := Lib.hid (HL.out.later HB2.out)
    have HGc := Lib.hid (errType_later HG.out HB2.out)
    have HF2 := Lib.hid (fol_two p l k)
    have HT2 := Lib.hid (last_two p l k)
    obtain ⟨la, hla⟩ : ∃ x, x = l.take k := ⟨_, rfl⟩
    obtain ⟨lb, hlb⟩ : ∃ x, x = l.drop k := ⟨_, rfl⟩
    rw [← hla] at HS1 HIA HF2 HT2
    rw [← hlb] at HS2 HIB HF2 HT2
    rw [← hla, ← hlb]
    obtain ⟨q, hq⟩ : ∃ q, q = lastE p la := ⟨_, rfl⟩
    have HQ := Lib.hid hq
    rw [← hq] at HF2 HT2
    have hle : la.length ≤ 4000 := by rw [hla]; have := List.length_take_le k l; omega
    have hle2 : lb.length ≤ 4000 := by rw [hlb, List.length_drop]; omega
    clear hgp hla hlb hq HB6 HX HL1 HIN hs1 hs2
    by_cases h1 : folE p la = 0
    · have H1 := Lib.hid h1
      by_cases h2 : folE q lb = 0
      · have H2 := Lib.hid h2
        have HA := Lib.hid (show folE p l = 0 by rw [HF2.out, if_pos h1]; exact h2)
        clear h1 h2
        have CF1 := Lib.hid (show ∀ x5 : Ext wc, Calls Tryd.prog 28 #[.agg #[.int .i64 p.idx, .int .i64 p.trm, .int .i64 p.knd], .slice A1 la.length q1] x5.wd (fun e w' => e = .returned (.int .i64 0) ∧ Below x5.wd.heap.size x5.wd w') from fun x5 => by have h := entFollows p la _ x5.wd (HS1.out.later x5.low) (fun x hx => (HIA.out x hx).later x5.low) (errType_later HGc.out x5.low); rw [H1.out] at h; exact h)
        have CL1 := Lib.hid (show ∀ x5 : Ext wc, Calls Tryd.prog 29 #[.agg #[.int .i64 p.idx, .int .i64 p.trm, .int .i64 p.knd], .slice A1 la.length q1] x5.wd (fun e w' => e = .returned (.agg #[.int .i64 q.idx, .int .i64 q.trm, .int .i64 q.knd]) ∧ Below x5.wd.heap.size x5.wd w') from fun x5 => by have h := entLast p la _ x5.wd (HS1.out.later x5.low); rw [← HQ.out] at h; exact h)
        have CF2 := Lib.hid (show ∀ x5 : Ext wc, Calls Tryd.prog 28 #[.agg #[.int .i64 q.idx, .int .i64 q.trm, .int .i64 q.knd], .slice A2 lb.length q2] x5.wd (fun e w' => e = .returned (.int .i64 0) ∧ Below x5.wd.heap.size x5.wd w') from fun x5 => by have h := entFollows q lb _ x5.wd (HS2.out.later x5.low) (fun x hx => (HIB.out x hx).later x5.low) (errType_later HGc.out x5.low); rw [H2.out] at h; exact h)
        have ka0 : ∀ zw : Ext wc, zw.wd.cell? ⟨gp, 0, none⟩ = some (.int .i64 p.idx) := HXc.out.ext 0
        have ka1 : ∀ zw : Ext wc, zw.wd.cell? ⟨gp, 1, none⟩ = some (.int .i64 p.trm) := HXc.out.ext 1
        have ka2 : ∀ zw : Ext wc, zw.wd.cell? ⟨gp, 2, none⟩ = some (.int .i64 p.knd) := HXc.out.ext 2
        go_upto_region 7 with fail
        refine wp_region_ext (by kernel_rfl) (by kernel_rfl) ?_
        repeat (go_big_quiet_step ((rename_i x5; have h5 := x5.low; first
          | (go_at_call 28; first | (with_reducible exact ext_of x5 (CF1.out x5)) | (with_reducible exact ext_of x5 (CF2.out x5)))
          | (go_at_call 29; exact ext_of x5 (CL1.out x5)))))
        refine wpQuiet_nil ?_
        intro _ hw'
        obtain ⟨x7, hw''⟩ := hw'
        subst hw''
        clear CF1 CL1 CF2 ka0 ka1 ka2
        obtain ⟨ka, -, za⟩ := (HXc.out.later x7.low).facts
        go_wp2_with (go_at_call 28; refine (entFollows p l _ _ (HLc.out.later x7.low) (fun x hx => (HIL.out x hx).later x7.low) (errType_later HGc.out x7.low)).mono ?_; rintro e w8 ⟨rfl, hb8⟩; rw [HA.out])
        have HB8 := Lib.hid (below_call x7.low hb8)
        clear ka za hb8
        have HE := Lib.hid (fol_each l p HA.out)
        go_loopw [13] (fun i wr => ∃ j : Nat, j ≤ l.length ∧ i = .int .i64 j ∧ Below wc.heap.size wc wr) (fun i _ => l.length - (intOf i).toNat)
        case atStart => exact ⟨0, by omega, rfl, HB8.out⟩
        case round =>
          clear HB8
          obtain ⟨j, hj, rfl, hB⟩ := hrel
          have HBr := Lib.hid hB
          clear hB
          by_cases hlt : j < l.length
          · obtain ⟨b, off, q3, e3, hlc3, hcm3, hb3, hcell⟩ := HLc.out.cellAt (by intro h; subst h; simp at hlt)
            simp only [Value.slice.injEq] at e3
            obtain ⟨rfl, -, rfl⟩ := e3
            obtain ⟨x, hx⟩ : ∃ x, l[j]? = some x := ⟨_, List.getElem?_eq_getElem hlt⟩
            obtain ⟨g1, g2, g3, g4⟩ := HE.out j x hx
            have gr := goodE_range g1
            have d0 : decide ((j : Int) < (l.length : Int)) = true := decide_eq_true (by omega)
            have i0 : (0 : Int) ≤ (j : Int) := by omega
            have i1 : (j : Int) < (l.length : Int) := by omega
            have w1' : IntKind.i64.wrap (p.idx + 1) = p.idx + 1 := IntWalk.i64_in _ (by omega)
            have w2' : IntKind.i64.wrap (p.idx + 1 + (j : Int)) = p.idx + 1 + (j : Int) := IntWalk.i64_in _ (by omega)
            have n1 : (x.idx != p.idx + 1 + (j : Int)) = false := by simpa using g2
            have n2 : decide (x.trm < p.trm) = false := decide_eq_false (by omega)
            have kx0 : ∀ zw : Ext wr, zw.wd.cell? ⟨b, off + j * 4, none⟩ = some (.int .i64 x.idx) := fun zw => ((below_call HBr.out zw.low).cell (p := ⟨b, off + j * 4 + 0, none⟩) hb3).trans (hcell j x hx 0 _ rfl)
            have kx1 : ∀ zw : Ext wr, zw.wd.cell? ⟨b, off + j * 4 + 1, none⟩ = some (.int .i64 x.trm) := fun zw => ((below_call HBr.out zw.low).cell (p := ⟨b, off + j * 4 + 1, none⟩) hb3).trans (hcell j x hx 1 _ rfl)
            have kx2 : ∀ zw : Ext wr, zw.wd.cell? ⟨b, off + j * 4 + 2, none⟩ = some (.int .i64 x.knd) := fun zw => ((below_call HBr.out zw.low).cell (p := ⟨b, off + j * 4 + 2, none⟩) hb3).trans (hcell j x hx 2 _ rfl)
            have kx3 : ∀ zw : Ext wr, zw.wd.cell? ⟨b, off + j * 4 + 3, none⟩ = some (.slice x.ba x.bd.length x.bc) := fun zw => ((below_call HBr.out zw.low).cell (p := ⟨b, off + j * 4 + 3, none⟩) hb3).trans (hcell j x hx 3 _ rfl)
            have ka0 : ∀ zw : Ext wr, zw.wd.cell? ⟨gp, 0, none⟩ = some (.int .i64 p.idx) := (HXc.out.later HBr.out).ext 0
            have ka1 : ∀ zw : Ext wr, zw.wd.cell? ⟨gp, 1, none⟩ = some (.int .i64 p.trm) := (HXc.out.later HBr.out).ext 1
            have ka2 : ∀ zw : Ext wr, zw.wd.cell? ⟨gp, 2, none⟩ = some (.int .i64 p.knd) := (HXc.out.later HBr.out).ext 2
            have CG := Lib.hid (show ∀ x5 : Ext wr, Calls Tryd.prog 30 #[.agg #[.int .i64 x.idx, .int .i64 x.trm, .int .i64 x.knd, .slice x.ba x.bd.length x.bc]] x5.wd (fun e w' => e = .returned (.bool true) ∧ Below x5.wd.heap.size x5.wd w') from fun x5 => by have h := entGood x x5.wd ((HIL.out x (List.mem_of_getElem? hx)).later (below_call HBr.out x5.low)); rw [g1] at h; exact h)
            clear g1 g2 g3 gr
            by_cases hj0 : j = 0
            · have d1 : decide ((0 : Int) < (j : Int)) = false := decide_eq_false (by omega)
              have d1' : decide (0 < j) = false := decide_eq_false (by omega)
              clear g4 hcell hx hj0
              go_upto_region 14 with fail
              refine wp_region_ext (by kernel_rfl) (by kernel_rfl) ?_
              repeat (go_big_quiet_step ((rename_i x5; have h5 := x5.low; first
                | (go_at_call 30; exact ext_of x5 (CG.out x5)))))
              refine wpQuiet_nil ?_
              intro _ hw'
              obtain ⟨x9, hw''⟩ := hw'
              subst hw''
              go_wp2_with fail
              go_roundw
              case rel => exact ⟨j + 1, by omega, by go_num, below_call HBr.out x9.low⟩
              case measure => simp [intOf]; omega
            · obtain ⟨y, hy⟩ : ∃ y, l[j - 1]? = some y := ⟨_, List.getElem?_eq_getElem (by omega)⟩
              have g5 := g4 y (by omega) hy
              have d1 : decide ((0 : Int) < (j : Int)) = true := decide_eq_true (by omega)
              have d1' : decide (0 < j) = true := decide_eq_true (by omega)
              have n3 : decide (x.trm < y.trm) = false := decide_eq_false (by omega)
              obtain ⟨j', hj'⟩ : ∃ j', j - 1 = j' := ⟨_, rfl⟩
              have w3 : IntKind.i64.wrap ((j : Int) - 1) = (j' : Int) := by rw [IntWalk.i64_in _ (by omega)]; omega
              have i2 : (0 : Int) ≤ (j' : Int) := by omega
              have i3 : (j' : Int) < (l.length : Int) := by omega
              rw [hj'] at hy
              have ky1 : ∀ zw : Ext wr, zw.wd.cell? ⟨b, off + j' * 4 + 1, none⟩ = some (.int .i64 y.trm) := fun zw => ((below_call HBr.out zw.low).cell (p := ⟨b, off + j' * 4 + 1, none⟩) hb3).trans (hcell j' y hy 1 _ rfl)
              clear g4 g5 hcell hx hy hj0 hj'
              go_upto_region 14 with fail
              refine wp_region_ext (by kernel_rfl) (by kernel_rfl) ?_
              repeat (go_big_quiet_step ((rename_i x5; have h5 := x5.low; first
                | (go_at_call 30; exact ext_of x5 (CG.out x5)))))
              refine wpQuiet_nil ?_
              intro _ hw'
              obtain ⟨x9, hw''⟩ := hw'
              subst hw''
              go_wp2_with fail
              go_roundw
              case rel => exact ⟨j + 1, by omega, by go_num, below_call HBr.out x9.low⟩
              case measure => simp [intOf]; omega
          · have d0 : decide ((j : Int) < (l.length : Int)) = false := decide_eq_false (by omega)
            obtain ⟨r, hr⟩ : ∃ r, lastE p l = r := ⟨_, rfl⟩
            have HR := Lib.hid hr
            have HR2 := Lib.hid (HT2.out.trans hr)
            clear hr
            have CLa := Lib.hid (show ∀ x5 : Ext wr, Calls Tryd.prog 29 #[.agg #[.int .i64 p.idx, .int .i64 p.trm, .int .i64 p.knd], .slice A1 la.length q1] x5.wd (fun e w' => e = .returned (.agg #[.int .i64 q.idx, .int .i64 q.trm, .int .i64 q.knd]) ∧ Below x5.wd.heap.size x5.wd w') from fun x5 => by have h := entLast p la _ x5.wd ((HS1.out.later HBr.out).later x5.low); rw [← HQ.out] at h; exact h)
            have CLb := Lib.hid (show ∀ x5 : Ext wr, Calls Tryd.prog 29 #[.agg #[.int .i64 q.idx, .int .i64 q.trm, .int .i64 q.knd], .slice A2 lb.length q2] x5.wd (fun e w' => e = .returned (.agg #[.int .i64 r.idx, .int .i64 r.trm, .int .i64 r.knd]) ∧ Below x5.wd.heap.size x5.wd w') from fun x5 => by have h := entLast q lb _ x5.wd ((HS2.out.later HBr.out).later x5.low); rw [HR2.out] at h; exact h)
            have CLl := Lib.hid (show ∀ x5 : Ext wr, Calls Tryd.prog 29 #[.agg #[.int .i64 p.idx, .int .i64 p.trm, .int .i64 p.knd], .slice A l.length cp] x5.wd (fun e w' => e = .returned (.agg #[.int .i64 r.idx, .int .i64 r.trm, .int .i64 r.knd]) ∧ Below x5.wd.heap.size x5.wd w') from fun x5 => by have h := entLast p l _ x5.wd ((HLc.out.later HBr.out).later x5.low); rw [HR.out] at h; exact h)
            have ka0 : ∀ zw : Ext wr, zw.wd.cell? ⟨gp, 0, none⟩ = some (.int .i64 p.idx) := (HXc.out.later HBr.out).ext 0
            have ka1 : ∀ zw : Ext wr, zw.wd.cell? ⟨gp, 1, none⟩ = some (.int .i64 p.trm) := (HXc.out.later HBr.out).ext 1
            have ka2 : ∀ zw : Ext wr, zw.wd.cell? ⟨gp, 2, none⟩ = some (.int .i64 p.knd) := (HXc.out.later HBr.out).ext 2
            go_upto_region 16 with fail
            refine wp_region_ext (by kernel_rfl) (by kernel_rfl) ?_
            repeat (go_big_quiet_step ((rename_i x5; have h5 := x5.low; first
              | (go_at_call 29; first | (with_reducible exact ext_of x5 (CLa.out x5)) | (with_reducible exact ext_of x5 (CLb.out x5)) | (with_reducible exact ext_of x5 (CLl.out x5))))))
            refine wpQuiet_nil ?_
            intro _ hw'
            obtain ⟨x9, hw''⟩ := hw'
            subst hw''
            clear CLa CLb CLl ka0 ka1 ka2
            go_wp2_with fail
            go_ret
            exact ⟨rfl, below_call (below_call HB2.out HBr.out) x9.low⟩
      · obtain ⟨n2, h3⟩ : ∃ n, folE q lb = n := ⟨_, rfl⟩
        have H2 := Lib.hid h3
        have n20 : n2 ≠ 0 := by rw [← h3]; exact h2
        have e1 : (n2 != 0) = true := by simpa using n20
        have e2 : (n2 == 0) = false := by simpa using n20
        have HA := Lib.hid (show folE p l = n2 by rw [HF2.out, if_pos h1]; exact h3)
        clear h1 h2 h3 n20
        have CF1 := Lib.hid (show ∀ x5 : Ext wc, Calls Tryd.prog 28 #[.agg #[.int .i64 p.idx, .int .i64 p.trm, .int .i64 p.knd], .slice A1 la.length q1] x5.wd (fun e w' => e = .returned (.int .i64 0) ∧ Below x5.wd.heap.size x5.wd w') from fun x5 => by have h := entFollows p la _ x5.wd (HS1.out.later x5.low) (fun x hx => (HIA.out x hx).later x5.low) (errType_later HGc.out x5.low); rw [H1.out] at h; exact h)
        have CL1 := Lib.hid (show ∀ x5 : Ext wc, Calls Tryd.prog 29 #[.agg #[.int .i64 p.idx, .int .i64 p.trm, .int .i64 p.knd], .slice A1 la.length q1] x5.wd (fun e w' => e = .returned (.agg #[.int .i64 q.idx, .int .i64 q.trm, .int .i64 q.knd]) ∧ Below x5.wd.heap.size x5.wd w') from fun x5 => by have h := entLast p la _ x5.wd (HS1.out.later x5.low); rw [← HQ.out] at h; exact h)
        have CF2 := Lib.hid (show ∀ x5 : Ext wc, Calls Tryd.prog 28 #[.agg #[.int .i64 q.idx, .int .i64 q.trm, .int .i64 q.knd], .slice A2 lb.length q2] x5.wd (fun e w' => e = .returned (.int .i64 n2) ∧ Below x5.wd.heap.size x5.wd w') from fun x5 => by have h := entFollows q lb _ x5.wd (HS2.out.later x5.low) (fun x hx => (HIB.out x hx).later x5.low) (errType_later HGc.out x5.low); rw [H2.out] at h; exact h)
        have ka0 : ∀ zw : Ext wc, zw.wd.cell? ⟨gp, 0, none⟩ = some (.int .i64 p.idx) := HXc.out.ext 0
        have ka1 : ∀ zw : Ext wc, zw.wd.cell? ⟨gp, 1, none⟩ = some (.int .i64 p.trm) := HXc.out.ext 1
        have ka2 : ∀ zw : Ext wc, zw.wd.cell? ⟨gp, 2, none⟩ = some (.int .i64 p.knd) := HXc.out.ext 2
        go_upto_region 7 with fail
        refine wp_region_ext (by kernel_rfl) (by kernel_rfl) ?_
        repeat (go_big_quiet_step ((rename_i x5; have h5 := x5.low; first
          | (go_at_call 28; first | (with_reducible exact ext_of x5 (CF1.out x5)) | (with_reducible exact ext_of x5 (CF2.out x5)))
          | (go_at_call 29; exact ext_of x5 (CL1.out x5)))))
        refine wpQuiet_nil ?_
        intro _ hw'
        obtain ⟨x7, hw''⟩ := hw'
        subst hw''
        clear CF1 CL1 CF2 ka0 ka1 ka2
        obtain ⟨ka, -, za⟩ := (HXc.out.later x7.low).facts
        go_wp2_with (go_at_call 28; refine (entFollows p l _ _ (HLc.out.later x7.low) (fun x hx => (HIL.out x hx).later x7.low) (errType_later HGc.out x7.low)).mono ?_; rintro e w8 ⟨rfl, hb8⟩; rw [HA.out])
        have HB8 := Lib.hid (below_call x7.low hb8)
        clear ka za hb8
        go_loopw [13] (fun i wr => ∃ j : Nat, j ≤ l.length ∧ i = .int .i64 j ∧ Below wc.heap.size wc wr) (fun i _ => l.length - (intOf i).toNat)
        case atStart => exact ⟨0, by omega, rfl, HB8.out⟩
        case round =>
          clear HB8
          obtain ⟨j, hj, rfl, hB⟩ := hrel
          have HBr := Lib.hid hB
          clear hB
          by_cases hlt : j < l.length
          · have d0 : decide ((j : Int) < (l.length : Int)) = true := decide_eq_true (by omega)
            obtain ⟨r, hr⟩ : ∃ r, lastE p l = r := ⟨_, rfl⟩
            have HR := Lib.hid hr
            have HR2 := Lib.hid (HT2.out.trans hr)
            clear hr
            have CLa := Lib.hid (show ∀ x5 : Ext wr, Calls Tryd.prog 29 #[.agg #[.int .i64 p.idx, .int .i64 p.trm, .int .i64 p.knd], .slice A1 la.length q1] x5.wd (fun e w' => e = .returned (.agg #[.int .i64 q.idx, .int .i64 q.trm, .int .i64 q.knd]) ∧ Below x5.wd.heap.size x5.wd w') from fun x5 => by have h := entLast p la _ x5.wd ((HS1.out.later HBr.out).later x5.low); rw [← HQ.out] at h; exact h)
            have CLb := Lib.hid (show ∀ x5 : Ext wr, Calls Tryd.prog 29 #[.agg #[.int .i64 q.idx, .int .i64 q.trm, .int .i64 q.knd], .slice A2 lb.length q2] x5.wd (fun e w' => e = .returned (.agg #[.int .i64 r.idx, .int .i64 r.trm, .int .i64 r.knd]) ∧ Below x5.wd.heap.size x5.wd w') from fun x5 => by have h := entLast q lb _ x5.wd ((HS2.out.later HBr.out).later x5.low); rw [HR2.out] at h; exact h)
            have CLl := Lib.hid (show ∀ x5 : Ext wr, Calls Tryd.prog 29 #[.agg #[.int .i64 p.idx, .int .i64 p.trm, .int .i64 p.knd], .slice A l.length cp] x5.wd (fun e w' => e = .returned (.agg #[.int .i64 r.idx, .int .i64 r.trm, .int .i64 r.knd]) ∧ Below x5.wd.heap.size x5.wd w') from fun x5 => by have h := entLast p l _ x5.wd ((HLc.out.later HBr.out).later x5.low); rw [HR.out] at h; exact h)
            have ka0 : ∀ zw : Ext wr, zw.wd.cell? ⟨gp, 0, none⟩ = some (.int .i64 p.idx) := (HXc.out.later HBr.out).ext 0
            have ka1 : ∀ zw : Ext wr, zw.wd.cell? ⟨gp, 1, none⟩ = some (.int .i64 p.trm) := (HXc.out.later HBr.out).ext 1
            have ka2 : ∀ zw : Ext wr, zw.wd.cell? ⟨gp, 2, none⟩ = some (.int .i64 p.knd) := (HXc.out.later HBr.out).ext 2
            go_upto_region 16 with fail
            refine wp_region_ext (by kernel_rfl) (by kernel_rfl) ?_
            repeat (go_big_quiet_step ((rename_i x5; have h5 := x5.low; first
              | (go_at_call 29; first | (with_reducible exact ext_of x5 (CLa.out x5)) | (with_reducible exact ext_of x5 (CLb.out x5)) | (with_reducible exact ext_of x5 (CLl.out x5))))))
            refine wpQuiet_nil ?_
            intro _ hw'
            obtain ⟨x9, hw''⟩ := hw'
            subst hw''
            clear CLa CLb CLl ka0 ka1 ka2
            go_wp2_with fail
            go_ret
            exact ⟨rfl, below_call (below_call HB2.out HBr.out) x9.low⟩
          · have d0 : decide ((j : Int) < (l.length : Int)) = false := decide_eq_false (by omega)
            obtain ⟨r, hr⟩ : ∃ r, lastE p l = r := ⟨_, rfl⟩
            have HR := Lib.hid hr
            have HR2 := Lib.hid (HT2.out.trans hr)
            clear hr
            have CLa := Lib.hid (show ∀ x5 : Ext wr, Calls Tryd.prog 29 #[.agg #[.int .i64 p.idx, .int .i64 p.trm, .int .i64 p.knd], .slice A1 la.length q1] x5.wd (fun e w' => e = .returned (.agg #[.int .i64 q.idx, .int .i64 q.trm, .int .i64 q.knd]) ∧ Below x5.wd.heap.size x5.wd w') from fun x5 => by have h := entLast p la _ x5.wd ((HS1.out.later HBr.out).later x5.low); rw [← HQ.out] at h; exact h)
            have CLb := Lib.hid (show ∀ x5 : Ext wr, Calls Tryd.prog 29 #[.agg #[.int .i64 q.idx, .int .i64 q.trm, .int .i64 q.knd], .slice A2 lb.length q2] x5.wd (fun e w' => e = .returned (.agg #[.int .i64 r.idx, .int .i64 r.trm, .int .i64 r.knd]) ∧ Below x5.wd.heap.size x5.wd w') from fun x5 => by have h := entLast q lb _ x5.wd ((HS2.out.later HBr.out).later x5.low); rw [HR2.out] at h; exact h)
            have CLl := Lib.hid (show ∀ x5 : Ext wr, Calls Tryd.prog 29 #[.agg #[.int .i64 p.idx, .int .i64 p.trm, .int .i64 p.knd], .slice A l.length cp] x5.wd (fun e w' => e = .returned (.agg #[.int .i64 r.idx, .int .i64 r.trm, .int .i64 r.knd]) ∧ Below x5.wd.heap.size x5.wd w') from fun x5 => by have h := entLast p l _ x5.wd ((HLc.out.later HBr.out).later x5.low); rw [HR.out] at h; exact h)
            have ka0 : ∀ zw : Ext wr, zw.wd.cell? ⟨gp, 0, none⟩ = some (.int .i64 p.idx) := (HXc.out.later HBr.out).ext 0
            have ka1 : ∀ zw : Ext wr, zw.wd.cell? ⟨gp, 1, none⟩ = some (.int .i64 p.trm) := (HXc.out.later HBr.out).ext 1
            have ka2 : ∀ zw : Ext wr, zw.wd.cell? ⟨gp, 2, none⟩ = some (.int .i64 p.knd) := (HXc.out.later HBr.out).ext 2
            go_upto_region 16 with fail
            refine wp_region_ext (by kernel_rfl) (by kernel_rfl) ?_
            repeat (go_big_quiet_step ((rename_i x5; have h5 := x5.low; first
              | (go_at_call 29; first | (with_reducible exact ext_of x5 (CLa.out x5)) | (with_reducible exact ext_of x5 (CLb.out x5)) | (with_reducible exact ext_of x5 (CLl.out x5))))))
            refine wpQuiet_nil ?_
            intro _ hw'
            obtain ⟨x9, hw''⟩ := hw'
            subst hw''
            clear CLa CLb CLl ka0 ka1 ka2
            go_wp2_with fail
            go_ret
            exact ⟨rfl, below_call (below_call HB2.out HBr.out) x9.low⟩
    · obtain ⟨n1, h3⟩ : ∃ n, folE p la = n := ⟨_, rfl⟩
      obtain ⟨n2, h4⟩ : ∃ n, folE q lb = n := ⟨_, rfl⟩
      have H1 := Lib.hid h3
      have H2 := Lib.hid h4
      have n10 : n1 ≠ 0 := by rw [← h3]; exact h1
      have e1 : (n1 != 0) = true := by simpa using n10
      have e2 : (n1 == 0) = false := by simpa using n10
      have HA := Lib.hid (show folE p l = n1 by rw [HF2.out, if_neg h1]; exact h3)
      clear h1 h3 h4 n10
      have CF1 := Lib.hid (show ∀ x5 : Ext wc, Calls Tryd.prog 28 #[.agg #[.int .i64 p.idx, .int .i64 p.trm, .int .i64 p.knd], .slice A1 la.length q1] x5.wd (fun e w' => e = .returned (.int .i64 n1) ∧ Below x5.wd.heap.size x5.wd w') from fun x5 => by have h := entFollows p la _ x5.wd (HS1.out.later x5.low) (fun x hx => (HIA.out x hx).later x5.low) (errType_later HGc.out x5.low); rw [H1.out] at h; exact h)
      have CL1 := Lib.hid (show ∀ x5 : Ext wc, Calls Tryd.prog 29 #[.agg #[.int .i64 p.idx, .int .i64 p.trm, .int .i64 p.knd], .slice A1 la.length q1] x5.wd (fun e w' => e = .returned (.agg #[.int .i64 q.idx, .int .i64 q.trm, .int .i64 q.knd]) ∧ Below x5.wd.heap.size x5.wd w') from fun x5 => by have h := entLast p la _ x5.wd (HS1.out.later x5.low); rw [← HQ.out] at h; exact h)
      have CF2 := Lib.hid (show ∀ x5 : Ext wc, Calls Tryd.prog 28 #[.agg #[.int .i64 q.idx, .int .i64 q.trm, .int .i64 q.knd], .slice A2 lb.length q2] x5.wd (fun e w' => e = .returned (.int .i64 n2) ∧ Below x5.wd.heap.size x5.wd w') from fun x5 => by have h := entFollows q lb _ x5.wd (HS2.out.later x5.low) (fun x hx => (HIB.out x hx).later x5.low) (errType_later HGc.out x5.low); rw [H2.out] at h; exact h)
      have ka0 : ∀ zw : Ext wc, zw.wd.cell? ⟨gp, 0, none⟩ = some (.int .i64 p.idx) := HXc.out.ext 0
      have ka1 : ∀ zw : Ext wc, zw.wd.cell? ⟨gp, 1, none⟩ = some (.int .i64 p.trm) := HXc.out.ext 1
      have ka2 : ∀ zw : Ext wc, zw.wd.cell? ⟨gp, 2, none⟩ = some (.int .i64 p.knd) := HXc.out.ext 2
      go_upto_region 7 with fail
      refine wp_region_ext (by kernel_rfl) (by kernel_rfl) ?_
      repeat (go_big_quiet_step ((rename_i x5; have h5 := x5.low; first
        | (go_at_call 28; first | (with_reducible exact ext_of x5 (CF1.out x5)) | (with_reducible exact ext_of x5 (CF2.out x5)))
        | (go_at_call 29; exact ext_of x5 (CL1.out x5)))))
      refine wpQuiet_nil ?_
      intro _ hw'
      obtain ⟨x7, hw''⟩ := hw'
      subst hw''
      clear CF1 CL1 CF2 ka0 ka1 ka2
      obtain ⟨ka, -, za⟩ := (HXc.out.later x7.low).facts
      go_wp2_with (go_at_call 28; refine (entFollows p l _ _ (HLc.out.later x7.low) (fun x hx => (HIL.out x hx).later x7.low) (errType_later HGc.out x7.low)).mono ?_; rintro e w8 ⟨rfl, hb8⟩; rw [HA.out])
      have HB8 := Lib.hid (below_call x7.low hb8)
      clear ka za hb8
      go_loopw [13] (fun i wr => ∃ j : Nat, j ≤ l.length ∧ i = .int .i64 j ∧ Below wc.heap.size wc wr) (fun i _ => l.length - (intOf i).toNat)
      case atStart => exact ⟨0, by omega, rfl, HB8.out⟩
      case round =>
        clear HB8
        obtain ⟨j, hj, rfl, hB⟩ := hrel
        have HBr := Lib.hid hB
        clear hB
        by_cases hlt : j < l.length
        · have d0 : decide ((j : Int) < (l.length : Int)) = true := decide_eq_true (by omega)
          obtain ⟨r, hr⟩ : ∃ r, lastE p l = r := ⟨_, rfl⟩
          have HR := Lib.hid hr
          have HR2 := Lib.hid (HT2.out.trans hr)
          clear hr
          have CLa := Lib.hid (show ∀ x5 : Ext wr, Calls Tryd.prog 29 #[.agg #[.int .i64 p.idx, .int .i64 p.trm, .int .i64 p.knd], .slice A1 la.length q1] x5.wd (fun e w' => e = .returned (.agg #[.int .i64 q.idx, .int .i64 q.trm, .int .i64 q.knd]) ∧ Below x5.wd.heap.size x5.wd w') from fun x5 => by have h := entLast p la _ x5.wd ((HS1.out.later HBr.out).later x5.low); rw [← HQ.out] at h; exact h)
          have CLb := Lib.hid (show ∀ x5 : Ext wr, Calls Tryd.prog 29 #[.agg #[.int .i64 q.idx, .int .i64 q.trm, .int .i64 q.knd], .slice A2 lb.length q2] x5.wd (fun e w' => e = .returned (.agg #[.int .i64 r.idx, .int .i64 r.trm, .int .i64 r.knd]) ∧ Below x5.wd.heap.size x5.wd w') from fun x5 => by have h := entLast q lb _ x5.wd ((HS2.out.later HBr.out).later x5.low); rw [HR2.out] at h; exact h)
          have CLl := Lib.hid (show ∀ x5 : Ext wr, Calls Tryd.prog 29 #[.agg #[.int .i64 p.idx, .int .i64 p.trm, .int .i64 p.knd], .slice A l.length cp] x5.wd (fun e w' => e = .returned (.agg #[.int .i64 r.idx, .int .i64 r.trm, .int .i64 r.knd]) ∧ Below x5.wd.heap.size x5.wd w') from fun x5 => by have h := entLast p l _ x5.wd ((HLc.out.later HBr.out).later x5.low); rw [HR.out] at h; exact h)
          have ka0 : ∀ zw : Ext wr, zw.wd.cell? ⟨gp, 0, none⟩ = some (.int .i64 p.idx) := (HXc.out.later HBr.out).ext 0
          have ka1 : ∀ zw : Ext wr, zw.wd.cell? ⟨gp, 1, none⟩ = some (.int .i64 p.trm) := (HXc.out.later HBr.out).ext 1
          have ka2 : ∀ zw : Ext wr, zw.wd.cell? ⟨gp, 2, none⟩ = some (.int .i64 p.knd) := (HXc.out.later HBr.out).ext 2
          go_upto_region 16 with fail
          refine wp_region_ext (by kernel_rfl) (by kernel_rfl) ?_
          repeat (go_big_quiet_step ((rename_i x5; have h5 := x5.low; first
            | (go_at_call 29; first | (with_reducible exact ext_of x5 (CLa.out x5)) | (with_reducible exact ext_of x5 (CLb.out x5)) | (with_reducible exact ext_of x5 (CLl.out x5))))))
          refine wpQuiet_nil ?_
          intro _ hw'
          obtain ⟨x9, hw''⟩ := hw'
          subst hw''
          clear CLa CLb CLl ka0 ka1 ka2
          go_wp2_with fail
          go_ret
          exact ⟨rfl, below_call (below_call HB2.out HBr.out) x9.low⟩
        · have d0 : decide ((j : Int) < (l.length : Int)) = false := decide_eq_false (by omega)
          obtain ⟨r, hr⟩ : ∃ r, lastE p l = r := ⟨_, rfl⟩
          have HR := Lib.hid hr
          have HR2 := Lib.hid (HT2.out.trans hr)
          clear hr
          have CLa := Lib.hid (show ∀ x5 : Ext wr, Calls Tryd.prog 29 #[.agg #[.int .i64 p.idx, .int .i64 p.trm, .int .i64 p.knd], .slice A1 la.length q1] x5.wd (fun e w' => e = .returned (.agg #[.int .i64 q.idx, .int .i64 q.trm, .int .i64 q.knd]) ∧ Below x5.wd.heap.size x5.wd w') from fun x5 => by have h := entLast p la _ x5.wd ((HS1.out.later HBr.out).later x5.low); rw [← HQ.out] at h; exact h)
          have CLb := Lib.hid (show ∀ x5 : Ext wr, Calls Tryd.prog 29 #[.agg #[.int .i64 q.idx, .int .i64 q.trm, .int .i64 q.knd], .slice A2 lb.length q2] x5.wd (fun e w' => e = .returned (.agg #[.int .i64 r.idx, .int .i64 r.trm, .int .i64 r.knd]) ∧ Below x5.wd.heap.size x5.wd w') from fun x5 => by have h := entLast q lb _ x5.wd ((HS2.out.later HBr.out).later x5.low); rw [HR2.out] at h; exact h)
          have CLl := Lib.hid (show ∀ x5 : Ext wr, Calls Tryd.prog 29 #[.agg #[.int .i64 p.idx, .int .i64 p.trm, .int .i64 p.knd], .slice A l.length cp] x5.wd (fun e w' => e = .returned (.agg #[.int .i64 r.idx, .int .i64 r.trm, .int .i64 r.knd]) ∧ Below x5.wd.heap.size x5.wd w') from fun x5 => by have h := entLast p l _ x5.wd ((HLc.out.later HBr.out).later x5.low); rw [HR.out] at h; exact h)
          have ka0 : ∀ zw : Ext wr, zw.wd.cell? ⟨gp, 0, none⟩ = some (.int .i64 p.idx) := (HXc.out.later HBr.out).ext 0
          have ka1 : ∀ zw : Ext wr, zw.wd.cell? ⟨gp, 1, none⟩ = some (.int .i64 p.trm) := (HXc.out.later HBr.out).ext 1
          have ka2 : ∀ zw : Ext wr, zw.wd.cell? ⟨gp, 2, none⟩ = some (.int .i64 p.knd) := (HXc.out.later HBr.out).ext 2
          go_upto_region 16 with fail
          refine wp_region_ext (by kernel_rfl) (by kernel_rfl) ?_
          repeat (go_big_quiet_step ((rename_i x5; have h5 := x5.low; first
            | (go_at_call 29; first | (with_reducible exact ext_of x5 (CLa.out x5)) | (with_reducible exact ext_of x5 (CLb.out x5)) | (with_reducible exact ext_of x5 (CLl.out x5))))))
          refine wpQuiet_nil ?_
          intro _ hw'
          obtain ⟨x9, hw''⟩ := hw'
          subst hw''
          clear CLa CLb CLl ka0 ka1 ka2
          go_wp2_with fail
          go_ret
          exact ⟨rfl, below_call (below_call HB2.out HBr.out) x9.low⟩
end Go.Proofs.YteogfcellpdpjaaDoor
