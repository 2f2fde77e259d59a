/-
  limpetlaw24.HealOnly: true. Condition: errors.errorType holds its value.
-/
import Derived.Test.YtglkgmijhdkhpaaDoorHealAwake
import Derived.Test.YtglkgmijhdkhpaaDoorHealRec
import Derived.Test.YtglkgmijhdkhpaaDoorExt
set_option linter.unusedVariables false
set_option linter.unusedSimpArgs false
namespace Go.Proofs.YtglkgmijhdkhpaaDoor
open Go.RowKit

set_option maxRecDepth 100000 in
set_option maxHeartbeats 8000000 in
theorem healOnly (rot want : List Idt) (l : List Rec) (vr vw vl : Value) (many : Int) (w : World) (hr : Sl 3 idRow w.heap.size w vr rot) (hw : Sl 3 idRow w.heap.size w vw want) (hl : Sl 7 recRow w.heap.size w vl l) (hin : ∀ r ∈ l, (EntIn w.heap.size w r.e ∧ r.e.bd.length ≤ 140737488351232) ∧ H64 r.e.idx) (zr : rot.length ≤ 140737488351232) (zw : want.length ≤ 140737488351232) (zl : l.length ≤ 140737488351232) (hG : errTypeIs w) :
    Calls Tryd.prog 3 #[vr, vw, vl, .int .i64 many] w fun e w' => e = .returned (.bool true) ∧ Below w.heap.size w w' := by
  obtain ⟨Ar, cr, rfl, -⟩ := id hr
  obtain ⟨Aw, cw, rfl, -⟩ := id hw
  obtain ⟨Al, cl, rfl, -⟩ := id hl
  have HR := Lib.hid hr
  have HW := Lib.hid hw
  have HL := Lib.hid hl
  have HIN := Lib.hid hin
  have HG := Lib.hid hG
  clear hr hw hl hin hG
  go_enter Tryd.func3, Tryd.ntmps3
  go_upto_region 3 with (go_at_call 5; (with_reducible refine (awake24 w HG.out).mono ?_); rintro e w1 ⟨rfl, hb1⟩; have HB1 := Lib.hid hb1; clear hb1)
  have hz1 := HB1.out.size
  have CG := Lib.hid (great24 rot l _ _ w1 (HR.out.later HB1.out) (HL.out.later HB1.out) (fun r hr => (HIN.out r hr).1.2) ⟨zl, zr⟩)
  by_cases hs : (600 : Int) < (want.length : Int)
  · have d0 : decide ((600 : Int) < (want.length : Int)) = true := decide_eq_true hs
    cases hg : greatR rot l <;> (rw [hg] at CG; clear hg; go_wp2_with (go_at_call 6; (with_reducible refine CG.out.mono ?_); rintro e w2 ⟨rfl, rfl⟩))
    all_goals (go_ret; exact ⟨rfl, HB1.out⟩)
  cases hg : greatR rot l with
  | true =>
    rw [hg] at CG; clear hg
    go_wp2_with (go_at_call 6; (with_reducible refine CG.out.mono ?_); rintro e w2 ⟨rfl, rfl⟩)
    go_ret
    exact ⟨rfl, HB1.out⟩
  | false =>
  rw [hg] at CG
  have d0 : decide ((600 : Int) < (want.length : Int)) = false := decide_eq_false hs
  have hgg : rot.length + sizeR l ≤ 600 := by have := of_decide_eq_false hg; omega
  have hsl := sizeR_len l
  have zw2 : want.length ≤ 600 := by omega
  have zr2 : rot.length ≤ 600 := by omega
  have zl2 : l.length ≤ 600 := by omega
  have HRI : Hid (∀ V, Below w.heap.size w V → ∀ r ∈ l, RecIn V r) := fun V hV r hr => ⟨⟨(HIN.out r hr).1.1.later hV, by have := sizeR_mem hr; omega⟩, (HIN.out r hr).2⟩
  have HSZ := Lib.hid hgg
  clear hg hs zr zw zl hgg hsl
  go_upto_region 6 with (first
    | (go_at_call 6; (with_reducible refine CG.out.mono ?_); rintro e w2 ⟨rfl, rfl⟩)
    | (go_at_call 7; (with_reducible refine (healTake rot l _ _ w1 (HR.out.later HB1.out) (HL.out.later HB1.out) (HRI.out w1 HB1.out) (errType_later HG.out HB1.out) (by omega)).mono ?_); rintro e w2 ⟨At, ct, mt, rfl, hrs, hb⟩; have HT2 := Lib.hid hrs; have HB2 := Lib.hid (below_call HB1.out hb); clear hrs hb)
    | (go_at_call 8; (with_reducible refine (healGive l want _ _ many w2 (HL.out.later HB2.out) (HW.out.later HB2.out) (HRI.out w2 HB2.out) (errType_later HG.out HB2.out) (by omega)).mono ?_); rintro e w3 ⟨Ag, cg, mg, rfl, hrs, hb⟩; have HT3 := Lib.hid (HT2.out.later hb); have HV3 := Lib.hid hrs; have HB3 := Lib.hid (below_call HB2.out hb); clear hrs hb)
    | (go_at_call 9; (with_reducible refine (healWants rot _ rot.length w3 (HR.out.later HB3.out) (by omega)).mono ?_); rintro e w4 ⟨v0, Aa, ma, ca, rfl, hma, -, -, hsa, hb⟩; rw [WantsV_all] at hma hsa; have HT4 := Lib.hid (HT3.out.later hb); have HV4 := Lib.hid (HV3.out.later hb); have HA4 := Lib.hid hsa; have HMA := Lib.hid hma; have HB4 := Lib.hid (below_call HB3.out hb); clear hsa hma hb))
  have HTO := Lib.hid (took_ok HT4.out.key)
  have HGO := Lib.hid (gave_ok HV4.out.key)
  have HTI : Hid (∀ x ∈ mt, H64 x.e.idx) := fun x hx => by obtain ⟨y, hy, he, -⟩ := rec_from HT4.out.key hx; rw [← he]; exact (HIN.out y hy).2
  have HTS := Lib.hid (HT4.out.own.sl recRow_length)
  have HVS := Lib.hid (HV4.out.own.sl recRow_length)
  have HTE : Hid (∀ V, Below w4.heap.size w4 V → ∀ x ∈ mt, EntIn V.heap.size V x.e) := fun V hV => rec_in HT4.out (fun r hr => (HIN.out r hr).1.1.2) hV
  have hml : mt.length ≤ 600 := by have := HTO.out.len; omega
  have hgl : mg.length ≤ 600 := by have h1 := HV4.out.len; have h2 := give_len l want many; omega
  have hal : ma ≤ 600 := by rw [HMA.out]; have := wants_len rot; omega
  have hz4 := HB4.out.size
  clear CG d0
  go_wp2_with fail
  go_loopw [12, 13] (fun i _ wr => ∃ k : Nat, k ≤ mt.length ∧ i = .int .i64 (k : Int) ∧ Below w4.heap.size w4 wr) (fun i _ _ => mt.length - (kOf i).toNat)
  case atStart => exact ⟨0, by omega, rfl, Below.refl _ _⟩
  case round =>
    obtain ⟨k, hk, rfl, hb⟩ := hrel
    have HBR := Lib.hid hb
    have i0 : (0 : Int) ≤ (k : Int) := by omega
    clear hb
    by_cases hlt : k < mt.length
    · have i1 : (k : Int) < (mt.length : Int) := by omega
      have d0 : decide ((k : Int) < (mt.length : Int)) = true := decide_eq_true i1
      obtain ⟨b, off, c9, hv, -, -, hbb, hcell⟩ := HTS.out.cellAt (by intro h; subst h; simp at hlt)
      simp only [Value.slice.injEq] at hv
      obtain ⟨rfl, -, rfl⟩ := hv
      obtain ⟨x, hx⟩ : ∃ x, mt[k]? = some x := ⟨_, List.getElem?_eq_getElem hlt⟩
      have HC : Hid (∀ (V : World), Below w4.heap.size w4 V → ∀ (i : Nat) (y : Rec), mt[i]? = some y → ∀ (j : Nat) (u : Value), (recRow y)[j]? = some u → V.cell? ⟨b, off + i * 7 + j, none⟩ = some u) := fun V hV i y hy j u hu => (hV.cell (p := ⟨b, off + i * 7 + j, none⟩) hbb).trans (hcell i y hy j u hu)
      have c0 : wr.cell? ⟨b, off + k * 7, none⟩ = some (.int .i64 x.e.idx) := HC.out wr HBR.out k x hx 0 _ rfl
      have c1 : wr.cell? ⟨b, off + k * 7 + 1, none⟩ = some (.int .i64 x.e.trm) := HC.out wr HBR.out k x hx 1 _ rfl
      have c2 : wr.cell? ⟨b, off + k * 7 + 2, none⟩ = some (.int .i64 x.e.knd) := HC.out wr HBR.out k x hx 2 _ rfl
      have c3 : wr.cell? ⟨b, off + k * 7 + 3, none⟩ = some (.slice x.e.ba x.e.bd.length x.e.bc) := HC.out wr HBR.out k x hx 3 _ rfl
      have HX := Lib.hid hx
      have HMX := Lib.hid (HTO.out.mem x (List.mem_of_getElem? hx))
      have CO := Lib.hid (entOf x.e wr)
      clear hcell hx
      go_upto_region 10 with (go_at_call 10; (with_reducible refine CO.out.mono ?_); rintro e w5 ⟨rfl, hb⟩; have HB5 := Lib.hid (below_call HBR.out hb); have hz5 := hb.size; clear hb)
      have HXP := Lib.hid (Box.new w5 #[.int .i64 x.e.idx, .int .i64 x.e.trm, .int .i64 x.e.knd] 31)
      have HB6 := Lib.hid (HB5.out.alloc HB5.out.size (.cells #[.int .i64 x.e.idx, .int .i64 x.e.trm, .int .i64 x.e.knd] 31))
      obtain ⟨w6, hw6⟩ : ∃ z, z = w5.alloc (.cells #[.int .i64 x.e.idx, .int .i64 x.e.trm, .int .i64 x.e.knd] 31) := ⟨_, rfl⟩
      obtain ⟨gp, hgp⟩ : ∃ z, z = w5.heap.size := ⟨_, rfl⟩
      rw [← hw6] at HXP HB6
      rw [← hgp] at HXP
      rw [← hw6, ← hgp]
      clear hw6 hgp c0 c1 c2 c3 CO
      have kx0 : ∀ z : Ext w6, z.wd.cell? ⟨b, off + k * 7, none⟩ = some (.int .i64 x.e.idx) := fun z => HC.out z.wd (below_call HB6.out z.low) k x HX.out 0 _ rfl
      have kx1 : ∀ z : Ext w6, z.wd.cell? ⟨b, off + k * 7 + 1, none⟩ = some (.int .i64 x.e.trm) := fun z => HC.out z.wd (below_call HB6.out z.low) k x HX.out 1 _ rfl
      have kx2 : ∀ z : Ext w6, z.wd.cell? ⟨b, off + k * 7 + 2, none⟩ = some (.int .i64 x.e.knd) := fun z => HC.out z.wd (below_call HB6.out z.low) k x HX.out 2 _ rfl
      have kx3 : ∀ z : Ext w6, z.wd.cell? ⟨b, off + k * 7 + 3, none⟩ = some (.slice x.e.ba x.e.bd.length x.e.bc) := fun z => HC.out z.wd (below_call HB6.out z.low) k x HX.out 3 _ rfl
      have kx4 : ∀ z : Ext w6, z.wd.cell? ⟨b, off + k * 7 + 4, none⟩ = some (.int .i64 x.a.idx) := fun z => HC.out z.wd (below_call HB6.out z.low) k x HX.out 4 _ rfl
      have kp0 : ∀ z : Ext w6, z.wd.cell? ⟨gp, 0, none⟩ = some (.int .i64 x.e.idx) := HXP.out.ext 0
      have kp1 : ∀ z : Ext w6, z.wd.cell? ⟨gp, 1, none⟩ = some (.int .i64 x.e.trm) := HXP.out.ext 1
      have kp2 : ∀ z : Ext w6, z.wd.cell? ⟨gp, 2, none⟩ = some (.int .i64 x.e.knd) := HXP.out.ext 2
      have C1 : Hid (∀ z : Ext w6, Calls Tryd.prog 11 #[.agg #[.int .i64 x.e.idx, .int .i64 x.e.trm, .int .i64 x.e.knd, .slice x.e.ba x.e.bd.length x.e.bc]] z.wd fun e w' => e = .returned (.bool true) ∧ Below z.wd.heap.size z.wd w') := fun z => by
        have h := entGood x.e z.wd (HTE.out z.wd (below_call HB6.out z.low) x (List.mem_of_getElem? HX.out))
        rw [HMX.out.1] at h; exact h
      have C2 : Hid (∀ z : Ext w6, Calls Tryd.prog 12 #[.slice Aa ma ma, .agg #[.int .i64 x.e.idx, .int .i64 x.e.trm, .int .i64 x.e.knd]] z.wd fun e w' => e = .returned (.bool true) ∧ Below z.wd.heap.size z.wd w') := fun z => by
        have h := among24 (wantsV rot) (ofE x.e) _ z.wd (HA4.out.later (below_call HB6.out z.low)) (by have := HMA.out; omega)
        rw [amongI_mem HMX.out.2.1] at h; exact h
      have hH := HTI.out x (List.mem_of_getElem? HX.out)
      have hgb := goodE_bounds HMX.out.1
      have hai := HMX.out.2.2
      unfold H64 at hH
      have e9 : wrap64 (x.e.idx - 1) = x.e.idx - 1 := by unfold wrap64; omega
      have e8 : (x.a.idx != x.e.idx - 1) = false := by simp [hai]
      have i1n : k < mt.length := hlt
      clear hai hgb hH hlt
      rcases Nat.eq_zero_or_pos k with hk0 | hk0
      · have d1 : decide ((0 : Int) < (k : Int)) = false := decide_eq_false (by omega)
        have d1n : decide (0 < k) = false := decide_eq_false (by omega)
        have HK := Lib.hid hk0
        clear hk0
        refine wp_region_ext (by kernel_rfl) (by kernel_rfl) ?_
        repeat (go_big_quiet_step ((rename_i x5; have h5 := x5.low; first
          | (go_at_call 11; exact ext_of x5 (C1.out x5))
          | (go_at_call 12; exact ext_of x5 (C2.out x5)))))
        refine wpQuiet_nil ?_
        intro _ hw'
        obtain ⟨x9, hw''⟩ := hw'
        subst hw''
        go_wp2_with fail
        go_roundw
        case rel => exact ⟨k + 1, by omega, by go_num, below_call HB6.out x9.low⟩
        case measure => first | (simp [kOf]; done) | (simp [kOf]; omega)
      · obtain ⟨k1, rfl⟩ : ∃ k1, k = k1 + 1 := ⟨k - 1, by omega⟩
        have d1 : decide ((0 : Int) < ((k1 + 1 : Nat) : Int)) = true := decide_eq_true (by omega)
        have d1' : decide ((0 : Int) < (k1 : Int) + 1) = true := decide_eq_true (by omega)
        obtain ⟨y, hy⟩ : ∃ y, mt[k1]? = some y := ⟨_, List.getElem?_eq_getElem (by omega)⟩
        have hyx : y.e.idx < x.e.idx := (List.pairwise_iff_getElem.1 HTO.out.ord) k1 (k1 + 1) (by omega) i1n (by omega) |> fun h => by
          have h1 := (List.getElem?_eq_some_iff.1 hy).2
          have h2 := (List.getElem?_eq_some_iff.1 HX.out).2
          rw [h1, h2] at h; exact h
        have ky0 : ∀ z : Ext w6, z.wd.cell? ⟨b, off + k1 * 7, none⟩ = some (.int .i64 y.e.idx) := fun z => HC.out z.wd (below_call HB6.out z.low) k1 y hy 0 _ rfl
        have d2 : decide (x.e.idx ≤ y.e.idx) = false := decide_eq_false (by omega)
        have n1 : ((k1 + 1 : Nat) : Int) - 1 = (k1 : Int) := by omega
        have n2 : wrap64 (((k1 + 1 : Nat) : Int) - 1) = (k1 : Int) := by unfold wrap64; omega
        have n3 : (0 : Int) ≤ (k1 : Int) := by omega
        have n4 : (k1 : Int) < (mt.length : Int) := by omega
        clear hk0 hy hyx
        refine wp_region_ext (by kernel_rfl) (by kernel_rfl) ?_
        repeat (go_big_quiet_step ((rename_i x5; have h5 := x5.low; first
          | (go_at_call 11; exact ext_of x5 (C1.out x5))
          | (go_at_call 12; exact ext_of x5 (C2.out x5)))))
        refine wpQuiet_nil ?_
        intro _ hw'
        obtain ⟨x9, hw''⟩ := hw'
        subst hw''
        go_wp2_with fail
        go_roundw
        case rel => exact ⟨k1 + 1 + 1, by omega, by go_num, below_call HB6.out x9.low⟩
        case measure => first | (simp [kOf]; done) | (simp [kOf]; omega)
    · have d0 : decide ((k : Int) < (mt.length : Int)) = false := decide_eq_false (by omega)
      go_wp2_with fail
      clear d0 hlt hk i0
      obtain ⟨V, hV⟩ : ∃ z, z = wr := ⟨_, rfl⟩
      rw [← hV] at HBR
      rw [← hV]
      clear hV
      go_loopw [14] (fun i wr => ∃ k : Nat, k ≤ mg.length ∧ i = .int .i64 (k : Int) ∧ Below w4.heap.size w4 wr) (fun i _ => mg.length - (kOf i).toNat)
      case atStart => exact ⟨0, by omega, rfl, HBR.out⟩
      case round =>
        clear HBR
        obtain ⟨k, hk, rfl, hb⟩ := hrel
        have HBR := Lib.hid hb
        have i0 : (0 : Int) ≤ (k : Int) := by omega
        clear hb
        by_cases hlt : k < mg.length
        · have i1 : (k : Int) < (mg.length : Int) := by omega
          have d0 : decide ((k : Int) < (mg.length : Int)) = true := decide_eq_true i1
          obtain ⟨b, off, c9, hv, -, -, hbb, hcell⟩ := HVS.out.cellAt (by intro h; subst h; simp at hlt)
          simp only [Value.slice.injEq] at hv
          obtain ⟨rfl, -, rfl⟩ := hv
          obtain ⟨x, hx⟩ : ∃ x, mg[k]? = some x := ⟨_, List.getElem?_eq_getElem hlt⟩
          have HC : Hid (∀ (j : Nat) (u : Value), (recRow x)[j]? = some u → wr.cell? ⟨b, off + k * 7 + j, none⟩ = some u) := fun j u hu => (HBR.out.cell (p := ⟨b, off + k * 7 + j, none⟩) hbb).trans (hcell k x hx j u hu)
          have c0 : wr.cell? ⟨b, off + k * 7, none⟩ = some (.int .i64 x.e.idx) := HC.out 0 _ rfl
          have c1 : wr.cell? ⟨b, off + k * 7 + 1, none⟩ = some (.int .i64 x.e.trm) := HC.out 1 _ rfl
          have c2 : wr.cell? ⟨b, off + k * 7 + 2, none⟩ = some (.int .i64 x.e.knd) := HC.out 2 _ rfl
          have c3 : wr.cell? ⟨b, off + k * 7 + 3, none⟩ = some (.slice x.e.ba x.e.bd.length x.e.bc) := HC.out 3 _ rfl
          have CO := Lib.hid (entOf x.e wr)
          have CA : Hid (∀ v, Below wr.heap.size wr v → Calls Tryd.prog 12 #[.slice Aw want.length cw, .agg #[.int .i64 x.e.idx, .int .i64 x.e.trm, .int .i64 x.e.knd]] v fun e w' => e = .returned (.bool true) ∧ Below v.heap.size v w') := fun v hv => by
            have h := among24 want (ofE x.e) _ v (HW.out.later (below_call (below_call HB4.out HBR.out) hv)) (by omega)
            rw [amongI_mem (HGO.out.1 x (List.mem_of_getElem? hx))] at h; exact h
          clear hcell hx
          go_wp2_with (first
            | (go_at_call 10; (with_reducible refine CO.out.mono ?_); rintro e w5 ⟨rfl, hb5⟩; have HB5 := Lib.hid hb5; clear hb5)
            | (go_at_call 12; (with_reducible refine (CA.out w5 HB5.out).mono ?_); rintro e w6 ⟨rfl, hb6⟩; have HB6 := Lib.hid (below_call HBR.out (below_call HB5.out hb6)); clear hb6))
          go_roundw
          case rel => exact ⟨k + 1, by omega, by go_num, HB6.out⟩
          case measure => first | (simp [kOf]; done) | (simp [kOf]; omega)
        · have d0 : decide ((k : Int) < (mg.length : Int)) = false := decide_eq_false (by omega)
          have HBv := Lib.hid (below_call HB4.out HBR.out)
          have CL := Lib.hid (healLeft rot mt _ _ wr (HR.out.later HBv.out) (HTS.out.later HBR.out) ⟨by omega, by omega⟩)
          have hll := left_len rot mt
          have HLN : Hid (∀ p ∈ leftV rot mt, ∀ r ∈ mt, p.idx ≠ r.e.idx) := fun p hp r hr => left_not hp r hr
          obtain ⟨LV, hLV⟩ : ∃ z, z = leftV rot mt := ⟨_, rfl⟩
          rw [← hLV] at CL hll HLN
          clear hLV
          go_upto_region 18 with (go_at_call 13; (with_reducible refine CL.out.mono ?_); rintro e w5 ⟨v5, rfl, ho, hb⟩; obtain ⟨A5, c5, rfl⟩ := ho.len; have HLS := Lib.hid (ho.sl idRow_length); have HB5 := Lib.hid (below_call HBR.out hb); clear ho hb)
          clear CL
          go_wp2_with fail
          clear d0 hlt hk i0
          have HBX := Lib.hid HB5.out
          obtain ⟨X, hX⟩ : ∃ z, z = w5 := ⟨_, rfl⟩
          rw [← hX] at HLS HBX
          rw [← hX]
          clear hX HB5
          go_loopw [16, 17] (fun i _ wr => ∃ k : Nat, k ≤ LV.length ∧ i = .int .i64 (k : Int) ∧ Below X.heap.size X wr) (fun i _ _ => LV.length - (kOf i).toNat)
          case atStart => exact ⟨0, by omega, rfl, Below.refl _ _⟩
          case round =>
            obtain ⟨k, hk, rfl, hb⟩ := hrel
            have HBY := Lib.hid hb
            have i0 : (0 : Int) ≤ (k : Int) := by omega
            clear hb
            by_cases hlt : k < LV.length
            · have i1 : (k : Int) < (LV.length : Int) := by omega
              have d0 : decide ((k : Int) < (LV.length : Int)) = true := decide_eq_true i1
              obtain ⟨b, off, c9, hv, -, -, hbb, hcell⟩ := HLS.out.cellAt (by intro h; subst h; simp at hlt)
              simp only [Value.slice.injEq] at hv
              obtain ⟨rfl, -, rfl⟩ := hv
              obtain ⟨p, hp⟩ : ∃ p, LV[k]? = some p := ⟨_, List.getElem?_eq_getElem hlt⟩
              have HCP := Lib.hid (show X.cell? ⟨b, off + k * 3, none⟩ = some (.int .i64 p.idx) from hcell k p hp 0 _ rfl)
              have HPM := Lib.hid (HLN.out p (List.mem_of_getElem? hp))
              clear hcell hp
              go_wp2_with fail
              obtain ⟨Y, hY⟩ : ∃ z, z = wr := ⟨_, rfl⟩
              rw [← hY] at HBY
              rw [← hY]
              clear hY
              go_loopw [17] (fun i wr => ∃ j : Nat, j ≤ mt.length ∧ i = .int .i64 (j : Int) ∧ Below X.heap.size X wr) (fun i _ => mt.length - (kOf i).toNat)
              case atStart => exact ⟨0, by omega, rfl, HBY.out⟩
              case round =>
                clear HBY
                obtain ⟨j, hj, rfl, hb⟩ := hrel
                have HBJ := Lib.hid hb
                have j0 : (0 : Int) ≤ (j : Int) := by omega
                clear hb
                by_cases hjt : j < mt.length
                · have j1 : (j : Int) < (mt.length : Int) := by omega
                  have d1 : decide ((j : Int) < (mt.length : Int)) = true := decide_eq_true j1
                  obtain ⟨b2, off2, c8, hv, -, -, hbb2, hcell⟩ := HTS.out.cellAt (by intro h; subst h; simp at hjt)
                  simp only [Value.slice.injEq] at hv
                  obtain ⟨rfl, -, rfl⟩ := hv
                  obtain ⟨x, hx⟩ : ∃ x, mt[j]? = some x := ⟨_, List.getElem?_eq_getElem hjt⟩
                  have c1 : wr.cell? ⟨b2, off2 + j * 7, none⟩ = some (.int .i64 x.e.idx) := ((below_call HBX.out HBJ.out).cell (p := ⟨b2, off2 + j * 7 + 0, none⟩) hbb2).trans (hcell j x hx 0 _ rfl)
                  have c2 : wr.cell? ⟨b, off + k * 3, none⟩ = some (.int .i64 p.idx) := (HBJ.out.cell (p := ⟨b, off + k * 3, none⟩) hbb).trans HCP.out
                  have e1 : (p.idx == x.e.idx) = false := by have := HPM.out x (List.mem_of_getElem? hx); simpa using this
                  clear hcell hx
                  go_upto_region 24 with fail
                  go_region
                  go_wp2_with fail
                  go_roundw
                  case rel => exact ⟨j + 1, by omega, by go_num, by first | exact HBJ.out | exact HBJ.out.drew⟩
                  case measure => first | (simp [kOf]; done) | (simp [kOf]; omega)
                · have d1 : decide ((j : Int) < (mt.length : Int)) = false := decide_eq_false (by omega)
                  go_wp2_with fail
                  go_roundw
                  case rel => exact ⟨k + 1, by omega, by go_num, HBJ.out⟩
                  case measure => first | (simp [kOf]; done) | (simp [kOf]; omega)
            · have d0 : decide ((k : Int) < (LV.length : Int)) = false := decide_eq_false (by omega)
              have t1 : (mt.length : Int) ≤ (rot.length : Int) := by have := HTO.out.len; omega
              have t2 : (LV.length : Int) ≤ (rot.length : Int) := by omega
              have t3 : (mg.length : Int) ≤ max many 0 := HGO.out.2
              have q1 : decide ((mt.length : Int) ≤ (rot.length : Int)) = true := decide_eq_true t1
              have q2 : decide ((LV.length : Int) ≤ (rot.length : Int)) = true := decide_eq_true t2
              have HBZ := Lib.hid (below_call HB4.out (below_call HBX.out HBY.out))
              by_cases m0 : many < 0
              · have q3 : decide ((mg.length : Int) ≤ 0) = true := decide_eq_true (by omega)
                have HME := Lib.hid (show mg = [] from List.eq_nil_of_length_eq_zero (by omega))
                clear t3
                go_wp2_with fail
                go_ret
                exact ⟨rfl, HBZ.out⟩
              · by_cases m1 : many = 0
                · subst m1
                  have q3 : decide ((mg.length : Int) ≤ 0) = true := decide_eq_true (by omega)
                  have HME := Lib.hid (show mg = [] from List.eq_nil_of_length_eq_zero (by omega))
                  clear t3 m0
                  go_wp2_with fail
                  go_ret
                  exact ⟨rfl, HBZ.out⟩
                · have m2 : 0 < many := by omega
                  have q3 : decide ((mg.length : Int) ≤ many) = true := decide_eq_true (by omega)
                  clear t3 m0 m1
                  go_wp2_with fail
                  go_ret
                  exact ⟨rfl, HBZ.out⟩
end Go.Proofs.YtglkgmijhdkhpaaDoor
