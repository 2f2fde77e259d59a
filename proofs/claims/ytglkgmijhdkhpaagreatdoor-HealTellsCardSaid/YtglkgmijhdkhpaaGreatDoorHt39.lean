/-
  Merged: HealWhom2, HealTells.
-/
import Derived.Test.YtglkgmijhdkhpaaGreatDoorHt38
import Derived.Test.YtglkgmijhdkhpaaGreatDoorHt4
import Derived.Test.YtglkgmijhdkhpaaGreatDoorHt31
import Derived.Test.YtglkgmijhdkhpaaGreatDoorHt33
import Derived.Test.YtglkgmijhdkhpaaGreatDoorHt32
import Derived.Test.YtglkgmijhdkhpaaGreatDoorHt34
import Derived.Test.YtglkgmijhdkhpaaGreatDoorHt37
import Derived.Test.YtglkgmijhdkhpaaGreatDoorHt12
/-
  heal.Whom, limpetref24.Whom: contracts.
-/
set_option linter.unusedVariables false
set_option linter.unusedSimpArgs false
namespace Go.Proofs.YtglkgmijhdkhpaaGreatDoor
open Go.RowKit

theorem whom_idx (turn : Int) (n : Nat) (h : 0 < n) : ∃ (r : Int) (q : Nat), turn.tmod (n : Int) = r ∧ -(n : Int) < r ∧ r < (n : Int) ∧ (r + (n : Int)).tmod (n : Int) = (q : Int) ∧ q < n := by
  have h1 : (turn.tmod (n : Int)).natAbs = turn.natAbs % n := by rw [Int.natAbs_tmod]; rfl
  have h2 : turn.natAbs % n < n := Nat.mod_lt _ h
  obtain ⟨r, hr⟩ : ∃ r, turn.tmod (n : Int) = r := ⟨_, rfl⟩
  rw [hr] at h1
  have h3 : -(n : Int) < r ∧ r < (n : Int) := by omega
  have h4 : ((r + (n : Int)).tmod (n : Int)).natAbs = (r + (n : Int)).natAbs % n := by rw [Int.natAbs_tmod]; rfl
  have h5 : (r + (n : Int)).natAbs % n < n := Nat.mod_lt _ h
  have h6 : 0 ≤ (r + (n : Int)).tmod (n : Int) := Int.tmod_nonneg _ (by omega)
  exact ⟨r, ((r + (n : Int)).tmod (n : Int)).toNat, hr, h3.1, h3.2, by omega, by omega⟩
theorem whomV_at {ms : List Int} {self turn r : Int} {q : Nat} {x : Int} (h1 : turn.tmod ((whomL ms self).length : Int) = r) (h2 : (r + ((whomL ms self).length : Int)).tmod ((whomL ms self).length : Int) = (q : Int)) (hx : (whomL ms self)[q]? = some x) : whomV ms self turn = x := by
  unfold whomV
  rw [if_neg (by intro h; rw [h] at hx; simp at hx), h1, h2, Int.toNat_natCast, hx]; rfl
theorem whomL_take {ms : List Int} {self : Int} {k : Nat} {x : Int} (h : ms[k]? = some x) : whomL (ms.take (k + 1)) self = if x = self then whomL (ms.take k) self else whomL (ms.take k) self ++ [x] := by
  unfold whomL
  rw [take_at h, List.filter_append]
  by_cases hx : x = self <;> simp [hx]
set_option maxRecDepth 100000 in
set_option maxHeartbeats 2000000 in
theorem healWhom (ms : List Int) (self turn : Int) (v : Value) (w : World) (h : Sl 1 i64Row w.heap.size w v ms) (hn : ms.length ≤ 100000) :
    Calls Tryz.prog 20 #[v, .int .i64 self, .int .i64 turn] w fun e w' => e = .returned (.int .i64 (whomV ms self turn)) ∧ Below w.heap.size w w' := by
  have HB0 := Lib.hid (below_new w (.cells #[.int .i64 self] 3))
  have HX := Lib.hid (Box.new w #[.int .i64 self] 3)
  obtain ⟨A, c, rfl, -⟩ := id h
  obtain ⟨W, hW⟩ : ∃ z, z = w.alloc (.cells #[.int .i64 self] 3) := ⟨_, rfl⟩
  obtain ⟨gs, hgs⟩ : ∃ z, z = w.heap.size := ⟨_, rfl⟩
  have HE := Lib.hid hW
  have HE2 := Lib.hid hgs
  rw [← hW] at HB0 HX
  rw [← hgs] at HX
  have HZ := Lib.hid HX.out.lt
  have C1 := Lib.hid (intClone ms _ W (h.later HB0.out) (by omega))
  clear h hW hgs
  go_enter Tryz.func20, Tryz.ntmps20
  go_upto_region 1 with fail
  rw [← HE.out, ← HE2.out]
  go_upto_region 2 with (first
    | (go_at_call 49; (with_reducible refine C1.out.mono ?_); rintro e w2 ⟨v2, rfl, ho2, hb2⟩; have HB2 := Lib.hid hb2; have C2 := Lib.hid (intDeleteW gs (fun x => decide (x = self)) W.heap.size ms v2 w2 ho2 HZ.out hn hb2.size (fun x V hV => whomFn gs self x V ((HX.out.later hb2).below hV HZ.out))); clear ho2 hb2)
    | (go_at_call 48; (with_reducible refine C2.out.mono ?_); rintro e w3 ⟨v3, rfl, ho3, hb3⟩; have HB3 := Lib.hid (HB2.out.trans hb3); have HO3 := Lib.hid (show Own 1 i64Row 3 W.heap.size w3 v3 (whomL ms self) from ho3); clear ho3 hb3))
  have hll : (whomL ms self).length ≤ ms.length := List.length_filter_le _ _
  obtain ⟨A3, c3, hv3⟩ := HO3.out.len
  subst hv3
  by_cases hz : (whomL ms self).length = 0
  · have HV := Lib.hid (show whomV ms self turn = 0 by unfold whomV; rw [if_pos (List.eq_nil_of_length_eq_zero hz)])
    rw [hz]
    clear hz hll
    go_wp2_with fail
    go_ret
    exact ⟨ret_int HV.out.symm, below_call HB0.out HB3.out⟩
  · obtain ⟨r, q, h1, h2, h3, h4, h5⟩ := whom_idx turn (whomL ms self).length (by omega)
    obtain ⟨x, hx⟩ : ∃ x, (whomL ms self)[q]? = some x := ⟨_, List.getElem?_eq_getElem h5⟩
    have HV := Lib.hid (whomV_at h1 h4 hx)
    obtain ⟨g, hg⟩ : ∃ g, A3 = some ⟨g, 0, none⟩ := by
      obtain ⟨g, c', hv, -⟩ := HO3.out.place (by intro h; rw [h] at hz; simp at hz)
      simp only [Value.slice.injEq] at hv
      exact ⟨g, hv.1⟩
    subst hg
    have c0 := HO3.out.row1 hx
    obtain ⟨n, hn0⟩ : ∃ n, (whomL ms self).length = n := ⟨_, rfl⟩
    rw [hn0] at h1 h2 h3 h4 h5 hz hll
    rw [hn0]
    have e0 : ((n : Int) == 0) = false := by simp; omega
    have e0n : (n == 0) = false := by simp; omega
    have i0 : (0 : Int) ≤ (q : Int) := by omega
    have i1 : (q : Int) < (n : Int) := by omega
    have w1 : wrap64 (r + (n : Int)) = r + (n : Int) := by unfold wrap64; omega
    clear hn0 hx
    go_wp2_with fail
    go_ret
    exact ⟨ret_int HV.out.symm, below_call HB0.out HB3.out⟩
set_option maxRecDepth 100000 in
set_option maxHeartbeats 2000000 in
theorem ref24Whom (ms : List Int) (self turn : Int) (v : Value) (w : World) (h : Sl 1 i64Row w.heap.size w v ms) (hn : ms.length ≤ 100000) :
    Calls Tryz.prog 21 #[v, .int .i64 self, .int .i64 turn] w fun e w' => e = .returned (.int .i64 (whomV ms self turn)) ∧ Below w.heap.size w w' := by
  obtain ⟨A, c, rfl, -, -, -, hA⟩ := h
  have HA := Lib.hid hA
  clear hA
  go_enter Tryz.func21, Tryz.ntmps21
  go_wp2_with fail
  go_loopw [7, 8] (fun o i wr => ∃ (k m : Nat) (A : Option Addr) (c : Nat), o = .slice A m c ∧ m = (whomL (ms.take k) self).length ∧ k ≤ ms.length ∧ i = .int .i64 (k : Int) ∧ Own 1 i64Row 3 w.heap.size wr (.slice A m c) (whomL (ms.take k) self) ∧ Below w.heap.size w wr) (fun _ i _ => ms.length - (kOf i).toNat)
  case atStart => exact ⟨0, 0, none, 0, rfl, rfl, by omega, rfl, Own.nil_ _ _ _ _ _, Below.refl _ _⟩
  case round =>
    obtain ⟨k, m, A3, c3, rfl, hm, hk, rfl, ho, hb⟩ := hrel
    have HM := Lib.hid hm
    have HO := Lib.hid ho
    have HB := Lib.hid hb
    have hz := hb.size
    have i0 : (0 : Int) ≤ (k : Int) := by omega
    have hll : (whomL (ms.take k) self).length ≤ 100000 := Nat.le_trans (List.length_filter_le _ _) (by rw [List.length_take]; omega)
    clear hm ho hb
    by_cases hlt : k < ms.length
    · have i1 : (k : Int) < (ms.length : Int) := by omega
      have d0 : decide ((k : Int) < (ms.length : Int)) = true := decide_eq_true i1
      obtain ⟨b, off, rfl, hbb, hcell⟩ := HA.out (by intro h; subst h; simp at hlt)
      obtain ⟨x, hx⟩ : ∃ x, ms[k]? = some x := ⟨_, List.getElem?_eq_getElem hlt⟩
      have c0 : wr.cell? ⟨b, off + k, none⟩ = some (.int .i64 x) := by simpa using (HB.out.cell (p := ⟨b, off + k * 1 + 0, none⟩) hbb).trans (hcell k x hx 0 _ rfl)
      have HT := Lib.hid (whomL_take (self := self) hx)
      clear hcell hx
      by_cases he : x = self
      · have e0 : (x != self) = false := by simpa using he
        have HTN := Lib.hid (show whomL (ms.take (k + 1)) self = whomL (ms.take k) self by rw [HT.out, if_pos he])
        clear he
        go_wp2_with fail
        go_roundw
        case rel => exact ⟨k + 1, m, A3, c3, rfl, by rw [HTN.out]; exact HM.out, by omega, by go_num, by rw [HTN.out]; exact HO.out, HB.out⟩
        case measure => first | (simp [kOf]; done) | (simp [kOf]; omega)
      · have e0 : (x != self) = true := by simpa using he
        have HTN := Lib.hid (show whomL (ms.take (k + 1)) self = whomL (ms.take k) self ++ [x] by rw [HT.out, if_neg he])
        clear he
        go_wp2_with (at_builtin; refine wpList_append_row _ rfl (.tmp 21) (.tmp 26) 39 rfl w.heap.size 3 _ 1 8 Tryz.underlying39 intInfoH rfl (Nat.succ_pos 0) i64Row i64Row_length i64Row_one _ _ rfl HO.out x _ rfl 3 _ rfl rfl (by omega) (by omega) hz ?_; intro v' w' p1 p2 p3 p4 p5; obtain ⟨A4, c4, hv4⟩ := p1.len; rw [List.length_append, ← HM.out] at hv4; subst hv4; have P1 := Lib.hid p1; have P2 := Lib.hid p2; clear p1 p2 p3 p4 p5)
        go_roundw
        case rel => exact ⟨k + 1, m + 1, A4, c4, rfl, by rw [HTN.out, List.length_append, ← HM.out]; first | done | rfl, by omega, by go_num, by rw [HTN.out]; exact P1.out, HB.out.trans P2.out⟩
        case measure => first | (simp [kOf]; done) | (simp [kOf]; omega)
    · have d0 : decide ((k : Int) < (ms.length : Int)) = false := decide_eq_false (by omega)
      have hke : k = ms.length := by omega
      have HOF := Lib.hid (show Own 1 i64Row 3 w.heap.size wr (.slice A3 m c3) (whomL ms self) by have h := HO.out; rw [hke, List.take_length] at h; exact h)
      have HMF := Lib.hid (show (whomL ms self).length = m by have h := HM.out; rw [hke, List.take_length] at h; exact h.symm)
      clear hke
      by_cases hz0 : m = 0
      · have HV := Lib.hid (show whomV ms self turn = 0 by unfold whomV; rw [if_pos (List.eq_nil_of_length_eq_zero (by rw [HMF.out]; exact hz0))])
        subst hz0
        go_wp2_with fail
        go_ret
        exact ⟨ret_int HV.out.symm, HB.out⟩
      · obtain ⟨r, q, h1, h2, h3, h4, h5⟩ := whom_idx turn m (by omega)
        obtain ⟨x, hx⟩ : ∃ x, (whomL ms self)[q]? = some x := ⟨_, List.getElem?_eq_getElem (by rw [HMF.out]; exact h5)⟩
        have HV := Lib.hid (whomV_at (r := r) (q := q) (by rw [HMF.out]; exact h1) (by rw [HMF.out]; exact h4) hx)
        obtain ⟨g, hg⟩ : ∃ g, A3 = some ⟨g, 0, none⟩ := by
          obtain ⟨g, c', hv, -⟩ := HOF.out.place (by intro h; have h9 := HMF.out; rw [h] at h9; simp at h9; omega)
          simp only [Value.slice.injEq] at hv
          exact ⟨g, hv.1⟩
        subst hg
        have c0 := HOF.out.row1 hx
        have e0 : ((m : Int) == 0) = false := by simp; omega
        have e0n : (m == 0) = false := by simp; omega
        have j0 : (0 : Int) ≤ (q : Int) := by omega
        have j1 : (q : Int) < (m : Int) := by omega
        have hm9 : m ≤ 100000 := by have h := HMF.out; have h9 : (whomL ms self).length ≤ ms.length := List.length_filter_le _ _; omega
        have w1 : wrap64 (r + (m : Int)) = r + (m : Int) := by unfold wrap64; omega
        clear hx
        go_wp2_with fail
        go_ret
        exact ⟨ret_int HV.out.symm, HB.out⟩
end Go.Proofs.YtglkgmijhdkhpaaGreatDoor
/-
  limpetlaw24.HealTells: true. Condition: errors.errorType holds its value.
-/
set_option linter.unusedVariables false
set_option linter.unusedSimpArgs false
namespace Go.Proofs.YtglkgmijhdkhpaaGreatDoor
open Go.RowKit

set_option maxRecDepth 100000 in
set_option maxHeartbeats 8000000 in
theorem healTells (rot want : List Idt) (l : List Rec) (vr vw vl : Value) (many self turn : Int) (w : World) (hr : Sl 3 idRow w.heap.size w vr rot) (hw : Sl 3 idRow w.heap.size w vw want) (hl : Sl 7 recRow w.heap.size w vl l) (hin : ∀ r ∈ l, (EntIn w.heap.size w r.e ∧ r.e.bd.length ≤ 140737488351232) ∧ H64 r.e.idx) (zr : rot.length ≤ 140737488351232) (zw : want.length ≤ 140737488351232) (zl : l.length ≤ 140737488351232) (hG : errTypeIs w) :
    Calls Tryz.prog 3 #[vr, vw, vl, .int .i64 many, .int .i64 self, .int .i64 turn] w fun e w' => e = .returned (.bool true) ∧ Below w.heap.size w w' := by
  obtain ⟨Ar, cr, rfl, -⟩ := id hr
  obtain ⟨Aw, cw, rfl, -⟩ := id hw
  obtain ⟨Al, cl, rfl, -⟩ := id hl
  have HR := Lib.hid hr
  have HW := Lib.hid hw
  have HL := Lib.hid hl
  have HIN := Lib.hid hin
  have HG := Lib.hid hG
  clear hr hw hl hin hG
  go_enter Tryz.func3, Tryz.ntmps3
  have CG := Lib.hid (great24 rot l _ _ w HR.out HL.out (fun r hr => (HIN.out r hr).1.2) ⟨zl, zr⟩)
  by_cases hs : (600 : Int) < (want.length : Int)
  · have d0 : decide ((600 : Int) < (want.length : Int)) = true := decide_eq_true hs
    cases hg : greatR rot l <;> (rw [hg] at CG; clear hg; go_wp2_with (first
      | (go_at_call 5; (with_reducible refine CG.out.mono ?_); rintro e w2 ⟨rfl, rfl⟩)
      | (go_at_call 6; (with_reducible refine (awake24 w HG.out).mono ?_); rintro e w1 ⟨rfl, hb1⟩)))
    all_goals (go_ret; exact ⟨rfl, hb1⟩)
  cases hg : greatR rot l with
  | true =>
    rw [hg] at CG; clear hg
    go_wp2_with (first
      | (go_at_call 5; (with_reducible refine CG.out.mono ?_); rintro e w2 ⟨rfl, rfl⟩)
      | (go_at_call 6; (with_reducible refine (awake24 w HG.out).mono ?_); rintro e w1 ⟨rfl, hb1⟩))
    go_ret
    exact ⟨rfl, hb1⟩
  | false =>
  rw [hg] at CG
  have d0 : decide ((600 : Int) < (want.length : Int)) = false := decide_eq_false hs
  have hgg : rot.length + sizeR l ≤ 600 := by have := of_decide_eq_false hg; omega
  have hsl := sizeR_len l
  have zw2 : want.length ≤ 600 := by omega
  have zr2 : rot.length ≤ 600 := by omega
  have zl2 : l.length ≤ 600 := by omega
  have HSM : Hid (∀ r ∈ l, r.e.bd.length ≤ 600) := fun r hr => by have := sizeR_mem hr; omega
  clear hg hs zr zw zl hgg hsl
  go_upto_region 4 with (first
    | (go_at_call 5; (with_reducible refine CG.out.mono ?_); rintro e w2 ⟨rfl, rfl⟩)
    | (go_at_call 7; (with_reducible refine (lentIdentsF rot _ w HR.out (by omega)).mono ?_); rintro e w1 ⟨gx, cx, rfl, -, hl1, hb⟩; have HX1 := Lib.hid hl1; have HB1 := Lib.hid hb; clear hl1 hb)
    | (go_at_call 7; (with_reducible refine (lentIdentsF want _ w1 (HW.out.later HB1.out) (by omega)).mono ?_); rintro e w2 ⟨gy, cy, rfl, -, hl1, hb⟩; have HY2 := Lib.hid hl1; have HX2 := Lib.hid (HX1.out.later hb); have HB2 := Lib.hid (below_call HB1.out hb); clear hl1 hb)
    | (go_at_call 8; (with_reducible refine (lent24 l _ w2 (HL.out.later HB2.out) (fun r hr => ⟨(HIN.out r hr).1.1.later HB2.out, by have := HSM.out r hr; omega⟩) (by omega)).mono ?_); rintro e F ⟨Ai, ci, lm, rfl, hkey, ho, hbod, hb⟩; have KEY := Lib.hid hkey; have I3 := Lib.hid ho; have IB3 := Lib.hid hbod; have HX3 := Lib.hid (HX2.out.later hb); have HY3 := Lib.hid (HY2.out.later hb); have HB3 := Lib.hid (below_call HB2.out hb); clear hkey ho hbod hb))
  have R3 := Lib.hid (HR.out.later HB3.out)
  have W3 := Lib.hid (HW.out.later HB3.out)
  have L3 := Lib.hid (HL.out.later HB3.out)
  have G3 := Lib.hid (errType_later HG.out HB3.out)
  have X3 := Lib.hid (show Sl 3 idRow F.heap.size F (.slice (some ⟨gx, 0, none⟩) rot.length cx) rot from HX3.out.sl)
  have Y3 := Lib.hid (show Sl 3 idRow F.heap.size F (.slice (some ⟨gy, 0, none⟩) want.length cy) want from HY3.out.sl)
  have S3 := Lib.hid (show Sl 7 recRow F.heap.size F (.slice Ai l.length ci) lm from I3.out.sl recRow_length)
  have HIN3 := Lib.hid (show ∀ r ∈ l, EntIn F.heap.size F r.e ∧ r.e.bd.length ≤ 100000 from fun r hr => ⟨(HIN.out r hr).1.1.later HB3.out, by have := HSM.out r hr; omega⟩)
  have hlm : lm.length = l.length := by simpa using congrArg List.length KEY.out
  have HIM3 := Lib.hid (show ∀ r ∈ lm, RecIn F r from fun r hr => by
    obtain ⟨j, hj⟩ := List.getElem?_of_mem hr
    obtain ⟨y, hy, h1, h2, h3, h4, h5⟩ := nrm_at KEY.out hj
    have hyl := List.mem_of_getElem? hy
    refine ⟨⟨⟨(IB3.out r hr).sl, fun u hu => ?_⟩, ?_⟩, ?_⟩
    · rw [← h4] at hu; exact (HIN3.out y hyl).1.2 u hu
    · rw [← h4]; exact (HIN3.out y hyl).2
    · rw [← h1]; exact (HIN.out y hyl).2)
  clear CG d0 HX1 HX2 HY2 HB1 HB2
  go_upto_region 6 with (first
    | (go_at_call 9; (with_reducible refine (healWants rot _ many F X3.out (by omega)).mono ?_); rintro e w4 ⟨v0, Aa, ma, ca, rfl, rfl, rfl, ho, hs, hb⟩; have OA4 := Lib.hid (wants_own (many := many) ho); have SA4 := Lib.hid hs; have B4 := Lib.hid hb; clear ho hs hb)
    | (go_at_call 9; (with_reducible refine (healWants rot _ many w4 (X3.out.later B4.out) (by omega)).mono ?_); rintro e w5 ⟨v0, Ab, mb, cb, rfl, rfl, rfl, ho, hs, hb⟩; have OB5 := Lib.hid (wants_own (many := many) ho); have SA5 := Lib.hid (SA4.out.later hb); have OA5 := Lib.hid (OA4.out.later hb); have B45 := Lib.hid hb; have B5 := Lib.hid (below_call B4.out hb); clear ho hs hb)
    | (go_at_call 10; (with_reducible refine (healGive lm want _ _ many w5 (S3.out.later B5.out) (Y3.out.later B5.out) (fun r hr => (HIM3.out r hr).later B5.out) (errType_later G3.out B5.out) ⟨by omega, by omega⟩).mono ?_); rintro e w6 ⟨Ag, cg, mg, rfl, hrs, hb⟩; have RG6 := Lib.hid hrs; have B56 := Lib.hid hb; have B6 := Lib.hid (below_call B5.out hb); clear hrs hb)
    | (go_at_call 11; (with_reducible refine (healTake rot lm _ _ w6 (X3.out.later B6.out) (S3.out.later B6.out) (fun r hr => (HIM3.out r hr).later B6.out) (errType_later G3.out B6.out) ⟨by omega, by omega⟩).mono ?_); rintro e w7 ⟨At, ct, mt, rfl, hrs, hb⟩; have RT7 := Lib.hid hrs; have B67 := Lib.hid hb; have B7 := Lib.hid (below_call B6.out hb); clear hrs hb))
  have z3 : F.heap.size ≤ w4.heap.size := B4.out.size
  have z4 : w4.heap.size ≤ w5.heap.size := B45.out.size
  have z5 : w5.heap.size ≤ w6.heap.size := B56.out.size
  have z6 : w6.heap.size ≤ w7.heap.size := B67.out.size
  have B57 := Lib.hid (below_call B56.out B67.out)
  have ZA := Lib.hid (fun (x : Nat) hx => OA4.out.block (x := x) hx)
  have ZB := Lib.hid (fun (x : Nat) hx => OB5.out.block (x := x) hx)
  have ZG := Lib.hid RG6.out.zone
  have ZT := Lib.hid RT7.out.zone
  have SA7 := Lib.hid (SA5.out.later B57.out)
  have OA7 := Lib.hid (OA5.out.later B57.out)
  have OB7 := Lib.hid (OB5.out.later B57.out)
  have RG7 := Lib.hid (RG6.out.later B67.out)
  have R7 := Lib.hid (R3.out.later B7.out)
  have W7 := Lib.hid (W3.out.later B7.out)
  have L7 := Lib.hid (L3.out.later B7.out)
  have X7 := Lib.hid (X3.out.later B7.out)
  have S7 := Lib.hid (S3.out.later B7.out)
  have N7 := Lib.hid (show ∀ r ∈ l, EntIn w7.heap.size w7 r.e ∧ r.e.bd.length ≤ 100000 from fun r hr => ⟨(HIN3.out r hr).1.later B7.out, (HIN3.out r hr).2⟩)
  have hgl : mg.length ≤ 600 := by have h1 := RG7.out.len; have h2 := give_len lm want many; omega
  have htl : mt.length ≤ 600 := by have h1 := RT7.out.len; have h2 : (takeV rot lm).length ≤ (wantsV rot).length := give_len lm (wantsV rot) rot.length; have h3 := wants_len rot; omega
  have KG := Lib.hid (RG7.out.key.trans (give_key3 KEY.out))
  have KT := Lib.hid (RT7.out.key.trans (take_key3 KEY.out))
  have KL := Lib.hid (left_key3 (rot := rot) KEY.out)
  have BG7 := Lib.hid RG7.out.bytes
  have BT7 := Lib.hid RT7.out.bytes
  have SG7 := Lib.hid (RG7.out.own.sl recRow_length)
  have ST7 := Lib.hid (RT7.out.own.sl recRow_length)
  obtain ⟨Lf, hLf⟩ : ∃ z, z = leftV rot l := ⟨_, rfl⟩
  rw [← hLf] at KL
  clear OA4 SA4 OB5 SA5 OA5 RG6 B4 B5 B6 B45 B56 B57
  go_upto_region 8 with (first
    | (go_at_call 13; (with_reducible refine (ref24Wants rot _ many w7 R7.out (by omega)).mono ?_); rintro e w8 ⟨A8, c8, rfl, hs, hb⟩; have S8 := Lib.hid hs; have B8 := Lib.hid hb; clear hs hb)
    | (go_at_call 12; (with_reducible refine (sameIdents (WantsV rot many) _ _ w8 (SA7.out.later B8.out) S8.out).mono ?_); rintro e w9 ⟨rfl, hb⟩; have B9 := Lib.hid (below_call B8.out hb); clear hb)
    | (go_at_call 16; (with_reducible refine (refs24 l _ w9 (L7.out.later B9.out) (by omega)).mono ?_); rintro e w10 ⟨A10, c10, rfl, ho, hb⟩; have O10 := Lib.hid (ho.sl recRow_length); have B10 := Lib.hid (below_call B9.out hb); clear ho hb)
    | (go_at_call 15; (with_reducible refine (ref24Give l want _ _ many w10 O10.out (W7.out.later B10.out) (fun r hr => ⟨(N7.out r hr).1.later B10.out, (N7.out r hr).2⟩) ⟨by omega, by omega⟩).mono ?_); rintro e w11 ⟨A11, c11, mr, rfl, hrs, hb⟩; have P11 := Lib.hid hrs; have B11 := Lib.hid (below_call B10.out hb); clear hrs hb)
    | (go_at_call 14; (with_reducible refine (same24 mg mr _ _ w11 (KG.out.trans P11.out.key.symm) (SG7.out.later B11.out) (P11.out.own.sl recRow_length) (fun x hx => (BG7.out x hx).later B11.out) (fun x hx => (P11.out.bod x hx).sl u8Row_length)).mono ?_); rintro e w12 ⟨rfl, hb⟩; have B12 := Lib.hid (below_call B11.out hb); clear hb)
    | (go_at_call 16; (with_reducible refine (refs24 l _ w12 (L7.out.later B12.out) (by omega)).mono ?_); rintro e w13 ⟨A13, c13, rfl, ho, hb⟩; have O13 := Lib.hid (ho.sl recRow_length); have B13 := Lib.hid (below_call B12.out hb); clear ho hb)
    | (go_at_call 17; (with_reducible refine (ref24Take rot l _ _ w13 (R7.out.later B13.out) O13.out (fun r hr => ⟨(N7.out r hr).1.later B13.out, (N7.out r hr).2⟩) ⟨by omega, by omega⟩).mono ?_); rintro e w14 ⟨A14, c14, mq, rfl, hrs, hb⟩; have P14 := Lib.hid hrs; have B14 := Lib.hid (below_call B13.out hb); clear hrs hb)
    | (go_at_call 14; (with_reducible refine (same24 mt mq _ _ w14 (KT.out.trans P14.out.key.symm) (ST7.out.later B14.out) (P14.out.own.sl recRow_length) (fun x hx => (BT7.out x hx).later B14.out) (fun x hx => (P14.out.bod x hx).sl u8Row_length)).mono ?_); rintro e w15 ⟨rfl, hb⟩; have B15 := Lib.hid (below_call B14.out hb); clear hb)
    | (go_at_call 18; (with_reducible refine (healLeft rot lm _ _ w15 (X7.out.later B15.out) (S7.out.later B15.out) ⟨by omega, by omega⟩).mono ?_); rintro e w16 ⟨v16, rfl, ho, hb⟩; rw [KL.out] at ho; have O16 := Lib.hid (ho.sl idRow_length); have B16 := Lib.hid (below_call B15.out hb); clear ho hb)
    | (go_at_call 16; (with_reducible refine (refs24 l _ w16 (L7.out.later B16.out) (by omega)).mono ?_); rintro e w17 ⟨A17, c17, rfl, ho, hb⟩; have O17 := Lib.hid (ho.sl recRow_length); have Q17 := Lib.hid (O16.out.later hb); have B17 := Lib.hid (below_call B16.out hb); clear ho hb)
    | (go_at_call 19; (with_reducible refine (ref24Left rot l _ _ w17 (R7.out.later B17.out) O17.out ⟨by omega, by omega⟩).mono ?_); rintro e w18 ⟨v18, rfl, ho, hb⟩; rw [← hLf] at ho; have O18 := Lib.hid (ho.sl idRow_length); have Q18 := Lib.hid (Q17.out.later hb); have B18 := Lib.hid (below_call B17.out hb); clear ho hb)
    | (go_at_call 12; (with_reducible refine (sameIdents Lf _ _ w18 Q18.out O18.out).mono ?_); rintro e W ⟨rfl, hb⟩; have BW := Lib.hid (below_call B18.out hb); clear hb))
  have HLF := Lib.hid hLf
  have GW := Lib.hid (errType_later G3.out (below_call B7.out BW.out))
  clear hLf SA7 L7 X7 S7 N7 KG KT KL BG7 BT7 SG7 ST7 R7 S8 B8 B9 O10 B10 P11 B11 B12 O13 B13 P14 B14 B15 O16 B16 O17 Q17 B17 O18 Q18 B18
  go_wp2_with fail
  go_loopw [20, 21] (fun o i wr => ∃ (k : Nat) (A : Option Addr) (c : Nat), o = .slice A k c ∧ k ≤ want.length ∧ i = .int .i64 (k : Int) ∧ Own 1 i64Row 3 W.heap.size wr (.slice A k c) ((want.take k).map Idt.idx) ∧ Below W.heap.size W wr) (fun _ i _ => want.length - (kOf i).toNat)
  case atStart => exact ⟨0, none, 0, rfl, by omega, rfl, Own.nil_ _ _ _ _ _, Below.refl _ _⟩
  case round =>
    obtain ⟨k, A3, c3, rfl, hk, rfl, ho, hb⟩ := hrel
    have HO := Lib.hid ho
    have HB := Lib.hid hb
    have hz := hb.size
    have i0 : (0 : Int) ≤ (k : Int) := by omega
    have hll : ((want.take k).map Idt.idx).length ≤ 600 := by rw [List.length_map, List.length_take]; omega
    clear ho hb
    by_cases hlt : k < want.length
    · have i1 : (k : Int) < (want.length : Int) := by omega
      have d0 : decide ((k : Int) < (want.length : Int)) = true := decide_eq_true i1
      obtain ⟨b, off, c9, hv, -, -, hbb, hcell⟩ := (W7.out.later BW.out).cellAt (by intro h; subst h; simp at hlt)
      simp only [Value.slice.injEq] at hv
      obtain ⟨rfl, -, rfl⟩ := hv
      obtain ⟨x, hx⟩ : ∃ x, want[k]? = some x := ⟨_, List.getElem?_eq_getElem hlt⟩
      have c0 : wr.cell? ⟨b, off + k * 3, none⟩ = some (.int .i64 x.idx) := by simpa using (HB.out.cell (p := ⟨b, off + k * 3 + 0, none⟩) hbb).trans (hcell k x hx 0 _ rfl)
      have HTN := Lib.hid (show (want.take (k + 1)).map Idt.idx = (want.take k).map Idt.idx ++ [x.idx] by rw [List.take_add_one, hx]; simp)
      clear hcell hx
      go_wp2_with (at_builtin; refine wpList_append_row _ rfl (.tmp 92) (.tmp 98) 39 rfl W.heap.size 3 _ 1 8 Tryz.underlying39 intInfoH rfl (Nat.succ_pos 0) i64Row i64Row_length i64Row_one _ _ rfl HO.out x.idx _ rfl 3 _ rfl rfl (by omega) (by omega) hz ?_; intro v' w' p1 p2 p3 p4 p5; obtain ⟨A4, c4, hv4⟩ := p1.len; rw [List.length_append, List.length_map, List.length_take, Nat.min_eq_left hk] at hv4; subst hv4; have P1 := Lib.hid p1; have P2 := Lib.hid p2; clear p1 p2 p3 p4 p5)
      go_roundw
      case rel => exact ⟨k + 1, A4, c4, rfl, by omega, by go_num, by rw [HTN.out]; exact P1.out, HB.out.trans P2.out⟩
      case measure => first | (simp [kOf]; done) | (simp [kOf]; omega)
    · have d0 : decide ((k : Int) < (want.length : Int)) = false := decide_eq_false (by omega)
      obtain rfl : k = want.length := by omega
      have hml : (want.map Idt.idx).length ≤ 100000 := by rw [List.length_map]; omega
      have HM := Lib.hid (show Sl 1 i64Row wr.heap.size wr (.slice A3 want.length c3) (want.map Idt.idx) by have h := HO.out.sl i64Row_length; rw [List.take_length] at h; exact h)
      obtain ⟨z, hzz⟩ : ∃ z, z = whomV (want.map Idt.idx) self turn := ⟨_, rfl⟩
      have e0 : (z != z) = false := by simp
      have CW1 := Lib.hid (healWhom (want.map Idt.idx) self turn _ wr HM.out hml)
      have CW2 : Hid (∀ V, Below wr.heap.size wr V → Calls Tryz.prog 21 #[.slice A3 want.length c3, .int .i64 self, .int .i64 turn] V fun e w' => e = .returned (.int .i64 z) ∧ Below V.heap.size V w') := fun V hV => by
        have h := ref24Whom (want.map Idt.idx) self turn _ V (HM.out.later hV) hml
        rw [← hzz] at h; exact h
      rw [← hzz] at CW1
      clear hzz HM HO hlt i0 hll
      go_upto_region 15 with (first
        | (go_at_call 20; (with_reducible refine CW1.out.mono ?_); rintro e u1 ⟨rfl, hb⟩; have D1 := Lib.hid hb; clear hb)
        | (go_at_call 21; (with_reducible refine (CW2.out u1 D1.out).mono ?_); rintro e U ⟨rfl, hb⟩; have D2 := Lib.hid (below_call HB.out (below_call D1.out hb)); clear hb))
      have BU := Lib.hid (below_call BW.out D2.out)
      clear CW1 CW2 D1 D2 e0 d0 HB
      have KI : Hid (∀ v, Below F.heap.size F v → Calls Tryz.prog 22 #[.slice (some ⟨gx, 0, none⟩) rot.length cx, .slice Ar rot.length cr] v fun e w' => e = .returned (.bool true) ∧ Below v.heap.size v w') := fun v hv => keptIdents rot _ _ v (HX3.out.later hv) (R3.out.later hv) (by omega)
      have KY : Hid (∀ v, Below F.heap.size F v → Calls Tryz.prog 22 #[.slice (some ⟨gy, 0, none⟩) want.length cy, .slice Aw want.length cw] v fun e w' => e = .returned (.bool true) ∧ Below v.heap.size v w') := fun v hv => keptIdents want _ _ v (HY3.out.later hv) (W3.out.later hv) (by omega)
      have KK : Hid (∀ v, Below F.heap.size F v → Calls Tryz.prog 23 #[.slice Ai l.length ci, .slice Al l.length cl] v fun e w' => e = .returned (.bool true) ∧ Below v.heap.size v w') := fun v hv => kept24 l lm _ _ v KEY.out (S3.out.later hv) (L3.out.later hv) (fun x hx => (IB3.out x hx).later hv) (fun r hr => ⟨(HIN3.out r hr).1.later hv, (HIN3.out r hr).2⟩)
      have ME : ∀ x, x ∈ List.range' w5.heap.size (w7.heap.size - w5.heap.size) ↔ w5.heap.size ≤ x ∧ x < w7.heap.size := fun x => by rw [List.mem_range'_1]; omega
      have CAP : Hid (∀ v, Below w7.heap.size w7 v → Calls Tryz.prog 24 #[.slice (some ⟨v.heap.size, 0, none⟩) 2 2] (v.alloc (.cells #[.slice Aa (WantsV rot many).length (WantsV rot many).length, .slice Ab (WantsV rot many).length (WantsV rot many).length] 22)) fun e w' => e = .returned (.bool true) ∧ Below F.heap.size F w' ∧ w7.heap.size ≤ w'.heap.size ∧ ∀ x, w5.heap.size ≤ x → x < w7.heap.size → w'.heap[x]? = w7.heap[x]?) := fun v hv => by
        have hsv := hv.size
        have hwl : (WantsV rot many).length ≤ 600 := by have h1 := wants_len rot; have h2 : (WantsV rot many).length ≤ (wantsV rot).length := by { unfold WantsV; rw [List.length_take]; omega }; omega
        refine (tellsApartI F.heap.size (List.range' w5.heap.size (w7.heap.size - w5.heap.size)) _ _ _ _ v (OA7.out.later hv) ((OB7.out.later hv).less z3) (fun x h1 h2 => by have := ZA.out x h1; have := ZB.out x h2; omega) (fun x h1 hm => by have := ZA.out x h1; have := (ME x).1 hm; omega) (fun x h1 hm => by have := ZB.out x h1; have := (ME x).1 hm; omega) (fun p hp => by have := (ME p).1 hp; omega) (by omega) (by omega) (by omega)).mono fun e w' h => ⟨h.1, (B7.out.trans (hv.mono (by omega))).trans h.2.low, Nat.le_trans hsv h.2.low.size, fun x h1 h2 => (h.2.ext x ((ME x).2 ⟨h1, h2⟩) (by omega)).trans (hv.block x h2)⟩
      have HBG : Hid (∀ x ∈ mg.map Rec.e, x.bd.length ≤ 100000) := fun x hx => by
        obtain ⟨r, hr, rfl⟩ := List.mem_map.1 hx
        obtain ⟨y, hy, -, -, -, hbd, -⟩ := rec_from RG7.out.key hr
        rw [← hbd]; exact (HIM3.out y hy).1.2
      have HBT : Hid (∀ x ∈ mt.map Rec.e, x.bd.length ≤ 100000) := fun x hx => by
        obtain ⟨r, hr, rfl⟩ := List.mem_map.1 hx
        obtain ⟨y, hy, -, -, -, hbd, -⟩ := rec_from RT7.out.key hr
        rw [← hbd]; exact (HIM3.out y hy).1.2
      have BFU := Lib.hid (below_call B7.out BU.out)
      clear ME
      go_wp2_with (first
        | (go_at_call 22; (with_reducible refine (KI.out U BFU.out).mono ?_); rintro e u1 ⟨rfl, hb⟩; have D1 := Lib.hid (below_call BU.out hb); clear hb)
        | (go_at_call 22; (with_reducible refine (KY.out u1 (below_call B7.out D1.out)).mono ?_); rintro e u2 ⟨rfl, hb⟩; have D2 := Lib.hid (below_call D1.out hb); clear hb)
        | (go_at_call 23; (with_reducible refine (KK.out u2 (below_call B7.out D2.out)).mono ?_); rintro e u3 ⟨rfl, hb⟩; have D3 := Lib.hid (below_call D2.out hb); clear hb)
        | (go_at_call 24; (with_reducible refine (CAP.out u3 D3.out).mono ?_); rintro e V5 ⟨rfl, hb, hz7, hkp⟩; have F5 := Lib.hid hb; have RG5 := Lib.hid (RG7.out.keep (w' := V5) fun x h1 h2 => hkp x h1 h2); have RT5 := Lib.hid (RT7.out.keep (w' := V5) fun x h1 h2 => hkp x (Nat.le_trans z5 h1) h2); clear hb hkp D1 D2 D3)
        | (go_at_call 26; (with_reducible refine (entries24 mg _ V5 (RG5.out.own.sl recRow_length) (by omega)).mono ?_); rintro e V6 ⟨A6, c6, rfl, ho, hb⟩; have E6 := Lib.hid ho; have H56 := Lib.hid hb; clear ho hb)
        | (go_at_call 26; (with_reducible refine (entries24 mt _ V6 ((RT5.out.later H56.out).own.sl recRow_length) (by omega)).mono ?_); rintro e V7 ⟨A7, c7, rfl, ho, hb⟩; have E7 := Lib.hid ho; have H67 := Lib.hid hb; clear ho hb; have F7 := Lib.hid (below_call (below_call F5.out H56.out) H67.out); have s1 := H56.out.size; have s2 := H67.out.size; have s3 := F5.out.size; have CAE := Lib.hid (tellsApartE F.heap.size V5.heap.size V6.heap.size V7.heap.size w5.heap.size w6.heap.size w7.heap.size (mg.map Rec.e) (mt.map Rec.e) A6 A7 mg.length c6 mt.length c7 V7 (by simp) (by simp) ((E6.out.later H67.out).less s3) (E7.out.less (by omega)) ⟨_, (RG5.out.later (below_call H56.out H67.out)).bod.less (by omega)⟩ ⟨_, (RT5.out.later (below_call H56.out H67.out)).bod.less (by omega)⟩ (fun x hx => E6.out.block (blkH_own hx)) (fun x hx => E7.out.block (blkH_own hx)) s1 s2 (Nat.le_refl _) (fun k y x hy hx => ZG.out k y x hy hx) (fun k y x hy hx => ZT.out k y x hy hx) z5 z6 (by omega) (by simp; omega) (by simp; omega) HBG.out HBT.out (by omega)); clear s1 s2 s3)
        | (go_at_call 25; (with_reducible refine CAE.out.mono ?_); rintro e V9 ⟨rfl, hb⟩; have F9 := Lib.hid (F7.out.trans hb); clear hb)
        | (go_at_call 22; (with_reducible refine (KI.out V9 F9.out).mono ?_); rintro e x1 ⟨rfl, hb⟩; have F10 := Lib.hid (below_call F9.out hb); clear hb)
        | (go_at_call 23; (with_reducible refine (KK.out x1 F10.out).mono ?_); rintro e x2 ⟨rfl, hb⟩; have F11 := Lib.hid (below_call F10.out hb); clear hb)
        | (go_at_call 6; (with_reducible refine (awake24 x2 (errType_later G3.out F11.out)).mono ?_); rintro e x3 ⟨rfl, hb⟩; have F12 := Lib.hid (below_call F11.out hb); clear hb))
      go_ret
      exact ⟨rfl, below_call HB3.out F12.out⟩
end Go.Proofs.YtglkgmijhdkhpaaGreatDoor
