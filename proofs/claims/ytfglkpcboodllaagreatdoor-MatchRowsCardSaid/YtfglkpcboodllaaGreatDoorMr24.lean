/-
  limpetref17, 2: Last, Follows, Bytes: contracts.
-/
import Derived.Test.YtfglkpcboodllaaGreatDoorMr13
import Derived.Test.YtfglkpcboodllaaGreatDoorMr4
import Derived.Test.YtfglkpcboodllaaGreatDoorMr8
set_option linter.unusedVariables false
set_option linter.unusedSimpArgs false
namespace Go.Proofs.YtfglkpcboodllaaGreatDoor
open Go.RowKit

set_option maxRecDepth 100000 in
set_option maxHeartbeats 1000000 in
theorem refLast (p : Idt) (l : List Ent) (v : Value) (w : World) (h : Sl 4 entRow w.heap.size w v l) :
    Calls Tryz.prog 56 #[.agg #[.int .i64 p.idx, .int .i64 p.trm, .int .i64 p.knd], v] w fun e w' => e = .returned (.agg #[.int .i64 (lastE p l).idx, .int .i64 (lastE p l).trm, .int .i64 (lastE p l).knd]) ∧ Below w.heap.size w w' := by
  obtain ⟨A, cap, rfl, hlc, hcm, -, hA⟩ := h
  have hn : l.length ≤ 9223372036854775807 := by unfold maxLen at hcm; omega
  have HA := Lib.hid hA
  clear hcm hA
  go_enter Tryz.func56, Tryz.ntmps56
  go_wp2_with fail
  obtain ⟨gp, hgp⟩ : ∃ g, g = w.heap.size := ⟨_, rfl⟩
  obtain ⟨go, hgo⟩ : ∃ g, g = w.heap.size + 1 := ⟨_, rfl⟩
  have hgn : gp ≠ go := by omega
  have hgl : w.heap.size ≤ gp := by omega
  have hgl2 : w.heap.size ≤ go := by omega
  go_loopw [5] (fun i wr => ∃ k : Nat, k ≤ l.length ∧ i = .int .i64 k ∧ Box wr w.heap.size #[.int .i64 (lastE p (l.take k)).idx, .int .i64 (lastE p (l.take k)).trm, .int .i64 (lastE p (l.take k)).knd] 25 ∧ (∃ cs, Box wr (w.heap.size + 1) cs 25 ∧ cs.size = 3) ∧ Below w.heap.size w wr) (fun i _ => l.length - (intOf i).toNat)
  case atStart => exact ⟨0, by omega, rfl, (Box.new _ _ _).alloc _, ⟨_, by have h := Box.new (w.alloc (.cells #[.int .i64 p.idx, .int .i64 p.trm, .int .i64 p.knd] 25)) #[.int .i64 0, .int .i64 0, .int .i64 0] 25; simpa using h, rfl⟩, below_call (below_new _ _) (below_new _ _)⟩
  case round =>
    obtain ⟨k, hk, rfl, hbx, ⟨cs, hbo, hcs⟩, hB⟩ := hrel
    by_cases hlt : k < l.length
    · obtain ⟨b, off, rfl, hb, hcell⟩ := HA.out (by intro h; subst h; simp at hlt)
      obtain ⟨x, hx⟩ : ∃ x, l[k]? = some x := ⟨_, List.getElem?_eq_getElem hlt⟩
      have c0 := (hB.cell (p := ⟨b, off + k * 4, none⟩) hb).trans (hcell k x hx 0 _ rfl)
      have c1 := (hB.cell (p := ⟨b, off + k * 4 + 1, none⟩) hb).trans (hcell k x hx 1 _ rfl)
      have c2 := (hB.cell (p := ⟨b, off + k * 4 + 2, none⟩) hb).trans (hcell k x hx 2 _ rfl)
      have c3 := (hB.cell (p := ⟨b, off + k * 4 + 3, none⟩) hb).trans (hcell k x hx 3 _ rfl)
      have hz := hB.size
      have hgr := hbx.lt
      have hbr : b < wr.heap.size := by omega
      have i0 : (0 : Int) ≤ (k : Int) := by omega
      have i1 : (k : Int) < (l.length : Int) := by omega
      have d0 : decide ((k : Int) < (l.length : Int)) = true := decide_eq_true i1
      have d0' : decide (k < l.length) = true := decide_eq_true hlt
      have HX := Lib.hid hx
      have HBX := Lib.hid hbx
      have HBO := Lib.hid hbo
      have HB := Lib.hid hB
      clear hcell hx hbx hbo hB
      go_wp2_with (go_at_call 52; refine (refOf x _).mono ?_; rintro e w6 ⟨rfl, b6⟩; obtain ⟨mc, fc, zc⟩ := (HBX.out.later b6).facts)
      have R2 := Lib.hid ((HBX.out.later b6).set3 (.int .i64 x.idx) (.int .i64 x.trm) (.int .i64 x.knd))
      have R3 := Lib.hid (HB.out.trans (b6.mono (by omega)))
      have R4 := Lib.hid ((((HBO.out.later b6).far (p := ⟨w.heap.size, 0, none⟩) (by simp) (.int .i64 x.idx)).far (p := ⟨w.heap.size, 1, none⟩) (by simp) (.int .i64 x.trm)).far (p := ⟨w.heap.size, 2, none⟩) (by simp) (.int .i64 x.knd))
      clear mc fc b6
      go_roundw
      case rel => exact ⟨k + 1, by omega, by go_num, by rw [last_take HX.out]; exact R2.out, ⟨cs, R4.out, hcs⟩, below_set (below_set (below_set R3.out (Nat.le_refl _)) (Nat.le_refl _)) (Nat.le_refl _)⟩
      case measure => simp [intOf]; omega
    · have hk' : k = l.length := by omega
      have d0 : decide ((k : Int) < (l.length : Int)) = false := decide_eq_false (by omega)
      have d0' : decide (k < l.length) = false := decide_eq_false hlt
      obtain ⟨q, hq⟩ : ∃ q, lastE p (l.take k) = q := ⟨_, rfl⟩
      rw [hq] at hbx
      have HQ := Lib.hid (show lastE p l = q by rw [← hq, hk', List.take_length])
      obtain ⟨kb, fb, zb⟩ := hbx.facts
      obtain ⟨ko, fo, zo⟩ := hbo.facts
      have HB := Lib.hid hB
      clear hk' hq hbx hbo hB
      go_wp2_with fail
      refine bodyPost_ret (v := .agg #[.int .i64 q.idx, .int .i64 q.trm, .int .i64 q.knd]) (by simp [results, Tryz.results56, go_sem, hcs, ko]) rfl ⟨by rw [HQ.out], ?_⟩
      exact below_set (below_set (below_set HB.out (by omega)) (by omega)) (by omega)

set_option maxRecDepth 100000 in
set_option maxHeartbeats 2000000 in
theorem refFollows (p : Idt) (l : List Ent) (v : Value) (w : World) (h : Sl 4 entRow w.heap.size w v l) (hin : ∀ x ∈ l, EntIn w.heap.size w x) :
    Calls Tryz.prog 58 #[.agg #[.int .i64 p.idx, .int .i64 p.trm, .int .i64 p.knd], v] w fun e w' => e = .returned (.int .i64 (folE p l)) ∧ Below w.heap.size w w' := by
  obtain ⟨A, cap, rfl, hlc, hcm, -, hA⟩ := h
  have hn : l.length ≤ 9223372036854775807 := by unfold maxLen at hcm; omega
  have HA := Lib.hid hA
  have HIN := Lib.hid hin
  clear hcm hA hin
  go_enter Tryz.func58, Tryz.ntmps58
  go_wp2_with fail
  go_loopw [5] (fun i wr => ∃ k : Nat, k ≤ l.length ∧ i = .int .i64 k ∧ FolTo p l k ∧ Box wr w.heap.size #[.int .i64 (lastE p (l.take k)).idx, .int .i64 (lastE p (l.take k)).trm, .int .i64 (lastE p (l.take k)).knd] 25 ∧ Below w.heap.size w wr) (fun i _ => l.length - (intOf i).toNat)
  case atStart => exact ⟨0, by omega, rfl, folTo_zero, Box.new _ _ _, below_new _ _⟩
  case round =>
    obtain ⟨k, hk, rfl, hno, hbx, hB⟩ := hrel
    by_cases hlt : k < l.length
    · obtain ⟨b, off, rfl, hb, hcell⟩ := HA.out (by intro h; subst h; simp at hlt)
      obtain ⟨x, hx⟩ : ∃ x, l[k]? = some x := ⟨_, List.getElem?_eq_getElem hlt⟩
      have c0 := (hB.cell (p := ⟨b, off + k * 4, none⟩) hb).trans (hcell k x hx 0 _ rfl)
      have c1 := (hB.cell (p := ⟨b, off + k * 4 + 1, none⟩) hb).trans (hcell k x hx 1 _ rfl)
      have c2 := (hB.cell (p := ⟨b, off + k * 4 + 2, none⟩) hb).trans (hcell k x hx 2 _ rfl)
      have c3 := (hB.cell (p := ⟨b, off + k * 4 + 3, none⟩) hb).trans (hcell k x hx 3 _ rfl)
      have hz := hB.size
      have hgr := hbx.lt
      have hbr : b < wr.heap.size := by omega
      have i0 : (0 : Int) ≤ (k : Int) := by omega
      have i1 : (k : Int) < (l.length : Int) := by omega
      have d0 : decide ((k : Int) < (l.length : Int)) = true := decide_eq_true i1
      have d0' : decide (k < l.length) = true := decide_eq_true hlt
      obtain ⟨q, hq⟩ : ∃ q, lastE p (l.take k) = q := ⟨_, rfl⟩
      rw [hq] at hbx
      have HQ := Lib.hid hq
      have HX := Lib.hid hx
      have HNO := Lib.hid hno
      have HBX := Lib.hid hbx
      have HB := Lib.hid hB
      have HCE := Lib.hid hcell
      have HE := Lib.hid (((HIN.out x (List.mem_of_getElem? hx)).below hB).more (show w.heap.size ≤ wr.heap.size by omega))
      clear hcell hx hbx hB hno hq
      cases hg : goodE x with
      | false =>
        have HG := Lib.hid hg
        have HF := Lib.hid (show folE p l = 4 by rw [folE_stop HX.out HNO.out (by rw [HQ.out, step_bad hg]; omega), HQ.out, step_bad hg])
        clear hg
        go_wp2_with (go_at_call 54; refine (refGood x _ HE.out).mono ?_; rintro e w6 ⟨rfl, b6⟩; rw [HG.out])
        go_ret
        exact ⟨ret_int HF.out.symm, HB.out.trans (b6.mono (by omega))⟩
      | true =>
        have HG := Lib.hid hg
        obtain ⟨r1, r2, r3, r4⟩ := good_range hg
        have w1' : IntKind.i64.wrap (x.idx - 1) = x.idx - 1 := IntWalk.i64_in _ (by omega)
        go_upto_region 6 with (go_at_call 54; refine (refGood x _ HE.out).mono ?_; rintro e w6 ⟨rfl, b6⟩; rw [HG.out])
        have HB6 := Lib.hid (HB.out.trans (b6.mono (show w.heap.size ≤ wr.heap.size by omega)))
        have HX6 := Lib.hid (HBX.out.later b6)
        clear b6 c0 c1 c2 c3
        have kq0 : ∀ zw : Ext w6, zw.wd.cell? ⟨w.heap.size, 0, none⟩ = some (.int .i64 q.idx) := HX6.out.ext 0
        have kq1 : ∀ zw : Ext w6, zw.wd.cell? ⟨w.heap.size, 1, none⟩ = some (.int .i64 q.trm) := HX6.out.ext 1
        have kx0 : ∀ zw : Ext w6, zw.wd.cell? ⟨b, off + k * 4, none⟩ = some (.int .i64 x.idx) := fun zw => ((HB6.out.trans (zw.low.mono HB6.out.size)).cell (p := ⟨b, off + k * 4 + 0, none⟩) hb).trans (HCE.out k x HX.out 0 _ rfl)
        have kx1 : ∀ zw : Ext w6, zw.wd.cell? ⟨b, off + k * 4 + 1, none⟩ = some (.int .i64 x.trm) := fun zw => ((HB6.out.trans (zw.low.mono HB6.out.size)).cell (p := ⟨b, off + k * 4 + 1, none⟩) hb).trans (HCE.out k x HX.out 1 _ rfl)
        by_cases hs : x.idx - 1 = q.idx
        · have e1 : (x.idx - 1 != q.idx) = false := by simpa using hs
          by_cases ht : x.trm < q.trm
          · have e2 : decide (x.trm < q.trm) = true := decide_eq_true ht
            have HF := Lib.hid (show folE p l = 12 by rw [folE_stop HX.out HNO.out (by rw [HQ.out, step_out hg (.inr ht)]; omega), HQ.out, step_out hg (.inr ht)])
            clear hg hs ht
            refine wp_region_ext (by kernel_rfl) (by kernel_rfl) ?_
            repeat (go_big_quiet_step (fail))
            refine wpQuiet_nil ?_
            intro _ hw'
            obtain ⟨x9, hw''⟩ := hw'
            subst hw''
            go_wp2_with fail
            go_ret
            exact ⟨ret_int HF.out.symm, HB6.out.trans (x9.low.mono HB6.out.size)⟩
          · have e2 : decide (x.trm < q.trm) = false := decide_eq_false ht
            have HS := Lib.hid (step_ok (p := q) hg (by omega))
            clear hg hs ht
            refine wp_region_ext (by kernel_rfl) (by kernel_rfl) ?_
            repeat (go_big_quiet_step (fail))
            refine wpQuiet_nil ?_
            intro _ hw'
            obtain ⟨x9, hw''⟩ := hw'
            subst hw''
            have HX9 := Lib.hid (HX6.out.later x9.low)
            have HB9 := Lib.hid (HB6.out.trans (x9.low.mono HB6.out.size))
            have k0 := kx0 x9
            have k1 := kx1 x9
            have k2 := (HB9.out.cell (p := ⟨b, off + k * 4 + 2, none⟩) hb).trans (HCE.out k x HX.out 2 _ rfl)
            have k3 := (HB9.out.cell (p := ⟨b, off + k * 4 + 3, none⟩) hb).trans (HCE.out k x HX.out 3 _ rfl)
            have hz9 := HB9.out.size
            clear kq0 kq1 kx0 kx1
            go_wp2_with (go_at_call 52; refine (refOf x _).mono ?_; rintro e w10 ⟨rfl, b10⟩; obtain ⟨mc, fc, zc⟩ := (HX9.out.later b10).facts)
            have R1 := Lib.hid (show FolTo p l (k + 1) from folTo_succ HX.out HNO.out (by rw [HQ.out]; exact HS.out))
            have R2 := Lib.hid ((HX9.out.later b10).set3 (.int .i64 x.idx) (.int .i64 x.trm) (.int .i64 x.knd))
            have R3 := Lib.hid (HB9.out.trans (b10.mono hz9))
            clear mc fc b10
            go_roundw
            case rel => exact ⟨k + 1, by omega, by go_num, R1.out, by rw [last_take HX.out]; exact R2.out, below_set (below_set (below_set R3.out (Nat.le_refl _)) (Nat.le_refl _)) (Nat.le_refl _)⟩
            case measure => simp [intOf]; omega
        · have e1 : (x.idx - 1 != q.idx) = true := by simpa using hs
          have HF := Lib.hid (show folE p l = 12 by rw [folE_stop HX.out HNO.out (by rw [HQ.out, step_out hg (.inl hs)]; omega), HQ.out, step_out hg (.inl hs)])
          clear hg hs
          refine wp_region_ext (by kernel_rfl) (by kernel_rfl) ?_
          repeat (go_big_quiet_step (fail))
          refine wpQuiet_nil ?_
          intro _ hw'
          obtain ⟨x9, hw''⟩ := hw'
          subst hw''
          go_wp2_with fail
          go_ret
          exact ⟨ret_int HF.out.symm, HB6.out.trans (x9.low.mono HB6.out.size)⟩
    · have hk' : k = l.length := by omega
      have HF := Lib.hid (show folE p l = 0 from folE_all (by rw [← hk']; exact hno))
      have d0 : decide ((k : Int) < (l.length : Int)) = false := decide_eq_false (by omega)
      have d0' : decide (k < l.length) = false := decide_eq_false hlt
      have HB := Lib.hid hB
      clear hk' hno hbx hB
      go_wp2_with fail
      go_ret
      exact ⟨ret_int HF.out.symm, HB.out⟩

set_option maxHeartbeats 1000000 in
theorem refBytes (ms : List Int) (v : Value) (w : World) (h : Sl 1 i64Row w.heap.size w v ms) :
    Calls Tryz.prog 64 #[v] w (BytPost ms w) := by
  have HSL := Lib.hid h
  obtain ⟨A, cap, rfl, hlc, hcm, -, hA⟩ := h
  have hn : ms.length ≤ 9223372036854775807 := by unfold maxLen at hcm; omega
  clear hcm
  have HA := Lib.hid hA
  clear hA
  cases hm : memRight ms with
  | false =>
    have HM := Lib.hid hm
    clear hm
    go_enter Tryz.func64, Tryz.ntmps64
    go_wp2_with (go_at_call 68; refine (refRight ms _ _ HSL.out).mono ?_; rintro e w' ⟨rfl, rfl⟩; rw [HM.out])
    go_ret2
    exact bytPost_no HM.out
  | true =>
    have HM := Lib.hid hm
    have hs := memRight_short hm
    have hne : ms ≠ [] := by intro h; subst h; simp [memRight] at hm
    have HNE := Lib.hid hne
    clear hm hne
    go_enter Tryz.func64, Tryz.ntmps64
    go_wp2_with (go_at_call 68; refine (refRight ms _ _ HSL.out).mono ?_; rintro e w' ⟨rfl, rfl⟩; rw [HM.out])
    go_loopw [4, 5] (fun o i wr => ∃ k : Nat, k ≤ ms.length ∧ i = .int .i64 k ∧ Own 1 u8Row 5 w.heap.size wr o (ms.take k) ∧ (o = .slice none 0 0 → k = 0) ∧ Below w.heap.size w wr) (fun _ i _ => ms.length - (intOf i).toNat)
    case atStart => exact ⟨0, by omega, rfl, Own.nil_ _ _ _ _ _, fun _ => rfl, Below.refl _ _⟩
    case round =>
      obtain ⟨k, hk, rfl, hown, hnn, hB⟩ := hrel
      by_cases hlt : k < ms.length
      · obtain ⟨bb, off, rfl, hbl, hcell⟩ := HA.out (by intro h; subst h; simp at hlt)
        obtain ⟨x, hx⟩ : ∃ x, ms[k]? = some x := ⟨_, List.getElem?_eq_getElem hlt⟩
        have c0 : wr.cell? ⟨bb, off + k, none⟩ = some (.int .i64 x) := by
          have := (hB.cell (p := ⟨bb, off + k * 1 + 0, none⟩) hbl).trans (hcell k x hx 0 _ rfl)
          simpa using this
        have hxb : 1 ≤ x ∧ x ≤ 7 := memFrom_at (by have := HM.out; simp only [memRight, Bool.and_eq_true] at this; exact this.1) hx
        obtain ⟨x0, x1⟩ := hxb
        have hwx : IntKind.u8.wrap x = x := by simp [IntKind.wrap, IntKind.signed, IntKind.bits]; omega
        have HX := Lib.hid hx
        have HO := Lib.hid hown
        have HB := Lib.hid hB
        have hz := hB.size
        have hle : (ms.take k).length ≤ 7 := by have := List.length_take_le k ms; omega
        have i0 : (0 : Int) ≤ (k : Int) := by omega
        have i1 : (k : Int) < (ms.length : Int) := by omega
        clear hcell hx hown hB hnn
        go_wp2_with (at_builtin; refine wpList_append_row _ rfl (.tmp 15) (.tmp 21) 26 rfl w.heap.size 5 _ 1 1 Tryz.underlying26 u8Info rfl (Nat.succ_pos 0) u8Row u8Row_length u8Row_one _ _ rfl HO.out x _ rfl 5 _ rfl rfl (by omega) (by omega) hz ?_; intro v' w' p1 p2 p3 p4 p5)
        have HP := Lib.hid p1
        have HB2 := Lib.hid (HB.out.trans p2)
        have HV := Lib.hid p5
        clear p1 p2 p3 p4 p5
        go_roundw
        case rel => exact ⟨k + 1, by omega, by go_num, by rw [take_at HX.out]; exact HP.out, fun h => absurd h HV.out, HB2.out⟩
        case measure => simp [intOf]; omega
      · have hk' : k = ms.length := by omega
        have HO := Lib.hid (show Own 1 u8Row 5 w.heap.size wr u4 ms by rw [hk', List.take_length] at hown; exact hown)
        have HV := Lib.hid (show u4 ≠ .slice none 0 0 from fun h => HNE.out (List.eq_nil_of_length_eq_zero (by have := hnn h; omega)))
        have HB := Lib.hid hB
        clear hk' hown hnn hB
        go_wp2_with fail
        go_ret2
        exact bytPost_yes HM.out HO.out HV.out HB.out
end Go.Proofs.YtfglkpcboodllaaGreatDoor
