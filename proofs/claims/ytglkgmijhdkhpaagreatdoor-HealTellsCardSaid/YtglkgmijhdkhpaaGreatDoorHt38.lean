/-
  Merged: Ref24L, HealWhom.
-/
import Derived.Test.YtglkgmijhdkhpaaGreatDoorHt37
import Derived.Test.YtglkgmijhdkhpaaGreatDoorHt32
import Derived.Test.YtglkgmijhdkhpaaGreatDoorHt17
import Derived.Test.YtglkgmijhdkhpaaGreatDoorHt3
/-
  limpetref24's Left: contract.
-/
set_option linter.unusedVariables false
set_option linter.unusedSimpArgs false
namespace Go.Proofs.YtglkgmijhdkhpaaGreatDoor
open Go.RowKit

theorem turnI_known {took : List Rec} {p : Idt} (h : p.knd ≠ 0) : turnI took p = p := by unfold turnI; rw [if_neg h]
theorem turnI_none {took : List Rec} {p : Idt} (h : NoP (aheadP p) took took.length) : turnI took p = p := by
  unfold turnI
  split
  · unfold aheadOf
    rw [show (took.find? fun r => decide (r.a.idx = p.idx) && !decide (r.a.knd = 0)) = none from noP_none h]
  · rfl
theorem turnI_some {took : List Rec} {p : Idt} {k : Nat} {x : Rec} (h0 : p.knd = 0) (h : NoP (aheadP p) took k) (hx : took[k]? = some x) (hp : aheadP p x = true) : turnI took p = x.a := by
  unfold turnI
  rw [if_pos h0]
  unfold aheadOf
  rw [show (took.find? fun r => decide (r.a.idx = p.idx) && !decide (r.a.knd = 0)) = some x from noP_some h hx hp]
set_option maxRecDepth 100000 in
set_option maxHeartbeats 8000000 in
theorem ref24Left (rot : List Idt) (took : List Rec) (vr vl : Value) (w : World) (hr : Sl 3 idRow w.heap.size w vr rot) (hl : Sl 7 recRow w.heap.size w vl took) (hn : took.length ≤ 100000 ∧ rot.length ≤ 100000) :
    Calls Tryz.prog 19 #[vr, vl] w fun e w' => ∃ v', e = .returned v' ∧ Own 3 idRow 42 w.heap.size w' v' (leftV rot took) ∧ Below w.heap.size w w' := by
  have HL := Lib.hid hl
  obtain ⟨Al, cl, rfl, -, -, -, hAl⟩ := id hl
  obtain ⟨Aw, cw, rfl, -, -, -, hAw⟩ := hr
  have HAL := Lib.hid hAl
  have HAW := Lib.hid hAw
  have hln : took.length ≤ 100000 := hn.1
  have hwn : rot.length ≤ 100000 := hn.2
  clear hl hAl hAw hn
  go_enter Tryz.func19, Tryz.ntmps19
  go_wp2_with fail
  go_loopw [5, 6, 7, 8] (fun o i _ _ wr => ∃ (k : Nat) (ov : Value), ov = o ∧ k ≤ rot.length ∧ i = .int .i64 (k : Int) ∧ Own 3 idRow 42 w.heap.size wr ov (leftV (rot.take k) took) ∧ Below w.heap.size w wr) (fun _ i _ _ _ => rot.length - (kOf i).toNat)
  case atStart => exact ⟨0, _, rfl, by omega, rfl, Own.nil_ _ _ _ _ _, Below.refl _ _⟩
  case round =>
    obtain ⟨k, ov, rfl, hk, rfl, ho, hB⟩ := hrel
    have HO := Lib.hid ho
    have HB := Lib.hid hB
    have hzr := hB.size
    have hll : (leftV (rot.take k) took).length ≤ 100000 := by have h1 := left_len (rot.take k) took; rw [List.length_take] at h1; omega
    have i0 : (0 : Int) ≤ (k : Int) := by omega
    clear ho hB
    by_cases hlt : k < rot.length
    · have i1 : (k : Int) < (rot.length : Int) := by omega
      have d0 : decide ((k : Int) < (rot.length : Int)) = true := decide_eq_true i1
      obtain ⟨bw, ow, rfl, hbw, hcell⟩ := HAW.out (by intro h; subst h; simp at hlt)
      obtain ⟨p, hp⟩ : ∃ p, rot[k]? = some p := ⟨_, List.getElem?_eq_getElem hlt⟩
      have c0 : wr.cell? ⟨bw, ow + k * 3, none⟩ = some (.int .i64 p.idx) := (HB.out.cell (p := ⟨bw, ow + k * 3 + 0, none⟩) hbw).trans (hcell k p hp 0 _ rfl)
      have c1 : wr.cell? ⟨bw, ow + k * 3 + 1, none⟩ = some (.int .i64 p.trm) := (HB.out.cell (p := ⟨bw, ow + k * 3 + 1, none⟩) hbw).trans (hcell k p hp 1 _ rfl)
      have c2 : wr.cell? ⟨bw, ow + k * 3 + 2, none⟩ = some (.int .i64 p.knd) := (HB.out.cell (p := ⟨bw, ow + k * 3 + 2, none⟩) hbw).trans (hcell k p hp 2 _ rfl)
      have HLT := Lib.hid (left_take (took := took) hp)
      have HXP := Lib.hid (Box.new wr #[.int .i64 p.idx, .int .i64 p.trm, .int .i64 p.knd] 42)
      have HBP := Lib.hid (below_new wr (.cells #[.int .i64 p.idx, .int .i64 p.trm, .int .i64 p.knd] 42))
      obtain ⟨W1, hW1⟩ : ∃ q, q = wr.alloc (.cells #[.int .i64 p.idx, .int .i64 p.trm, .int .i64 p.knd] 42) := ⟨_, rfl⟩
      obtain ⟨gp, hgp⟩ : ∃ q, q = wr.heap.size := ⟨_, rfl⟩
      have HE := Lib.hid hW1
      have HE2 := Lib.hid hgp
      have hgl : w.heap.size ≤ gp := by omega
      have hgo : ∀ q, ov.ownBlock = some q → q ≠ gp := fun q hq => by have := (HO.out.block hq).2; omega
      rw [← hW1] at HXP HBP
      rw [← hgp] at HXP
      have HGO := Lib.hid hgo
      have HO1 := Lib.hid (HO.out.later HBP.out)
      have HB1 := Lib.hid (HB.out.trans (HBP.out.mono hzr))
      have CH : Hid (Calls Tryz.prog 47 #[.slice Al took.length cl, .int .i64 p.idx] W1 fun e w' => (∃ r : Int, e = .returned (.int .i64 r) ∧ decide (0 ≤ r) = isIn took p) ∧ W1 = w') := (ref24Has took p.idx _ W1 (HL.out.later HB1.out)).mono fun e w' ⟨⟨r, he, hr⟩, hw⟩ => ⟨⟨r, he, hr.any⟩, hw⟩
      clear hcell hp hW1 hgp hgo
      go_upto_region 6 with fail
      rw [← HE.out, ← HE2.out]
      clear c0 c1 c2
      obtain ⟨kp, fp, zp⟩ := HXP.out.facts
      by_cases hin : isIn took p = true
      · rw [hin] at CH
        have HLN := Lib.hid (show leftV (rot.take (k + 1)) took = leftV (rot.take k) took by rw [HLT.out, hin]; simp)
        clear hin
        go_wp2_with (go_at_call 47; (with_reducible refine CH.out.mono ?_); rintro e w2 ⟨⟨r, rfl, hr⟩, rfl⟩)
        go_roundw
        case rel => exact ⟨k + 1, _, rfl, by omega, by go_num, by rw [HLN.out]; exact HO1.out, HB1.out⟩
        case measure => first | (simp [kOf]; done) | (simp [kOf]; omega)
      have hinf : isIn took p = false := by simpa using hin
      rw [hinf] at CH
      have HLN := Lib.hid (show leftV (rot.take (k + 1)) took = leftV (rot.take k) took ++ [turnI took p] by rw [HLT.out, hinf]; simp)
      clear hin hinf
      go_upto_region 7 with (go_at_call 47; (with_reducible refine CH.out.mono ?_); rintro e w2 ⟨⟨r, rfl, hr⟩, rfl⟩)
      clear kp fp zp CH
      go_wp2_with fail
      go_loopw [8] (fun i wr => ∃ (j : Nat) (q : Idt), j ≤ took.length ∧ i = .int .i64 (j : Int) ∧ Box wr gp #[.int .i64 q.idx, .int .i64 q.trm, .int .i64 q.knd] 42 ∧ ((q = p ∧ NoP (aheadP p) took j) ∨ (q = turnI took p ∧ q.knd ≠ 0)) ∧ Own 3 idRow 42 w.heap.size wr ov (leftV (rot.take k) took) ∧ Below w.heap.size w wr) (fun i _ => took.length - (kOf i).toNat)
      case atStart => exact ⟨0, p, by omega, rfl, HXP.out, .inl ⟨rfl, noP_zero⟩, HO1.out, HB1.out⟩
      case round =>
        clear HXP HO1 HB1 hr HO HB hzr HBP
        obtain ⟨j, q, hj, rfl, hx, hq, ho, hb⟩ := hrel
        have HX := Lib.hid hx
        have HQ := Lib.hid hq
        have HO := Lib.hid ho
        have HB := Lib.hid hb
        have hz := hb.size
        have j0 : (0 : Int) ≤ (j : Int) := by omega
        obtain ⟨kp, fp, zp⟩ := hx.facts
        clear hx hq ho hb
        by_cases hjl : j < took.length
        case neg =>
          have e0 : decide ((j : Int) < (took.length : Int)) = false := decide_eq_false (by omega)
          have e0n : decide (j < took.length) = false := decide_eq_false hjl
          have HTQ := Lib.hid (show turnI took p = q by
            rcases HQ.out with ⟨h1, h2⟩ | ⟨h1, -⟩
            · rw [h1]; exact turnI_none (by rw [show j = took.length by omega] at h2; exact h2)
            · exact h1.symm)
          go_wp2_with (at_builtin; refine wpList_append_row _ rfl (.tmp 58) (.tmp 60) 22 rfl w.heap.size 42 _ 3 24 Tryz.underlying22 idtInfo rfl (Nat.succ_pos 2) idRow idRow_length idRow_one _ _ rfl HO.out q _ rfl 42 _ rfl rfl (by omega) (by omega) hz ?_; intro v' w' p1 p2 p3 p4 p5; have P1 := Lib.hid p1; have P2 := Lib.hid p2; clear p1 p2 p3 p4 p5)
          go_roundw
          case rel => exact ⟨k + 1, _, rfl, by omega, by go_num, by rw [HLN.out, HTQ.out]; exact P1.out, HB.out.trans P2.out⟩
          case measure => first | (simp [kOf]; done) | (simp [kOf]; omega)
        have j1 : (j : Int) < (took.length : Int) := by omega
        have e0 : decide ((j : Int) < (took.length : Int)) = true := decide_eq_true j1
        have e0n : decide (j < took.length) = true := decide_eq_true hjl
        by_cases hkd : q.knd = 0
        case neg =>
          have e1 : (q.knd == 0) = false := by simpa using hkd
          have HTQ := Lib.hid (show turnI took p = q by
            rcases HQ.out with ⟨h1, h2⟩ | ⟨h1, -⟩
            · rw [h1] at hkd ⊢; exact turnI_known hkd
            · exact h1.symm)
          clear hkd
          go_wp2_with (at_builtin; refine wpList_append_row _ rfl (.tmp 58) (.tmp 60) 22 rfl w.heap.size 42 _ 3 24 Tryz.underlying22 idtInfo rfl (Nat.succ_pos 2) idRow idRow_length idRow_one _ _ rfl HO.out q _ rfl 42 _ rfl rfl (by omega) (by omega) hz ?_; intro v' w' p1 p2 p3 p4 p5; have P1 := Lib.hid p1; have P2 := Lib.hid p2; clear p1 p2 p3 p4 p5)
          go_roundw
          case rel => exact ⟨k + 1, _, rfl, by omega, by go_num, by rw [HLN.out, HTQ.out]; exact P1.out, HB.out.trans P2.out⟩
          case measure => first | (simp [kOf]; done) | (simp [kOf]; omega)
        have e1 : (q.knd == 0) = true := by simpa using hkd
        obtain ⟨hqp, hno⟩ : q = p ∧ NoP (aheadP p) took j := by
          rcases HQ.out with h | ⟨-, h⟩
          · exact h
          · exact absurd hkd h
        have HPK := Lib.hid (show p.knd = 0 by rw [← hqp]; exact hkd)
        have HNO := Lib.hid hno
        have HQP := Lib.hid hqp
        obtain ⟨b, off, rfl, hbb, hcell⟩ := HAL.out (by intro h; subst h; simp at hjl)
        obtain ⟨x, hx⟩ : ∃ x, took[j]? = some x := ⟨_, List.getElem?_eq_getElem hjl⟩
        have HXX := Lib.hid hx
        have HCX : Hid (∀ V, Below w.heap.size w V → ∀ (i : Nat) (u : Value), (recRow x)[i]? = some u → V.cell? ⟨b, off + j * 7 + i, none⟩ = some u) := fun V hV i u hu => (hV.cell (p := ⟨b, off + j * 7 + i, none⟩) hbb).trans (hcell j x hx i u hu)
        have HCL : Hid (∀ z : Ext wr, Below w.heap.size w z.wd) := fun z => HB.out.trans (z.low.mono hz)
        have kx4 : ∀ z : Ext wr, z.wd.cell? ⟨b, off + j * 7 + 4, none⟩ = some (.int .i64 x.a.idx) := fun z => HCX.out z.wd (HCL.out z) 4 _ rfl
        have kx6 : ∀ z : Ext wr, z.wd.cell? ⟨b, off + j * 7 + 6, none⟩ = some (.int .i64 x.a.knd) := fun z => HCX.out z.wd (HCL.out z) 6 _ rfl
        have kq0 : ∀ z : Ext wr, z.wd.cell? ⟨gp, 0, none⟩ = some (.int .i64 q.idx) := HX.out.ext 0
        clear hcell hx hqp hno hkd
        by_cases ha : x.a.idx = q.idx
        · have e2 : (x.a.idx == q.idx) = true := by simpa using ha
          by_cases hk2 : x.a.knd = 0
          · have e3 : (x.a.knd != 0) = false := by simpa using hk2
            have HNX := Lib.hid (noP_step (p := aheadP p) HNO.out HXX.out (by unfold aheadP; rw [decide_eq_true hk2]; simp))
            clear ha hk2
            go_upto_region 10 with fail
            refine wp_region_ext (by kernel_rfl) (by kernel_rfl) ?_
            repeat (go_big_quiet_step (fail))
            refine wpQuiet_nil ?_
            intro _ hw'
            obtain ⟨x9, hw''⟩ := hw'
            subst hw''
            go_wp2_with fail
            go_roundw
            case rel => exact ⟨j + 1, q, by omega, by go_num, HX.out.later x9.low, .inl ⟨HQP.out, HNX.out⟩, HO.out.later x9.low, HCL.out x9⟩
            case measure => first | (simp [kOf]; done) | (simp [kOf]; omega)
          · have e3 : (x.a.knd != 0) = true := by simpa using hk2
            have HTX := Lib.hid (turnI_some HPK.out HNO.out HXX.out (by unfold aheadP; rw [decide_eq_false hk2, decide_eq_true (by rw [ha, HQP.out])]; rfl))
            have HKN := Lib.hid hk2
            clear ha hk2
            go_upto_region 10 with fail
            refine wp_region_ext (by kernel_rfl) (by kernel_rfl) ?_
            repeat (go_big_quiet_step (fail))
            refine wpQuiet_nil ?_
            intro _ hw'
            obtain ⟨x9, hw''⟩ := hw'
            subst hw''
            obtain ⟨W8, hW8⟩ : ∃ z, z = x9.wd := ⟨_, rfl⟩
            have HB8 := Lib.hid (show Below wr.heap.size wr W8 by rw [hW8]; exact x9.low)
            rw [← hW8]
            clear hW8 kx4 kx6 kq0 kp fp zp
            have HBW := Lib.hid (HB.out.trans (HB8.out.mono hz))
            have HX8 := Lib.hid (HX.out.later HB8.out)
            have HO8 := Lib.hid (HO.out.later HB8.out)
            have f4 : W8.cell? ⟨b, off + j * 7 + 4, none⟩ = some (.int .i64 x.a.idx) := HCX.out W8 HBW.out 4 _ rfl
            have f5 : W8.cell? ⟨b, off + j * 7 + 5, none⟩ = some (.int .i64 x.a.trm) := HCX.out W8 HBW.out 5 _ rfl
            have f6 : W8.cell? ⟨b, off + j * 7 + 6, none⟩ = some (.int .i64 x.a.knd) := HCX.out W8 HBW.out 6 _ rfl
            obtain ⟨kp, fp, zp⟩ := HX8.out.facts
            go_wp2_with fail
            go_roundw
            case rel =>
              refine ⟨j + 1, x.a, by omega, by go_num, HX8.out.set3h (.int .i64 x.a.idx) (.int .i64 x.a.trm) (.int .i64 x.a.knd), .inr ⟨HTX.out.symm, HKN.out⟩, HO8.out.stay fun s hs => ?_, below_set (below_set (below_set HBW.out hgl) hgl) hgl⟩
              rw [Below.heap_setCell _ ⟨gp, 2, none⟩ (.int .i64 x.a.knd) s (HGO.out s hs), Below.heap_setCell _ ⟨gp, 1, none⟩ (.int .i64 x.a.trm) s (HGO.out s hs), Below.heap_setCell _ ⟨gp, 0, none⟩ (.int .i64 x.a.idx) s (HGO.out s hs)]
            case measure => first | (simp [kOf]; done) | (simp [kOf]; omega)
        · have e2 : (x.a.idx == q.idx) = false := by simpa using ha
          have HNX := Lib.hid (noP_step (p := aheadP p) HNO.out HXX.out (by unfold aheadP; rw [← HQP.out, decide_eq_false ha]; rfl))
          clear ha
          go_upto_region 10 with fail
          refine wp_region_ext (by kernel_rfl) (by kernel_rfl) ?_
          repeat (go_big_quiet_step (fail))
          refine wpQuiet_nil ?_
          intro _ hw'
          obtain ⟨x9, hw''⟩ := hw'
          subst hw''
          go_wp2_with fail
          go_roundw
          case rel => exact ⟨j + 1, q, by omega, by go_num, HX.out.later x9.low, .inl ⟨HQP.out, HNX.out⟩, HO.out.later x9.low, HCL.out x9⟩
          case measure => first | (simp [kOf]; done) | (simp [kOf]; omega)
    · have d0 : decide ((k : Int) < (rot.length : Int)) = false := decide_eq_false (by omega)
      have hke : k = rot.length := by omega
      have HF := Lib.hid (show Own 3 idRow 42 w.heap.size wr ov (leftV rot took) by have h := HO.out; rw [hke, List.take_length] at h; exact h)
      clear hke
      go_wp2_with fail
      go_ret
      exact ⟨ov, rfl, HF.out, HB.out⟩
end Go.Proofs.YtglkgmijhdkhpaaGreatDoor
/-
  slices.Clone, IndexFunc, DeleteFunc at []int with heal.Whom's closure: contracts.
-/
set_option linter.unusedVariables false
set_option linter.unusedSimpArgs false
namespace Go.Proofs.YtglkgmijhdkhpaaGreatDoor
open Go.RowKit

theorem intZeroH : ∀ w, (zeroValue 3).run Tryz.prog w = .ok (.int .i64 0) w := fun w => by kernel_rfl
theorem intInfoH : (Tryz.prog.info? 3).map (fun i => (i.zero, i.size, i.bytes)) = some (some (.int .i64 0), 1, 8) := by kernel_rfl
theorem intNilH : ∀ (w : World) (a : Option Addr) (n c n' c' : Nat), (binOp .eql 39 (.slice a n c) (.slice none n' c')).run Tryz.prog w = .ok (.bool a.isNone) w := fun w a n c n' c' => Lib.run_eql_slice_nil w _ _ a n c n' c' Tryz.underlying39
set_option maxHeartbeats 1000000 in
theorem intClone (l : List Int) (v : Value) (w : World) (h : Sl 1 i64Row w.heap.size w v l) (hn : l.length ≤ 1000000) :
    Calls Tryz.prog 49 #[v] w fun e w' => ∃ v', e = .returned v' ∧ Own 1 i64Row 3 w.heap.size w' v' l ∧ Below w.heap.size w w' := by
  obtain ⟨A, cap, rfl, hlc, hcm, hN, hA⟩ := id h
  have HH := Lib.hid h
  have q23 := intNilH
  cases A with
  | none =>
    have hc : cap = 0 := hN rfl
    have h0 : l = [] := List.eq_nil_of_length_eq_zero (by omega)
    subst h0; subst hc
    clear h hA hN
    go_enter Tryz.func49, Tryz.ntmps49
    go_wp2_with fail
    go_ret
    exact ⟨_, rfl, Own.nil_ _ _ _ _ _, Below.refl _ _⟩
  | some ad =>
    clear h hA hN hlc hcm
    go_enter Tryz.func49, Tryz.ntmps49
    go_wp2_with (at_builtin; refine wpList_append_all _ rfl (.tmp 5) (.tmp 6) 39 rfl w.heap.size 3 _ 1 8 Tryz.underlying39 intInfoH rfl (Nat.succ_pos 0) i64Row i64Row_length i64Row_one [] _ rfl (Own.made 1 i64Row 3 w) l w.heap.size _ (HH.out.below (below_new _ _)) rfl (by unfold maxLen; simp; omega) (by simp; omega) (by simp) ?_; intro v' w' h1 h2 h3 h4 h5; have HO := Lib.hid h1; have HB2 := Lib.hid ((below_new w (.cells #[] 3)).trans h2); clear h1 h2 h3 h4 h5)
    go_ret
    exact ⟨_, rfl, by have h := HO.out; rwa [List.nil_append] at h, HB2.out⟩
/-- Between two rounds of a deletion. -/
structure DelG {α : Type} (keep : α → Bool) (l L : List α) (n k : Nat) : Prop where
  len : L.length = l.length
  head : L.take n = (l.take k).filter keep
  rest : L.drop k = l.drop k
  lt : n < k ∧ k ≤ l.length ∧ ((l.take k).filter keep).length = n
section
variable {α : Type} {keep : α → Bool} {l L : List α} {n k : Nat} {x : α}
theorem delG_snoc (hx : l[k]? = some x) : (l.take (k + 1)).filter keep = if keep x then (l.take k).filter keep ++ [x] else (l.take k).filter keep := by
  rw [List.take_add_one, hx, Option.toList_some, List.filter_append]
  cases h : keep x <;> simp [h]
theorem DelG.begin_ (h : NoP (fun x => !keep x) l k) (hk : l[k]? = some x) (hx : keep x = false) : DelG keep l l k (k + 1) := by
  have hlt := (List.getElem?_eq_some_iff.1 hk).1
  have e0 : (l.take k).filter keep = l.take k := by rw [List.filter_eq_self]; intro y hy; simpa using h y hy
  have e : (l.take (k + 1)).filter keep = l.take k := by rw [delG_snoc hk, hx]; simpa using e0
  exact ⟨rfl, e.symm, rfl, by omega, by omega, by rw [e, List.length_take]; omega⟩
theorem DelG.skip (h : DelG keep l L n k) (hx : l[k]? = some x) (he : keep x = false) : DelG keep l L n (k + 1) := by
  have hlt := (List.getElem?_eq_some_iff.1 hx).1
  have e : (l.take (k + 1)).filter keep = (l.take k).filter keep := by rw [delG_snoc hx, he]; rfl
  have hl := h.lt
  refine ⟨h.len, by rw [e, h.head], ?_, by omega, by omega, by rw [e]; exact hl.2.2⟩
  rw [← List.drop_drop, h.rest, List.drop_drop]
theorem DelG.take_ (h : DelG keep l L n k) (hx : l[k]? = some x) (he : keep x = true) : DelG keep l (L.set n x) (n + 1) (k + 1) := by
  have hlt := (List.getElem?_eq_some_iff.1 hx).1
  have e : (l.take (k + 1)).filter keep = (l.take k).filter keep ++ [x] := by rw [delG_snoc hx, he]; rfl
  have hl := h.lt
  have hll := h.len
  refine ⟨by rw [List.length_set, h.len], ?_, ?_, by omega, by omega, by rw [e, List.length_append, hl.2.2]; rfl⟩
  · rw [e, ← h.head, List.take_add_one, List.getElem?_set_self (by omega), List.take_set_of_le (Nat.le_refl _)]; rfl
  · rw [List.drop_set_of_lt (by omega), ← List.drop_drop, h.rest, List.drop_drop]
theorem DelG.at_ (h : DelG keep l L n k) : L[k]? = l[k]? := by
  have := congrArg (fun z => z[0]?) h.rest
  simpa using this
end
set_option maxHeartbeats 1000000 in
theorem whomFn (gs : Nat) (s x : Int) (w : World) (hs : Box w gs #[.int .i64 s] 3) : Calls Tryz.prog 50 #[.int .i64 x, .pointer (some ⟨gs, 0, none⟩)] w fun e w' => e = .returned (.bool (decide (x = s))) ∧ Below w.heap.size w w' := by
  obtain ⟨k0, f0, z0⟩ := hs.facts
  by_cases h : x = s
  · have e0 : (x == s) = true := by simpa using h
    have HD := Lib.hid (decide_eq_true h)
    clear h hs
    go_enter Tryz.func50, Tryz.ntmps50
    go_wp2_with fail
    go_ret
    exact ⟨ret_bool HD.out.symm, Below.refl _ _⟩
  · have e0 : (x == s) = false := by simpa using h
    have HD := Lib.hid (decide_eq_false h)
    clear h hs
    go_enter Tryz.func50, Tryz.ntmps50
    go_wp2_with fail
    go_ret
    exact ⟨ret_bool HD.out.symm, Below.refl _ _⟩
set_option maxHeartbeats 1000000 in
theorem intIndexW (gs : Nat) (p : Int → Bool) (l : List Int) (v : Value) (w : World) (h : Sl 1 i64Row w.heap.size w v l) (hcl : ∀ (x : Int) W, Below w.heap.size w W → Calls Tryz.prog 50 #[.int .i64 x, .pointer (some ⟨gs, 0, none⟩)] W fun e W' => e = .returned (.bool (p x)) ∧ Below W.heap.size W W') :
    Calls Tryz.prog 77 #[v, .func (.func 50) #[] #[.pointer (some ⟨gs, 0, none⟩)]] w fun e w' => (∃ r : Int, e = .returned (.int .i64 r) ∧ FndPost p l r) ∧ Below w.heap.size w w' := by
  obtain ⟨A, cap, rfl, hlc, hcm, -, hA⟩ := h
  have hn : l.length ≤ 9223372036854775807 := by unfold maxLen at hcm; omega
  have HA := Lib.hid hA
  have HC := Lib.hid hcl
  clear hcm hA hcl
  go_enter Tryz.func77, Tryz.ntmps77
  go_wp2_with fail
  go_loopw [5, 8] (fun _ j wr => ∃ k : Nat, k ≤ l.length ∧ j = .int .i64 (k : Int) ∧ NoP p l k ∧ Below w.heap.size w wr) (fun _ j _ => l.length - (kOf j).toNat)
  case atStart => exact ⟨0, by omega, rfl, noP_zero, Below.refl _ _⟩
  case round =>
    obtain ⟨k, hk, rfl, hno, hB⟩ := hrel
    have HNO := Lib.hid hno
    have HB := Lib.hid hB
    have i0 : (0 : Int) ≤ (k : Int) := by omega
    clear hno hB
    by_cases hlt : k < l.length
    · have i1 : (k : Int) < (l.length : Int) := by omega
      have d0 : decide ((k : Int) < (l.length : Int)) = true := decide_eq_true i1
      have d0' : decide (k < l.length) = true := decide_eq_true hlt
      obtain ⟨b, off, rfl, hb, hcell⟩ := HA.out (by intro h; subst h; simp at hlt)
      obtain ⟨x, hx⟩ : ∃ x, l[k]? = some x := ⟨_, List.getElem?_eq_getElem hlt⟩
      have c0 : wr.cell? ⟨b, off + k, none⟩ = some (.int .i64 x) := by simpa using (HB.out.cell (p := ⟨b, off + k * 1 + 0, none⟩) hb).trans (hcell k x hx 0 _ rfl)
      have HX := Lib.hid hx
      have HCX := Lib.hid (HC.out x wr HB.out)
      clear hcell hx
      cases hp : p x with
      | true =>
        rw [hp] at HCX
        have HP := Lib.hid hp
        clear hp
        go_wp2_with (go_at_call 50; (with_reducible refine HCX.out.mono ?_); rintro e w2 ⟨rfl, hb2⟩)
        go_ret
        exact ⟨⟨_, rfl, fnd_yes HNO.out HX.out HP.out⟩, below_call HB.out hb2⟩
      | false =>
        rw [hp] at HCX
        have HP := Lib.hid hp
        clear hp
        go_wp2_with (go_at_call 50; (with_reducible refine HCX.out.mono ?_); rintro e w2 ⟨rfl, hb2⟩; have HB2 := Lib.hid (below_call HB.out hb2); clear hb2)
        go_roundw
        case rel => exact ⟨k + 1, by omega, by go_num, noP_step HNO.out HX.out HP.out, HB2.out⟩
        case measure => first | (simp [kOf]; done) | (simp [kOf]; omega)
    · have d0 : decide ((k : Int) < (l.length : Int)) = false := decide_eq_false (by omega)
      have d0' : decide (k < l.length) = false := decide_eq_false hlt
      have HF := Lib.hid (show NoP p l l.length by have h := HNO.out; rw [show k = l.length by omega] at h; exact h)
      go_wp2_with fail
      go_ret
      exact ⟨⟨_, rfl, fnd_no HF.out⟩, HB.out⟩
theorem Own.row1 {e : TypeId} {base g n c i : Nat} {w : World} {L : List Int} {x : Int} (h : Own 1 i64Row e base w (.slice (some ⟨g, 0, none⟩) n c) L) (hx : L[i]? = some x) : w.cell? ⟨g, i, none⟩ = some (.int .i64 x) := by
  have h2 := World.ownsRow.cells h (g := g) rfl (i * 1 + 0) (.int .i64 x) (flat_at i64Row_length L i x hx 0 _ rfl)
  rw [Addr.add_lit] at h2
  simpa using h2
theorem Own.free1 {e : TypeId} {base g n c : Nat} {w : World} {L : List Int} (h : Own 1 i64Row e base w (.slice (some ⟨g, 0, none⟩) n c) L) : (∀ o, w.frozen? ⟨g, o, none⟩ = false) ∧ g < w.heap.size := by
  rcases h.2 with ⟨hv, _⟩ | ⟨g', c', cur, hv, _, hh, _⟩
  · simp at hv
  · simp only [Value.slice.injEq, Option.some.injEq, Addr.mk.injEq, and_true] at hv
    obtain ⟨rfl, -⟩ := hv
    exact ⟨fun o => by simp [World.frozen?, hh], (Array.getElem?_eq_some_iff.1 hh).1⟩
theorem Own.set1i {e : TypeId} {base g n c a : Nat} {w : World} {L : List Int} {x y : Int} (h : Own 1 i64Row e base w (.slice (some ⟨g, 0, none⟩) n c) L) (hx : L[a]? = some x) : Own 1 i64Row e base (w.setCell ⟨g, a, none⟩ (.int .i64 y)) (.slice (some ⟨g, 0, none⟩) n c) (L.set a y) ∧ Below base w (w.setCell ⟨g, a, none⟩ (.int .i64 y)) := by
  have hg := (h.block (x := g) rfl).1
  have h2 := h.write i64Row_length (i := a) (j := 0) (y := y) (u := .int .i64 y) hx rfl (by omega)
  rw [Nat.mul_one, Nat.add_zero] at h2
  exact ⟨h2, below_set (Below.refl _ _) hg⟩
set_option maxRecDepth 100000 in
set_option maxHeartbeats 8000000 in
theorem intDeleteW (gs : Nat) (p : Int → Bool) (base : Nat) (l : List Int) (v : Value) (w : World) (h : Own 1 i64Row 3 base w v l) (hgs : gs < base) (hn : l.length ≤ 100000) (hB0 : base ≤ w.heap.size) (hcl : ∀ (x : Int) W, Below base w W → Calls Tryz.prog 50 #[.int .i64 x, .pointer (some ⟨gs, 0, none⟩)] W fun e W' => e = .returned (.bool (p x)) ∧ Below W.heap.size W W') :
    Calls Tryz.prog 48 #[v, .func (.func 50) #[] #[.pointer (some ⟨gs, 0, none⟩)]] w fun e w' => ∃ v', e = .returned v' ∧ Own 1 i64Row 3 base w' v' (l.filter fun x => !p x) ∧ Below base w w' := by
  have CI := Lib.hid (intIndexW gs p l v w (h.sl i64Row_length) (fun x W hb => hcl x W (hb.mono hB0)))
  have HCL := Lib.hid hcl
  have HO := Lib.hid h
  obtain ⟨A, c, hv⟩ := h.len
  have hform : v = .slice none 0 0 ∨ ∃ g, v = .slice (some ⟨g, 0, none⟩) l.length c := by
    rcases h.2 with ⟨h1, _⟩ | ⟨g, c', cur, h1, _⟩
    · exact .inl h1
    · exact .inr ⟨g, by rw [hv] at h1; simp only [Value.slice.injEq] at h1; rw [hv, h1.1]⟩
  have hlc : l ≠ [] → l.length ≤ c ∧ c ≤ maxLen := fun hl => by
    obtain ⟨A', c', h1, h2, h3, -⟩ := h.sl i64Row_length
    rw [hv] at h1
    simp only [Value.slice.injEq] at h1
    omega
  subst hv
  clear h hcl
  go_enter Tryz.func48, Tryz.ntmps48
  go_upto_region 2 with (go_at_call 77; (with_reducible refine CI.out.mono ?_); rintro e w2 ⟨⟨r, rfl, hq⟩, hb2⟩; have HB2 := Lib.hid hb2; clear hb2)
  rcases hq with ⟨rfl, hq⟩ | ⟨k0, x0, rfl, hk, hpx, -, hq⟩
  · have HF := Lib.hid (show (l.filter fun x => !p x) = l by
      rw [List.filter_eq_self]
      intro y hy
      have := List.find?_eq_none.1 hq y hy
      simpa using this)
    clear hq hform hlc
    go_wp2_with fail
    go_ret
    exact ⟨_, rfl, by rw [HF.out]; exact HO.out.later HB2.out, HB2.out.mono hB0⟩
  · have hkl := (List.getElem?_eq_some_iff.1 hk).1
    have hl0 : l ≠ [] := by intro h; subst h; simp at hkl
    obtain ⟨g, hg⟩ : ∃ g, A = some ⟨g, 0, none⟩ := by
      rcases hform with h | ⟨g, h⟩
      · simp only [Value.slice.injEq] at h; exact absurd (List.eq_nil_of_length_eq_zero h.2.1) hl0
      · simp only [Value.slice.injEq] at h; exact ⟨g, h.1⟩
    subst hg
    obtain ⟨hlc1, hlc2⟩ := hlc hl0
    have hcm : c ≤ 9223372036854775807 := by unfold maxLen at hlc2; omega
    have HD := Lib.hid (DelG.begin_ (keep := fun x => !p x) (by unfold NoP at hq ⊢; intro y hy; simpa using hq y hy) hk (by simpa using hpx))
    have HO2 := Lib.hid (HO.out.later HB2.out)
    have HBB := Lib.hid (HB2.out.mono hB0)
    have e1 : ((k0 : Int) == -1) = false := by simp
    have hk2 : (k0 : Int) < 100000 := by omega
    have hz2 : base ≤ w2.heap.size := by have := HB2.out.size; omega
    clear hq hk hpx hform hlc hlc2
    go_wp2_with fail
    clear e1
    go_loopw [5, 6, 7] (fun i j _ wr => ∃ (a k : Nat) (L : List Int), i = .int .i64 (a : Int) ∧ j = .int .i64 (k : Int) ∧ DelG (fun x => !p x) l L a k ∧ Own 1 i64Row 3 base wr (.slice (some ⟨g, 0, none⟩) l.length c) L ∧ Below base w wr) (fun _ j _ _ => l.length - (kOf j).toNat)
    case atStart => exact ⟨k0, k0 + 1, l, rfl, by go_num, HD.out, HO2.out, HBB.out⟩
    case round =>
      clear HD HO2 HBB
      obtain ⟨a, k, L, rfl, rfl, hD, hown, hb⟩ := hrel
      have HDD := Lib.hid hD
      have HOW := Lib.hid hown
      have HBB := Lib.hid hb
      have hak := hD.lt
      have hak1 := hak.1
      have hak2 := hak.2.1
      have hzr : base ≤ wr.heap.size := by have := hb.size; omega
      have hlL := Lib.hid hD.len
      have i0 : (0 : Int) ≤ (k : Int) := by omega
      have i2 : (0 : Int) ≤ (a : Int) := by omega
      clear hD hb hak hown
      by_cases hlt : k < l.length
      · have i1 : (k : Int) < (l.length : Int) := by omega
        have i3 : (a : Int) < (l.length : Int) := by omega
        have d0 : decide ((k : Int) < (l.length : Int)) = true := decide_eq_true i1
        obtain ⟨y, hy⟩ : ∃ y, l[k]? = some y := ⟨_, List.getElem?_eq_getElem hlt⟩
        obtain ⟨z, hz⟩ : ∃ z, L[a]? = some z := ⟨_, List.getElem?_eq_getElem (by have := hlL.out; omega)⟩
        have c0 := HOW.out.row1 (HDD.out.at_.trans hy)
        have HY := Lib.hid hy
        have HZ := Lib.hid hz
        have CW := Lib.hid (HCL.out y wr HBB.out)
        clear hy hz
        cases hkn : p y with
        | false =>
          rw [hkn] at CW
          have HKN := Lib.hid hkn
          clear hkn
          go_wp2_with (go_at_call 50; (with_reducible refine CW.out.mono ?_); rintro e w5 ⟨rfl, hb5⟩; have HO5 := Lib.hid (HOW.out.later hb5); have HB5 := Lib.hid (HBB.out.trans (hb5.mono hzr)); clear hb5 c0; obtain ⟨f0, z0⟩ := HO5.out.free1; have c0 := HO5.out.row1 HZ.out; have HS5 := Lib.hid (HO5.out.set1i (y := y) HZ.out))
          go_roundw
          case rel => exact ⟨a + 1, k + 1, L.set a y, by go_num, by go_num, HDD.out.take_ HY.out (by simp [HKN.out]), HS5.out.1, HB5.out.trans HS5.out.2⟩
          case measure => first | (simp [kOf]; done) | (simp [kOf]; omega)
        | true =>
          rw [hkn] at CW
          have HKN := Lib.hid hkn
          clear hkn
          go_wp2_with (go_at_call 50; (with_reducible refine CW.out.mono ?_); rintro e w5 ⟨rfl, hb5⟩; have HO5 := Lib.hid (HOW.out.later hb5); have HB5 := Lib.hid (HBB.out.trans (hb5.mono hzr)); clear hb5 c0)
          go_roundw
          case rel => exact ⟨a, k + 1, L, rfl, by go_num, HDD.out.skip HY.out (by simp [HKN.out]), HO5.out, HB5.out⟩
          case measure => first | (simp [kOf]; done) | (simp [kOf]; omega)
      · have d0 : decide ((k : Int) < (l.length : Int)) = false := decide_eq_false (by omega)
        have hkl2 : k = l.length := by omega
        have hcn2 : a < l.length := by omega
        have hca : ¬ c = a := by omega
        obtain ⟨w9, hcl9, ho9, hb9⟩ := own_clear (P := Tryz.prog) (ty := 0) (t := 39) (z := .int .i64 0) (i := a) i64Row_length Tryz.underlying39 intZeroH rfl (by simp [Value.cells, Value.oneCell']) HOW.out hcn2
        rw [Nat.mul_one] at hcl9
        have HF := Lib.hid (show L.take a = l.filter fun x => !p x by rw [HDD.out.head, hkl2, List.take_length])
        have HO9 := Lib.hid ho9
        have HB9 := Lib.hid (HBB.out.trans hb9)
        have i3 : (a : Int) ≤ (l.length : Int) := by omega
        have i4 : (a : Int) ≤ (c : Int) := by omega
        clear ho9 hb9
        go_wp2_with fail
        go_ret
        exact ⟨_, rfl, by rw [← HF.out]; exact HO9.out, HB9.out⟩
end Go.Proofs.YtglkgmijhdkhpaaGreatDoor
