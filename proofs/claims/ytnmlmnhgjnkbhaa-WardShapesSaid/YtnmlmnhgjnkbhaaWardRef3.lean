/-
  The document's ward (limpetref12: with, Add, Take): contracts.
-/
import Derived.Test.YtnmlmnhgjnkbhaaWardRef2
import Derived.Test.YtnmlmnhgjnkbhaaWardList
set_option linter.unusedVariables false
set_option linter.unusedSimpArgs false
namespace Go.Proofs.Ytnmlmnhgjnkbhaa
open Go.RowKit

set_option maxRecDepth 100000 in
set_option maxHeartbeats 4000000 in
theorem rWith (l : List Wnt) (v : Value) (x : Wnt) (w : World) (h : Sl 3 wntRow w.heap.size w v l) (hn : l.length ≤ 100000) :
    Calls Try.prog 29 #[v, .agg #[.int .i64 x.blk, .int .i64 x.knd, .int .i64 x.num]] w fun e w' => ∃ v', e = .returned v' ∧ Own 3 wntRow 41 w.heap.size w' v' (withW l x) ∧ Below w.heap.size w w' := by
  obtain ⟨A, cap, rfl, hlc, hcm, -, hA⟩ := id h
  have HA := Lib.hid hA
  have HX0 := Lib.hid (Box.new w #[.int .i64 x.blk, .int .i64 x.knd, .int .i64 x.num] 41)
  have HB0 := Lib.hid (below_new w (.cells #[.int .i64 x.blk, .int .i64 x.knd, .int .i64 x.num] 41))
  obtain ⟨W, hW⟩ : ∃ W, W = w.alloc (.cells #[.int .i64 x.blk, .int .i64 x.knd, .int .i64 x.num] 41) := ⟨_, rfl⟩
  have HE := Lib.hid hW
  obtain ⟨base, hbase⟩ : ∃ b, b = W.heap.size := ⟨_, rfl⟩
  have hbs : base = w.heap.size + 1 := by rw [hbase, hW]; simp
  rw [← hW] at HX0 HB0
  have HX1 : Hid (∀ V, Below base W V → Box V w.heap.size #[.int .i64 x.blk, .int .i64 x.knd, .int .i64 x.num] 41) := fun V hV => HX0.out.below hV (by omega)
  have HBW : Hid (∀ V, Below base W V → Below w.heap.size w V) := fun V hV => HB0.out.trans (hV.mono (by omega))
  have HFA2 : Hid (∀ V, Below base W V → V.cell? ⟨w.heap.size, 0, none⟩ = some (.int .i64 x.blk) ∧ V.cell? ⟨w.heap.size, 1, none⟩ = some (.int .i64 x.knd) ∧ V.cell? ⟨w.heap.size, 2, none⟩ = some (.int .i64 x.num)) := fun V hV => ⟨(HX1.out V hV).cell 0, (HX1.out V hV).cell 1, (HX1.out V hV).cell 2⟩
  clear h hW hcm hA hlc
  go_enter Try.func29, Try.ntmps29
  go_upto_region 1 with fail
  rw [← HE.out]
  go_wp2_with fail
  have hbr : Below base W W := Below.refl _ _
  go_loopw [5, 6, 7] (fun o p i wr => ∃ (k : Nat) (ov : Value) (pb : Bool), ov = o ∧ k ≤ l.length ∧ p = .bool pb ∧ i = .int .i64 (k : Int) ∧ Own 3 wntRow 41 base wr ov (withR (l.take k) x).1 ∧ pb = (withR (l.take k) x).2 ∧ Below base W wr) (fun _ _ i _ => l.length - (kOf i).toNat)
  case atStart => exact ⟨0, _, _, rfl, by omega, rfl, rfl, Own.nil_ _ _ _ _ _, rfl, hbr⟩
  case round =>
    clear hbr
    obtain ⟨k, ov, pb, rfl, hk, rfl, rfl, hown, hpb, hB⟩ := hrel
    have HO := Lib.hid hown
    have HPB := Lib.hid hpb
    have HB := Lib.hid hB
    have i0 : (0 : Int) ≤ (k : Int) := by omega
    have hzr : base ≤ wr.heap.size := by have := hB.size; omega
    clear hown hpb hB
    by_cases hlt : k < l.length
    · obtain ⟨b, off, rfl, hb, hcell⟩ := HA.out (by intro h; subst h; simp at hlt)
      obtain ⟨y, hy⟩ : ∃ y, l[k]? = some y := ⟨_, List.getElem?_eq_getElem hlt⟩
      have i1 : (k : Int) < (l.length : Int) := by omega
      have d0 : decide ((k : Int) < (l.length : Int)) = true := decide_eq_true i1
      have HT := Lib.hid (withR_take (w := x) hy)
      have HFA : Hid (∀ V, Below base W V → V.cell? ⟨b, off + k * 3, none⟩ = some (.int .i64 y.blk) ∧ V.cell? ⟨b, off + k * 3 + 1, none⟩ = some (.int .i64 y.knd) ∧ V.cell? ⟨b, off + k * 3 + 2, none⟩ = some (.int .i64 y.num) ∧ V.cell? ⟨w.heap.size, 0, none⟩ = some (.int .i64 x.blk) ∧ V.cell? ⟨w.heap.size, 1, none⟩ = some (.int .i64 x.knd) ∧ V.cell? ⟨w.heap.size, 2, none⟩ = some (.int .i64 x.num)) := fun V hV =>
        ⟨((HBW.out V hV).cell (p := ⟨b, off + k * 3 + 0, none⟩) hb).trans (hcell k y hy 0 _ rfl), ((HBW.out V hV).cell (p := ⟨b, off + k * 3 + 1, none⟩) hb).trans (hcell k y hy 1 _ rfl), ((HBW.out V hV).cell (p := ⟨b, off + k * 3 + 2, none⟩) hb).trans (hcell k y hy 2 _ rfl), (HX1.out V hV).cell 0, (HX1.out V hV).cell 1, (HX1.out V hV).cell 2⟩
      obtain ⟨s1, s2, hs⟩ : ∃ s1 s2, withR (l.take k) x = (s1, s2) := ⟨_, _, rfl⟩
      have HSR := Lib.hid hs
      rw [hs] at HO HPB
      have hln : s1.length ≤ 100001 := by have h1 := withR_len (l.take k) x; have h2 := List.length_take_le k l; rw [hs] at h1; simp only at h1; omega
      have hln1 : (s1 ++ [x]).length ≤ 100002 := by simp; omega
      clear hcell hy hs
      have f := HFA.out _ HB.out
      obtain ⟨c0, c1, c2, b0, b1, b2⟩ := f
      by_cases hpt : pb = true
      · subst hpt
        obtain rfl : s2 = true := HPB.out.symm
        go_wp2_with fail
        go_quiet (fail)
        by_cases hne : y.blk = x.blk
        · have e1 : (y.blk == x.blk) = true := by simpa using hne
          have HS := Lib.hid (show withR (l.take (k + 1)) x = (s1, true) by rw [HT.out, HSR.out]; unfold withS; simp only [if_pos hne]; simp)
          clear hne
          go_wp2_with fail
          go_quiet (fail)
          go_wp2_with fail
          go_roundw
          case rel => exact ⟨k + 1, _, _, rfl, by omega, rfl, by go_num, by rw [HS.out]; exact HO.out, by rw [HS.out], below_drewN HB.out _⟩
          case measure => simp [kOf]; omega
        · have e1 : (y.blk == x.blk) = false := by simpa using hne
          have HS := Lib.hid (show withR (l.take (k + 1)) x = (s1 ++ [y], true) by rw [HT.out, HSR.out]; unfold withS; simp only [if_neg hne]; simp)
          clear hne
          go_wp2_with fail
          go_quiet (fail)
          go_wp2_with (at_builtin; refine wpList_append_row _ rfl (.tmp 38) (.tmp 43) 22 rfl base 41 _ 3 24 Try.underlying22 wantInfo rfl (Nat.succ_pos 2) wntRow wntRow_length wntRow_one _ _ rfl (show Own 3 wntRow 41 base _ ov (s1) from HO.out) y _ rfl 41 _ rfl rfl (by omega) (by omega) hzr ?_; intro v' w' p1 p2 p3 p4 p5; have P1 := Lib.hid p1; have P2 := Lib.hid p2; clear p1 p2 p3 p4 p5)
          go_roundw
          case rel => exact ⟨k + 1, _, _, rfl, by omega, rfl, by go_num, by rw [HS.out]; exact P1.out, by rw [HS.out], (below_drewN HB.out _).trans P2.out⟩
          case measure => simp [kOf]; omega
      · obtain rfl : pb = false := by simpa using hpt
        obtain rfl : s2 = false := HPB.out.symm
        clear hpt
        by_cases hge : x.blk ≤ y.blk
        · have g0 : decide (x.blk ≤ y.blk) = true := decide_eq_true hge
          have HGE := Lib.hid hge
          clear hge
          go_wp2_with fail
          go_quiet (fail)
          go_wp2_with (at_builtin; refine wpList_append_row _ rfl (.tmp 26) (.tmp 28) 22 rfl base 41 _ 3 24 Try.underlying22 wantInfo rfl (Nat.succ_pos 2) wntRow wntRow_length wntRow_one _ _ rfl (show Own 3 wntRow 41 base (wr.drewN nq) ov s1 from HO.out) x _ rfl 41 _ rfl rfl (by omega) (by omega) hzr ?_; intro v' w' p1 p2 p3 p4 p5; have P1 := Lib.hid p1; have P2 := Lib.hid p2; clear p1 p2 p3 p4 p5)
          have HB1 := Lib.hid ((below_drewN HB.out nq).trans P2.out)
          have HO1 := Lib.hid P1.out
          have hz1 : base ≤ w'.heap.size := by have := HB1.out.size; omega
          clear P1 P2 c0 c1 c2 b0 b1 b2
          obtain ⟨c0, c1, c2, b0, b1, b2⟩ := HFA.out _ HB1.out
          by_cases hne : y.blk = x.blk
          · have e1 : (y.blk == x.blk) = true := by simpa using hne
            have HS := Lib.hid (show withR (l.take (k + 1)) x = (s1 ++ [x], true) by rw [HT.out, HSR.out]; unfold withS; simp only [if_pos hne]; simp [HGE.out])
            clear hne
            go_wp2_with fail
            go_quiet (fail)
            go_wp2_with fail
            go_roundw
            case rel => exact ⟨k + 1, _, _, rfl, by omega, rfl, by go_num, by rw [HS.out]; exact HO1.out, by rw [HS.out], below_drewN HB1.out _⟩
            case measure => simp [kOf]; omega
          · have e1 : (y.blk == x.blk) = false := by simpa using hne
            have HS := Lib.hid (show withR (l.take (k + 1)) x = (s1 ++ [x] ++ [y], true) by rw [HT.out, HSR.out]; unfold withS; simp only [if_neg hne]; simp [HGE.out])
            clear hne
            go_wp2_with fail
            go_quiet (fail)
            go_wp2_with (at_builtin; refine wpList_append_row _ rfl (.tmp 38) (.tmp 43) 22 rfl base 41 _ 3 24 Try.underlying22 wantInfo rfl (Nat.succ_pos 2) wntRow wntRow_length wntRow_one _ _ rfl (show Own 3 wntRow 41 base _ v' (s1 ++ [x]) from HO1.out) y _ rfl 41 _ rfl rfl (by omega) (by omega) hz1 ?_; intro v' w' p1 p2 p3 p4 p5; have P1 := Lib.hid p1; have P2 := Lib.hid p2; clear p1 p2 p3 p4 p5)
            go_roundw
            case rel => exact ⟨k + 1, _, _, rfl, by omega, rfl, by go_num, by rw [HS.out]; exact P1.out, by rw [HS.out], (below_drewN HB1.out _).trans P2.out⟩
            case measure => simp [kOf]; omega
        · have g0 : decide (x.blk ≤ y.blk) = false := decide_eq_false hge
          have HGE := Lib.hid hge
          clear hge
          go_wp2_with fail
          go_quiet (fail)
          have hne : ¬ y.blk = x.blk := by have := HGE.out; omega
          have e1 : (y.blk == x.blk) = false := by simpa using hne
          have HS := Lib.hid (show withR (l.take (k + 1)) x = (s1 ++ [y], false) by rw [HT.out, HSR.out]; unfold withS; simp only [if_neg hne]; simp [HGE.out])
          clear hne
          go_wp2_with fail
          go_quiet (fail)
          go_wp2_with (at_builtin; refine wpList_append_row _ rfl (.tmp 38) (.tmp 43) 22 rfl base 41 _ 3 24 Try.underlying22 wantInfo rfl (Nat.succ_pos 2) wntRow wntRow_length wntRow_one _ _ rfl (show Own 3 wntRow 41 base _ ov (s1) from HO.out) y _ rfl 41 _ rfl rfl (by omega) (by omega) hzr ?_; intro v' w' p1 p2 p3 p4 p5; have P1 := Lib.hid p1; have P2 := Lib.hid p2; clear p1 p2 p3 p4 p5)
          go_roundw
          case rel => exact ⟨k + 1, _, _, rfl, by omega, rfl, by go_num, by rw [HS.out]; exact P1.out, by rw [HS.out], (below_drewN HB.out _).trans P2.out⟩
          case measure => simp [kOf]; omega
    · have d0 : decide ((k : Int) < (l.length : Int)) = false := decide_eq_false (by omega)
      have hke : k = l.length := by omega
      have HO1 := Lib.hid (show Own 3 wntRow 41 base wr ov (withR l x).1 by have h := HO.out; rw [hke, List.take_length] at h; exact h)
      have HP1 := Lib.hid (show pb = (withR l x).2 by have h := HPB.out; rw [hke, List.take_length] at h; exact h)
      have hln : (withR l x).1.length ≤ 100001 := by have h1 := withR_len l x; omega
      have f := HFA2.out _ HB.out
      obtain ⟨b0, b1, b2⟩ := f
      clear hke
      by_cases hpt : pb = true
      · subst hpt
        have HW := Lib.hid (show withW l x = (withR l x).1 by unfold withW; rw [← HP1.out]; rfl)
        go_wp2_with fail
        go_ret
        exact ⟨ov, rfl, by rw [HW.out]; exact HO1.out.less (by omega), HBW.out _ HB.out⟩
      · obtain rfl : pb = false := by simpa using hpt
        have HW := Lib.hid (show withW l x = (withR l x).1 ++ [x] by unfold withW; rw [← HP1.out]; rfl)
        clear hpt
        go_wp2_with (at_builtin; refine wpList_append_row _ rfl (.tmp 47) (.tmp 49) 22 rfl base 41 _ 3 24 Try.underlying22 wantInfo rfl (Nat.succ_pos 2) wntRow wntRow_length wntRow_one _ _ rfl HO1.out x _ rfl 41 _ rfl rfl (by omega) (by omega) hzr ?_; intro v' w' p1 p2 p3 p4 p5; have P1 := Lib.hid p1; have P2 := Lib.hid p2; clear p1 p2 p3 p4 p5)
        go_ret
        exact ⟨v', rfl, by rw [HW.out]; exact P1.out.less (by omega), HBW.out _ (HB.out.trans P2.out)⟩
end Go.Proofs.Ytnmlmnhgjnkbhaa
