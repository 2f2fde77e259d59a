/-
  MatchOne at no terms: true. Condition: errors.errorType holds its value.
-/
import Derived.Test.YthadfdpdillemaaDoorMo45
import Derived.Deep.CutRange
import Derived.Deep.DeepCutAuto
import Derived.Test.YthadfdpdillemaaDoorMo35
set_option linter.unusedVariables false
set_option linter.unusedSimpArgs false
namespace Go.Proofs.YthadfdpdillemaaDoor
open Go.RowKit

set_option maxHeartbeats 1000000 in
theorem entsNil (a : Int) (A : Option Addr) (c : Nat) (w : World) : Calls Tryd.prog 10 #[.int .i64 a, .slice A 0 c] w fun e w' => e = .returned (.slice none 0 0) ∧ w = w' := by
  go_enter Tryd.func10, Tryd.ntmps10
  go_wp2_with fail
  go_loop [5, 6] (fun v i => v = .slice none 0 0 ∧ i = .int .i64 0) (fun _ _ => 0)
  case atStart => exact ⟨rfl, rfl⟩
  case round =>
    obtain ⟨rfl, rfl⟩ := hrel
    go_wp2_with fail
    go_ret
    exact ⟨rfl, rfl⟩
theorem leadI_nil : LeadI [] [] := ⟨rfl, fun i x h => by simp at h⟩
theorem ownI_nil : OwnI [] 0 := by have h := ownI_of (ts := []) (by simp); simpa [ownT, lastT] using h
theorem box_ne {w : World} {g g' : Nat} {cs cs' : Array Value} {t t' : TypeId} (h : Box w g cs t) (h' : Box w g' cs' t') (ht : t ≠ t') : g ≠ g' := by
  rintro rfl
  unfold Box at h h'
  rw [h] at h'
  simp only [Option.some.injEq, Obj.cells.injEq] at h'
  exact ht h'.2.1
theorem min_nat0 (x : Int) (n : Nat) : ∃ k : Nat, (if (n : Int) < (if x < 0 then 0 else x) then (n : Int) else (if x < 0 then 0 else x)) = (k : Int) ∧ k ≤ n := by
  by_cases h0 : x < 0
  · rw [if_pos h0, if_neg (by omega)]; exact ⟨0, rfl, by omega⟩
  · rw [if_neg h0]
    by_cases h1 : (n : Int) < x
    · rw [if_pos h1]; exact ⟨n, rfl, Nat.le_refl _⟩
    · rw [if_neg h1]; exact ⟨x.toNat, by omega, by omega⟩
theorem three0 (x : Int) : (x < 0 ∧ ¬ (0 : Int) < 0) ∨ (¬ x < 0 ∧ (0 : Int) < x) ∨ (¬ x < 0 ∧ ¬ (0 : Int) < x) := by omega
theorem three20 (x : Int) : (x < 0 ∧ ¬ (20 : Int) < 0) ∨ (¬ x < 0 ∧ (20 : Int) < x) ∨ (¬ x < 0 ∧ ¬ (20 : Int) < x) := by omega
theorem wrap_Z2 {j : Nat} (hj : j ≤ 20) : wrap64 (1 + (j : Int) / 3) = 1 + (j : Int) / 3 := by unfold wrap64; omega

set_option maxRecDepth 100000 in
set_option maxHeartbeats 8000000 in
theorem matchOne_nil (v : Value) (fk mo fr : Int) (w : World) (h : Sl 1 i64Row w.heap.size w v []) (hG : errTypeIs w) :
    Calls Tryd.prog 3 #[v, .int .i64 fk, .int .i64 mo, .int .i64 fr] w fun e w' => e = .returned (.bool true) ∧ Below w.heap.size w w' := by
  obtain ⟨Av, cv, rfl, -⟩ := id h
  have HG := Lib.hid hG
  clear h hG
  go_enter Tryd.func3, Tryd.ntmps3
  go_wp2_with (go_at_call 8; refine (awake20 _ HG.out).mono ?_; rintro e w1 ⟨rfl, hb1⟩; have HB1 := Lib.hid hb1; clear hb1)
  go_loopw [9, 10, 11] (fun tv ov i wr => tv = .int .i64 0 ∧ ov = .slice none 0 0 ∧ i = .int .i64 0 ∧ wr = w1) (fun _ _ _ _ => 0)
  case atStart => exact ⟨rfl, rfl, rfl, rfl⟩
  case round =>
    obtain ⟨rfl, rfl, rfl, hw⟩ := hrel
    rw [hw]
    clear hw
    go_upto_region 12 with fail
    go_cut [12] (fun v wx => v = .int .i64 0 ∧ wx = w1)
    case first =>
      rcases three0 fk with ⟨n1, n2⟩ | ⟨n1, n2⟩ | ⟨n1, n2⟩
      · go_wp2_with fail
        go_meet
        exact ⟨rfl, rfl⟩
      · go_wp2_with fail
        go_meet
        exact ⟨rfl, rfl⟩
      · have hz : fk = 0 := by omega
        subst hz
        go_wp2_with fail
        go_meet
        exact ⟨rfl, rfl⟩
    case rest =>
    obtain ⟨rfl, hw⟩ := hcut
    rw [hw]
    clear hw
    have O4 := Lib.hid (Own.made 1 i64Row 3 w1)
    have hz4 : w1.heap.size ≤ (w1.alloc (.cells #[] 3)).heap.size := (below_new w1 (.cells #[] 3)).size
    go_upto_region 14 with (at_builtin; refine wpList_append_all _ rfl (.tmp 53) (.tmp 56) 22 rfl w1.heap.size 3 _ 1 8 Tryd.underlying22 intInfo rfl (Nat.succ_pos 0) i64Row i64Row_length i64Row_one [] _ rfl O4.out [] (w1.alloc (.cells #[] 3)).heap.size _ (Sl.nil_ 1 i64Row _ _) rfl (by unfold maxLen; simp) (by simp) hz4 ?_; intro v3 w7 q1 q2 q3 q4 q5)
    have O5 := Lib.hid (show Own 1 i64Row 3 w1.heap.size w7 v3 [] from by simpa using q1)
    have P7 := Lib.hid (show Below w1.heap.size w1 w7 from (below_new _ _).trans q2)
    clear q1 q2 q3 q4 q5
    obtain ⟨A3, c3, rfl⟩ : ∃ A3 c3, v3 = .slice A3 0 c3 := by obtain ⟨A6, c6, h6, -⟩ := O5.out.sl i64Row_length; exact ⟨A6, c6, by rw [h6]; rfl⟩
    obtain ⟨rr, e20, hrr⟩ := min_nat0 mo 20
    have E20 : Hid ((if (20 : Int) < (if mo < 0 then 0 else mo) then (20 : Int) else (if mo < 0 then 0 else mo)) = (rr : Int)) := Lib.hid e20
    clear e20 O4 hz4
    go_wp2_with fail
    go_loopw [13, 14] (fun ov i wx => ∃ (j : Nat) (A : Option Addr) (c : Nat), j ≤ 20 ∧ i = .int .i64 j ∧ ov = .slice A j c ∧ Own 1 i64Row 3 w1.heap.size wx (.slice A j c) (moreT 0 j) ∧ Below w1.heap.size w1 wx) (fun _ i _ => 20 - (intOf i).toNat)
    case atStart => exact ⟨0, A3, c3, by omega, rfl, rfl, by simpa [moreT] using O5.out, P7.out⟩
    case round =>
      clear O5 P7
      obtain ⟨j, A, c4, hj, rfl, rfl, hown, hBj⟩ := hrel
      have HOj := Lib.hid hown
      have HBj := Lib.hid hBj
      have hzj := hBj.size
      clear hown hBj
      go_upto_region 15 with fail
      go_cut [62] (fun v wx => v = .bool (decide (j < rr)) ∧ wx = wr)
      case first =>
        rcases three20 mo with ⟨n1, n2⟩ | ⟨n1, n2⟩ | ⟨n1, n2⟩
        · go_wp2_with fail
          go_meet
          have E := E20.out
          rw [if_pos n1, if_neg (show ¬ (20 : Int) < 0 by omega)] at E
          refine ⟨congrArg Value.bool ?_, rfl⟩
          first
            | exact (decide_eq_false (by omega)).symm
            | exact decide_eq_decide.2 (by omega)
            | exact (decide_eq_true (by omega)).symm
        · go_wp2_with fail
          go_meet
          have E := E20.out
          rw [if_neg (show ¬ mo < 0 by omega), if_pos (show (20 : Int) < mo by omega)] at E
          refine ⟨congrArg Value.bool ?_, rfl⟩
          first
            | exact (decide_eq_false (by omega)).symm
            | exact decide_eq_decide.2 (by omega)
            | exact (decide_eq_true (by omega)).symm
        · go_wp2_with fail
          go_meet
          have E := E20.out
          rw [if_neg (show ¬ mo < 0 by omega), if_neg (show ¬ (20 : Int) < mo by omega)] at E
          refine ⟨congrArg Value.bool ?_, rfl⟩
          first
            | exact (decide_eq_false (by omega)).symm
            | exact decide_eq_decide.2 (by omega)
            | exact (decide_eq_true (by omega)).symm
      case rest =>
      obtain ⟨rfl, hw⟩ := hcut
      rw [hw]
      clear hw
      by_cases hjr : j < rr
      · have d3 : decide (j < rr) = true := decide_eq_true hjr
        have HLJ := Lib.hid (show (moreT 0 j).length = j from moreT_length 0 j)
        have hll : (moreT 0 j).length + 1 ≤ 4294967296 := by have := HLJ.out; omega
        have w2 : wrap64 (1 + (j : Int) / 3) = 1 + (j : Int) / 3 := wrap_Z2 hj
        have HMS := Lib.hid (show moreT 0 (j + 1) = moreT 0 j ++ [1 + (j : Int) / 3] by rw [moreT_snoc]; simp)
        go_wp2_with (at_builtin; refine wpList_append_row _ rfl (.tmp 65) (.tmp 71) 22 rfl w1.heap.size 3 _ 1 8 Tryd.underlying22 intInfo rfl (Nat.succ_pos 0) i64Row i64Row_length i64Row_one (moreT 0 j) _ rfl HOj.out (1 + (j : Int) / 3) _ rfl 3 _ rfl rfl hll (by omega) hzj ?_; intro v5 w5 p1 p2 p3 p4 p5; obtain ⟨A5, c5, rfl⟩ : ∃ A5 c5, v5 = .slice A5 (j + 1) c5 := (by obtain ⟨A6, c6, h6, -⟩ := p1.sl i64Row_length; exact ⟨A6, c6, by rw [h6, List.length_append, HLJ.out]; rfl⟩); have HO5 := Lib.hid p1; have HP5 := Lib.hid p2; clear p1 p2 p3 p4 p5)
        go_roundw
        case rel => exact ⟨j + 1, A5, c5, by omega, by go_num, rfl, by rw [HMS.out]; exact HO5.out, HBj.out.trans HP5.out⟩
        case measure => (simp [intOf]; omega)
      · have d3 : decide (j < rr) = false := decide_eq_false hjr
        obtain ⟨ot, hot⟩ : ∃ z, z = moreT 0 j := ⟨_, rfl⟩
        have HLJ := Lib.hid (show ot.length = j by rw [hot, moreT_length])
        have HON2 := Lib.hid (show OneI [] 0 (viewL 0 ot) 0 by rw [hot]; have h := one_start (own := []) (T := 0) (k := 0) (r := j) ownI_nil (by simp) hj; simpa using h)
        rw [← hot] at HOj
        clear hot
        have HSj := Lib.hid (HOj.out.sl i64Row_length)
        have HBk := Lib.hid (HB1.out.trans (HBj.out.mono HB1.out.size))
        have CV := Lib.hid (lawView ot _ wr HSj.out (by have := HLJ.out; omega))
        go_upto_region 19 with (first
          | (go_at_call 9; refine CV.out.mono ?_; rintro e w8 ⟨A1, c1, rfl, ho, hb⟩; have HO8 := Lib.hid ho; have HB8 := Lib.hid hb; clear ho hb)
          | (go_at_call 10; refine (entsNil 0 none 0 w8).mono ?_; rintro e w9 ⟨rfl, rfl⟩))
        have HX15 := Lib.hid (Box.new w8 #[.int .i64 0, .int .i64 0, .int .i64 0, .slice A1 ot.length c1] 29)
        have HVw : Hid (Sl 3 idRow w8.heap.size (w8.alloc (.cells #[.int .i64 0, .int .i64 0, .int .i64 0, .slice A1 ot.length c1] 29)) (.slice A1 ot.length c1) (viewL 0 ot)) := (HO8.out.sl idRow_length).below (below_new _ _)
        have HBb := Lib.hid (below_call (below_call HBk.out HB8.out) (below_new w8 (.cells #[.int .i64 0, .int .i64 0, .int .i64 0, .slice A1 ot.length c1] 29)))
        have hzb : w.heap.size ≤ w8.heap.size := (below_call HBk.out HB8.out).size
        have hnew : (w8.alloc (.cells #[.int .i64 0, .int .i64 0, .int .i64 0, .slice A1 ot.length c1] 29)).heap.size = w8.heap.size + 1 := by simp
        obtain ⟨g15, hg15⟩ : ∃ g, g = w8.heap.size := ⟨_, rfl⟩
        obtain ⟨wb, hwb⟩ : ∃ z, z = w8.alloc (.cells #[.int .i64 0, .int .i64 0, .int .i64 0, .slice A1 ot.length c1] 29) := ⟨_, rfl⟩
        rw [← hwb, ← hg15] at HX15 HVw
        rw [← hwb] at HBb
        rw [← hg15] at hzb
        rw [← hwb, ← hg15] at hnew
        rw [← hwb, ← hg15]
        have hvl : ot.length = (viewL 0 ot).length := (viewL_length ot 0).symm
        rw [hvl] at HX15 HVw
        rw [hvl]
        obtain ⟨L, hL⟩ : ∃ L, viewL 0 ot = L := ⟨_, rfl⟩
        rw [hL] at HX15 HVw HON2
        rw [hL]
        clear hvl hL
        clear hwb hg15 HO8 HB8 HBk CV HSj HLJ HOj HBj hjr d3
        go_cut [17] (fun v wx => v = .int .i64 0 ∧ wx = wb)
        case first =>
          rcases three0 fr with ⟨n1, n2⟩ | ⟨n1, n2⟩ | ⟨n1, n2⟩
          · go_wp2_with fail
            go_meet
            exact ⟨rfl, rfl⟩
          · go_wp2_with fail
            go_meet
            exact ⟨rfl, rfl⟩
          · have hz : fr = 0 := by omega
            subst hz
            go_wp2_with fail
            go_meet
            exact ⟨rfl, rfl⟩
        case rest =>
        obtain ⟨rfl, hw⟩ := hcut
        rw [hw]
        clear hw
        go_wp2_with fail
        go_loopw [17, 18] (fun nv tv wx => nv = .int .i64 0 ∧ tv = .int .i64 0 ∧ wx = wb) (fun _ _ _ => 0)
        case atStart => exact ⟨rfl, rfl, rfl⟩
        case round =>
          obtain ⟨rfl, rfl, hw⟩ := hrel
          rw [hw]
          clear hw
          have CL := Lib.hid (entLast zI [] (.slice none 0 0) wb (Sl.nil_ _ _ _ _))
          go_upto_region 24 with (go_at_call 11; refine CL.out.mono ?_; rintro e w8 ⟨rfl, hb8⟩; have HB8 := Lib.hid hb8; clear hb8)
          have XP1 := Lib.hid (Box.new w8 #[.int .i64 0, .int .i64 0, .int .i64 0] 26)
          have HB9 := Lib.hid (below_call HB8.out (below_new w8 (.cells #[.int .i64 0, .int .i64 0, .int .i64 0] 26)))
          rw [show (lastE zI []).idx = 0 from rfl, show (lastE zI []).trm = 0 from rfl, show (lastE zI []).knd = 0 from rfl]
          obtain ⟨g19, hg19⟩ : ∃ g, g = w8.heap.size := ⟨_, rfl⟩
          obtain ⟨wq, hwq⟩ : ∃ z, z = w8.alloc (.cells #[.int .i64 0, .int .i64 0, .int .i64 0] 26) := ⟨_, rfl⟩
          rw [← hwq] at XP1 HB9
          rw [← hwq, ← hg19]
          rw [← hg19] at XP1
          clear hwq hg19 CL HB8
          have HBq := Lib.hid (HB9.out)
          have hzq := HB9.out.size
          have XVq := Lib.hid (HX15.out.later HB9.out)
          have HSq := Lib.hid ((HVw.out.more (B' := wb.heap.size) (by omega)).later HB9.out)
          have HGq := Lib.hid (errType_later HG.out (HBb.out.trans (HBq.out.mono (by omega))))
          have CF : Hid (∀ V, Below wq.heap.size wq V → Calls Tryd.prog 12 #[.agg #[.int .i64 0, .int .i64 0, .int .i64 0, .slice A1 L.length c1], .agg #[.int .i64 0, .int .i64 0, .int .i64 0], .slice none 0 0] V fun e w' => ∃ y ix ct A1 n1 c1 A2 n2 c2, e = .returned (.tuple #[.agg #[.bool y, .int .i64 ix, .int .i64 ct, .slice A1 n1 c1, .slice A2 n2 c2], .int .i64 0]) ∧ FitG L [] zI 0 V.heap.size w' y ix ct A1 n1 c1 A2 n2 c2 ∧ Below V.heap.size V w') := fun V p =>
            fitOne (own := []) (T := 0) (lead := []) (next := 0) ownI_nil leadI_nil (by simp) HON2.out A1 c1 (.slice none 0 0) V (HSq.out.later p) (Sl.nil_ _ _ _ _) (fun x hx => by simp at hx) (errType_later HGq.out p)
          have HFR : Hid (∀ w', Below wq.heap.size wq w' → w'.cell? ⟨g15, 0, none⟩ = some (Value.int .i64 0) ∧ w'.cell? ⟨g15, 1, none⟩ = some (.int .i64 0) ∧ w'.cell? ⟨g15, 2, none⟩ = some (.int .i64 0) ∧ w'.cell? ⟨g15, 3, none⟩ = some (.slice A1 L.length c1) ∧ w'.cell? ⟨g19, 0, none⟩ = some (.int .i64 0) ∧ w'.cell? ⟨g19, 1, none⟩ = some (.int .i64 0) ∧ w'.cell? ⟨g19, 2, none⟩ = some (.int .i64 0)) := fun w' p => ⟨cell_later p (XVq.out.cell 0), cell_later p (XVq.out.cell 1), cell_later p (XVq.out.cell 2), cell_later p (XVq.out.cell 3), cell_later p (XP1.out.cell 0), cell_later p (XP1.out.cell 1), cell_later p (XP1.out.cell 2)⟩
          have w3 : IntKind.i64.wrap (3 : Int) = 3 := IntWalk.i64_in 3 (by omega)
          go_cut [20, 21] (fun p e wx => ∃ gp y ix ct A1 n1 c1 A2 n2 c2, p = .pointer (some ⟨gp, 0, none⟩) ∧ e = .int .i64 0 ∧ Box wx gp #[.bool y, .int .i64 ix, .int .i64 ct, .slice A1 n1 c1, .slice A2 n2 c2] 35 ∧ FitG L [] zI 0 wq.heap.size wx y ix ct A1 n1 c1 A2 n2 c2 ∧ Below wq.heap.size wq wx)
          case first =>
            refine wp_region_held_drew (S := fun w' => w'.cell? ⟨g15, 0, none⟩ = some (Value.int .i64 0) ∧ w'.cell? ⟨g15, 1, none⟩ = some (.int .i64 0) ∧ w'.cell? ⟨g15, 2, none⟩ = some (.int .i64 0) ∧ w'.cell? ⟨g15, 3, none⟩ = some (.slice A1 L.length c1) ∧ w'.cell? ⟨g19, 0, none⟩ = some (.int .i64 0) ∧ w'.cell? ⟨g19, 1, none⟩ = some (.int .i64 0) ∧ w'.cell? ⟨g19, 2, none⟩ = some (.int .i64 0)) (by kernel_rfl) (HFR.out _ (Below.refl _ _).drew) (fun hHeld => ?_)
            first
              | (refine wpAnyH_take (i := 0) (v := ?_) rfl (by kernel_rfl) (by kernel_rfl) (by kernel_rfl) (fun _ _ _ h => h) (Or.inl ⟨?_, ?_⟩) (by assumption) ?_; rotate_left; (focus rfl); (focus (intro w hSw; go_split_ands; go_simp; try with_reducible rfl)); skip)
              | (refine wpAnyH_take (i := 0) (v := undef) rfl (by kernel_rfl) (by kernel_rfl) (by kernel_rfl) (fun _ _ _ h => h) (Or.inr ⟨?_, rfl⟩) (by assumption) ?_; (focus rfl))
            try simp only [Act.put, List.setIfInBounds_toArray, List.set_cons_zero, List.set_cons_succ, List.getElem_toArray, List.getElem_cons_zero, List.getElem_cons_succ]
            first
              | (refine wpAnyH_take (i := 1) (v := ?_) rfl (by kernel_rfl) (by kernel_rfl) (by kernel_rfl) (fun _ _ _ h => h) (Or.inl ⟨?_, ?_⟩) (by assumption) ?_; rotate_left; (focus rfl); (focus (intro w hSw; go_split_ands; go_simp; try with_reducible rfl)); skip)
              | (refine wpAnyH_take (i := 1) (v := undef) rfl (by kernel_rfl) (by kernel_rfl) (by kernel_rfl) (fun _ _ _ h => h) (Or.inr ⟨?_, rfl⟩) (by assumption) ?_; (focus rfl))
            try simp only [Act.put, List.setIfInBounds_toArray, List.set_cons_zero, List.set_cons_succ, List.getElem_toArray, List.getElem_cons_zero, List.getElem_cons_succ]
            first
              | (refine wpAnyH_take (i := 2) (v := ?_) rfl (by kernel_rfl) (by kernel_rfl) (by kernel_rfl) (fun _ _ _ h => h) (Or.inl ⟨?_, ?_⟩) (by assumption) ?_; rotate_left; (focus rfl); (focus (intro w hSw; go_split_ands; go_simp; try with_reducible rfl)); skip)
              | (refine wpAnyH_take (i := 2) (v := undef) rfl (by kernel_rfl) (by kernel_rfl) (by kernel_rfl) (fun _ _ _ h => h) (Or.inr ⟨?_, rfl⟩) (by assumption) ?_; (focus rfl))
            try simp only [Act.put, List.setIfInBounds_toArray, List.set_cons_zero, List.set_cons_succ, List.getElem_toArray, List.getElem_cons_zero, List.getElem_cons_succ]
            first
              | (refine wpAnyH_take (i := 3) (v := ?_) rfl (by kernel_rfl) (by kernel_rfl) (by kernel_rfl) (fun _ _ _ h => h) (Or.inl ⟨?_, ?_⟩) (by assumption) ?_; rotate_left; (focus rfl); (focus (intro w hSw; go_split_ands; go_simp; try with_reducible rfl)); skip)
              | (refine wpAnyH_take (i := 3) (v := undef) rfl (by kernel_rfl) (by kernel_rfl) (by kernel_rfl) (fun _ _ _ h => h) (Or.inr ⟨?_, rfl⟩) (by assumption) ?_; (focus rfl))
            try simp only [Act.put, List.setIfInBounds_toArray, List.set_cons_zero, List.set_cons_succ, List.getElem_toArray, List.getElem_cons_zero, List.getElem_cons_succ]
            first
              | (refine wpAnyH_take (i := 4) (v := ?_) rfl (by kernel_rfl) (by kernel_rfl) (by kernel_rfl) (fun _ _ _ h => h) (Or.inl ⟨?_, ?_⟩) (by assumption) ?_; rotate_left; (focus rfl); (focus (intro w hSw; go_split_ands; go_simp; try with_reducible rfl)); skip)
              | (refine wpAnyH_take (i := 4) (v := undef) rfl (by kernel_rfl) (by kernel_rfl) (by kernel_rfl) (fun _ _ _ h => h) (Or.inr ⟨?_, rfl⟩) (by assumption) ?_; (focus rfl))
            try simp only [Act.put, List.setIfInBounds_toArray, List.set_cons_zero, List.set_cons_succ, List.getElem_toArray, List.getElem_cons_zero, List.getElem_cons_succ]
            first
              | (refine wpAnyH_take (i := 5) (v := ?_) rfl (by kernel_rfl) (by kernel_rfl) (by kernel_rfl) (fun _ _ _ h => h) (Or.inl ⟨?_, ?_⟩) (by assumption) ?_; rotate_left; (focus rfl); (focus (intro w hSw; go_split_ands; go_simp; try with_reducible rfl)); skip)
              | (refine wpAnyH_take (i := 5) (v := undef) rfl (by kernel_rfl) (by kernel_rfl) (by kernel_rfl) (fun _ _ _ h => h) (Or.inr ⟨?_, rfl⟩) (by assumption) ?_; (focus rfl))
            try simp only [Act.put, List.setIfInBounds_toArray, List.set_cons_zero, List.set_cons_succ, List.getElem_toArray, List.getElem_cons_zero, List.getElem_cons_succ]
            first
              | (refine wpAnyH_take (i := 6) (v := ?_) rfl (by kernel_rfl) (by kernel_rfl) (by kernel_rfl) (fun _ _ _ h => h) (Or.inl ⟨?_, ?_⟩) (by assumption) ?_; rotate_left; (focus rfl); (focus (intro w hSw; go_split_ands; go_simp; try with_reducible rfl)); skip)
              | (refine wpAnyH_take (i := 6) (v := undef) rfl (by kernel_rfl) (by kernel_rfl) (by kernel_rfl) (fun _ _ _ h => h) (Or.inr ⟨?_, rfl⟩) (by assumption) ?_; (focus rfl))
            try simp only [Act.put, List.setIfInBounds_toArray, List.set_cons_zero, List.set_cons_succ, List.getElem_toArray, List.getElem_cons_zero, List.getElem_cons_succ]
            first
              | (refine wpAnyH_take (i := 7) (v := ?_) rfl (by kernel_rfl) (by kernel_rfl) (by kernel_rfl) (fun _ _ _ h => h) (Or.inl ⟨?_, ?_⟩) (by assumption) ?_; rotate_left; (focus rfl); (focus (intro w hSw; go_split_ands; go_simp; try with_reducible rfl)); skip)
              | (refine wpAnyH_take (i := 7) (v := undef) rfl (by kernel_rfl) (by kernel_rfl) (by kernel_rfl) (fun _ _ _ h => h) (Or.inr ⟨?_, rfl⟩) (by assumption) ?_; (focus rfl))
            try simp only [Act.put, List.setIfInBounds_toArray, List.set_cons_zero, List.set_cons_succ, List.getElem_toArray, List.getElem_cons_zero, List.getElem_cons_succ]
            first
              | (refine wpAnyH_take (i := 8) (v := ?_) rfl (by kernel_rfl) (by kernel_rfl) (by kernel_rfl) (fun _ _ _ h => h) (Or.inl ⟨?_, ?_⟩) (by assumption) ?_; rotate_left; (focus rfl); (focus (intro w hSw; go_split_ands; go_simp; try with_reducible rfl)); skip)
              | (refine wpAnyH_take (i := 8) (v := undef) rfl (by kernel_rfl) (by kernel_rfl) (by kernel_rfl) (fun _ _ _ h => h) (Or.inr ⟨?_, rfl⟩) (by assumption) ?_; (focus rfl))
            try simp only [Act.put, List.setIfInBounds_toArray, List.set_cons_zero, List.set_cons_succ, List.getElem_toArray, List.getElem_cons_zero, List.getElem_cons_succ]
            first
              | (refine wpAnyH_take (i := 9) (v := ?_) rfl (by kernel_rfl) (by kernel_rfl) (by kernel_rfl) (fun _ _ _ h => h) (Or.inl ⟨?_, ?_⟩) (by assumption) ?_; rotate_left; (focus rfl); (focus (intro w hSw; go_split_ands; go_simp; try with_reducible rfl)); skip)
              | (refine wpAnyH_take (i := 9) (v := undef) rfl (by kernel_rfl) (by kernel_rfl) (by kernel_rfl) (fun _ _ _ h => h) (Or.inr ⟨?_, rfl⟩) (by assumption) ?_; (focus rfl))
            try simp only [Act.put, List.setIfInBounds_toArray, List.set_cons_zero, List.set_cons_succ, List.getElem_toArray, List.getElem_cons_zero, List.getElem_cons_succ]
            refine wpAnyH_ready (rs := [10, 14]) (by kernel_rfl) (by simp) ?_
            refine AllReadyH.cons rfl (fun K hK => ?_) (AllReadyH.cons rfl (fun K hK => ?_) AllReadyH.nil)
            · go_simp
              go_at_call 12
              with_reducible refine (CF.out _ (show Below wq.heap.size wq wq.drew from (Below.refl _ _).drew)).mono ?_
              rintro e w8 ⟨y, ix, ct, B1, n1, d1, B2, n2, d2, rfl, hg8, hb8⟩
              have P8 := Lib.hid (show Below wq.heap.size wq w8 from below_call (show Below wq.heap.size wq wq.drew from (Below.refl _ _).drew) hb8)
              have HG8 := Lib.hid hg8
              clear hg8 hb8
              refine hK.out _ _ (HFR.out _ P8.out) (fun hH => ?_)
              clear hK K
              try simp only [Act.put, List.setIfInBounds_toArray, List.set_cons_zero, List.set_cons_succ, List.getElem_toArray, List.getElem_cons_zero, List.getElem_cons_succ]
              have hHeld2 := hH
              first
                | (refine wpAnyH_take (i := 11) (v := ?_) rfl (by kernel_rfl) (by kernel_rfl) (by kernel_rfl) (fun _ _ _ h => h) (Or.inl ⟨?_, ?_⟩) (by assumption) ?_; rotate_left; (focus rfl); (focus (intro w hSw; go_split_ands; go_simp; try with_reducible rfl)); skip)
                | (refine wpAnyH_take (i := 11) (v := undef) rfl (by kernel_rfl) (by kernel_rfl) (by kernel_rfl) (fun _ _ _ h => h) (Or.inr ⟨?_, rfl⟩) (by assumption) ?_; (focus rfl))
              try simp only [Act.put, List.setIfInBounds_toArray, List.set_cons_zero, List.set_cons_succ, List.getElem_toArray, List.getElem_cons_zero, List.getElem_cons_succ]
              first
                | (refine wpAnyH_take (i := 12) (v := ?_) rfl (by kernel_rfl) (by kernel_rfl) (by kernel_rfl) (fun _ _ _ h => h) (Or.inl ⟨?_, ?_⟩) (by assumption) ?_; rotate_left; (focus rfl); (focus (intro w hSw; go_split_ands; go_simp; try with_reducible rfl)); skip)
                | (refine wpAnyH_take (i := 12) (v := undef) rfl (by kernel_rfl) (by kernel_rfl) (by kernel_rfl) (fun _ _ _ h => h) (Or.inr ⟨?_, rfl⟩) (by assumption) ?_; (focus rfl))
              try simp only [Act.put, List.setIfInBounds_toArray, List.set_cons_zero, List.set_cons_succ, List.getElem_toArray, List.getElem_cons_zero, List.getElem_cons_succ]
              first
                | (refine wpAnyH_take (i := 13) (v := ?_) rfl (by kernel_rfl) (by kernel_rfl) (by kernel_rfl) (fun _ _ _ h => h) (Or.inl ⟨?_, ?_⟩) (by assumption) ?_; rotate_left; (focus rfl); (focus (intro w hSw; go_split_ands; go_simp; try with_reducible rfl)); skip)
                | (refine wpAnyH_take (i := 13) (v := undef) rfl (by kernel_rfl) (by kernel_rfl) (by kernel_rfl) (fun _ _ _ h => h) (Or.inr ⟨?_, rfl⟩) (by assumption) ?_; (focus rfl))
              try simp only [Act.put, List.setIfInBounds_toArray, List.set_cons_zero, List.set_cons_succ, List.getElem_toArray, List.getElem_cons_zero, List.getElem_cons_succ]
              refine wpAnyH_ready (rs := [14]) (by kernel_rfl) (by simp) ?_
              refine AllReadyH.cons rfl (fun K hK => ?_) AllReadyH.nil
              go_simp
              refine hK.out _ _ (HFR.out _ (below_call P8.out (below_new _ _))) (fun hH => ?_)
              clear hK K
              try simp only [Act.put, List.setIfInBounds_toArray, List.set_cons_zero, List.set_cons_succ, List.getElem_toArray, List.getElem_cons_zero, List.getElem_cons_succ]
              refine wpAnyH_ready (rs := [15]) (by kernel_rfl) (by simp) ?_
              refine AllReadyH.cons rfl (fun K hK => ?_) AllReadyH.nil
              go_simp
              refine hK.out _ _ (HFR.out _ (below_call P8.out (below_new _ _))) (fun hH => ?_)
              clear hK K
              try simp only [Act.put, List.setIfInBounds_toArray, List.set_cons_zero, List.set_cons_succ, List.getElem_toArray, List.getElem_cons_zero, List.getElem_cons_succ]
              have hHeld3 := hH
              first
                | (refine wpAnyH_take (i := 16) (v := ?_) rfl (by kernel_rfl) (by kernel_rfl) (by kernel_rfl) (fun _ _ _ h => h) (Or.inl ⟨?_, ?_⟩) (by assumption) ?_; rotate_left; (focus rfl); (focus (intro w hSw; go_split_ands; go_simp; try with_reducible rfl)); skip)
                | (refine wpAnyH_take (i := 16) (v := undef) rfl (by kernel_rfl) (by kernel_rfl) (by kernel_rfl) (fun _ _ _ h => h) (Or.inr ⟨?_, rfl⟩) (by assumption) ?_; (focus rfl))
              try simp only [Act.put, List.setIfInBounds_toArray, List.set_cons_zero, List.set_cons_succ, List.getElem_toArray, List.getElem_cons_zero, List.getElem_cons_succ]
              refine wpAnyH_done (by kernel_rfl) ?_ _
              go_wp2_with fail
              go_meet
              exact ⟨w8.heap.size, y, ix, ct, B1, n1, d1, B2, n2, d2, rfl, rfl, Box.new _ _ _, HG8.out.later (below_new _ _), below_call P8.out (below_new _ _)⟩
            · go_simp
              refine hK.out _ _ (HFR.out _ (show Below wq.heap.size wq ((wq.alloc (.cells #[.bool false, .int .i64 0, .int .i64 0, .slice none 0 0, .slice none 0 0] 35)).drew) from (below_new _ _).drew)) (fun hH => ?_)
              clear hK K
              try simp only [Act.put, List.setIfInBounds_toArray, List.set_cons_zero, List.set_cons_succ, List.getElem_toArray, List.getElem_cons_zero, List.getElem_cons_succ]
              refine wpAnyH_ready (rs := [10]) (by kernel_rfl) (by simp) ?_
              refine AllReadyH.cons rfl (fun K hK => ?_) AllReadyH.nil
              go_simp
              go_at_call 12
              with_reducible refine (CF.out _ (show Below wq.heap.size wq ((wq.alloc (.cells #[.bool false, .int .i64 0, .int .i64 0, .slice none 0 0, .slice none 0 0] 35)).drew) from (below_new _ _).drew)).mono ?_
              rintro e w8 ⟨y, ix, ct, B1, n1, d1, B2, n2, d2, rfl, hg8, hb8⟩
              have P8 := Lib.hid (show Below wq.heap.size wq w8 from below_call (show Below wq.heap.size wq ((wq.alloc (.cells #[.bool false, .int .i64 0, .int .i64 0, .slice none 0 0, .slice none 0 0] 35)).drew) from (below_new _ _).drew) hb8)
              have HG8 := Lib.hid hg8
              have XA8 := Lib.hid (show Box w8 wq.heap.size #[.bool false, .int .i64 0, .int .i64 0, .slice none 0 0, .slice none 0 0] 35 from Box.later (show Box ((wq.alloc (.cells #[.bool false, .int .i64 0, .int .i64 0, .slice none 0 0, .slice none 0 0] 35)).drew) wq.heap.size #[.bool false, .int .i64 0, .int .i64 0, .slice none 0 0, .slice none 0 0] 35 from Box.new _ _ _) hb8)
              clear hg8 hb8
              refine hK.out _ _ (HFR.out _ P8.out) (fun hH => ?_)
              clear hK K
              try simp only [Act.put, List.setIfInBounds_toArray, List.set_cons_zero, List.set_cons_succ, List.getElem_toArray, List.getElem_cons_zero, List.getElem_cons_succ]
              have hHeld2 := hH
              first
                | (refine wpAnyH_take (i := 11) (v := ?_) rfl (by kernel_rfl) (by kernel_rfl) (by kernel_rfl) (fun _ _ _ h => h) (Or.inl ⟨?_, ?_⟩) (by assumption) ?_; rotate_left; (focus rfl); (focus (intro w hSw; go_split_ands; go_simp; try with_reducible rfl)); skip)
                | (refine wpAnyH_take (i := 11) (v := undef) rfl (by kernel_rfl) (by kernel_rfl) (by kernel_rfl) (fun _ _ _ h => h) (Or.inr ⟨?_, rfl⟩) (by assumption) ?_; (focus rfl))
              try simp only [Act.put, List.setIfInBounds_toArray, List.set_cons_zero, List.set_cons_succ, List.getElem_toArray, List.getElem_cons_zero, List.getElem_cons_succ]
              first
                | (refine wpAnyH_take (i := 12) (v := ?_) rfl (by kernel_rfl) (by kernel_rfl) (by kernel_rfl) (fun _ _ _ h => h) (Or.inl ⟨?_, ?_⟩) (by assumption) ?_; rotate_left; (focus rfl); (focus (intro w hSw; go_split_ands; go_simp; try with_reducible rfl)); skip)
                | (refine wpAnyH_take (i := 12) (v := undef) rfl (by kernel_rfl) (by kernel_rfl) (by kernel_rfl) (fun _ _ _ h => h) (Or.inr ⟨?_, rfl⟩) (by assumption) ?_; (focus rfl))
              try simp only [Act.put, List.setIfInBounds_toArray, List.set_cons_zero, List.set_cons_succ, List.getElem_toArray, List.getElem_cons_zero, List.getElem_cons_succ]
              first
                | (refine wpAnyH_take (i := 13) (v := ?_) rfl (by kernel_rfl) (by kernel_rfl) (by kernel_rfl) (fun _ _ _ h => h) (Or.inl ⟨?_, ?_⟩) (by assumption) ?_; rotate_left; (focus rfl); (focus (intro w hSw; go_split_ands; go_simp; try with_reducible rfl)); skip)
                | (refine wpAnyH_take (i := 13) (v := undef) rfl (by kernel_rfl) (by kernel_rfl) (by kernel_rfl) (fun _ _ _ h => h) (Or.inr ⟨?_, rfl⟩) (by assumption) ?_; (focus rfl))
              try simp only [Act.put, List.setIfInBounds_toArray, List.set_cons_zero, List.set_cons_succ, List.getElem_toArray, List.getElem_cons_zero, List.getElem_cons_succ]
              obtain ⟨ka, fa, za⟩ := XA8.out.facts
              refine wpAnyH_ready (rs := [15]) (by kernel_rfl) (by simp) ?_
              refine AllReadyH.cons rfl (fun K hK => ?_) AllReadyH.nil
              go_simp
              refine hK.out _ _ (HFR.out _ (below_set (below_set (below_set (below_set (below_set P8.out (Nat.le_refl _)) (Nat.le_refl _)) (Nat.le_refl _)) (Nat.le_refl _)) (Nat.le_refl _))) (fun hH => ?_)
              clear hK K
              try simp only [Act.put, List.setIfInBounds_toArray, List.set_cons_zero, List.set_cons_succ, List.getElem_toArray, List.getElem_cons_zero, List.getElem_cons_succ]
              have hHeld3 := hH
              first
                | (refine wpAnyH_take (i := 16) (v := ?_) rfl (by kernel_rfl) (by kernel_rfl) (by kernel_rfl) (fun _ _ _ h => h) (Or.inl ⟨?_, ?_⟩) (by assumption) ?_; rotate_left; (focus rfl); (focus (intro w hSw; go_split_ands; go_simp; try with_reducible rfl)); skip)
                | (refine wpAnyH_take (i := 16) (v := undef) rfl (by kernel_rfl) (by kernel_rfl) (by kernel_rfl) (fun _ _ _ h => h) (Or.inr ⟨?_, rfl⟩) (by assumption) ?_; (focus rfl))
              try simp only [Act.put, List.setIfInBounds_toArray, List.set_cons_zero, List.set_cons_succ, List.getElem_toArray, List.getElem_cons_zero, List.getElem_cons_succ]
              refine wpAnyH_done (by kernel_rfl) ?_ _
              go_wp2_with fail
              go_meet
              exact ⟨wq.heap.size, y, ix, ct, B1, n1, d1, B2, n2, d2, rfl, rfl, Box.set5 XA8.out _ _ _ _ _, (HG8.out.set5 (show wq.heap.size < ((wq.alloc (.cells #[.bool false, .int .i64 0, .int .i64 0, .slice none 0 0, .slice none 0 0] 35)).drew).heap.size by show wq.heap.size < (wq.alloc (.cells #[.bool false, .int .i64 0, .int .i64 0, .slice none 0 0, .slice none 0 0] 35)).heap.size; simp) _ _ _ _ _).less (by show wq.heap.size ≤ (wq.alloc (.cells #[.bool false, .int .i64 0, .int .i64 0, .slice none 0 0, .slice none 0 0] 35)).heap.size; simp), below_set (below_set (below_set (below_set (below_set P8.out (Nat.le_refl _)) (Nat.le_refl _)) (Nat.le_refl _)) (Nat.le_refl _)) (Nat.le_refl _)⟩
          case rest =>
          obtain ⟨gp, y, ix, ct, B1, n1, d1, B2, n2, d2, rfl, rfl, hxp, hfg, hBx⟩ := hcut
          obtain ⟨w24, hw24⟩ : ∃ z, z = wc := ⟨_, rfl⟩
          rw [← hw24] at hxp hfg hBx
          rw [← hw24]
          clear hw24 HFR CF w3
          have XV24 := Lib.hid (XVq.out.later hBx)
          have XP24 := Lib.hid hxp
          have HB24 := Lib.hid (HBq.out.trans (hBx.mono (by have := HBq.out.size; omega)))
          have hz24 := HB24.out.size
          have CB := Lib.hid (behOne (own := []) (T := 0) (lead := []) (next := 0) ownI_nil leadI_nil (by simp) HON2.out A1 c1 w24 (HSq.out.later hBx) hfg)
          rcases hfg with ⟨hy, hct, -, -, -, -, -, -, hi0, hi1, hkn⟩ | ⟨hy, hkk, q, mm, m1, m2, hix, hct, e1, e2, -, -, hst, -, -, -, -⟩
          · omega
          · obtain ⟨o1, o2, -⟩ := one_yes (own := []) (T := 0) (lead := []) (next := 0) ownI_nil leadI_nil (by simp) HON2.out hkk hst
            have hix0 : ix = 0 := by rw [hix, o1]; simp
            have f4 : ¬ (0 < ct ∧ ct ≤ 0) := by omega
            subst hy
            subst hix0
            clear hxp hBx o1 o2 hct hix hst hkk e1 e2 q
            obtain ⟨kp, fp, zp⟩ := XP24.out.facts
            obtain ⟨kv, fv, zv⟩ := XV24.out.facts
            by_cases hc0 : 0 < ct
            · have f3 : decide (0 < ct) = true := decide_eq_true hc0
              have f5 : decide (ct ≤ 0) = false := decide_eq_false (by omega)
              go_upto_region 30 with (go_at_call 13; refine CB.out.mono ?_; rintro e w30 ⟨L2, A2, c2, rfl, ho, hb, hpost⟩; have HBb2 := Lib.hid hb; have XV30 := Lib.hid (XV24.out.later hb); have XP30 := Lib.hid (XP24.out.later hb); clear ho hb hpost kp fp zp kv fv zv; obtain ⟨kv, fv, zv⟩ := XV30.out.facts)
              have hne : gp ≠ g15 := box_ne XP30.out XV30.out (by decide)
              have XV31 := Lib.hid (XV30.out.set4 (.int .i64 0) (.int .i64 0) (.int .i64 0) (.slice A2 L2.length c2))
              have XP31 := Lib.hid ((((XP30.out.far (p := ⟨g15, 0, none⟩) hne (.int .i64 0)).far (p := ⟨g15, 1, none⟩) hne (.int .i64 0)).far (p := ⟨g15, 2, none⟩) hne (.int .i64 0)).far (p := ⟨g15, 3, none⟩) hne (.slice A2 L2.length c2))
              have HB31 := Lib.hid (below_set (i := 3) (u := .slice A2 L2.length c2) (below_set (i := 2) (u := .int .i64 0) (below_set (i := 1) (u := .int .i64 0) (below_set (i := 0) (u := .int .i64 0) (HB24.out.trans (HBb2.out.mono (show wb.heap.size ≤ w24.heap.size by omega)) |>.mono (show g15 ≤ wb.heap.size by omega)) (Nat.le_refl g15)) (Nat.le_refl g15)) (Nat.le_refl g15)) (Nat.le_refl g15))
              obtain ⟨w31, hw31⟩ : ∃ z, z = (((w30.setCell ⟨g15, 0, none⟩ (.int .i64 0)).setCell ⟨g15, 1, none⟩ (.int .i64 0)).setCell ⟨g15, 2, none⟩ (.int .i64 0)).setCell ⟨g15, 3, none⟩ (.slice A2 L2.length c2) := ⟨_, rfl⟩
              rw [← hw31] at XV31 XP31 HB31
              rw [← hw31]
              clear hw31 kv fv zv
              obtain ⟨kp, fp, zp⟩ := XP31.out.facts
              go_wp2_with fail
              go_loopw [22] (fun i wx => i = .int .i64 0 ∧ wx = w31) (fun _ _ => 0)
              case atStart => exact ⟨rfl, rfl⟩
              case round =>
                obtain ⟨rfl, hw⟩ := hrel
                rw [hw]
                clear hw
                go_wp2_with fail
                go_ret
                exact ⟨rfl, HBb.out.trans (HB31.out.mono (by omega))⟩
            · have f3 : decide (0 < ct) = false := decide_eq_false hc0
              go_upto_region 30 with (go_at_call 13; refine CB.out.mono ?_; rintro e w30 ⟨L2, A2, c2, rfl, ho, hb, hpost⟩; have HBb2 := Lib.hid hb; have XV30 := Lib.hid (XV24.out.later hb); have XP30 := Lib.hid (XP24.out.later hb); clear ho hb hpost kp fp zp kv fv zv; obtain ⟨kv, fv, zv⟩ := XV30.out.facts)
              have hne : gp ≠ g15 := box_ne XP30.out XV30.out (by decide)
              have XV31 := Lib.hid (XV30.out.set4 (.int .i64 0) (.int .i64 0) (.int .i64 0) (.slice A2 L2.length c2))
              have XP31 := Lib.hid ((((XP30.out.far (p := ⟨g15, 0, none⟩) hne (.int .i64 0)).far (p := ⟨g15, 1, none⟩) hne (.int .i64 0)).far (p := ⟨g15, 2, none⟩) hne (.int .i64 0)).far (p := ⟨g15, 3, none⟩) hne (.slice A2 L2.length c2))
              have HB31 := Lib.hid (below_set (i := 3) (u := .slice A2 L2.length c2) (below_set (i := 2) (u := .int .i64 0) (below_set (i := 1) (u := .int .i64 0) (below_set (i := 0) (u := .int .i64 0) (HB24.out.trans (HBb2.out.mono (show wb.heap.size ≤ w24.heap.size by omega)) |>.mono (show g15 ≤ wb.heap.size by omega)) (Nat.le_refl g15)) (Nat.le_refl g15)) (Nat.le_refl g15)) (Nat.le_refl g15))
              obtain ⟨w31, hw31⟩ : ∃ z, z = (((w30.setCell ⟨g15, 0, none⟩ (.int .i64 0)).setCell ⟨g15, 1, none⟩ (.int .i64 0)).setCell ⟨g15, 2, none⟩ (.int .i64 0)).setCell ⟨g15, 3, none⟩ (.slice A2 L2.length c2) := ⟨_, rfl⟩
              rw [← hw31] at XV31 XP31 HB31
              rw [← hw31]
              clear hw31 kv fv zv
              obtain ⟨kp, fp, zp⟩ := XP31.out.facts
              go_wp2_with fail
              go_loopw [22] (fun i wx => i = .int .i64 0 ∧ wx = w31) (fun _ _ => 0)
              case atStart => exact ⟨rfl, rfl⟩
              case round =>
                obtain ⟨rfl, hw⟩ := hrel
                rw [hw]
                clear hw
                go_wp2_with fail
                go_ret
                exact ⟨rfl, HBb.out.trans (HB31.out.mono (by omega))⟩
end Go.Proofs.YthadfdpdillemaaDoor
