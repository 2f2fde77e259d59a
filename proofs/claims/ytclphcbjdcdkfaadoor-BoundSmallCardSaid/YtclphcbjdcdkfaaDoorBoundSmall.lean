/-
  BoundSmall: true. Condition: errors.errorType holds its value.
-/
import Derived.Test.YtclphcbjdcdkfaaDoorBoundTells
import Derived.Test.YtclphcbjdcdkfaaDoorSmallKit
import Derived.Deep.RegionHeld3
set_option linter.unusedVariables false
set_option linter.unusedSimpArgs false
namespace Go.Proofs.YtclphcbjdcdkfaaDoor
open Go.RowKit

def numsB : Array Value := #[.int .i64 (-9223372036854775808), .int .i64 (-1), .int .i64 0, .int .i64 1, .int .i64 2, .int .i64 5, .int .i64 1099511627775, .int .i64 1099511627776, .int .i64 1099511627777, .int .i64 9223372036854775807]
theorem numsB_at {r : Nat} (h : r < 10) : ∃ x : Int, numsB[r]? = some (.int .i64 x) ∧ I64 x := by
  match r, h with
  | 0, _ => exact ⟨_, rfl, by unfold I64; omega⟩
  | 1, _ => exact ⟨_, rfl, by unfold I64; omega⟩
  | 2, _ => exact ⟨_, rfl, by unfold I64; omega⟩
  | 3, _ => exact ⟨_, rfl, by unfold I64; omega⟩
  | 4, _ => exact ⟨_, rfl, by unfold I64; omega⟩
  | 5, _ => exact ⟨_, rfl, by unfold I64; omega⟩
  | 6, _ => exact ⟨_, rfl, by unfold I64; omega⟩
  | 7, _ => exact ⟨_, rfl, by unfold I64; omega⟩
  | 8, _ => exact ⟨_, rfl, by unfold I64; omega⟩
  | 9, _ => exact ⟨_, rfl, by unfold I64; omega⟩
theorem wrap_n {q : Nat} (h : q < 36) : wrap64 (q : Int) = (q : Int) := by unfold wrap64; omega
theorem wrap_2n {q : Nat} (h : q < 2) : wrap64 (2 + (q : Int)) = 2 + (q : Int) := by unfold wrap64; omega
theorem wrap_n2 {q : Nat} (h : q < 36) : wrap64 ((q : Int) * 2) = (q : Int) * 2 := by unfold wrap64; omega
theorem i64_n {q : Nat} (h : q < 36) : I64 (q : Int) := by unfold I64; omega
theorem i64_em (j : Nat) {p : Int} (h : 0 < p ∧ p < 100) : I64 ((j : Int) % p) := by have := Int.emod_lt_of_pos (j : Int) h.1; have := Int.emod_nonneg (j : Int) (show p ≠ 0 by omega); unfold I64; omega
theorem tm3 (j : Nat) : (j : Int).tmod 3 = ((j % 3 : Nat) : Int) := by rw [Int.tmod_eq_emod_of_nonneg (by omega)]; omega
set_option maxRecDepth 100000 in
set_option maxHeartbeats 8000000 in
theorem boundSmall (w : World) (hG : errTypeIs w) :
    Calls Tryd.prog 7 #[] w fun e w' => e = .returned (.bool true) ∧ Below w.heap.size w w' := by
  have HG := Lib.hid hG
  clear hG
  go_enter Tryd.func7, Tryd.ntmps7
  go_wp2_with fail
  go_loopw [1] (fun i wx => ∃ n : Nat, 1 ≤ n ∧ n ≤ 1024 ∧ i = .int .i64 n ∧ Below w.heap.size w wx) (fun i _ => 1024 - (intOf i).toNat)
  case atStart => exact ⟨1, by omega, by omega, rfl, Below.refl _ _⟩
  case round =>
    obtain ⟨n, hn1, hn2, rfl, hBn⟩ := hrel
    have HBn := Lib.hid hBn
    clear hBn
    obtain ⟨wn, hwn⟩ : ∃ x, x = wr := ⟨_, rfl⟩
    rw [← hwn] at HBn
    rw [← hwn]
    clear hwn
    by_cases hln : n < 1024
    · have d0 : decide ((n : Int) < 1024) = true := decide_eq_true (by omega)
      go_wp2_with fail
      go_loopw [2, 3] (fun lv kv wy => ∃ (k : Nat) (l : List Int) (A : Option Addr) (c m : Nat), kv = .int .i64 k ∧ m + k ≤ 1023 ∧ lv = .slice A m c ∧ l.length = m ∧ True ∧ Own 1 i64Row 3 wn.heap.size wy (.slice A m c) l ∧ Below wn.heap.size wn wy) (fun _ k _ => (intOf k).toNat)
      case atStart => exact ⟨n, [], none, 0, 0, rfl, by omega, rfl, rfl, trivial, Own.nil_ _ _ _ _ _, Below.refl _ _⟩
      case round =>
        obtain ⟨k, l, A, c, m, rfl, hmk, rfl, hlm, -, hown, hBr⟩ := hrel
        have HO := Lib.hid hown
        have HBr := Lib.hid hBr
        have HM := Lib.hid hlm
        have hzr := hBr.size
        clear hown hBr
        by_cases hk1 : 1 < k
        · have d1 : decide ((1 : Int) < (k : Int)) = true := decide_eq_true (by omega)
          have e6 : (k : Int).tdiv 4 = ((k / 4 : Nat) : Int) := by rw [Int.tdiv_eq_ediv_of_nonneg (by omega)]; omega
          have w6 : wrap64 ((k / 4 : Nat) : Int) = ((k / 4 : Nat) : Int) := by unfold wrap64; omega
          have HO2 := Lib.hid (HO.out.alloc (.cells #[.int .i64 0, .int .i64 3, .int .i64 5, .int .i64 9] 3))
          have HW2 := Lib.hid (show Below wn.heap.size wn (wr.alloc (.cells #[.int .i64 0, .int .i64 3, .int .i64 5, .int .i64 9] 3)) from below_call HBr.out (below_new _ _))
          have hzz : wn.heap.size ≤ (wr.alloc (.cells #[.int .i64 0, .int .i64 3, .int .i64 5, .int .i64 9] 3)).heap.size := by simp; omega
          have HHZ := Lib.hid (show (wr.alloc (.cells #[.int .i64 0, .int .i64 3, .int .i64 5, .int .i64 9] 3)).heap.size = wr.heap.size + 1 by simp)
          have hll : l.length + 1 ≤ 4294967296 := by omega
          clear hlm
          by_cases r0 : k % 4 = 0
          · have e4 : (k : Int).tmod 4 = 0 := by rw [Int.tmod_eq_emod_of_nonneg (by omega)]; omega
            go_wp2_with (at_builtin; refine wpList_append_row _ rfl (.tmp 19) (.tmp 25) 45 rfl wn.heap.size 3 _ 1 8 Tryd.underlying45 intInfo rfl (Nat.succ_pos 0) i64Row i64Row_length i64Row_one l _ rfl HO2.out (0) _ rfl 3 _ rfl HHZ.out.symm hll (by omega) hzz ?_; intro v5 w5 p1 p2 p3 p4 p5; obtain ⟨A5, c5, rfl⟩ : ∃ A5 c5, v5 = .slice A5 (m + 1) c5 := (by obtain ⟨A6, c6, h6, -⟩ := p1.sl i64Row_length; exact ⟨A6, c6, by rw [h6]; simp [HM.out]⟩); have HO5 := Lib.hid p1; have HP5 := Lib.hid p2; clear p1 p2 p3 p4 p5)
            go_roundw
            case rel => exact ⟨k / 4, l ++ [0], A5, c5, m + 1, by go_num, by omega, rfl, by simp [HM.out], trivial, HO5.out, HW2.out.trans HP5.out⟩
            case measure => (simp [intOf]; omega)
          by_cases r1 : k % 4 = 1
          · have e4 : (k : Int).tmod 4 = 1 := by rw [Int.tmod_eq_emod_of_nonneg (by omega)]; omega
            go_wp2_with (at_builtin; refine wpList_append_row _ rfl (.tmp 19) (.tmp 25) 45 rfl wn.heap.size 3 _ 1 8 Tryd.underlying45 intInfo rfl (Nat.succ_pos 0) i64Row i64Row_length i64Row_one l _ rfl HO2.out (3) _ rfl 3 _ rfl HHZ.out.symm hll (by omega) hzz ?_; intro v5 w5 p1 p2 p3 p4 p5; obtain ⟨A5, c5, rfl⟩ : ∃ A5 c5, v5 = .slice A5 (m + 1) c5 := (by obtain ⟨A6, c6, h6, -⟩ := p1.sl i64Row_length; exact ⟨A6, c6, by rw [h6]; simp [HM.out]⟩); have HO5 := Lib.hid p1; have HP5 := Lib.hid p2; clear p1 p2 p3 p4 p5)
            go_roundw
            case rel => exact ⟨k / 4, l ++ [3], A5, c5, m + 1, by go_num, by omega, rfl, by simp [HM.out], trivial, HO5.out, HW2.out.trans HP5.out⟩
            case measure => (simp [intOf]; omega)
          by_cases r2 : k % 4 = 2
          · have e4 : (k : Int).tmod 4 = 2 := by rw [Int.tmod_eq_emod_of_nonneg (by omega)]; omega
            go_wp2_with (at_builtin; refine wpList_append_row _ rfl (.tmp 19) (.tmp 25) 45 rfl wn.heap.size 3 _ 1 8 Tryd.underlying45 intInfo rfl (Nat.succ_pos 0) i64Row i64Row_length i64Row_one l _ rfl HO2.out (5) _ rfl 3 _ rfl HHZ.out.symm hll (by omega) hzz ?_; intro v5 w5 p1 p2 p3 p4 p5; obtain ⟨A5, c5, rfl⟩ : ∃ A5 c5, v5 = .slice A5 (m + 1) c5 := (by obtain ⟨A6, c6, h6, -⟩ := p1.sl i64Row_length; exact ⟨A6, c6, by rw [h6]; simp [HM.out]⟩); have HO5 := Lib.hid p1; have HP5 := Lib.hid p2; clear p1 p2 p3 p4 p5)
            go_roundw
            case rel => exact ⟨k / 4, l ++ [5], A5, c5, m + 1, by go_num, by omega, rfl, by simp [HM.out], trivial, HO5.out, HW2.out.trans HP5.out⟩
            case measure => (simp [intOf]; omega)
          · have e4 : (k : Int).tmod 4 = 3 := by rw [Int.tmod_eq_emod_of_nonneg (by omega)]; omega
            go_wp2_with (at_builtin; refine wpList_append_row _ rfl (.tmp 19) (.tmp 25) 45 rfl wn.heap.size 3 _ 1 8 Tryd.underlying45 intInfo rfl (Nat.succ_pos 0) i64Row i64Row_length i64Row_one l _ rfl HO2.out (9) _ rfl 3 _ rfl HHZ.out.symm hll (by omega) hzz ?_; intro v5 w5 p1 p2 p3 p4 p5; obtain ⟨A5, c5, rfl⟩ : ∃ A5 c5, v5 = .slice A5 (m + 1) c5 := (by obtain ⟨A6, c6, h6, -⟩ := p1.sl i64Row_length; exact ⟨A6, c6, by rw [h6]; simp [HM.out]⟩); have HO5 := Lib.hid p1; have HP5 := Lib.hid p2; clear p1 p2 p3 p4 p5)
            go_roundw
            case rel => exact ⟨k / 4, l ++ [9], A5, c5, m + 1, by go_num, by omega, rfl, by simp [HM.out], trivial, HO5.out, HW2.out.trans HP5.out⟩
            case measure => (simp [intOf]; omega)
        · have d1 : decide ((1 : Int) < (k : Int)) = false := decide_eq_false (by omega)
          have HS := Lib.hid (HO.out.sl i64Row_length)
          have HB8 := Lib.hid (below_call HBn.out HBr.out)
          have hl5 : l.length ≤ 1023 := by omega
          obtain ⟨w8, hw8⟩ : ∃ x, x = wr := ⟨_, rfl⟩
          rw [← hw8] at HS HB8
          rw [← hw8]
          clear hw8 HO HBr hzr
          clear hlm
          go_wp2_with fail
          clear hmk hk1 d1
          go_loopw [4] (fun i wx => ∃ j : Nat, j ≤ 36 ∧ i = .int .i64 j ∧ Below w8.heap.size w8 wx) (fun i _ => 36 - (intOf i).toNat)
          case atStart => exact ⟨0, by omega, rfl, Below.refl _ _⟩
          case round =>
            obtain ⟨j, hj, rfl, hBj⟩ := hrel
            have HBj := Lib.hid hBj
            clear hBj
            by_cases hlj : j < 36
            · have d2 : decide ((j : Int) < 36) = true := decide_eq_true (by omega)
              have CT : Hid (∀ (c0 x t ap ro ma : Int) (V : World), Below w8.heap.size w8 V → I64 ro → I64 ma → Calls Tryd.prog 6 #[.slice A m c, .int .i64 c0, .int .i64 2, .agg #[.int .i64 x, .int .i64 t, .int .i64 0], .int .i64 ap, .int .i64 ro, .int .i64 ma] V fun e w' => e = .returned (.bool true) ∧ Below V.heap.size V w') := fun c0 x t ap ro ma V p h1 h2 => boundTells l _ c0 2 ⟨x, t, 0⟩ ap ro ma V (HS.out.later p) (Nat.le_trans hl5 (by decide)) h1 h2 (errType_later HG.out (below_call HB8.out p))
              have jm := tm3 j
              by_cases r0 : j % 3 = 0
              · have e3 : (j : Int).tmod 3 = 0 := by rw [jm, r0]; rfl
                clear jm
                go_upto_region 13 with fail
                clear e3
                go_wp2_with (go_at_call 6; with_reducible refine (CT.out _ 3 _ _ _ _ _ (below_call (below_call HBj.out (below_new _ _)) (below_new _ _)) (i64_em (p := 5) j (by decide)) (i64_em (p := 4) j (by decide))).mono ?_; rintro e w9 ⟨rfl, hb9⟩)
                go_roundw
                case rel => exact ⟨j + 1, by omega, by go_num, below_call (below_call (below_call HBj.out (below_new _ _)) (below_new _ _)) hb9⟩
                case measure => (simp [intOf]; omega)
              by_cases r1 : j % 3 = 1
              · have e3 : (j : Int).tmod 3 = 1 := by rw [jm, r1]; rfl
                clear jm
                go_upto_region 13 with fail
                clear e3
                go_wp2_with (go_at_call 6; with_reducible refine (CT.out _ 5 _ _ _ _ _ (below_call (below_call HBj.out (below_new _ _)) (below_new _ _)) (i64_em (p := 5) j (by decide)) (i64_em (p := 4) j (by decide))).mono ?_; rintro e w9 ⟨rfl, hb9⟩)
                go_roundw
                case rel => exact ⟨j + 1, by omega, by go_num, below_call (below_call (below_call HBj.out (below_new _ _)) (below_new _ _)) hb9⟩
                case measure => (simp [intOf]; omega)
              · have e3 : (j : Int).tmod 3 = 2 := by rw [jm, show j % 3 = 2 by omega]; rfl
                clear jm
                go_upto_region 13 with fail
                clear e3
                go_wp2_with (go_at_call 6; with_reducible refine (CT.out _ 9 _ _ _ _ _ (below_call (below_call HBj.out (below_new _ _)) (below_new _ _)) (i64_em (p := 5) j (by decide)) (i64_em (p := 4) j (by decide))).mono ?_; rintro e w9 ⟨rfl, hb9⟩)
                go_roundw
                case rel => exact ⟨j + 1, by omega, by go_num, below_call (below_call (below_call HBj.out (below_new _ _)) (below_new _ _)) hb9⟩
                case measure => (simp [intOf]; omega)
            · have d2 : decide ((j : Int) < 36) = false := decide_eq_false (by omega)
              have HB9 := Lib.hid (below_call HB8.out HBj.out)
              go_wp2_with fail
              go_roundw
              case rel => exact ⟨n + 1, by omega, by omega, by go_num, HB9.out⟩
              case measure => (simp [intOf]; omega)
    · have hn3 : n = 1024 := by omega
      have d0 : decide ((n : Int) < 1024) = false := decide_eq_false (by omega)
      clear hn1 hn2 hln
      go_wp2_with fail
      obtain ⟨gn, hgn⟩ : ∃ g, g = wn.heap.size := ⟨_, rfl⟩
      obtain ⟨w9, hw9⟩ : ∃ x, x = wn.alloc (.cells numsB 3) := ⟨_, rfl⟩
      have HN := Lib.hid (show Box w9 gn numsB 3 by rw [hgn, hw9]; exact Box.new _ _ _)
      have HB9 := Lib.hid (show Below w.heap.size w w9 by rw [hw9]; exact below_call HBn.out (below_new _ _))
      have hw9' : w9 = wn.alloc (.cells #[.int .i64 (-9223372036854775808), .int .i64 (-1), .int .i64 0, .int .i64 1, .int .i64 2, .int .i64 5, .int .i64 1099511627775, .int .i64 1099511627776, .int .i64 1099511627777, .int .i64 9223372036854775807] 3) := hw9
      rw [← hw9', ← hgn]
      clear hw9 hw9' hgn hn3 d0 HBn
      go_loopw [7] (fun i wx => ∃ i1 : Nat, i1 ≤ 10 ∧ i = .int .i64 i1 ∧ Below w9.heap.size w9 wx) (fun i _ => 10 - (intOf i).toNat)
      case atStart => exact ⟨0, by omega, rfl, Below.refl _ _⟩
      case round =>
        obtain ⟨i1, hi1, rfl, hB1⟩ := hrel
        have HB1 := Lib.hid hB1
        clear hB1
        by_cases g1 : i1 < 10
        · have d1 : decide ((i1 : Int) < 10) = true := decide_eq_true (by omega)
          go_wp2_with fail
          clear d1
          go_loopw [8] (fun i wx => ∃ i2 : Nat, i2 ≤ 10 ∧ i = .int .i64 i2 ∧ Below w9.heap.size w9 wx) (fun i _ => 10 - (intOf i).toNat)
          case atStart => exact ⟨0, by omega, rfl, HB1.out⟩
          case round =>
            clear HB1
            obtain ⟨i2, hi2, rfl, hB2⟩ := hrel
            have HB2 := Lib.hid hB2
            clear hB2
            by_cases g2 : i2 < 10
            · have d2 : decide ((i2 : Int) < 10) = true := decide_eq_true (by omega)
              go_wp2_with fail
              clear d2
              go_loopw [9] (fun i wx => ∃ i3 : Nat, i3 ≤ 10 ∧ i = .int .i64 i3 ∧ Below w9.heap.size w9 wx) (fun i _ => 10 - (intOf i).toNat)
              case atStart => exact ⟨0, by omega, rfl, HB2.out⟩
              case round =>
                clear HB2
                obtain ⟨i3, hi3, rfl, hB3⟩ := hrel
                have HB3 := Lib.hid hB3
                clear hB3
                by_cases g3 : i3 < 10
                · have d3 : decide ((i3 : Int) < 10) = true := decide_eq_true (by omega)
                  obtain ⟨x1, hx1, y1⟩ := numsB_at g1
                  obtain ⟨x2, hx2, y2⟩ := numsB_at g2
                  obtain ⟨x3, hx3, y3⟩ := numsB_at g3
                  obtain ⟨r4, e4, l4⟩ : ∃ r : Nat, ((i1 : Int) + (i2 : Int) + (i3 : Int)).tmod 10 = (r : Int) ∧ r < 10 := ⟨(i1 + i2 + i3) % 10, by rw [Int.tmod_eq_emod_of_nonneg (by omega)]; omega, by omega⟩
                  obtain ⟨x4, hx4, y4⟩ := numsB_at l4
                  have u1 : IntKind.i64.wrap ((i1 : Int) + (i2 : Int)) = (i1 : Int) + (i2 : Int) := IntWalk.i64_in _ (by omega)
                  have u2 : IntKind.i64.wrap ((i1 : Int) + (i2 : Int) + (i3 : Int)) = (i1 : Int) + (i2 : Int) + (i3 : Int) := IntWalk.i64_in _ (by omega)
                  have p1 : (0 : Int) ≤ (i1 : Int) := by omega
                  have p2 : (0 : Int) ≤ (i2 : Int) := by omega
                  have p3 : (0 : Int) ≤ (i3 : Int) := by omega
                  have p4 : (0 : Int) ≤ (r4 : Int) := by omega
                  have q1 : (i1 : Int) < 10 := by omega
                  have q2 : (i2 : Int) < 10 := by omega
                  have q3 : (i3 : Int) < 10 := by omega
                  have q4 : (r4 : Int) < 10 := by omega
                  have HF : Hid (∀ w', Below w9.heap.size w9 w' → w'.cell? ⟨gn, i1, none⟩ = some (.int .i64 x1) ∧ w'.cell? ⟨gn, i2, none⟩ = some (.int .i64 x2) ∧ w'.cell? ⟨gn, i3, none⟩ = some (.int .i64 x3) ∧ w'.cell? ⟨gn, r4, none⟩ = some (.int .i64 x4)) := fun w' p => ⟨cell_later p ((HN.out.cell i1).trans hx1), cell_later p ((HN.out.cell i2).trans hx2), cell_later p ((HN.out.cell i3).trans hx3), cell_later p ((HN.out.cell r4).trans hx4)⟩
                  have PD := Lib.hid (show Below w9.heap.size w9 wr.drew from HB3.out.drew)
                  have PA := Lib.hid (show Below w9.heap.size w9 ((wr.alloc (.cells #[.int .i64 x1, .int .i64 x2, .int .i64 x3] 3)).drew) from (below_call HB3.out (below_new _ _)).drew)
                  have HS3 := Lib.hid (show Sl 1 i64Row ((wr.alloc (.cells #[.int .i64 x1, .int .i64 x2, .int .i64 x3] 3)).drew).heap.size ((wr.alloc (.cells #[.int .i64 x1, .int .i64 x2, .int .i64 x3] 3)).drew) (.slice (some ⟨wr.heap.size, 0, none⟩) 3 3) [x1, x2, x3] from Box.sl i64Row_length [x1, x2, x3] (show Box ((wr.alloc (.cells #[.int .i64 x1, .int .i64 x2, .int .i64 x3] 3)).drew) wr.heap.size #[.int .i64 x1, .int .i64 x2, .int .i64 x3] 3 from Box.new _ _ _) rfl (by unfold maxLen; simp))
                  clear hx1 hx2 hx3 hx4 l4 g1 g2 g3
                  go_upto_region 25 with fail
                  refine wp_region_held_drew (S := fun w' => w'.cell? ⟨gn, i1, none⟩ = some (.int .i64 x1) ∧ w'.cell? ⟨gn, i2, none⟩ = some (.int .i64 x2) ∧ w'.cell? ⟨gn, i3, none⟩ = some (.int .i64 x3) ∧ w'.cell? ⟨gn, r4, none⟩ = some (.int .i64 x4)) (by kernel_rfl) (HF.out _ PD.out) (fun hHeld => ?_)
                  first
                    | (refine wpAnyH_take (i := 0) (v := ?_) rfl (by kernel_rfl) (by kernel_rfl) (by kernel_rfl) (fun _ _ _ h => h) (Or.inl ⟨?_, ?_⟩) (by assumption) ?_; rotate_left; (focus rfl); (focus (intro w hSw; go_split_ands; go_simp; try with_reducible rfl)); skip)
                    | (refine wpAnyH_take (i := 0) (v := undef) rfl (by kernel_rfl) (by kernel_rfl) (by kernel_rfl) (fun _ _ _ h => h) (Or.inr ⟨?_, rfl⟩) (by assumption) ?_; (focus rfl))
                  try simp only [Act.put, List.setIfInBounds_toArray, List.set_cons_zero, List.set_cons_succ, List.getElem_toArray, List.getElem_cons_zero, List.getElem_cons_succ]
                  first
                    | (refine wpAnyH_take (i := 1) (v := ?_) rfl (by kernel_rfl) (by kernel_rfl) (by kernel_rfl) (fun _ _ _ h => h) (Or.inl ⟨?_, ?_⟩) (by assumption) ?_; rotate_left; (focus rfl); (focus (intro w hSw; go_split_ands; go_simp; try with_reducible rfl)); skip)
                    | (refine wpAnyH_take (i := 1) (v := undef) rfl (by kernel_rfl) (by kernel_rfl) (by kernel_rfl) (fun _ _ _ h => h) (Or.inr ⟨?_, rfl⟩) (by assumption) ?_; (focus rfl))
                  try simp only [Act.put, List.setIfInBounds_toArray, List.set_cons_zero, List.set_cons_succ, List.getElem_toArray, List.getElem_cons_zero, List.getElem_cons_succ]
                  first
                    | (refine wpAnyH_take (i := 2) (v := ?_) rfl (by kernel_rfl) (by kernel_rfl) (by kernel_rfl) (fun _ _ _ h => h) (Or.inl ⟨?_, ?_⟩) (by assumption) ?_; rotate_left; (focus rfl); (focus (intro w hSw; go_split_ands; go_simp; try with_reducible rfl)); skip)
                    | (refine wpAnyH_take (i := 2) (v := undef) rfl (by kernel_rfl) (by kernel_rfl) (by kernel_rfl) (fun _ _ _ h => h) (Or.inr ⟨?_, rfl⟩) (by assumption) ?_; (focus rfl))
                  try simp only [Act.put, List.setIfInBounds_toArray, List.set_cons_zero, List.set_cons_succ, List.getElem_toArray, List.getElem_cons_zero, List.getElem_cons_succ]
                  first
                    | (refine wpAnyH_take (i := 3) (v := ?_) rfl (by kernel_rfl) (by kernel_rfl) (by kernel_rfl) (fun _ _ _ h => h) (Or.inl ⟨?_, ?_⟩) (by assumption) ?_; rotate_left; (focus rfl); (focus (intro w hSw; go_split_ands; go_simp; try with_reducible rfl)); skip)
                    | (refine wpAnyH_take (i := 3) (v := undef) rfl (by kernel_rfl) (by kernel_rfl) (by kernel_rfl) (fun _ _ _ h => h) (Or.inr ⟨?_, rfl⟩) (by assumption) ?_; (focus rfl))
                  try simp only [Act.put, List.setIfInBounds_toArray, List.set_cons_zero, List.set_cons_succ, List.getElem_toArray, List.getElem_cons_zero, List.getElem_cons_succ]
                  first
                    | (refine wpAnyH_take (i := 4) (v := ?_) rfl (by kernel_rfl) (by kernel_rfl) (by kernel_rfl) (fun _ _ _ h => h) (Or.inl ⟨?_, ?_⟩) (by assumption) ?_; rotate_left; (focus rfl); (focus (intro w hSw; go_split_ands; go_simp; try with_reducible rfl)); skip)
                    | (refine wpAnyH_take (i := 4) (v := undef) rfl (by kernel_rfl) (by kernel_rfl) (by kernel_rfl) (fun _ _ _ h => h) (Or.inr ⟨?_, rfl⟩) (by assumption) ?_; (focus rfl))
                  try simp only [Act.put, List.setIfInBounds_toArray, List.set_cons_zero, List.set_cons_succ, List.getElem_toArray, List.getElem_cons_zero, List.getElem_cons_succ]
                  first
                    | (refine wpAnyH_take (i := 5) (v := ?_) rfl (by kernel_rfl) (by kernel_rfl) (by kernel_rfl) (fun _ _ _ h => h) (Or.inl ⟨?_, ?_⟩) (by assumption) ?_; rotate_left; (focus rfl); (focus (intro w hSw; go_split_ands; go_simp; try with_reducible rfl)); skip)
                    | (refine wpAnyH_take (i := 5) (v := undef) rfl (by kernel_rfl) (by kernel_rfl) (by kernel_rfl) (fun _ _ _ h => h) (Or.inr ⟨?_, rfl⟩) (by assumption) ?_; (focus rfl))
                  try simp only [Act.put, List.setIfInBounds_toArray, List.set_cons_zero, List.set_cons_succ, List.getElem_toArray, List.getElem_cons_zero, List.getElem_cons_succ]
                  first
                    | (refine wpAnyH_take (i := 6) (v := ?_) rfl (by kernel_rfl) (by kernel_rfl) (by kernel_rfl) (fun _ _ _ h => h) (Or.inl ⟨?_, ?_⟩) (by assumption) ?_; rotate_left; (focus rfl); (focus (intro w hSw; go_split_ands; go_simp; try with_reducible rfl)); skip)
                    | (refine wpAnyH_take (i := 6) (v := undef) rfl (by kernel_rfl) (by kernel_rfl) (by kernel_rfl) (fun _ _ _ h => h) (Or.inr ⟨?_, rfl⟩) (by assumption) ?_; (focus rfl))
                  try simp only [Act.put, List.setIfInBounds_toArray, List.set_cons_zero, List.set_cons_succ, List.getElem_toArray, List.getElem_cons_zero, List.getElem_cons_succ]
                  first
                    | (refine wpAnyH_take (i := 7) (v := ?_) rfl (by kernel_rfl) (by kernel_rfl) (by kernel_rfl) (fun _ _ _ h => h) (Or.inl ⟨?_, ?_⟩) (by assumption) ?_; rotate_left; (focus rfl); (focus (intro w hSw; go_split_ands; go_simp; try with_reducible rfl)); skip)
                    | (refine wpAnyH_take (i := 7) (v := undef) rfl (by kernel_rfl) (by kernel_rfl) (by kernel_rfl) (fun _ _ _ h => h) (Or.inr ⟨?_, rfl⟩) (by assumption) ?_; (focus rfl))
                  try simp only [Act.put, List.setIfInBounds_toArray, List.set_cons_zero, List.set_cons_succ, List.getElem_toArray, List.getElem_cons_zero, List.getElem_cons_succ]
                  first
                    | (refine wpAnyH_take (i := 8) (v := ?_) rfl (by kernel_rfl) (by kernel_rfl) (by kernel_rfl) (fun _ _ _ h => h) (Or.inl ⟨?_, ?_⟩) (by assumption) ?_; rotate_left; (focus rfl); (focus (intro w hSw; go_split_ands; go_simp; try with_reducible rfl)); skip)
                    | (refine wpAnyH_take (i := 8) (v := undef) rfl (by kernel_rfl) (by kernel_rfl) (by kernel_rfl) (fun _ _ _ h => h) (Or.inr ⟨?_, rfl⟩) (by assumption) ?_; (focus rfl))
                  try simp only [Act.put, List.setIfInBounds_toArray, List.set_cons_zero, List.set_cons_succ, List.getElem_toArray, List.getElem_cons_zero, List.getElem_cons_succ]
                  first
                    | (refine wpAnyH_take (i := 9) (v := ?_) rfl (by kernel_rfl) (by kernel_rfl) (by kernel_rfl) (fun _ _ _ h => h) (Or.inl ⟨?_, ?_⟩) (by assumption) ?_; rotate_left; (focus rfl); (focus (intro w hSw; go_split_ands; go_simp; try with_reducible rfl)); skip)
                    | (refine wpAnyH_take (i := 9) (v := undef) rfl (by kernel_rfl) (by kernel_rfl) (by kernel_rfl) (fun _ _ _ h => h) (Or.inr ⟨?_, rfl⟩) (by assumption) ?_; (focus rfl))
                  try simp only [Act.put, List.setIfInBounds_toArray, List.set_cons_zero, List.set_cons_succ, List.getElem_toArray, List.getElem_cons_zero, List.getElem_cons_succ]
                  first
                    | (refine wpAnyH_take (i := 10) (v := ?_) rfl (by kernel_rfl) (by kernel_rfl) (by kernel_rfl) (fun _ _ _ h => h) (Or.inl ⟨?_, ?_⟩) (by assumption) ?_; rotate_left; (focus rfl); (focus (intro w hSw; go_split_ands; go_simp; try with_reducible rfl)); skip)
                    | (refine wpAnyH_take (i := 10) (v := undef) rfl (by kernel_rfl) (by kernel_rfl) (by kernel_rfl) (fun _ _ _ h => h) (Or.inr ⟨?_, rfl⟩) (by assumption) ?_; (focus rfl))
                  try simp only [Act.put, List.setIfInBounds_toArray, List.set_cons_zero, List.set_cons_succ, List.getElem_toArray, List.getElem_cons_zero, List.getElem_cons_succ]
                  first
                    | (refine wpAnyH_take (i := 11) (v := ?_) rfl (by kernel_rfl) (by kernel_rfl) (by kernel_rfl) (fun _ _ _ h => h) (Or.inl ⟨?_, ?_⟩) (by assumption) ?_; rotate_left; (focus rfl); (focus (intro w hSw; go_split_ands; go_simp; try with_reducible rfl)); skip)
                    | (refine wpAnyH_take (i := 11) (v := undef) rfl (by kernel_rfl) (by kernel_rfl) (by kernel_rfl) (fun _ _ _ h => h) (Or.inr ⟨?_, rfl⟩) (by assumption) ?_; (focus rfl))
                  try simp only [Act.put, List.setIfInBounds_toArray, List.set_cons_zero, List.set_cons_succ, List.getElem_toArray, List.getElem_cons_zero, List.getElem_cons_succ]
                  first
                    | (refine wpAnyH_take (i := 13) (v := ?_) rfl (by kernel_rfl) (by kernel_rfl) (by kernel_rfl) (fun _ _ _ h => h) (Or.inl ⟨?_, ?_⟩) (by assumption) ?_; rotate_left; (focus rfl); (focus (intro w hSw; go_split_ands; go_simp; try with_reducible rfl)); skip)
                    | (refine wpAnyH_take (i := 13) (v := undef) rfl (by kernel_rfl) (by kernel_rfl) (by kernel_rfl) (fun _ _ _ h => h) (Or.inr ⟨?_, rfl⟩) (by assumption) ?_; (focus rfl))
                  try simp only [Act.put, List.setIfInBounds_toArray, List.set_cons_zero, List.set_cons_succ, List.getElem_toArray, List.getElem_cons_zero, List.getElem_cons_succ]
                  first
                    | (refine wpAnyH_take (i := 14) (v := ?_) rfl (by kernel_rfl) (by kernel_rfl) (by kernel_rfl) (fun _ _ _ h => h) (Or.inl ⟨?_, ?_⟩) (by assumption) ?_; rotate_left; (focus rfl); (focus (intro w hSw; go_split_ands; go_simp; try with_reducible rfl)); skip)
                    | (refine wpAnyH_take (i := 14) (v := undef) rfl (by kernel_rfl) (by kernel_rfl) (by kernel_rfl) (fun _ _ _ h => h) (Or.inr ⟨?_, rfl⟩) (by assumption) ?_; (focus rfl))
                  try simp only [Act.put, List.setIfInBounds_toArray, List.set_cons_zero, List.set_cons_succ, List.getElem_toArray, List.getElem_cons_zero, List.getElem_cons_succ]
                  first
                    | (refine wpAnyH_take (i := 15) (v := ?_) rfl (by kernel_rfl) (by kernel_rfl) (by kernel_rfl) (fun _ _ _ h => h) (Or.inl ⟨?_, ?_⟩) (by assumption) ?_; rotate_left; (focus rfl); (focus (intro w hSw; go_split_ands; go_simp; try with_reducible rfl)); skip)
                    | (refine wpAnyH_take (i := 15) (v := undef) rfl (by kernel_rfl) (by kernel_rfl) (by kernel_rfl) (fun _ _ _ h => h) (Or.inr ⟨?_, rfl⟩) (by assumption) ?_; (focus rfl))
                  try simp only [Act.put, List.setIfInBounds_toArray, List.set_cons_zero, List.set_cons_succ, List.getElem_toArray, List.getElem_cons_zero, List.getElem_cons_succ]
                  first
                    | (refine wpAnyH_take (i := 16) (v := ?_) rfl (by kernel_rfl) (by kernel_rfl) (by kernel_rfl) (fun _ _ _ h => h) (Or.inl ⟨?_, ?_⟩) (by assumption) ?_; rotate_left; (focus rfl); (focus (intro w hSw; go_split_ands; go_simp; try with_reducible rfl)); skip)
                    | (refine wpAnyH_take (i := 16) (v := undef) rfl (by kernel_rfl) (by kernel_rfl) (by kernel_rfl) (fun _ _ _ h => h) (Or.inr ⟨?_, rfl⟩) (by assumption) ?_; (focus rfl))
                  try simp only [Act.put, List.setIfInBounds_toArray, List.set_cons_zero, List.set_cons_succ, List.getElem_toArray, List.getElem_cons_zero, List.getElem_cons_succ]
                  first
                    | (refine wpAnyH_take (i := 17) (v := ?_) rfl (by kernel_rfl) (by kernel_rfl) (by kernel_rfl) (fun _ _ _ h => h) (Or.inl ⟨?_, ?_⟩) (by assumption) ?_; rotate_left; (focus rfl); (focus (intro w hSw; go_split_ands; go_simp; try with_reducible rfl)); skip)
                    | (refine wpAnyH_take (i := 17) (v := undef) rfl (by kernel_rfl) (by kernel_rfl) (by kernel_rfl) (fun _ _ _ h => h) (Or.inr ⟨?_, rfl⟩) (by assumption) ?_; (focus rfl))
                  try simp only [Act.put, List.setIfInBounds_toArray, List.set_cons_zero, List.set_cons_succ, List.getElem_toArray, List.getElem_cons_zero, List.getElem_cons_succ]
                  first
                    | (refine wpAnyH_take (i := 18) (v := ?_) rfl (by kernel_rfl) (by kernel_rfl) (by kernel_rfl) (fun _ _ _ h => h) (Or.inl ⟨?_, ?_⟩) (by assumption) ?_; rotate_left; (focus rfl); (focus (intro w hSw; go_split_ands; go_simp; try with_reducible rfl)); skip)
                    | (refine wpAnyH_take (i := 18) (v := undef) rfl (by kernel_rfl) (by kernel_rfl) (by kernel_rfl) (fun _ _ _ h => h) (Or.inr ⟨?_, rfl⟩) (by assumption) ?_; (focus rfl))
                  try simp only [Act.put, List.setIfInBounds_toArray, List.set_cons_zero, List.set_cons_succ, List.getElem_toArray, List.getElem_cons_zero, List.getElem_cons_succ]
                  first
                    | (refine wpAnyH_take (i := 19) (v := ?_) rfl (by kernel_rfl) (by kernel_rfl) (by kernel_rfl) (fun _ _ _ h => h) (Or.inl ⟨?_, ?_⟩) (by assumption) ?_; rotate_left; (focus rfl); (focus (intro w hSw; go_split_ands; go_simp; try with_reducible rfl)); skip)
                    | (refine wpAnyH_take (i := 19) (v := undef) rfl (by kernel_rfl) (by kernel_rfl) (by kernel_rfl) (fun _ _ _ h => h) (Or.inr ⟨?_, rfl⟩) (by assumption) ?_; (focus rfl))
                  try simp only [Act.put, List.setIfInBounds_toArray, List.set_cons_zero, List.set_cons_succ, List.getElem_toArray, List.getElem_cons_zero, List.getElem_cons_succ]
                  first
                    | (refine wpAnyH_take (i := 20) (v := ?_) rfl (by kernel_rfl) (by kernel_rfl) (by kernel_rfl) (fun _ _ _ h => h) (Or.inl ⟨?_, ?_⟩) (by assumption) ?_; rotate_left; (focus rfl); (focus (intro w hSw; go_split_ands; go_simp; try with_reducible rfl)); skip)
                    | (refine wpAnyH_take (i := 20) (v := undef) rfl (by kernel_rfl) (by kernel_rfl) (by kernel_rfl) (fun _ _ _ h => h) (Or.inr ⟨?_, rfl⟩) (by assumption) ?_; (focus rfl))
                  try simp only [Act.put, List.setIfInBounds_toArray, List.set_cons_zero, List.set_cons_succ, List.getElem_toArray, List.getElem_cons_zero, List.getElem_cons_succ]
                  first
                    | (refine wpAnyH_take (i := 21) (v := ?_) rfl (by kernel_rfl) (by kernel_rfl) (by kernel_rfl) (fun _ _ _ h => h) (Or.inl ⟨?_, ?_⟩) (by assumption) ?_; rotate_left; (focus rfl); (focus (intro w hSw; go_split_ands; go_simp; try with_reducible rfl)); skip)
                    | (refine wpAnyH_take (i := 21) (v := undef) rfl (by kernel_rfl) (by kernel_rfl) (by kernel_rfl) (fun _ _ _ h => h) (Or.inr ⟨?_, rfl⟩) (by assumption) ?_; (focus rfl))
                  try simp only [Act.put, List.setIfInBounds_toArray, List.set_cons_zero, List.set_cons_succ, List.getElem_toArray, List.getElem_cons_zero, List.getElem_cons_succ]
                  first
                    | (refine wpAnyH_take (i := 22) (v := ?_) rfl (by kernel_rfl) (by kernel_rfl) (by kernel_rfl) (fun _ _ _ h => h) (Or.inl ⟨?_, ?_⟩) (by assumption) ?_; rotate_left; (focus rfl); (focus (intro w hSw; go_split_ands; go_simp; try with_reducible rfl)); skip)
                    | (refine wpAnyH_take (i := 22) (v := undef) rfl (by kernel_rfl) (by kernel_rfl) (by kernel_rfl) (fun _ _ _ h => h) (Or.inr ⟨?_, rfl⟩) (by assumption) ?_; (focus rfl))
                  try simp only [Act.put, List.setIfInBounds_toArray, List.set_cons_zero, List.set_cons_succ, List.getElem_toArray, List.getElem_cons_zero, List.getElem_cons_succ]
                  first
                    | (refine wpAnyH_take (i := 23) (v := ?_) rfl (by kernel_rfl) (by kernel_rfl) (by kernel_rfl) (fun _ _ _ h => h) (Or.inl ⟨?_, ?_⟩) (by assumption) ?_; rotate_left; (focus rfl); (focus (intro w hSw; go_split_ands; go_simp; try with_reducible rfl)); skip)
                    | (refine wpAnyH_take (i := 23) (v := undef) rfl (by kernel_rfl) (by kernel_rfl) (by kernel_rfl) (fun _ _ _ h => h) (Or.inr ⟨?_, rfl⟩) (by assumption) ?_; (focus rfl))
                  try simp only [Act.put, List.setIfInBounds_toArray, List.set_cons_zero, List.set_cons_succ, List.getElem_toArray, List.getElem_cons_zero, List.getElem_cons_succ]
                  first
                    | (refine wpAnyH_take (i := 24) (v := ?_) rfl (by kernel_rfl) (by kernel_rfl) (by kernel_rfl) (fun _ _ _ h => h) (Or.inl ⟨?_, ?_⟩) (by assumption) ?_; rotate_left; (focus rfl); (focus (intro w hSw; go_split_ands; go_simp; try with_reducible rfl)); skip)
                    | (refine wpAnyH_take (i := 24) (v := undef) rfl (by kernel_rfl) (by kernel_rfl) (by kernel_rfl) (fun _ _ _ h => h) (Or.inr ⟨?_, rfl⟩) (by assumption) ?_; (focus rfl))
                  try simp only [Act.put, List.setIfInBounds_toArray, List.set_cons_zero, List.set_cons_succ, List.getElem_toArray, List.getElem_cons_zero, List.getElem_cons_succ]
                  first
                    | (refine wpAnyH_take (i := 25) (v := ?_) rfl (by kernel_rfl) (by kernel_rfl) (by kernel_rfl) (fun _ _ _ h => h) (Or.inl ⟨?_, ?_⟩) (by assumption) ?_; rotate_left; (focus rfl); (focus (intro w hSw; go_split_ands; go_simp; try with_reducible rfl)); skip)
                    | (refine wpAnyH_take (i := 25) (v := undef) rfl (by kernel_rfl) (by kernel_rfl) (by kernel_rfl) (fun _ _ _ h => h) (Or.inr ⟨?_, rfl⟩) (by assumption) ?_; (focus rfl))
                  try simp only [Act.put, List.setIfInBounds_toArray, List.set_cons_zero, List.set_cons_succ, List.getElem_toArray, List.getElem_cons_zero, List.getElem_cons_succ]
                  first
                    | (refine wpAnyH_take (i := 26) (v := ?_) rfl (by kernel_rfl) (by kernel_rfl) (by kernel_rfl) (fun _ _ _ h => h) (Or.inl ⟨?_, ?_⟩) (by assumption) ?_; rotate_left; (focus rfl); (focus (intro w hSw; go_split_ands; go_simp; try with_reducible rfl)); skip)
                    | (refine wpAnyH_take (i := 26) (v := undef) rfl (by kernel_rfl) (by kernel_rfl) (by kernel_rfl) (fun _ _ _ h => h) (Or.inr ⟨?_, rfl⟩) (by assumption) ?_; (focus rfl))
                  try simp only [Act.put, List.setIfInBounds_toArray, List.set_cons_zero, List.set_cons_succ, List.getElem_toArray, List.getElem_cons_zero, List.getElem_cons_succ]
                  first
                    | (refine wpAnyH_take (i := 27) (v := ?_) rfl (by kernel_rfl) (by kernel_rfl) (by kernel_rfl) (fun _ _ _ h => h) (Or.inl ⟨?_, ?_⟩) (by assumption) ?_; rotate_left; (focus rfl); (focus (intro w hSw; go_split_ands; go_simp; try with_reducible rfl)); skip)
                    | (refine wpAnyH_take (i := 27) (v := undef) rfl (by kernel_rfl) (by kernel_rfl) (by kernel_rfl) (fun _ _ _ h => h) (Or.inr ⟨?_, rfl⟩) (by assumption) ?_; (focus rfl))
                  try simp only [Act.put, List.setIfInBounds_toArray, List.set_cons_zero, List.set_cons_succ, List.getElem_toArray, List.getElem_cons_zero, List.getElem_cons_succ]
                  first
                    | (refine wpAnyH_take (i := 28) (v := ?_) rfl (by kernel_rfl) (by kernel_rfl) (by kernel_rfl) (fun _ _ _ h => h) (Or.inl ⟨?_, ?_⟩) (by assumption) ?_; rotate_left; (focus rfl); (focus (intro w hSw; go_split_ands; go_simp; try with_reducible rfl)); skip)
                    | (refine wpAnyH_take (i := 28) (v := undef) rfl (by kernel_rfl) (by kernel_rfl) (by kernel_rfl) (fun _ _ _ h => h) (Or.inr ⟨?_, rfl⟩) (by assumption) ?_; (focus rfl))
                  try simp only [Act.put, List.setIfInBounds_toArray, List.set_cons_zero, List.set_cons_succ, List.getElem_toArray, List.getElem_cons_zero, List.getElem_cons_succ]
                  first
                    | (refine wpAnyH_take (i := 29) (v := ?_) rfl (by kernel_rfl) (by kernel_rfl) (by kernel_rfl) (fun _ _ _ h => h) (Or.inl ⟨?_, ?_⟩) (by assumption) ?_; rotate_left; (focus rfl); (focus (intro w hSw; go_split_ands; go_simp; try with_reducible rfl)); skip)
                    | (refine wpAnyH_take (i := 29) (v := undef) rfl (by kernel_rfl) (by kernel_rfl) (by kernel_rfl) (fun _ _ _ h => h) (Or.inr ⟨?_, rfl⟩) (by assumption) ?_; (focus rfl))
                  try simp only [Act.put, List.setIfInBounds_toArray, List.set_cons_zero, List.set_cons_succ, List.getElem_toArray, List.getElem_cons_zero, List.getElem_cons_succ]
                  first
                    | (refine wpAnyH_take (i := 30) (v := ?_) rfl (by kernel_rfl) (by kernel_rfl) (by kernel_rfl) (fun _ _ _ h => h) (Or.inl ⟨?_, ?_⟩) (by assumption) ?_; rotate_left; (focus rfl); (focus (intro w hSw; go_split_ands; go_simp; try with_reducible rfl)); skip)
                    | (refine wpAnyH_take (i := 30) (v := undef) rfl (by kernel_rfl) (by kernel_rfl) (by kernel_rfl) (fun _ _ _ h => h) (Or.inr ⟨?_, rfl⟩) (by assumption) ?_; (focus rfl))
                  try simp only [Act.put, List.setIfInBounds_toArray, List.set_cons_zero, List.set_cons_succ, List.getElem_toArray, List.getElem_cons_zero, List.getElem_cons_succ]
                  first
                    | (refine wpAnyH_take (i := 31) (v := ?_) rfl (by kernel_rfl) (by kernel_rfl) (by kernel_rfl) (fun _ _ _ h => h) (Or.inl ⟨?_, ?_⟩) (by assumption) ?_; rotate_left; (focus rfl); (focus (intro w hSw; go_split_ands; go_simp; try with_reducible rfl)); skip)
                    | (refine wpAnyH_take (i := 31) (v := undef) rfl (by kernel_rfl) (by kernel_rfl) (by kernel_rfl) (fun _ _ _ h => h) (Or.inr ⟨?_, rfl⟩) (by assumption) ?_; (focus rfl))
                  try simp only [Act.put, List.setIfInBounds_toArray, List.set_cons_zero, List.set_cons_succ, List.getElem_toArray, List.getElem_cons_zero, List.getElem_cons_succ]
                  first
                    | (refine wpAnyH_take (i := 32) (v := ?_) rfl (by kernel_rfl) (by kernel_rfl) (by kernel_rfl) (fun _ _ _ h => h) (Or.inl ⟨?_, ?_⟩) (by assumption) ?_; rotate_left; (focus rfl); (focus (intro w hSw; go_split_ands; go_simp; try with_reducible rfl)); skip)
                    | (refine wpAnyH_take (i := 32) (v := undef) rfl (by kernel_rfl) (by kernel_rfl) (by kernel_rfl) (fun _ _ _ h => h) (Or.inr ⟨?_, rfl⟩) (by assumption) ?_; (focus rfl))
                  try simp only [Act.put, List.setIfInBounds_toArray, List.set_cons_zero, List.set_cons_succ, List.getElem_toArray, List.getElem_cons_zero, List.getElem_cons_succ]
                  first
                    | (refine wpAnyH_take (i := 33) (v := ?_) rfl (by kernel_rfl) (by kernel_rfl) (by kernel_rfl) (fun _ _ _ h => h) (Or.inl ⟨?_, ?_⟩) (by assumption) ?_; rotate_left; (focus rfl); (focus (intro w hSw; go_split_ands; go_simp; try with_reducible rfl)); skip)
                    | (refine wpAnyH_take (i := 33) (v := undef) rfl (by kernel_rfl) (by kernel_rfl) (by kernel_rfl) (fun _ _ _ h => h) (Or.inr ⟨?_, rfl⟩) (by assumption) ?_; (focus rfl))
                  try simp only [Act.put, List.setIfInBounds_toArray, List.set_cons_zero, List.set_cons_succ, List.getElem_toArray, List.getElem_cons_zero, List.getElem_cons_succ]
                  first
                    | (refine wpAnyH_take (i := 34) (v := ?_) rfl (by kernel_rfl) (by kernel_rfl) (by kernel_rfl) (fun _ _ _ h => h) (Or.inl ⟨?_, ?_⟩) (by assumption) ?_; rotate_left; (focus rfl); (focus (intro w hSw; go_split_ands; go_simp; try with_reducible rfl)); skip)
                    | (refine wpAnyH_take (i := 34) (v := undef) rfl (by kernel_rfl) (by kernel_rfl) (by kernel_rfl) (fun _ _ _ h => h) (Or.inr ⟨?_, rfl⟩) (by assumption) ?_; (focus rfl))
                  try simp only [Act.put, List.setIfInBounds_toArray, List.set_cons_zero, List.set_cons_succ, List.getElem_toArray, List.getElem_cons_zero, List.getElem_cons_succ]
                  first
                    | (refine wpAnyH_take (i := 35) (v := ?_) rfl (by kernel_rfl) (by kernel_rfl) (by kernel_rfl) (fun _ _ _ h => h) (Or.inl ⟨?_, ?_⟩) (by assumption) ?_; rotate_left; (focus rfl); (focus (intro w hSw; go_split_ands; go_simp; try with_reducible rfl)); skip)
                    | (refine wpAnyH_take (i := 35) (v := undef) rfl (by kernel_rfl) (by kernel_rfl) (by kernel_rfl) (fun _ _ _ h => h) (Or.inr ⟨?_, rfl⟩) (by assumption) ?_; (focus rfl))
                  try simp only [Act.put, List.setIfInBounds_toArray, List.set_cons_zero, List.set_cons_succ, List.getElem_toArray, List.getElem_cons_zero, List.getElem_cons_succ]
                  first
                    | (refine wpAnyH_take (i := 36) (v := ?_) rfl (by kernel_rfl) (by kernel_rfl) (by kernel_rfl) (fun _ _ _ h => h) (Or.inl ⟨?_, ?_⟩) (by assumption) ?_; rotate_left; (focus rfl); (focus (intro w hSw; go_split_ands; go_simp; try with_reducible rfl)); skip)
                    | (refine wpAnyH_take (i := 36) (v := undef) rfl (by kernel_rfl) (by kernel_rfl) (by kernel_rfl) (fun _ _ _ h => h) (Or.inr ⟨?_, rfl⟩) (by assumption) ?_; (focus rfl))
                  try simp only [Act.put, List.setIfInBounds_toArray, List.set_cons_zero, List.set_cons_succ, List.getElem_toArray, List.getElem_cons_zero, List.getElem_cons_succ]
                  first
                    | (refine wpAnyH_take (i := 37) (v := ?_) rfl (by kernel_rfl) (by kernel_rfl) (by kernel_rfl) (fun _ _ _ h => h) (Or.inl ⟨?_, ?_⟩) (by assumption) ?_; rotate_left; (focus rfl); (focus (intro w hSw; go_split_ands; go_simp; try with_reducible rfl)); skip)
                    | (refine wpAnyH_take (i := 37) (v := undef) rfl (by kernel_rfl) (by kernel_rfl) (by kernel_rfl) (fun _ _ _ h => h) (Or.inr ⟨?_, rfl⟩) (by assumption) ?_; (focus rfl))
                  try simp only [Act.put, List.setIfInBounds_toArray, List.set_cons_zero, List.set_cons_succ, List.getElem_toArray, List.getElem_cons_zero, List.getElem_cons_succ]
                  first
                    | (refine wpAnyH_take (i := 38) (v := ?_) rfl (by kernel_rfl) (by kernel_rfl) (by kernel_rfl) (fun _ _ _ h => h) (Or.inl ⟨?_, ?_⟩) (by assumption) ?_; rotate_left; (focus rfl); (focus (intro w hSw; go_split_ands; go_simp; try with_reducible rfl)); skip)
                    | (refine wpAnyH_take (i := 38) (v := undef) rfl (by kernel_rfl) (by kernel_rfl) (by kernel_rfl) (fun _ _ _ h => h) (Or.inr ⟨?_, rfl⟩) (by assumption) ?_; (focus rfl))
                  try simp only [Act.put, List.setIfInBounds_toArray, List.set_cons_zero, List.set_cons_succ, List.getElem_toArray, List.getElem_cons_zero, List.getElem_cons_succ]
                  refine wpAnyH_ready (rs := [12]) (by kernel_rfl) (by simp) ?_
                  refine AllReadyH.cons rfl (fun K hK => ?_) AllReadyH.nil
                  go_simp
                  refine hK.out _ _ (HF.out _ PA.out) (fun hH => ?_)
                  clear hK K
                  try simp only [Act.put, List.setIfInBounds_toArray, List.set_cons_zero, List.set_cons_succ, List.getElem_toArray, List.getElem_cons_zero, List.getElem_cons_succ]
                  refine wpAnyH_ready (rs := [39]) (by kernel_rfl) (by simp) ?_
                  refine AllReadyH.cons rfl (fun K hK => ?_) AllReadyH.nil
                  go_simp
                  go_at_call 6
                  refine (boundTells [x1, x2, x3] _ x2 1 ⟨x3, 1, 0⟩ x1 x3 x4 _ HS3.out (by simp) y3 y4 (errType_later HG.out (below_call HB9.out PA.out))).mono ?_
                  rintro e w8 ⟨rfl, hb8⟩
                  have P8 := Lib.hid (below_call PA.out hb8)
                  clear hb8
                  refine hK.out _ _ (HF.out _ P8.out) (fun hH => ?_)
                  clear hK K
                  try simp only [Act.put, List.setIfInBounds_toArray, List.set_cons_zero, List.set_cons_succ, List.getElem_toArray, List.getElem_cons_zero, List.getElem_cons_succ]
                  have hHeld2 := hH
                  first
                    | (refine wpAnyH_take (i := 40) (v := ?_) rfl (by kernel_rfl) (by kernel_rfl) (by kernel_rfl) (fun _ _ _ h => h) (Or.inl ⟨?_, ?_⟩) (by assumption) ?_; rotate_left; (focus rfl); (focus (intro w hSw; go_split_ands; go_simp; try with_reducible rfl)); skip)
                    | (refine wpAnyH_take (i := 40) (v := undef) rfl (by kernel_rfl) (by kernel_rfl) (by kernel_rfl) (fun _ _ _ h => h) (Or.inr ⟨?_, rfl⟩) (by assumption) ?_; (focus rfl))
                  try simp only [Act.put, List.setIfInBounds_toArray, List.set_cons_zero, List.set_cons_succ, List.getElem_toArray, List.getElem_cons_zero, List.getElem_cons_succ]
                  refine wpAnyH_done (by kernel_rfl) ?_ _
                  clear e4 u1 u2
                  go_wp2_with fail
                  go_roundw
                  case rel => exact ⟨i3 + 1, by omega, by go_num, P8.out⟩
                  case measure => (simp [intOf]; omega)
                · have d3 : decide ((i3 : Int) < 10) = false := decide_eq_false (by omega)
                  go_wp2_with fail
                  go_roundw
                  case rel => exact ⟨i2 + 1, by omega, by go_num, HB3.out⟩
                  case measure => (simp [intOf]; omega)
            · have d2 : decide ((i2 : Int) < 10) = false := decide_eq_false (by omega)
              go_wp2_with fail
              go_roundw
              case rel => exact ⟨i1 + 1, by omega, by go_num, HB2.out⟩
              case measure => (simp [intOf]; omega)
        · have d1 : decide ((i1 : Int) < 10) = false := decide_eq_false (by omega)
          have HBA := Lib.hid (below_call HB9.out HB1.out)
          have HGA := Lib.hid (errType_later HG.out HBA.out)
          go_wp2_with (first
            | (go_at_call 6; refine (boundTells [] _ (-5) 0 ⟨0, 0, 0⟩ 0 0 1 _ (Sl.nil_ _ _ _ _) (by simp) (by unfold I64; omega) (by unfold I64; omega) HGA.out).mono ?_; rintro e w5 ⟨rfl, hb5⟩; have HB5 := Lib.hid hb5; clear hb5)
            | (go_at_call 20; refine (awake21 _ (errType_later HGA.out HB5.out)).mono ?_; rintro e w6 ⟨rfl, hb6⟩; have HB6 := Lib.hid (below_call HB5.out hb6); clear hb6))
          go_ret
          exact ⟨rfl, below_call HBA.out HB6.out⟩
end Go.Proofs.YtclphcbjdcdkfaaDoor
