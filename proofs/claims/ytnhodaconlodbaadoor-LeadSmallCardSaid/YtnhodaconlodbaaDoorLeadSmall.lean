/-
  LeadSmall: true. Condition: errors.errorType holds its value.
-/
import Derived.Test.YtnhodaconlodbaaDoorLeadBooks
import Derived.Test.YtnhodaconlodbaaDoorLeadNextLaw
import Derived.Test.YtnhodaconlodbaaDoorSmallKit
import Derived.Deep.RegionHeld3
import Derived.Deep.DeepCutAuto
set_option linter.unusedVariables false
set_option linter.unusedSimpArgs false
namespace Go.Proofs.YtnhodaconlodbaaDoor
open Go.RowKit

def numsC : Array Value := #[.int .i64 (-1), .int .i64 0, .int .i64 1, .int .i64 2, .int .i64 7, .int .i64 8, .int .i64 47, .int .i64 48, .int .i64 49, .int .i64 1099511627775, .int .i64 1099511627776, .int .i64 1099511627777, .int .i64 1099511627778]
theorem nums_at {r : Nat} (h : r < 13) : ∃ x : Int, numsC[r]? = some (.int .i64 x) ∧ -1 ≤ x := by
  match r, h with
  | 0, _ => exact ⟨_, rfl, by omega⟩
  | 1, _ => exact ⟨_, rfl, by omega⟩
  | 2, _ => exact ⟨_, rfl, by omega⟩
  | 3, _ => exact ⟨_, rfl, by omega⟩
  | 4, _ => exact ⟨_, rfl, by omega⟩
  | 5, _ => exact ⟨_, rfl, by omega⟩
  | 6, _ => exact ⟨_, rfl, by omega⟩
  | 7, _ => exact ⟨_, rfl, by omega⟩
  | 8, _ => exact ⟨_, rfl, by omega⟩
  | 9, _ => exact ⟨_, rfl, by omega⟩
  | 10, _ => exact ⟨_, rfl, by omega⟩
  | 11, _ => exact ⟨_, rfl, by omega⟩
  | 12, _ => exact ⟨_, rfl, by omega⟩

set_option maxRecDepth 100000 in
set_option maxHeartbeats 8000000 in
theorem small_walk (w : World) (hG : errTypeIs w) :
    Calls Tryd.prog 3 #[] w fun e w' => e = .returned (.bool true) ∧ Below w.heap.size w w' := by
  have HG := Lib.hid hG
  clear hG
  go_enter Tryd.func3, Tryd.ntmps3
  go_wp2_with fail
  obtain ⟨gn, hgn⟩ : ∃ g, g = w.heap.size := ⟨_, rfl⟩
  rw [← hgn]
  have HN0 := Lib.hid (show Box (w.alloc (.cells numsC 3)) gn numsC 3 by rw [hgn]; exact Box.new _ _ _)
  have hgz : w.heap.size ≤ gn := by omega
  clear hgn
  go_loopw [2] (fun i wx => ∃ k : Nat, k ≤ 2197 ∧ i = .int .i64 k ∧ Box wx gn numsC 3 ∧ Below w.heap.size w wx) (fun i _ => 2197 - (intOf i).toNat)
  case atStart => exact ⟨0, by omega, rfl, HN0.out, below_new _ _⟩
  case round =>
    clear HN0
    obtain ⟨k, hk, rfl, hbn, hBk⟩ := hrel
    have HN := Lib.hid hbn
    have HBk := Lib.hid hBk
    have hbl := hbn.lt
    have hzk := hBk.size
    by_cases hlk : k < 2197
    · obtain ⟨r1, e1, l1⟩ : ∃ r : Nat, (k : Int).tmod 13 = (r : Int) ∧ r < 13 := ⟨k % 13, by rw [Int.tmod_eq_emod_of_nonneg (by omega)]; omega, by omega⟩
      obtain ⟨q2, e2, l2⟩ : ∃ r : Nat, (k : Int).tdiv 13 = (r : Int) ∧ r < 169 := ⟨k / 13, by rw [Int.tdiv_eq_ediv_of_nonneg (by omega)]; omega, by omega⟩
      obtain ⟨r2, e3, l3⟩ : ∃ r : Nat, (q2 : Int).tmod 13 = (r : Int) ∧ r < 13 := ⟨q2 % 13, by rw [Int.tmod_eq_emod_of_nonneg (by omega)]; omega, by omega⟩
      obtain ⟨r3, e4, l4⟩ : ∃ r : Nat, (k : Int).tdiv 169 = (r : Int) ∧ r < 13 := ⟨k / 169, by rw [Int.tdiv_eq_ediv_of_nonneg (by omega)]; omega, by omega⟩
      obtain ⟨s7, e5, l5⟩ : ∃ r : Nat, (k : Int) * 7 = (r : Int) ∧ r < 100000 := ⟨k * 7, by omega, by omega⟩
      obtain ⟨r4, e6, l6⟩ : ∃ r : Nat, (s7 : Int).tmod 13 = (r : Int) ∧ r < 13 := ⟨s7 % 13, by rw [Int.tmod_eq_emod_of_nonneg (by omega)]; omega, by omega⟩
      have w2 : IntKind.i64.wrap (q2 : Int) = (q2 : Int) := IntWalk.i64_in _ (by omega)
      have w3 : IntKind.i64.wrap (r3 : Int) = (r3 : Int) := IntWalk.i64_in _ (by omega)
      have w4 : IntKind.i64.wrap (s7 : Int) = (s7 : Int) := IntWalk.i64_in _ (by omega)
      obtain ⟨x1, hx1, y1⟩ := nums_at l1
      obtain ⟨x2, hx2, y2⟩ := nums_at l3
      obtain ⟨x3, hx3, y3⟩ := nums_at l4
      obtain ⟨x4, hx4, y4⟩ := nums_at l6
      have n1 : (0 : Int) ≤ (r1 : Int) := by omega
      have m1 : (r1 : Int) < 13 := by omega
      have n2 : (0 : Int) ≤ (r2 : Int) := by omega
      have m2 : (r2 : Int) < 13 := by omega
      have n3 : (0 : Int) ≤ (r3 : Int) := by omega
      have m3 : (r3 : Int) < 13 := by omega
      have n4 : (0 : Int) ≤ (r4 : Int) := by omega
      have m4 : (r4 : Int) < 13 := by omega
      have HF : Hid (∀ W, Box W gn numsC 3 → ∀ w', Below W.heap.size W w' → w'.cell? ⟨gn, r1, none⟩ = some (.int .i64 x1) ∧ w'.cell? ⟨gn, r2, none⟩ = some (.int .i64 x2) ∧ w'.cell? ⟨gn, r3, none⟩ = some (.int .i64 x3) ∧ w'.cell? ⟨gn, r4, none⟩ = some (.int .i64 x4)) := fun W hW w' q => ⟨cell_later q ((hW.cell r1).trans hx1), cell_later q ((hW.cell r2).trans hx2), cell_later q ((hW.cell r3).trans hx3), cell_later q ((hW.cell r4).trans hx4)⟩
      have d0 : decide ((k : Int) < 2197) = true := decide_eq_true (by omega)
      clear hbn hBk hx1 hx2 hx3 hx4 l2 l5
      go_upto_region 5 with fail
      go_cut [3] (fun p wx => ∃ gb a b c d, p = .pointer (some ⟨gb, 0, none⟩) ∧ Box wx gb #[.int .i64 a, .int .i64 b, .int .i64 c, .int .i64 d] 24 ∧ Below wr.heap.size wr wx)
      case first =>
        first | go_region_held3 (fun w' => (w'.cell? ⟨gn, r1, none⟩ = some (.int .i64 x1) ∧ w'.cell? ⟨gn, r2, none⟩ = some (.int .i64 x2) ∧ w'.cell? ⟨gn, r3, none⟩ = some (.int .i64 x3) ∧ w'.cell? ⟨gn, r4, none⟩ = some (.int .i64 x4)) ∧ Below wr.heap.size wr w')
          (first | (refine (fun q => ⟨HF.out wr HN.out _ q, q⟩) ?_; (repeat (first | (refine Below.drew ?_) | (refine Below.alloc ?_ (by first | omega | (simp; omega) | simp) _) | (refine below_set ?_ (by first | omega | (simp; omega) | simp)))); exact Below.refl _ _) | fail)
          (fail)
        all_goals (go_wp2_with fail; go_meet)
        all_goals
          iterate 5 apply Exists.intro
          refine ⟨rfl, ?_, ?_⟩
          · repeat (first | (with_reducible refine Box.drew_ ?_) | ((with_reducible refine Box.at_ _ ?_); (simp; done)) | (with_reducible refine Box.alloc ?_ _) | (with_reducible refine Box.set4 ?_ _ _ _ _) | ((with_reducible refine Box.far ?_ ?_ _); rotate_left; (simp; done)))
          · (repeat (first | (refine Below.drew ?_) | (refine Below.alloc ?_ (by first | omega | (simp; omega) | simp) _) | (refine below_set ?_ (by first | omega | (simp; omega) | simp)))); exact Below.refl _ _
      case rest =>
        obtain ⟨gb, ba, bb, bc, bd, rfl, hbx, hB5⟩ := hcut
        have HBX := Lib.hid hbx
        have HB5 := Lib.hid hB5
        have HN5 := Lib.hid (HN.out.later hB5)
        have hz5 := hB5.size
        have hgb := hbx.lt
        clear hbx hB5
        obtain ⟨w5, hw5⟩ : ∃ x, x = wc := ⟨_, rfl⟩
        rw [← hw5] at HBX HB5 HN5 hz5 hgb
        rw [← hw5]
        clear hw5
        go_upto_region 6 with fail
        go_cut [4] (fun p wx => ∃ gc a b c d, p = .pointer (some ⟨gc, 0, none⟩) ∧ Box wx gc #[.int .i64 a, .int .i64 b, .int .i64 c, .int .i64 d] 24 ∧ Below w5.heap.size w5 wx)
        case first =>
          first | go_region_held3 (fun w' => (w'.cell? ⟨gn, r1, none⟩ = some (.int .i64 x1) ∧ w'.cell? ⟨gn, r2, none⟩ = some (.int .i64 x2) ∧ w'.cell? ⟨gn, r3, none⟩ = some (.int .i64 x3) ∧ w'.cell? ⟨gn, r4, none⟩ = some (.int .i64 x4)) ∧ Below w5.heap.size w5 w')
            (first | (refine (fun q => ⟨HF.out w5 HN5.out _ q, q⟩) ?_; (repeat (first | (refine Below.drew ?_) | (refine Below.alloc ?_ (by first | omega | (simp; omega) | simp) _) | (refine below_set ?_ (by first | omega | (simp; omega) | simp)))); exact Below.refl _ _) | fail)
            (fail)
          all_goals (go_wp2_with fail; go_meet)
          all_goals
            iterate 5 apply Exists.intro
            refine ⟨rfl, ?_, ?_⟩
            · repeat (first | (with_reducible refine Box.drew_ ?_) | ((with_reducible refine Box.at_ _ ?_); (simp; done)) | (with_reducible refine Box.alloc ?_ _) | (with_reducible refine Box.set4 ?_ _ _ _ _) | ((with_reducible refine Box.far ?_ ?_ _); rotate_left; (simp; done)))
            · (repeat (first | (refine Below.drew ?_) | (refine Below.alloc ?_ (by first | omega | (simp; omega) | simp) _) | (refine below_set ?_ (by first | omega | (simp; omega) | simp)))); exact Below.refl _ _
        case rest =>
          obtain ⟨gc, ca, cb, cc, cd, rfl, hcx, hB6⟩ := hcut
          have HCX := Lib.hid hcx
          have HBX6 := Lib.hid (HBX.out.later hB6)
          have HN6 := Lib.hid (HN5.out.later hB6)
          have HB6 := Lib.hid (below_call HBk.out (below_call HB5.out hB6))
          clear hcx hB6 HBX HB5 HN5 hz5 hgb
          obtain ⟨w6, hw6⟩ : ∃ x, x = wc := ⟨_, rfl⟩
          rw [← hw6] at HCX HBX6 HB6 HN6
          rw [← hw6]
          clear hw6
          have HG6 := Lib.hid (errType_later HG.out HB6.out)
          have HF7 : Hid (∀ w', Below w6.heap.size w6 w' → ((w'.cell? ⟨gn, r1, none⟩ = some (.int .i64 x1) ∧ w'.cell? ⟨gn, r2, none⟩ = some (.int .i64 x2) ∧ w'.cell? ⟨gn, r3, none⟩ = some (.int .i64 x3) ∧ w'.cell? ⟨gn, r4, none⟩ = some (.int .i64 x4)) ∧ (w'.cell? ⟨gb, 0, none⟩ = some (.int .i64 ba) ∧ w'.cell? ⟨gb, 1, none⟩ = some (.int .i64 bb) ∧ w'.cell? ⟨gb, 2, none⟩ = some (.int .i64 bc) ∧ w'.cell? ⟨gb, 3, none⟩ = some (.int .i64 bd)) ∧ (w'.cell? ⟨gc, 0, none⟩ = some (.int .i64 ca) ∧ w'.cell? ⟨gc, 1, none⟩ = some (.int .i64 cb) ∧ w'.cell? ⟨gc, 2, none⟩ = some (.int .i64 cc) ∧ w'.cell? ⟨gc, 3, none⟩ = some (.int .i64 cd))) ∧ Below w6.heap.size w6 w') := fun w' q => ⟨⟨HF.out w6 HN6.out _ q, ⟨cell_later q (HBX6.out.cell 0), cell_later q (HBX6.out.cell 1), cell_later q (HBX6.out.cell 2), cell_later q (HBX6.out.cell 3)⟩, ⟨cell_later q (HCX.out.cell 0), cell_later q (HCX.out.cell 1), cell_later q (HCX.out.cell 2), cell_later q (HCX.out.cell 3)⟩⟩, q⟩
          go_upto_region 7 with fail
          go_region_held3 (fun w' => ((w'.cell? ⟨gn, r1, none⟩ = some (.int .i64 x1) ∧ w'.cell? ⟨gn, r2, none⟩ = some (.int .i64 x2) ∧ w'.cell? ⟨gn, r3, none⟩ = some (.int .i64 x3) ∧ w'.cell? ⟨gn, r4, none⟩ = some (.int .i64 x4)) ∧ (w'.cell? ⟨gb, 0, none⟩ = some (.int .i64 ba) ∧ w'.cell? ⟨gb, 1, none⟩ = some (.int .i64 bb) ∧ w'.cell? ⟨gb, 2, none⟩ = some (.int .i64 bc) ∧ w'.cell? ⟨gb, 3, none⟩ = some (.int .i64 bd)) ∧ (w'.cell? ⟨gc, 0, none⟩ = some (.int .i64 ca) ∧ w'.cell? ⟨gc, 1, none⟩ = some (.int .i64 cb) ∧ w'.cell? ⟨gc, 2, none⟩ = some (.int .i64 cc) ∧ w'.cell? ⟨gc, 3, none⟩ = some (.int .i64 cd))) ∧ Below w6.heap.size w6 w')
            (first | (refine HF7.out _ ?_; (repeat (first | (refine Below.drew ?_) | (refine Below.alloc ?_ (by first | omega | (simp; omega) | simp) _) | (refine below_set ?_ (by first | omega | (simp; omega) | simp)))); first | exact Below.refl _ _ | exact PA | exact PB) | fail)
            (first | (go_at_call 10; first
              | (refine (books_walk [⟨ba, bb, bc, bd⟩, ⟨ca, cb, cc, cd⟩] [1, 2, 3, (k : Int).tmod 9] _ _ _ _ _ _ _ _ ?_ ?_ (by simp) (by omega)).mono ?_
                 focus (refine Box.sl (t := 24) bkRow_length [⟨ba, bb, bc, bd⟩, ⟨ca, cb, cc, cd⟩] (cs := #[.int .i64 ba, .int .i64 bb, .int .i64 bc, .int .i64 bd, .int .i64 ca, .int .i64 cb, .int .i64 cc, .int .i64 cd]) ?_ rfl (by unfold maxLen; simp); repeat (first | (with_reducible refine Box.drew_ ?_) | ((with_reducible refine Box.at_ _ ?_); (simp; done)) | (with_reducible refine Box.alloc ?_ _) | (with_reducible refine Box.set4 ?_ _ _ _ _) | ((with_reducible refine Box.far ?_ ?_ _); rotate_left; (simp; done))))
                 focus (refine Box.sl (t := 3) i64Row_length [1, 2, 3, (k : Int).tmod 9] (cs := #[.int .i64 1, .int .i64 2, .int .i64 3, .int .i64 ((k : Int).tmod 9)]) ?_ rfl (by unfold maxLen; simp); repeat (first | (with_reducible refine Box.drew_ ?_) | ((with_reducible refine Box.at_ _ ?_); (simp; done)) | (with_reducible refine Box.alloc ?_ _) | (with_reducible refine Box.set4 ?_ _ _ _ _) | ((with_reducible refine Box.far ?_ ?_ _); rotate_left; (simp; done))))
                 rintro e wl ⟨rfl, hbl⟩
                 have PA : Below w6.heap.size w6 wl := below_call (by (repeat (first | (refine Below.drew ?_) | (refine Below.alloc ?_ (by first | omega | (simp; omega) | simp) _) | (refine below_set ?_ (by first | omega | (simp; omega) | simp)))); exact Below.refl _ _) hbl
                 have PZ := PA.size)
              | (refine (books_walk [⟨ba, bb, bc, bd⟩] [ba] _ _ _ _ _ _ _ _ ?_ ?_ (by simp) (by omega)).mono ?_
                 focus (refine Box.sl (t := 24) bkRow_length [⟨ba, bb, bc, bd⟩] (cs := #[.int .i64 ba, .int .i64 bb, .int .i64 bc, .int .i64 bd]) ?_ rfl (by unfold maxLen; simp); repeat (first | (with_reducible refine Box.drew_ ?_) | ((with_reducible refine Box.at_ _ ?_); (simp; done)) | (with_reducible refine Box.alloc ?_ _) | (with_reducible refine Box.set4 ?_ _ _ _ _) | ((with_reducible refine Box.far ?_ ?_ _); rotate_left; (simp; done))))
                 focus (refine Box.sl (t := 3) i64Row_length [ba] (cs := #[.int .i64 ba]) ?_ rfl (by unfold maxLen; simp); repeat (first | (with_reducible refine Box.drew_ ?_) | ((with_reducible refine Box.at_ _ ?_); (simp; done)) | (with_reducible refine Box.alloc ?_ _) | (with_reducible refine Box.set4 ?_ _ _ _ _) | ((with_reducible refine Box.far ?_ ?_ _); rotate_left; (simp; done))))
                 rintro e wm ⟨rfl, hbm⟩
                 have PB : Below w6.heap.size w6 wm := below_call (by (repeat (first | (refine Below.drew ?_) | (refine Below.alloc ?_ (by first | omega | (simp; omega) | simp) _) | (refine below_set ?_ (by first | omega | (simp; omega) | simp)))); first | exact Below.refl _ _ | exact PA) hbm
                 have QZ := PB.size)))
          go_wp2_with fail
          go_roundw
          case rel => exact ⟨k + 1, by omega, by go_num, HN6.out.later (by (repeat (first | (refine Below.drew ?_) | (refine Below.alloc ?_ (by first | omega | (simp; omega) | simp) _) | (refine below_set ?_ (by first | omega | (simp; omega) | simp)))); exact PB), below_call HB6.out (by (repeat (first | (refine Below.drew ?_) | (refine Below.alloc ?_ (by first | omega | (simp; omega) | simp) _) | (refine below_set ?_ (by first | omega | (simp; omega) | simp)))); exact PB)⟩
          case measure => simp [intOf]; omega
          go_wp2_with fail
          go_roundw
          case rel => exact ⟨k + 1, by omega, by go_num, HN6.out.later (by (repeat (first | (refine Below.drew ?_) | (refine Below.alloc ?_ (by first | omega | (simp; omega) | simp) _) | (refine below_set ?_ (by first | omega | (simp; omega) | simp)))); exact PB), below_call HB6.out (by (repeat (first | (refine Below.drew ?_) | (refine Below.alloc ?_ (by first | omega | (simp; omega) | simp) _) | (refine below_set ?_ (by first | omega | (simp; omega) | simp)))); exact PB)⟩
          case measure => simp [intOf]; omega
          go_wp2_with fail
          go_roundw
          case rel => exact ⟨k + 1, by omega, by go_num, HN6.out.later (by (repeat (first | (refine Below.drew ?_) | (refine Below.alloc ?_ (by first | omega | (simp; omega) | simp) _) | (refine below_set ?_ (by first | omega | (simp; omega) | simp)))); exact PB), below_call HB6.out (by (repeat (first | (refine Below.drew ?_) | (refine Below.alloc ?_ (by first | omega | (simp; omega) | simp) _) | (refine below_set ?_ (by first | omega | (simp; omega) | simp)))); exact PB)⟩
          case measure => simp [intOf]; omega
          go_wp2_with fail
          go_roundw
          case rel => exact ⟨k + 1, by omega, by go_num, HN6.out.later (by (repeat (first | (refine Below.drew ?_) | (refine Below.alloc ?_ (by first | omega | (simp; omega) | simp) _) | (refine below_set ?_ (by first | omega | (simp; omega) | simp)))); exact PB), below_call HB6.out (by (repeat (first | (refine Below.drew ?_) | (refine Below.alloc ?_ (by first | omega | (simp; omega) | simp) _) | (refine below_set ?_ (by first | omega | (simp; omega) | simp)))); exact PB)⟩
          case measure => simp [intOf]; omega
    · have hk2 : (k : Int) = 2197 := by omega
      rw [hk2]
      have d0 : decide ((2197 : Int) < 2197) = false := rfl
      clear hbn hBk hbl hzk HN hk hlk hgz hk2
      obtain ⟨w1, hw1⟩ : ∃ x, x = wr := ⟨_, rfl⟩
      rw [← hw1] at HBk
      rw [← hw1]
      clear hw1
      go_wp2_with fail
      go_loopw [5] (fun i wx => ∃ k : Nat, k ≤ 1000 ∧ i = .int .i64 k ∧ Below w.heap.size w wx) (fun i _ => 1000 - (intOf i).toNat)
      case atStart => exact ⟨0, by omega, rfl, HBk.out⟩
      case round =>
        clear HBk
        obtain ⟨k, hk, rfl, hB⟩ := hrel
        have HB := Lib.hid hB
        clear hB
        by_cases hlk : k < 1000
        · obtain ⟨ro, hro⟩ : ∃ x, x = wr := ⟨_, rfl⟩
          rw [← hro] at HB
          rw [← hro]
          clear hro
          obtain ⟨gv, hgv⟩ : ∃ x, x = ro.heap.size := ⟨_, rfl⟩
          obtain ⟨r1, e1, f1, l1⟩ : ∃ r : Nat, (k : Int).tmod 4 = (r : Int) ∧ (k : Int) % 4 = (r : Int) ∧ r < 4 := ⟨k % 4, by rw [Int.tmod_eq_emod_of_nonneg (by omega)]; omega, by omega, by omega⟩
          obtain ⟨q2, e2, f2, l2⟩ : ∃ r : Nat, (k : Int).tdiv 4 = (r : Int) ∧ (k : Int) / 4 = (r : Int) ∧ r < 1000 := ⟨k / 4, by rw [Int.tdiv_eq_ediv_of_nonneg (by omega)]; omega, by omega, by omega⟩
          obtain ⟨r2, e3, f3, l3⟩ : ∃ r : Nat, (q2 : Int).tmod 5 = (r : Int) ∧ (q2 : Int) % 5 = (r : Int) ∧ r < 5 := ⟨q2 % 5, by rw [Int.tmod_eq_emod_of_nonneg (by omega)]; omega, by omega, by omega⟩
          obtain ⟨q4, e4, f4, l4⟩ : ∃ r : Nat, (k : Int).tdiv 20 = (r : Int) ∧ (k : Int) / 20 = (r : Int) ∧ r < 1000 := ⟨k / 20, by rw [Int.tdiv_eq_ediv_of_nonneg (by omega)]; omega, by omega, by omega⟩
          obtain ⟨r5, e5, f5, l5⟩ : ∃ r : Nat, (k : Int).tmod 6 = (r : Int) ∧ (k : Int) % 6 = (r : Int) ∧ r < 6 := ⟨k % 6, by rw [Int.tmod_eq_emod_of_nonneg (by omega)]; omega, by omega, by omega⟩
          obtain ⟨r6, e6, f6, l6⟩ : ∃ r : Nat, (k : Int).tmod 3 = (r : Int) ∧ (k : Int) % 3 = (r : Int) ∧ r < 3 := ⟨k % 3, by rw [Int.tmod_eq_emod_of_nonneg (by omega)]; omega, by omega, by omega⟩
          have w2 : IntKind.i64.wrap (q2 : Int) = (q2 : Int) := IntWalk.i64_in _ (by omega)
          have w4 : IntKind.i64.wrap (q4 : Int) = (q4 : Int) := IntWalk.i64_in _ (by omega)
          have d0 : decide ((k : Int) < 1000) = true := decide_eq_true (by omega)
          go_wp2_with fail
          rw [← hgv]
          have HX0 := Lib.hid (show Box (ro.alloc (.cells #[.int .i64 (r1 : Int), .int .i64 1, .int .i64 1, .slice none 0 0] 32)) gv #[.int .i64 (r1 : Int), .int .i64 1, .int .i64 1, .slice none 0 0] 32 by rw [hgv]; exact Box.new _ _ _)
          have hgl : ro.heap.size ≤ gv := by omega
          clear hgv
          go_loopw [7] (fun i wx => ∃ (j : Nat) (l : List Idt) (A : Option Addr) (c : Nat), j ≤ 5 ∧ i = .int .i64 j ∧ l.length = j ∧ (∀ p ∈ l, I64 p.idx) ∧ Own 3 idRow 29 (gv + 1) wx (.slice A j c) l ∧ Box wx gv #[.int .i64 (r1 : Int), .int .i64 1, .int .i64 1, .slice A j c] 32 ∧ Below ro.heap.size ro wx) (fun i _ => 5 - (intOf i).toNat)
          case atStart => exact ⟨0, [], none, 0, by omega, rfl, rfl, fun p hp => by simp at hp, Own.nil_ _ _ _ _ _, HX0.out, below_new _ _⟩
          case round =>
            clear HX0
            obtain ⟨j, l, A, c, hj, rfl, hlj, hin, hown, hbx, hBr⟩ := hrel
            have HO := Lib.hid hown
            have HX := Lib.hid hbx
            have HBr := Lib.hid hBr
            have HIN := Lib.hid hin
            have HLJ := Lib.hid hlj
            have hbl := hbx.lt
            have hzr := hBr.size
            clear hown hbx hBr hin hlj
            by_cases hjr : j < r2
            · have d1 : decide ((j : Int) < (r2 : Int)) = true := decide_eq_true (by omega)
              have d1' : decide (j < r2) = true := decide_eq_true hjr
              have j0 : (0 : Int) ≤ (j : Int) := by omega
              have j1 : (j : Int) < 64 := by omega
              have w5 : IntKind.i64.wrap ((r1 : Int) + 1) = (r1 : Int) + 1 := IntWalk.i64_in _ (by omega)
              have w6 : IntKind.i64.wrap ((r1 : Int) + 1 + (j : Int)) = (r1 : Int) + 1 + (j : Int) := IntWalk.i64_in _ (by omega)
              have HF : Hid (∀ w', Below wr.heap.size wr w' → w'.cell? ⟨gv, 3, none⟩ = some (.slice A j c) ∧ Below wr.heap.size wr w') := fun w' q => ⟨cell_later q (HX.out.cell 3), q⟩
              go_upto_region 16 with fail
              have HPA := Lib.hid (show Below wr.heap.size wr ((wr.alloc (.cells #[.int .i64 ((r1 : Int) + 1 + (j : Int)), .int .i64 1, .int .i64 (IntKind.i64.wrap (((q4 : Int) / 2 ^ j).tmod 2 * 2))] 29)).drew) from (below_new _ _).drew)
              have HOO := Lib.hid (show Own 3 idRow 29 (gv + 1) ((wr.alloc (.cells #[.int .i64 ((r1 : Int) + 1 + (j : Int)), .int .i64 1, .int .i64 (IntKind.i64.wrap (((q4 : Int) / 2 ^ j).tmod 2 * 2))] 29)).drew) (.slice A j c) l from (HO.out.alloc _).drew)
              have HBB := Lib.hid (show Box ((wr.alloc (.cells #[.int .i64 ((r1 : Int) + 1 + (j : Int)), .int .i64 1, .int .i64 (IntKind.i64.wrap (((q4 : Int) / 2 ^ j).tmod 2 * 2))] 29)).drew) wr.heap.size #[.int .i64 ((r1 : Int) + 1 + (j : Int)), .int .i64 1, .int .i64 (IntKind.i64.wrap (((q4 : Int) / 2 ^ j).tmod 2 * 2))] 29 from Box.drew_ (Box.new _ _ _))
              have HLL := Lib.hid (show l.length + 1 ≤ 4294967296 by have := HLJ.out; omega)
              have HSS := Lib.hid (show gv + 1 ≤ ((wr.alloc (.cells #[.int .i64 ((r1 : Int) + 1 + (j : Int)), .int .i64 1, .int .i64 (IntKind.i64.wrap (((q4 : Int) / 2 ^ j).tmod 2 * 2))] 29)).drew).heap.size by simp; omega)
              obtain ⟨kx, fx, zx⟩ := HX.out.facts
              go_wp2_with fail
              refine wp_region_held_drew (S := fun _ => True) (by kernel_rfl) trivial (fun hHeld => ?_)
              first
                | (refine wpAnyH_take (i := 0) (v := ?_) rfl (by kernel_rfl) (by kernel_rfl) (by kernel_rfl) (fun _ _ _ h => h) (Or.inl ⟨?_, ?_⟩) (by assumption) ?_; rotate_left; (focus rfl); (focus (intro w hSw; go_split_ands; go_simp; try with_reducible rfl)); skip)
                | (refine wpAnyH_take (i := 0) (v := undef) rfl (by kernel_rfl) (by kernel_rfl) (by kernel_rfl) (fun _ _ _ h => h) (Or.inr ⟨?_, rfl⟩) (by assumption) ?_; (focus rfl))
              try simp only [Act.put, List.setIfInBounds_toArray, List.set_cons_zero, List.set_cons_succ, List.getElem_toArray, List.getElem_cons_zero, List.getElem_cons_succ]
              first
                | (refine wpAnyH_take (i := 2) (v := ?_) rfl (by kernel_rfl) (by kernel_rfl) (by kernel_rfl) (fun _ _ _ h => h) (Or.inl ⟨?_, ?_⟩) (by assumption) ?_; rotate_left; (focus rfl); (focus (intro w hSw; go_split_ands; go_simp; try with_reducible rfl)); skip)
                | (refine wpAnyH_take (i := 2) (v := undef) rfl (by kernel_rfl) (by kernel_rfl) (by kernel_rfl) (fun _ _ _ h => h) (Or.inr ⟨?_, rfl⟩) (by assumption) ?_; (focus rfl))
              try simp only [Act.put, List.setIfInBounds_toArray, List.set_cons_zero, List.set_cons_succ, List.getElem_toArray, List.getElem_cons_zero, List.getElem_cons_succ]
              first
                | (refine wpAnyH_take (i := 3) (v := ?_) rfl (by kernel_rfl) (by kernel_rfl) (by kernel_rfl) (fun _ _ _ h => h) (Or.inl ⟨?_, ?_⟩) (by assumption) ?_; rotate_left; (focus rfl); (focus (intro w hSw; go_split_ands; go_simp; try with_reducible rfl)); skip)
                | (refine wpAnyH_take (i := 3) (v := undef) rfl (by kernel_rfl) (by kernel_rfl) (by kernel_rfl) (fun _ _ _ h => h) (Or.inr ⟨?_, rfl⟩) (by assumption) ?_; (focus rfl))
              try simp only [Act.put, List.setIfInBounds_toArray, List.set_cons_zero, List.set_cons_succ, List.getElem_toArray, List.getElem_cons_zero, List.getElem_cons_succ]
              first
                | (refine wpAnyH_take (i := 4) (v := ?_) rfl (by kernel_rfl) (by kernel_rfl) (by kernel_rfl) (fun _ _ _ h => h) (Or.inl ⟨?_, ?_⟩) (by assumption) ?_; rotate_left; (focus rfl); (focus (intro w hSw; go_split_ands; go_simp; try with_reducible rfl)); skip)
                | (refine wpAnyH_take (i := 4) (v := undef) rfl (by kernel_rfl) (by kernel_rfl) (by kernel_rfl) (fun _ _ _ h => h) (Or.inr ⟨?_, rfl⟩) (by assumption) ?_; (focus rfl))
              try simp only [Act.put, List.setIfInBounds_toArray, List.set_cons_zero, List.set_cons_succ, List.getElem_toArray, List.getElem_cons_zero, List.getElem_cons_succ]
              first
                | (refine wpAnyH_take (i := 5) (v := ?_) rfl (by kernel_rfl) (by kernel_rfl) (by kernel_rfl) (fun _ _ _ h => h) (Or.inl ⟨?_, ?_⟩) (by assumption) ?_; rotate_left; (focus rfl); (focus (intro w hSw; go_split_ands; go_simp; try with_reducible rfl)); skip)
                | (refine wpAnyH_take (i := 5) (v := undef) rfl (by kernel_rfl) (by kernel_rfl) (by kernel_rfl) (fun _ _ _ h => h) (Or.inr ⟨?_, rfl⟩) (by assumption) ?_; (focus rfl))
              try simp only [Act.put, List.setIfInBounds_toArray, List.set_cons_zero, List.set_cons_succ, List.getElem_toArray, List.getElem_cons_zero, List.getElem_cons_succ]
              first
                | (refine wpAnyH_take (i := 6) (v := ?_) rfl (by kernel_rfl) (by kernel_rfl) (by kernel_rfl) (fun _ _ _ h => h) (Or.inl ⟨?_, ?_⟩) (by assumption) ?_; rotate_left; (focus rfl); (focus (intro w hSw; go_split_ands; go_simp; try with_reducible rfl)); skip)
                | (refine wpAnyH_take (i := 6) (v := undef) rfl (by kernel_rfl) (by kernel_rfl) (by kernel_rfl) (fun _ _ _ h => h) (Or.inr ⟨?_, rfl⟩) (by assumption) ?_; (focus rfl))
              try simp only [Act.put, List.setIfInBounds_toArray, List.set_cons_zero, List.set_cons_succ, List.getElem_toArray, List.getElem_cons_zero, List.getElem_cons_succ]
              first
                | (refine wpAnyH_take (i := 7) (v := ?_) rfl (by kernel_rfl) (by kernel_rfl) (by kernel_rfl) (fun _ _ _ h => h) (Or.inl ⟨?_, ?_⟩) (by assumption) ?_; rotate_left; (focus rfl); (focus (intro w hSw; go_split_ands; go_simp; try with_reducible rfl)); skip)
                | (refine wpAnyH_take (i := 7) (v := undef) rfl (by kernel_rfl) (by kernel_rfl) (by kernel_rfl) (fun _ _ _ h => h) (Or.inr ⟨?_, rfl⟩) (by assumption) ?_; (focus rfl))
              try simp only [Act.put, List.setIfInBounds_toArray, List.set_cons_zero, List.set_cons_succ, List.getElem_toArray, List.getElem_cons_zero, List.getElem_cons_succ]
              first
                | (refine wpAnyH_take (i := 8) (v := ?_) rfl (by kernel_rfl) (by kernel_rfl) (by kernel_rfl) (fun _ _ _ h => h) (Or.inl ⟨?_, ?_⟩) (by assumption) ?_; rotate_left; (focus rfl); (focus (intro w hSw; go_split_ands; go_simp; try with_reducible rfl)); skip)
                | (refine wpAnyH_take (i := 8) (v := undef) rfl (by kernel_rfl) (by kernel_rfl) (by kernel_rfl) (fun _ _ _ h => h) (Or.inr ⟨?_, rfl⟩) (by assumption) ?_; (focus rfl))
              try simp only [Act.put, List.setIfInBounds_toArray, List.set_cons_zero, List.set_cons_succ, List.getElem_toArray, List.getElem_cons_zero, List.getElem_cons_succ]
              first
                | (refine wpAnyH_take (i := 9) (v := ?_) rfl (by kernel_rfl) (by kernel_rfl) (by kernel_rfl) (fun _ _ _ h => h) (Or.inl ⟨?_, ?_⟩) (by assumption) ?_; rotate_left; (focus rfl); (focus (intro w hSw; go_split_ands; go_simp; try with_reducible rfl)); skip)
                | (refine wpAnyH_take (i := 9) (v := undef) rfl (by kernel_rfl) (by kernel_rfl) (by kernel_rfl) (fun _ _ _ h => h) (Or.inr ⟨?_, rfl⟩) (by assumption) ?_; (focus rfl))
              try simp only [Act.put, List.setIfInBounds_toArray, List.set_cons_zero, List.set_cons_succ, List.getElem_toArray, List.getElem_cons_zero, List.getElem_cons_succ]
              first
                | (refine wpAnyH_take (i := 10) (v := ?_) rfl (by kernel_rfl) (by kernel_rfl) (by kernel_rfl) (fun _ _ _ h => h) (Or.inl ⟨?_, ?_⟩) (by assumption) ?_; rotate_left; (focus rfl); (focus (intro w hSw; go_split_ands; go_simp; try with_reducible rfl)); skip)
                | (refine wpAnyH_take (i := 10) (v := undef) rfl (by kernel_rfl) (by kernel_rfl) (by kernel_rfl) (fun _ _ _ h => h) (Or.inr ⟨?_, rfl⟩) (by assumption) ?_; (focus rfl))
              try simp only [Act.put, List.setIfInBounds_toArray, List.set_cons_zero, List.set_cons_succ, List.getElem_toArray, List.getElem_cons_zero, List.getElem_cons_succ]
              first
                | (refine wpAnyH_take (i := 11) (v := ?_) rfl (by kernel_rfl) (by kernel_rfl) (by kernel_rfl) (fun _ _ _ h => h) (Or.inl ⟨?_, ?_⟩) (by assumption) ?_; rotate_left; (focus rfl); (focus (intro w hSw; go_split_ands; go_simp; try with_reducible rfl)); skip)
                | (refine wpAnyH_take (i := 11) (v := undef) rfl (by kernel_rfl) (by kernel_rfl) (by kernel_rfl) (fun _ _ _ h => h) (Or.inr ⟨?_, rfl⟩) (by assumption) ?_; (focus rfl))
              try simp only [Act.put, List.setIfInBounds_toArray, List.set_cons_zero, List.set_cons_succ, List.getElem_toArray, List.getElem_cons_zero, List.getElem_cons_succ]
              first
                | (refine wpAnyH_take (i := 12) (v := ?_) rfl (by kernel_rfl) (by kernel_rfl) (by kernel_rfl) (fun _ _ _ h => h) (Or.inl ⟨?_, ?_⟩) (by assumption) ?_; rotate_left; (focus rfl); (focus (intro w hSw; go_split_ands; go_simp; try with_reducible rfl)); skip)
                | (refine wpAnyH_take (i := 12) (v := undef) rfl (by kernel_rfl) (by kernel_rfl) (by kernel_rfl) (fun _ _ _ h => h) (Or.inr ⟨?_, rfl⟩) (by assumption) ?_; (focus rfl))
              try simp only [Act.put, List.setIfInBounds_toArray, List.set_cons_zero, List.set_cons_succ, List.getElem_toArray, List.getElem_cons_zero, List.getElem_cons_succ]
              first
                | (refine wpAnyH_take (i := 13) (v := ?_) rfl (by kernel_rfl) (by kernel_rfl) (by kernel_rfl) (fun _ _ _ h => h) (Or.inl ⟨?_, ?_⟩) (by assumption) ?_; rotate_left; (focus rfl); (focus (intro w hSw; go_split_ands; go_simp; try with_reducible rfl)); skip)
                | (refine wpAnyH_take (i := 13) (v := undef) rfl (by kernel_rfl) (by kernel_rfl) (by kernel_rfl) (fun _ _ _ h => h) (Or.inr ⟨?_, rfl⟩) (by assumption) ?_; (focus rfl))
              try simp only [Act.put, List.setIfInBounds_toArray, List.set_cons_zero, List.set_cons_succ, List.getElem_toArray, List.getElem_cons_zero, List.getElem_cons_succ]
              refine wpAnyH_ready (rs := [1, 14]) (by kernel_rfl) (by simp) ?_
              refine AllReadyH.cons rfl (fun K hK => ?_) (AllReadyH.cons rfl (fun K hK => ?_) AllReadyH.nil)
              · go_simp
                refine hK.out _ _ trivial (fun hH => ?_)
                clear hK K
                try simp only [Act.put, List.setIfInBounds_toArray, List.set_cons_zero, List.set_cons_succ, List.getElem_toArray, List.getElem_cons_zero, List.getElem_cons_succ]
                refine wpAnyH_ready (rs := [14]) (by kernel_rfl) (by simp) ?_
                refine AllReadyH.cons rfl (fun K hK => ?_) AllReadyH.nil
                go_simp
                refine hK.out _ _ trivial (fun hH => ?_)
                clear hK K
                try simp only [Act.put, List.setIfInBounds_toArray, List.set_cons_zero, List.set_cons_succ, List.getElem_toArray, List.getElem_cons_zero, List.getElem_cons_succ]
                refine wpAnyH_ready (rs := [15]) (by kernel_rfl) (by simp) ?_
                refine AllReadyH.cons rfl (fun K hK => ?_) AllReadyH.nil
                refine step_append_row rfl (.tmp 112) (.tmp 125) 30 rfl (gv + 1) 29 _ 3 24 Tryd.underlying30 identInfo rfl (Nat.succ_pos 2) idRow idRow_length idRow_one l _ rfl HOO.out ⟨(r1 : Int) + 1 + (j : Int), 1, IntKind.i64.wrap (((q4 : Int) / 2 ^ j).tmod 2 * 2)⟩ #[.int .i64 ((r1 : Int) + 1 + (j : Int)), .int .i64 1, .int .i64 (IntKind.i64.wrap (((q4 : Int) / 2 ^ j).tmod 2 * 2))] rfl 29 _ rfl HBB.out HLL.out (by omega) HSS.out ?_
                intro g7 c7 w7 p1 p2 p3
                have HX7 := Lib.hid ((HX.out.later HPA.out).below p2 (Nat.lt_succ_self gv))
                have HO7 := Lib.hid p1
                have HB7 := Lib.hid ((below_call HBr.out HPA.out).trans (p2.mono (show ro.heap.size ≤ gv + 1 by omega)))
                obtain ⟨kb, fb, zb⟩ := HX7.out.facts
                clear p1 p2 p3
                refine hK.out _ _ trivial (fun hH => ?_)
                clear hK K
                try simp only [Act.put, List.setIfInBounds_toArray, List.set_cons_zero, List.set_cons_succ, List.getElem_toArray, List.getElem_cons_zero, List.getElem_cons_succ]
                have hHeld2 := hH
                first
                  | (refine wpAnyH_take (i := 16) (v := ?_) rfl (by kernel_rfl) (by kernel_rfl) (by kernel_rfl) (fun _ _ _ h => h) (Or.inl ⟨?_, ?_⟩) (by assumption) ?_; rotate_left; (focus rfl); (focus (intro w hSw; go_split_ands; go_simp; try with_reducible rfl)); skip)
                  | (refine wpAnyH_take (i := 16) (v := undef) rfl (by kernel_rfl) (by kernel_rfl) (by kernel_rfl) (fun _ _ _ h => h) (Or.inr ⟨?_, rfl⟩) (by assumption) ?_; (focus rfl))
                try simp only [Act.put, List.setIfInBounds_toArray, List.set_cons_zero, List.set_cons_succ, List.getElem_toArray, List.getElem_cons_zero, List.getElem_cons_succ]
                refine wpAnyH_ready (rs := [17]) (by kernel_rfl) (by simp) ?_
                refine AllReadyH.cons rfl (fun K hK => ?_) AllReadyH.nil
                go_simp
                refine hK.out _ _ trivial (fun hH => ?_)
                clear hK K
                try simp only [Act.put, List.setIfInBounds_toArray, List.set_cons_zero, List.set_cons_succ, List.getElem_toArray, List.getElem_cons_zero, List.getElem_cons_succ]
                refine wpAnyH_done (by kernel_rfl) ?_ _
                clear kb fb zb
                go_wp2_with fail
                go_roundw
                case rel =>
                  refine ⟨j + 1, l ++ [⟨(r1 : Int) + 1 + (j : Int), 1, IntKind.i64.wrap (((q4 : Int) / 2 ^ j).tmod 2 * 2)⟩], some ⟨g7, 0, none⟩, c7, by omega, by go_num, by simp [HLJ.out], fun p hp => ?_, ?_, ?_, ?_⟩
                  · rcases List.mem_append.1 hp with h | h
                    · exact HIN.out p h
                    · simp only [List.mem_singleton] at h; subst h; unfold I64; simp only; omega
                  · have hl7 : (l ++ [(⟨(r1 : Int) + 1 + (j : Int), 1, IntKind.i64.wrap (((q4 : Int) / 2 ^ j).tmod 2 * 2)⟩ : Idt)]).length = j + 1 := by simp [HLJ.out]
                    rw [hl7] at HO7; exact HO7.out.set_below (Nat.lt_succ_self gv)
                  · have hl7 : (l ++ [(⟨(r1 : Int) + 1 + (j : Int), 1, IntKind.i64.wrap (((q4 : Int) / 2 ^ j).tmod 2 * 2)⟩ : Idt)]).length = j + 1 := by simp [HLJ.out]
                    have h := HX7.out.set_ 3 (.slice (some ⟨g7, 0, none⟩) (j + 1) c7); have hlj := HLJ.out; (try rw [← hlj] at h); (try rw [← hlj]); exact h
                  · exact below_set HB7.out (show ro.heap.size ≤ gv by omega)
                case measure => simp [intOf]; omega
              · go_simp
                refine hK.out _ _ trivial (fun hH => ?_)
                clear hK K
                try simp only [Act.put, List.setIfInBounds_toArray, List.set_cons_zero, List.set_cons_succ, List.getElem_toArray, List.getElem_cons_zero, List.getElem_cons_succ]
                refine wpAnyH_ready (rs := [1]) (by kernel_rfl) (by simp) ?_
                refine AllReadyH.cons rfl (fun K hK => ?_) AllReadyH.nil
                go_simp
                refine hK.out _ _ trivial (fun hH => ?_)
                clear hK K
                try simp only [Act.put, List.setIfInBounds_toArray, List.set_cons_zero, List.set_cons_succ, List.getElem_toArray, List.getElem_cons_zero, List.getElem_cons_succ]
                refine wpAnyH_ready (rs := [15]) (by kernel_rfl) (by simp) ?_
                refine AllReadyH.cons rfl (fun K hK => ?_) AllReadyH.nil
                refine step_append_row rfl (.tmp 112) (.tmp 125) 30 rfl (gv + 1) 29 _ 3 24 Tryd.underlying30 identInfo rfl (Nat.succ_pos 2) idRow idRow_length idRow_one l _ rfl HOO.out ⟨(r1 : Int) + 1 + (j : Int), 1, IntKind.i64.wrap (((q4 : Int) / 2 ^ j).tmod 2 * 2)⟩ #[.int .i64 ((r1 : Int) + 1 + (j : Int)), .int .i64 1, .int .i64 (IntKind.i64.wrap (((q4 : Int) / 2 ^ j).tmod 2 * 2))] rfl 29 _ rfl HBB.out HLL.out (by omega) HSS.out ?_
                intro g7 c7 w7 p1 p2 p3
                have HX7 := Lib.hid ((HX.out.later HPA.out).below p2 (Nat.lt_succ_self gv))
                have HO7 := Lib.hid p1
                have HB7 := Lib.hid ((below_call HBr.out HPA.out).trans (p2.mono (show ro.heap.size ≤ gv + 1 by omega)))
                obtain ⟨kb, fb, zb⟩ := HX7.out.facts
                clear p1 p2 p3
                refine hK.out _ _ trivial (fun hH => ?_)
                clear hK K
                try simp only [Act.put, List.setIfInBounds_toArray, List.set_cons_zero, List.set_cons_succ, List.getElem_toArray, List.getElem_cons_zero, List.getElem_cons_succ]
                have hHeld2 := hH
                first
                  | (refine wpAnyH_take (i := 16) (v := ?_) rfl (by kernel_rfl) (by kernel_rfl) (by kernel_rfl) (fun _ _ _ h => h) (Or.inl ⟨?_, ?_⟩) (by assumption) ?_; rotate_left; (focus rfl); (focus (intro w hSw; go_split_ands; go_simp; try with_reducible rfl)); skip)
                  | (refine wpAnyH_take (i := 16) (v := undef) rfl (by kernel_rfl) (by kernel_rfl) (by kernel_rfl) (fun _ _ _ h => h) (Or.inr ⟨?_, rfl⟩) (by assumption) ?_; (focus rfl))
                try simp only [Act.put, List.setIfInBounds_toArray, List.set_cons_zero, List.set_cons_succ, List.getElem_toArray, List.getElem_cons_zero, List.getElem_cons_succ]
                refine wpAnyH_ready (rs := [17]) (by kernel_rfl) (by simp) ?_
                refine AllReadyH.cons rfl (fun K hK => ?_) AllReadyH.nil
                go_simp
                refine hK.out _ _ trivial (fun hH => ?_)
                clear hK K
                try simp only [Act.put, List.setIfInBounds_toArray, List.set_cons_zero, List.set_cons_succ, List.getElem_toArray, List.getElem_cons_zero, List.getElem_cons_succ]
                refine wpAnyH_done (by kernel_rfl) ?_ _
                clear kb fb zb
                go_wp2_with fail
                go_roundw
                case rel =>
                  refine ⟨j + 1, l ++ [⟨(r1 : Int) + 1 + (j : Int), 1, IntKind.i64.wrap (((q4 : Int) / 2 ^ j).tmod 2 * 2)⟩], some ⟨g7, 0, none⟩, c7, by omega, by go_num, by simp [HLJ.out], fun p hp => ?_, ?_, ?_, ?_⟩
                  · rcases List.mem_append.1 hp with h | h
                    · exact HIN.out p h
                    · simp only [List.mem_singleton] at h; subst h; unfold I64; simp only; omega
                  · have hl7 : (l ++ [(⟨(r1 : Int) + 1 + (j : Int), 1, IntKind.i64.wrap (((q4 : Int) / 2 ^ j).tmod 2 * 2)⟩ : Idt)]).length = j + 1 := by simp [HLJ.out]
                    rw [hl7] at HO7; exact HO7.out.set_below (Nat.lt_succ_self gv)
                  · have hl7 : (l ++ [(⟨(r1 : Int) + 1 + (j : Int), 1, IntKind.i64.wrap (((q4 : Int) / 2 ^ j).tmod 2 * 2)⟩ : Idt)]).length = j + 1 := by simp [HLJ.out]
                    have h := HX7.out.set_ 3 (.slice (some ⟨g7, 0, none⟩) (j + 1) c7); have hlj := HLJ.out; (try rw [← hlj] at h); (try rw [← hlj]); exact h
                  · exact below_set HB7.out (show ro.heap.size ≤ gv by omega)
                case measure => simp [intOf]; omega
            · have d1 : decide ((j : Int) < (r2 : Int)) = false := decide_eq_false (by omega)
              have d1' : decide (j < r2) = false := decide_eq_false hjr
              have hlj := HLJ.out
              subst hlj
              have HS := Lib.hid (HO.out.sl idRow_length)
              have HBw := Lib.hid (below_call HB.out HBr.out)
              have h5 : l.length ≤ 5 := hj
              clear HBr
              obtain ⟨w8, hw8⟩ : ∃ x, x = wr := ⟨_, rfl⟩
              rw [← hw8] at HO HX HS HBw
              rw [← hw8]
              clear hw8 hbl hzr
              go_wp2_with fail
              go_loopw [8] (fun i wx => ∃ z : Int, -1 ≤ z ∧ z ≤ 12 ∧ i = .int .i64 z ∧ Below w8.heap.size w8 wx) (fun i _ => (12 - intOf i).toNat)
              case atStart => exact ⟨-1, by omega, by omega, rfl, Below.refl _ _⟩
              case round =>
                obtain ⟨z, hz1, hz2, rfl, hB8⟩ := hrel
                have HB8 := Lib.hid hB8
                obtain ⟨kb, fb, zb⟩ := (HX.out.later hB8).facts
                clear hB8
                by_cases hzl : z < 12
                · have w6 : IntKind.i64.wrap ((r5 : Int) - 1) = (r5 : Int) - 1 := IntWalk.i64_in _ (by omega)
                  have w7 : wrap64 ((r5 : Int) - 1) = (r5 : Int) - 1 := by unfold wrap64; omega
                  have w9 : wrap64 (z + 1) = z + 1 := by unfold wrap64; omega
                  go_wp2_with (go_at_call 11; refine (nextLaw_one 1 z (r6 : Int) 0 ((r5 : Int) - 1) ⟨(r1 : Int), 1, 1⟩ l A c _ (HS.out.later HB8.out) (by unfold I64; simp only; omega) HIN.out (by unfold I64; omega) (by unfold I64; omega) (errType_later HG.out (below_call HBw.out HB8.out)) (by omega)).mono ?_; rintro e w9 ⟨rfl, hb9⟩)
                  go_roundw
                  case rel => exact ⟨z + 1, by omega, by omega, by go_num, below_call HB8.out hb9⟩
                  case measure => simp [intOf]; omega
                · have d3 : decide (z < 12) = false := decide_eq_false hzl
                  have HB9 := Lib.hid (below_call HBw.out HB8.out)
                  go_wp2_with fail
                  go_roundw
                  case rel => exact ⟨k + 1, by omega, by go_num, HB9.out⟩
                  case measure => simp [intOf]; omega
        · have d0 : decide ((k : Int) < 1000) = false := decide_eq_false (by omega)
          have HGr := Lib.hid (errType_later HG.out HB.out)
          go_wp2_with (first
            | (go_at_call 11; refine (nextLaw_one 0 1 0 0 9223372036854775807 ⟨0, 0, 0⟩ [⟨1, 0, 1⟩] _ _ _ (Box.sl idRow_length [⟨1, 0, 1⟩] (Box.new _ _ _) rfl (by unfold maxLen; simp)) (by unfold I64; simp only; omega) (fun p hp => by simp at hp; subst hp; unfold I64; simp only; omega) (by unfold I64; omega) (by unfold I64; omega) (errType_later HGr.out (below_call HB2.out (below_new _ _))) (by simp)).mono ?_; rintro e w3 ⟨rfl, hb3⟩; have HB3 := Lib.hid (below_call HB2.out (below_call (below_new _ _) hb3)); clear hb3)
            | (go_at_call 11; refine (nextLaw_one 0 9223372036854775807 0 0 3 ⟨0, 0, 0⟩ [] none 0 _ (Sl.nil_ _ _ _ _) (by unfold I64; simp only; omega) (fun p hp => by simp at hp) (by unfold I64; omega) (by unfold I64; omega) HGr.out (by simp)).mono ?_; rintro e w2 ⟨rfl, hb2⟩; have HB2 := Lib.hid hb2; clear hb2)
            | (go_at_call 10; refine (books_walk [] [] _ _ 1 1 1 1 true _ (Sl.nil_ _ _ _ _) (Sl.nil_ _ _ _ _) (by simp) (by omega)).mono ?_; rintro e w4 ⟨rfl, hb4⟩; have HB4 := Lib.hid (below_call HB3.out hb4); clear hb4)
            | (go_at_call 12; refine (leadAwk _).mono ?_; rintro e w5 ⟨rfl, hb5⟩; have HB5 := Lib.hid (below_call HB4.out hb5); clear hb5))
          go_ret
          exact ⟨rfl, below_call HB.out HB5.out⟩
end Go.Proofs.YtnhodaconlodbaaDoor
