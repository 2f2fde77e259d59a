/-
  EntryEnds: true. Condition: errors.errorType holds its value.
-/
import Derived.Test.YtfglkpcboodllaaGreatDoorEntRows
import Derived.Test.YtfglkpcboodllaaGreatDoorEntMembers
import Derived.Test.YtfglkpcboodllaaGreatDoorSmallKit
import Derived.Test.YtfglkpcboodllaaGreatDoorSlCut
import Derived.Deep.RegionHeld3
import Derived.Deep.OwnRows
import Derived.IntWalk
import Derived.Deep.DeepCutAuto
set_option linter.unusedVariables false
set_option linter.unusedSimpArgs false
namespace Go.Proofs.YtfglkpcboodllaaGreatDoor
open Go.RowKit

def endsN : List Int := [-9223372036854775808, -1, 0, 1, 2, 3, 1099511627776, 1099511627777, 9223372036854775807]
theorem endsN_at {i : Nat} (h : i < 9) : ∃ x, endsN[i]? = some x := ⟨_, List.getElem?_eq_getElem (show i < endsN.length from h)⟩
theorem endsN_cell {w : World} {g i : Nat} {x : Int} (h : Box w g #[.int .i64 (-9223372036854775808), .int .i64 (-1), .int .i64 0, .int .i64 1, .int .i64 2, .int .i64 3, .int .i64 1099511627776, .int .i64 1099511627777, .int .i64 9223372036854775807] 3) (hx : endsN[i]? = some x) : w.cell? ⟨g, i, none⟩ = some (.int .i64 x) := by
  rw [h.cell]
  have : i < 9 := (List.getElem?_eq_some_iff.1 hx).1
  rcases (by omega : i = 0 ∨ i = 1 ∨ i = 2 ∨ i = 3 ∨ i = 4 ∨ i = 5 ∨ i = 6 ∨ i = 7 ∨ i = 8) with rfl | rfl | rfl | rfl | rfl | rfl | rfl | rfl | rfl <;> (simp [endsN] at hx; subst hx; rfl)

def endsM : List Int := [-1, 0, 1, 2, 6, 7, 8, 256, 257]
theorem endsM_at {i : Nat} (h : i < 9) : ∃ x, endsM[i]? = some x := ⟨_, List.getElem?_eq_getElem (show i < endsM.length from h)⟩
theorem endsM_cell {w : World} {g i : Nat} {x : Int} (h : Box w g #[.int .i64 (-1), .int .i64 0, .int .i64 1, .int .i64 2, .int .i64 6, .int .i64 7, .int .i64 8, .int .i64 256, .int .i64 257] 3) (hx : endsM[i]? = some x) : w.cell? ⟨g, i, none⟩ = some (.int .i64 x) := by
  rw [h.cell]
  have : i < 9 := (List.getElem?_eq_some_iff.1 hx).1
  rcases (by omega : i = 0 ∨ i = 1 ∨ i = 2 ∨ i = 3 ∨ i = 4 ∨ i = 5 ∨ i = 6 ∨ i = 7 ∨ i = 8) with rfl | rfl | rfl | rfl | rfl | rfl | rfl | rfl | rfl <;> (simp [endsM] at hx; subst hx; rfl)
theorem u8_wrap_in (x : Int) : 0 ≤ IntKind.u8.wrap x ∧ IntKind.u8.wrap x ≤ 255 := by
  have h : IntKind.u8.wrap x = x % 256 := rfl
  rw [h]; omega
theorem u8InfoE : (Tryz.prog.info? 5).map (fun i => (i.zero, i.size, i.bytes)) = some (some (.int .u8 0), 1, 1) := by kernel_rfl
/-- 'make([]byte, k)' at a step of a region that draws. -/
theorem step_make_u8 {w : World} {ops : Array Oper} {o : Oper} {a : Act} {K : Act → World → Prop} {Q : Exit → Act → World → Prop} {E : Prop} (hgd : o.guard = none) (l c : Operand)
    (ho : o.op = Op.makeSlice 26 l c) (k : Nat) (hl : a.eval l = .int .i64 (k : Int)) (hc : a.eval c = .int .i64 (k : Int)) (hk : k ≤ 1000000)
    (h : K (a.put o.dst (.slice (some ⟨w.heap.size, 0, none⟩) k k)) (w.alloc (.cells (madeCells #[.int .u8 0] k) 5))) :
    if Region.wanted o (yielded ops a.tmps) = true then Oper.wp Tryz.prog o a w K Q else E := by
  have hw : Region.wanted o (yielded ops a.tmps) = true := by simp [Region.wanted, hgd]
  rw [if_pos hw]
  have hrun := run_make_row' (P := Tryz.prog) 26 5 _ 1 Tryz.underlying26 u8InfoE rfl .i64 .i64 k (by omega) (by omega) w
  unfold Oper.wp
  simp [execOp, ho, hl, hc, hrun, Result.andThen]
  exact h
theorem Box.use {w : World} {n : Nat} {cs : Array Value} {t : TypeId} {p : Prop} (h : Box w n cs t) (f : (∀ i, w.cell? ⟨n, i, none⟩ = cs[i]?) → (∀ i, w.frozen? ⟨n, i, none⟩ = false) → n < w.heap.size → Box w n cs t → p) : p := f h.cell h.free h.lt h
theorem zeros_sl {w : World} {n k : Nat} (h : Box w n (madeCells #[.int .u8 0] k) 5) (hk : k ≤ 1000) : Sl 1 u8Row w.heap.size w (.slice (some ⟨n, 0, none⟩) k k) (List.replicate k 0) := by
  have hs := Box.sl u8Row_length (List.replicate k 0) h (by
    apply Array.ext'
    rw [toList_madeCells_one]
    clear h hk
    induction k with
    | zero => rfl
    | succ k ih => simp only [List.replicate_succ, List.flatMap_cons]; rw [ih]; rfl) (by unfold maxLen; simp; omega)
  simpa using hs
theorem b4_at {r k : Nat} (h : [0, 1, 200, 201][r]? = some k) : #[(.int .i64 0 : Value), .int .i64 1, .int .i64 200, .int .i64 201][r]? = some (.int .i64 (k : Int)) := by
  have : r < 4 := (List.getElem?_eq_some_iff.1 h).1
  rcases (by omega : r = 0 ∨ r = 1 ∨ r = 2 ∨ r = 3) with rfl | rfl | rfl | rfl <;> (simp at h; subst h; rfl)

set_option maxRecDepth 100000 in
set_option maxHeartbeats 40000000 in
theorem entryEnds (w : World) (hG : errTypeIs w) : Calls Tryz.prog 3 #[] w fun e w' => e = .returned (.bool true) ∧ Below w.heap.size w w' := by
  have HG := Lib.hid hG
  clear hG
  have HX0 := Lib.hid (Box.new w #[.int .i64 (-9223372036854775808), .int .i64 (-1), .int .i64 0, .int .i64 1, .int .i64 2, .int .i64 3, .int .i64 1099511627776, .int .i64 1099511627777, .int .i64 9223372036854775807] 3)
  have HB0 := Lib.hid (below_new w (.cells #[.int .i64 (-9223372036854775808), .int .i64 (-1), .int .i64 0, .int .i64 1, .int .i64 2, .int .i64 3, .int .i64 1099511627776, .int .i64 1099511627777, .int .i64 9223372036854775807] 3))
  obtain ⟨gn, hgn⟩ : ∃ g, g = w.heap.size := ⟨_, rfl⟩
  obtain ⟨W, hW⟩ : ∃ W, W = w.alloc (.cells #[.int .i64 (-9223372036854775808), .int .i64 (-1), .int .i64 0, .int .i64 1, .int .i64 2, .int .i64 3, .int .i64 1099511627776, .int .i64 1099511627777, .int .i64 9223372036854775807] 3) := ⟨_, rfl⟩
  have HE := Lib.hid hW
  have HN := Lib.hid hgn
  rw [← hgn, ← hW] at HX0
  rw [← hW] at HB0
  clear hW hgn
  go_enter Tryz.func3, Tryz.ntmps3
  go_wp2_with fail
  rw [← HE.out, ← HN.out]
  go_loopw [2] (fun i wr => ∃ a : Nat, a ≤ 9 ∧ i = .int .i64 (a : Int) ∧ Below W.heap.size W wr) (fun i _ => 10 - (intOf i).toNat)
  case atStart => exact ⟨0, by omega, rfl, Below.refl _ _⟩
  case round =>
    obtain ⟨a, ha, rfl, hBa⟩ := hrel
    have HBa := Lib.hid hBa
    clear hBa
    have i0 : (0 : Int) ≤ (a : Int) := by omega
    by_cases hlt : a < 9
    · have i1 : (a : Int) < 9 := by omega
      have d0 : decide ((a : Int) < 9) = true := decide_eq_true i1
      obtain ⟨x, hx⟩ := endsN_at hlt
      have HX := Lib.hid hx
      clear hx
      go_wp2_with fail
      go_loopw [3] (fun i wr => ∃ c : Nat, c ≤ 9 ∧ i = .int .i64 (c : Int) ∧ Below W.heap.size W wr) (fun i _ => 10 - (intOf i).toNat)
      case atStart => exact ⟨0, by omega, rfl, HBa.out⟩
      case round =>
        obtain ⟨c, hc, rfl, hBc⟩ := hrel
        have HBc := Lib.hid hBc
        clear hBc HBa
        have k0 : (0 : Int) ≤ (c : Int) := by omega
        by_cases hlc : c < 9
        · have k1 : (c : Int) < 9 := by omega
          have e0 : decide ((c : Int) < 9) = true := decide_eq_true k1
          obtain ⟨y, hy⟩ := endsN_at hlc
          have HY := Lib.hid hy
          clear hy
          obtain ⟨V, hV⟩ : ∃ z, z = wr := ⟨_, rfl⟩
          rw [← hV] at HBc
          rw [← hV]
          clear hV
          have HFR : Hid (∀ w', Below V.heap.size V w' → w'.cell? ⟨gn, a, none⟩ = some (.int .i64 x) ∧ w'.cell? ⟨gn, c, none⟩ = some (.int .i64 y) ∧ Below V.heap.size V w') := fun w' h => ⟨endsN_cell ((HX0.out.later HBc.out).later h) HX.out, endsN_cell ((HX0.out.later HBc.out).later h) HY.out, h⟩
          go_upto_region 8 with fail
          go_cut [4, 5] (fun u1 u2 wx => ∃ gp gq, u1 = .pointer (some ⟨gp, 0, none⟩) ∧ u2 = .pointer (some ⟨gq, 0, none⟩) ∧ Box wx gp #[.int .i64 x, .int .i64 y, .int .i64 0] 25 ∧ Box wx gq #[.int .i64 y, .int .i64 x, .int .i64 0] 25 ∧ Below V.heap.size V wx)
          case first =>
            go_region_held3 (fun w' => w'.cell? ⟨gn, a, none⟩ = some (.int .i64 x) ∧ w'.cell? ⟨gn, c, none⟩ = some (.int .i64 y) ∧ Below V.heap.size V w')
              (first | (refine HFR.out _ ?_; ((repeat (first | (with_reducible refine Below.drew ?_) | (with_reducible refine Below.alloc ?_ (by first | omega | (simp; done) | (simp; omega)) _) | (with_reducible refine below_set ?_ (by first | omega | (simp; done) | (simp; omega))))); first | exact hv4 | exact hv | exact Below.refl _ _)))
              (fail)
            all_goals (go_wp2_with fail; go_meet)
            all_goals (refine ⟨_, _, rfl, rfl, ?_, ?_, ?_⟩; (focus (repeat (first | (with_reducible refine Box.drew_ ?_) | ((with_reducible refine Box.at_ _ ?_); (simp; done)) | (with_reducible refine Box.alloc ?_ _) | (with_reducible refine Box.set3 ?_ _ _ _) | (with_reducible refine Box.set4 ?_ _ _ _ _) | ((with_reducible refine Box.far ?_ ?_ _); rotate_left; focus (first | (simp; done) | (simp; omega))) | (with_reducible exact Box.set4 bz _ _ _ _) | (with_reducible refine Box.later ?_ hb)))); (focus (repeat (first | (with_reducible refine Box.drew_ ?_) | ((with_reducible refine Box.at_ _ ?_); (simp; done)) | (with_reducible refine Box.alloc ?_ _) | (with_reducible refine Box.set3 ?_ _ _ _) | (with_reducible refine Box.set4 ?_ _ _ _ _) | ((with_reducible refine Box.far ?_ ?_ _); rotate_left; focus (first | (simp; done) | (simp; omega))) | (with_reducible exact Box.set4 bz _ _ _ _) | (with_reducible refine Box.later ?_ hb)))); (focus ((repeat (first | (with_reducible refine Below.drew ?_) | (with_reducible refine Below.alloc ?_ (by first | omega | (simp; done) | (simp; omega)) _) | (with_reducible refine below_set ?_ (by first | omega | (simp; done) | (simp; omega))))); first | exact hv4 | exact hv | exact Below.refl _ _)))
          case rest =>
            obtain ⟨gp, gq, rfl, rfl, bp, bq, hB⟩ := hcut
            obtain ⟨U, hU⟩ : ∃ z, z = wc := ⟨_, rfl⟩
            rw [← hU] at bp bq hB
            rw [← hU]
            have HP := Lib.hid bp
            have HQ := Lib.hid bq
            have HBU := Lib.hid (below_call HBc.out hB)
            clear hU bp bq hB HFR
            go_wp2_with fail
            go_loopw [6] (fun i wr => ∃ n : Nat, n ≤ 60 ∧ i = .int .i64 (n : Int) ∧ Below U.heap.size U wr) (fun i _ => 61 - (intOf i).toNat)
            case atStart => exact ⟨0, by omega, rfl, Below.refl _ _⟩
            case round =>
              obtain ⟨n, hn, rfl, hBn⟩ := hrel
              have HBn := Lib.hid hBn
              clear hBn
              have n0 : (0 : Int) ≤ (n : Int) := by omega
              by_cases hln : n < 60
              · have n1 : (n : Int) < 60 := by omega
                have e1 : decide ((n : Int) < 60) = true := decide_eq_true n1
                obtain ⟨V, hV⟩ : ∃ z, z = wr := ⟨_, rfl⟩
                rw [← hV] at HBn
                rw [← hV]
                clear hV
                have HBV := Lib.hid (below_call HBU.out HBn.out)
                have HFR : Hid (∀ w', Below V.heap.size V w' → w'.cell? ⟨gn, a, none⟩ = some (.int .i64 x) ∧ w'.cell? ⟨gn, c, none⟩ = some (.int .i64 y) ∧ Below V.heap.size V w') := fun w' h => ⟨endsN_cell ((HX0.out.later HBV.out).later h) HX.out, endsN_cell ((HX0.out.later HBV.out).later h) HY.out, h⟩
                go_upto_region 12 with fail
                go_cut [7] (fun u1 wx => ∃ (gx : Nat) (x1 x2 x3 : Int) (ga k : Nat), u1 = .pointer (some ⟨gx, 0, none⟩) ∧ k ≤ 201 ∧ Box wx gx #[.int .i64 x1, .int .i64 x2, .int .i64 x3, .slice (some ⟨ga, 0, none⟩) k k] 28 ∧ Sl 1 u8Row wx.heap.size wx (.slice (some ⟨ga, 0, none⟩) k k) (List.replicate k 0) ∧ Below V.heap.size V wx)
                case first =>
                  obtain ⟨r, hr4, hr⟩ : ∃ r : Nat, r < 4 ∧ (n : Int).tmod 4 = (r : Int) := ⟨n % 4, Nat.mod_lt _ (by omega), rfl⟩
                  obtain ⟨k, hk⟩ : ∃ k, [0, 1, 200, 201][r]? = some k := ⟨_, List.getElem?_eq_getElem (show r < [0, 1, 200, 201].length from hr4)⟩
                  have hk2 : k ≤ 201 := by
                    have := List.mem_of_getElem? hk
                    simp at this; omega
                  have hkc := b4_at hk
                  have r0 : (0 : Int) ≤ (r : Int) := by omega
                  have r1 : (r : Int) < 4 := by omega
                  have ca : (V.alloc (.cells #[.int .i64 0, .int .i64 1, .int .i64 200, .int .i64 201] 3)).drew.cell? ⟨V.heap.size, r, none⟩ = some (.int .i64 (k : Int)) := ((Box.new V #[.int .i64 0, .int .i64 1, .int .i64 200, .int .i64 201] 3).cell r).trans hkc
                  have cb : ((V.alloc (.cells #[.int .i64 0, .int .i64 1, .int .i64 200, .int .i64 201] 3)).alloc (.cells #[.int .i64 0, .int .i64 0, .int .i64 0, .slice none 0 0] 28)).drew.cell? ⟨V.heap.size, r, none⟩ = some (.int .i64 (k : Int)) := (((Box.new V #[.int .i64 0, .int .i64 1, .int .i64 200, .int .i64 201] 3).alloc _).cell r).trans hkc
                  have cc : ((V.alloc (.cells #[.int .i64 0, .int .i64 0, .int .i64 0, .slice none 0 0] 28)).alloc (.cells #[.int .i64 0, .int .i64 1, .int .i64 200, .int .i64 201] 3)).drew.cell? ⟨V.heap.size + 1, r, none⟩ = some (.int .i64 (k : Int)) := by
                    have h := ((Box.new (V.alloc (.cells #[.int .i64 0, .int .i64 0, .int .i64 0, .slice none 0 0] 28)) #[.int .i64 0, .int .i64 1, .int .i64 200, .int .i64 201] 3).cell r).trans hkc
                    rw [World.size_alloc] at h
                    exact h
                  clear hk hkc
                  refine wp_region_held_drew (S := fun w' => w'.cell? ⟨gn, a, none⟩ = some (.int .i64 x) ∧ w'.cell? ⟨gn, c, none⟩ = some (.int .i64 y) ∧ Below V.heap.size V w') (by kernel_rfl) (HFR.out _ (Below.refl _ _).drew) (fun hHeld => ?_)
                  first
                    | (refine wpAnyH_take (i := 0) (v := ?_) rfl (by kernel_rfl) (by kernel_rfl) (by kernel_rfl) (fun _ _ _ h => h) (Or.inl ⟨?_, ?_⟩) (by assumption) ?_; rotate_left; (focus rfl); (focus (intro w hSw; go_split_ands; go_simp; try with_reducible rfl)); skip)
                    | (refine wpAnyH_take (i := 0) (v := undef) rfl (by kernel_rfl) (by kernel_rfl) (by kernel_rfl) (fun _ _ _ h => h) (Or.inr ⟨?_, rfl⟩) (by assumption) ?_; (focus rfl))
                  try simp only [Act.put, List.setIfInBounds_toArray, List.set_cons_zero, List.set_cons_succ, List.getElem_toArray, List.getElem_cons_zero, List.getElem_cons_succ]
                  first
                    | (refine wpAnyH_take (i := 1) (v := ?_) rfl (by kernel_rfl) (by kernel_rfl) (by kernel_rfl) (fun _ _ _ h => h) (Or.inl ⟨?_, ?_⟩) (by assumption) ?_; rotate_left; (focus rfl); (focus (intro w hSw; go_split_ands; go_simp; try with_reducible rfl)); skip)
                    | (refine wpAnyH_take (i := 1) (v := undef) rfl (by kernel_rfl) (by kernel_rfl) (by kernel_rfl) (fun _ _ _ h => h) (Or.inr ⟨?_, rfl⟩) (by assumption) ?_; (focus rfl))
                  try simp only [Act.put, List.setIfInBounds_toArray, List.set_cons_zero, List.set_cons_succ, List.getElem_toArray, List.getElem_cons_zero, List.getElem_cons_succ]
                  first
                    | (refine wpAnyH_take (i := 2) (v := ?_) rfl (by kernel_rfl) (by kernel_rfl) (by kernel_rfl) (fun _ _ _ h => h) (Or.inl ⟨?_, ?_⟩) (by assumption) ?_; rotate_left; (focus rfl); (focus (intro w hSw; go_split_ands; go_simp; try with_reducible rfl)); skip)
                    | (refine wpAnyH_take (i := 2) (v := undef) rfl (by kernel_rfl) (by kernel_rfl) (by kernel_rfl) (fun _ _ _ h => h) (Or.inr ⟨?_, rfl⟩) (by assumption) ?_; (focus rfl))
                  try simp only [Act.put, List.setIfInBounds_toArray, List.set_cons_zero, List.set_cons_succ, List.getElem_toArray, List.getElem_cons_zero, List.getElem_cons_succ]
                  first
                    | (refine wpAnyH_take (i := 3) (v := ?_) rfl (by kernel_rfl) (by kernel_rfl) (by kernel_rfl) (fun _ _ _ h => h) (Or.inl ⟨?_, ?_⟩) (by assumption) ?_; rotate_left; (focus rfl); (focus (intro w hSw; go_split_ands; go_simp; try with_reducible rfl)); skip)
                    | (refine wpAnyH_take (i := 3) (v := undef) rfl (by kernel_rfl) (by kernel_rfl) (by kernel_rfl) (fun _ _ _ h => h) (Or.inr ⟨?_, rfl⟩) (by assumption) ?_; (focus rfl))
                  try simp only [Act.put, List.setIfInBounds_toArray, List.set_cons_zero, List.set_cons_succ, List.getElem_toArray, List.getElem_cons_zero, List.getElem_cons_succ]
                  first
                    | (refine wpAnyH_take (i := 4) (v := ?_) rfl (by kernel_rfl) (by kernel_rfl) (by kernel_rfl) (fun _ _ _ h => h) (Or.inl ⟨?_, ?_⟩) (by assumption) ?_; rotate_left; (focus rfl); (focus (intro w hSw; go_split_ands; go_simp; try with_reducible rfl)); skip)
                    | (refine wpAnyH_take (i := 4) (v := undef) rfl (by kernel_rfl) (by kernel_rfl) (by kernel_rfl) (fun _ _ _ h => h) (Or.inr ⟨?_, rfl⟩) (by assumption) ?_; (focus rfl))
                  try simp only [Act.put, List.setIfInBounds_toArray, List.set_cons_zero, List.set_cons_succ, List.getElem_toArray, List.getElem_cons_zero, List.getElem_cons_succ]
                  first
                    | (refine wpAnyH_take (i := 5) (v := ?_) rfl (by kernel_rfl) (by kernel_rfl) (by kernel_rfl) (fun _ _ _ h => h) (Or.inl ⟨?_, ?_⟩) (by assumption) ?_; rotate_left; (focus rfl); (focus (intro w hSw; go_split_ands; go_simp; try with_reducible rfl)); skip)
                    | (refine wpAnyH_take (i := 5) (v := undef) rfl (by kernel_rfl) (by kernel_rfl) (by kernel_rfl) (fun _ _ _ h => h) (Or.inr ⟨?_, rfl⟩) (by assumption) ?_; (focus rfl))
                  try simp only [Act.put, List.setIfInBounds_toArray, List.set_cons_zero, List.set_cons_succ, List.getElem_toArray, List.getElem_cons_zero, List.getElem_cons_succ]
                  first
                    | (refine wpAnyH_take (i := 6) (v := ?_) rfl (by kernel_rfl) (by kernel_rfl) (by kernel_rfl) (fun _ _ _ h => h) (Or.inl ⟨?_, ?_⟩) (by assumption) ?_; rotate_left; (focus rfl); (focus (intro w hSw; go_split_ands; go_simp; try with_reducible rfl)); skip)
                    | (refine wpAnyH_take (i := 6) (v := undef) rfl (by kernel_rfl) (by kernel_rfl) (by kernel_rfl) (fun _ _ _ h => h) (Or.inr ⟨?_, rfl⟩) (by assumption) ?_; (focus rfl))
                  try simp only [Act.put, List.setIfInBounds_toArray, List.set_cons_zero, List.set_cons_succ, List.getElem_toArray, List.getElem_cons_zero, List.getElem_cons_succ]
                  first
                    | (refine wpAnyH_take (i := 7) (v := ?_) rfl (by kernel_rfl) (by kernel_rfl) (by kernel_rfl) (fun _ _ _ h => h) (Or.inl ⟨?_, ?_⟩) (by assumption) ?_; rotate_left; (focus rfl); (focus (intro w hSw; go_split_ands; go_simp; try with_reducible rfl)); skip)
                    | (refine wpAnyH_take (i := 7) (v := undef) rfl (by kernel_rfl) (by kernel_rfl) (by kernel_rfl) (fun _ _ _ h => h) (Or.inr ⟨?_, rfl⟩) (by assumption) ?_; (focus rfl))
                  try simp only [Act.put, List.setIfInBounds_toArray, List.set_cons_zero, List.set_cons_succ, List.getElem_toArray, List.getElem_cons_zero, List.getElem_cons_succ]
                  first
                    | (refine wpAnyH_take (i := 8) (v := ?_) rfl (by kernel_rfl) (by kernel_rfl) (by kernel_rfl) (fun _ _ _ h => h) (Or.inl ⟨?_, ?_⟩) (by assumption) ?_; rotate_left; (focus rfl); (focus (intro w hSw; go_split_ands; go_simp; try with_reducible rfl)); skip)
                    | (refine wpAnyH_take (i := 8) (v := undef) rfl (by kernel_rfl) (by kernel_rfl) (by kernel_rfl) (fun _ _ _ h => h) (Or.inr ⟨?_, rfl⟩) (by assumption) ?_; (focus rfl))
                  try simp only [Act.put, List.setIfInBounds_toArray, List.set_cons_zero, List.set_cons_succ, List.getElem_toArray, List.getElem_cons_zero, List.getElem_cons_succ]
                  first
                    | (refine wpAnyH_take (i := 9) (v := ?_) rfl (by kernel_rfl) (by kernel_rfl) (by kernel_rfl) (fun _ _ _ h => h) (Or.inl ⟨?_, ?_⟩) (by assumption) ?_; rotate_left; (focus rfl); (focus (intro w hSw; go_split_ands; go_simp; try with_reducible rfl)); skip)
                    | (refine wpAnyH_take (i := 9) (v := undef) rfl (by kernel_rfl) (by kernel_rfl) (by kernel_rfl) (fun _ _ _ h => h) (Or.inr ⟨?_, rfl⟩) (by assumption) ?_; (focus rfl))
                  try simp only [Act.put, List.setIfInBounds_toArray, List.set_cons_zero, List.set_cons_succ, List.getElem_toArray, List.getElem_cons_zero, List.getElem_cons_succ]
                  first
                    | (refine wpAnyH_take (i := 10) (v := ?_) rfl (by kernel_rfl) (by kernel_rfl) (by kernel_rfl) (fun _ _ _ h => h) (Or.inl ⟨?_, ?_⟩) (by assumption) ?_; rotate_left; (focus rfl); (focus (intro w hSw; go_split_ands; go_simp; try with_reducible rfl)); skip)
                    | (refine wpAnyH_take (i := 10) (v := undef) rfl (by kernel_rfl) (by kernel_rfl) (by kernel_rfl) (fun _ _ _ h => h) (Or.inr ⟨?_, rfl⟩) (by assumption) ?_; (focus rfl))
                  try simp only [Act.put, List.setIfInBounds_toArray, List.set_cons_zero, List.set_cons_succ, List.getElem_toArray, List.getElem_cons_zero, List.getElem_cons_succ]
                  first
                    | (refine wpAnyH_take (i := 11) (v := ?_) rfl (by kernel_rfl) (by kernel_rfl) (by kernel_rfl) (fun _ _ _ h => h) (Or.inl ⟨?_, ?_⟩) (by assumption) ?_; rotate_left; (focus rfl); (focus (intro w hSw; go_split_ands; go_simp; try with_reducible rfl)); skip)
                    | (refine wpAnyH_take (i := 11) (v := undef) rfl (by kernel_rfl) (by kernel_rfl) (by kernel_rfl) (fun _ _ _ h => h) (Or.inr ⟨?_, rfl⟩) (by assumption) ?_; (focus rfl))
                  try simp only [Act.put, List.setIfInBounds_toArray, List.set_cons_zero, List.set_cons_succ, List.getElem_toArray, List.getElem_cons_zero, List.getElem_cons_succ]
                  first
                    | (refine wpAnyH_take (i := 12) (v := ?_) rfl (by kernel_rfl) (by kernel_rfl) (by kernel_rfl) (fun _ _ _ h => h) (Or.inl ⟨?_, ?_⟩) (by assumption) ?_; rotate_left; (focus rfl); (focus (intro w hSw; go_split_ands; go_simp; try with_reducible rfl)); skip)
                    | (refine wpAnyH_take (i := 12) (v := undef) rfl (by kernel_rfl) (by kernel_rfl) (by kernel_rfl) (fun _ _ _ h => h) (Or.inr ⟨?_, rfl⟩) (by assumption) ?_; (focus rfl))
                  try simp only [Act.put, List.setIfInBounds_toArray, List.set_cons_zero, List.set_cons_succ, List.getElem_toArray, List.getElem_cons_zero, List.getElem_cons_succ]
                  first
                    | (refine wpAnyH_take (i := 13) (v := ?_) rfl (by kernel_rfl) (by kernel_rfl) (by kernel_rfl) (fun _ _ _ h => h) (Or.inl ⟨?_, ?_⟩) (by assumption) ?_; rotate_left; (focus rfl); (focus (intro w hSw; go_split_ands; go_simp; try with_reducible rfl)); skip)
                    | (refine wpAnyH_take (i := 13) (v := undef) rfl (by kernel_rfl) (by kernel_rfl) (by kernel_rfl) (fun _ _ _ h => h) (Or.inr ⟨?_, rfl⟩) (by assumption) ?_; (focus rfl))
                  try simp only [Act.put, List.setIfInBounds_toArray, List.set_cons_zero, List.set_cons_succ, List.getElem_toArray, List.getElem_cons_zero, List.getElem_cons_succ]
                  first
                    | (refine wpAnyH_take (i := 14) (v := ?_) rfl (by kernel_rfl) (by kernel_rfl) (by kernel_rfl) (fun _ _ _ h => h) (Or.inl ⟨?_, ?_⟩) (by assumption) ?_; rotate_left; (focus rfl); (focus (intro w hSw; go_split_ands; go_simp; try with_reducible rfl)); skip)
                    | (refine wpAnyH_take (i := 14) (v := undef) rfl (by kernel_rfl) (by kernel_rfl) (by kernel_rfl) (fun _ _ _ h => h) (Or.inr ⟨?_, rfl⟩) (by assumption) ?_; (focus rfl))
                  try simp only [Act.put, List.setIfInBounds_toArray, List.set_cons_zero, List.set_cons_succ, List.getElem_toArray, List.getElem_cons_zero, List.getElem_cons_succ]
                  first
                    | (refine wpAnyH_take (i := 15) (v := ?_) rfl (by kernel_rfl) (by kernel_rfl) (by kernel_rfl) (fun _ _ _ h => h) (Or.inl ⟨?_, ?_⟩) (by assumption) ?_; rotate_left; (focus rfl); (focus (intro w hSw; go_split_ands; go_simp; try with_reducible rfl)); skip)
                    | (refine wpAnyH_take (i := 15) (v := undef) rfl (by kernel_rfl) (by kernel_rfl) (by kernel_rfl) (fun _ _ _ h => h) (Or.inr ⟨?_, rfl⟩) (by assumption) ?_; (focus rfl))
                  try simp only [Act.put, List.setIfInBounds_toArray, List.set_cons_zero, List.set_cons_succ, List.getElem_toArray, List.getElem_cons_zero, List.getElem_cons_succ]
                  first
                    | (refine wpAnyH_take (i := 16) (v := ?_) rfl (by kernel_rfl) (by kernel_rfl) (by kernel_rfl) (fun _ _ _ h => h) (Or.inl ⟨?_, ?_⟩) (by assumption) ?_; rotate_left; (focus rfl); (focus (intro w hSw; go_split_ands; go_simp; try with_reducible rfl)); skip)
                    | (refine wpAnyH_take (i := 16) (v := undef) rfl (by kernel_rfl) (by kernel_rfl) (by kernel_rfl) (fun _ _ _ h => h) (Or.inr ⟨?_, rfl⟩) (by assumption) ?_; (focus rfl))
                  try simp only [Act.put, List.setIfInBounds_toArray, List.set_cons_zero, List.set_cons_succ, List.getElem_toArray, List.getElem_cons_zero, List.getElem_cons_succ]
                  first
                    | (refine wpAnyH_take (i := 17) (v := ?_) rfl (by kernel_rfl) (by kernel_rfl) (by kernel_rfl) (fun _ _ _ h => h) (Or.inl ⟨?_, ?_⟩) (by assumption) ?_; rotate_left; (focus rfl); (focus (intro w hSw; go_split_ands; go_simp; try with_reducible rfl)); skip)
                    | (refine wpAnyH_take (i := 17) (v := undef) rfl (by kernel_rfl) (by kernel_rfl) (by kernel_rfl) (fun _ _ _ h => h) (Or.inr ⟨?_, rfl⟩) (by assumption) ?_; (focus rfl))
                  try simp only [Act.put, List.setIfInBounds_toArray, List.set_cons_zero, List.set_cons_succ, List.getElem_toArray, List.getElem_cons_zero, List.getElem_cons_succ]
                  first
                    | (refine wpAnyH_take (i := 19) (v := ?_) rfl (by kernel_rfl) (by kernel_rfl) (by kernel_rfl) (fun _ _ _ h => h) (Or.inl ⟨?_, ?_⟩) (by assumption) ?_; rotate_left; (focus rfl); (focus (intro w hSw; go_split_ands; go_simp; try with_reducible rfl)); skip)
                    | (refine wpAnyH_take (i := 19) (v := undef) rfl (by kernel_rfl) (by kernel_rfl) (by kernel_rfl) (fun _ _ _ h => h) (Or.inr ⟨?_, rfl⟩) (by assumption) ?_; (focus rfl))
                  try simp only [Act.put, List.setIfInBounds_toArray, List.set_cons_zero, List.set_cons_succ, List.getElem_toArray, List.getElem_cons_zero, List.getElem_cons_succ]
                  first
                    | (refine wpAnyH_take (i := 20) (v := ?_) rfl (by kernel_rfl) (by kernel_rfl) (by kernel_rfl) (fun _ _ _ h => h) (Or.inl ⟨?_, ?_⟩) (by assumption) ?_; rotate_left; (focus rfl); (focus (intro w hSw; go_split_ands; go_simp; try with_reducible rfl)); skip)
                    | (refine wpAnyH_take (i := 20) (v := undef) rfl (by kernel_rfl) (by kernel_rfl) (by kernel_rfl) (fun _ _ _ h => h) (Or.inr ⟨?_, rfl⟩) (by assumption) ?_; (focus rfl))
                  try simp only [Act.put, List.setIfInBounds_toArray, List.set_cons_zero, List.set_cons_succ, List.getElem_toArray, List.getElem_cons_zero, List.getElem_cons_succ]
                  refine wpAnyH_ready (rs := [18, 25]) (by kernel_rfl) (by simp) ?_
                  refine AllReadyH.cons rfl (fun K hK => ?_) (AllReadyH.cons rfl (fun K hK => ?_) AllReadyH.nil)
                  · go_simp
                    refine hK.out _ _ (HFR.out _ (by ((repeat (first | (with_reducible refine Below.drew ?_) | (with_reducible refine Below.alloc ?_ (by first | omega | (simp; done) | (simp; omega)) _) | (with_reducible refine below_set ?_ (by first | omega | (simp; done) | (simp; omega))))); first | exact hv4 | exact hv | exact Below.refl _ _))) (fun hH => ?_)
                    clear hK K
                    try simp only [Act.put, List.setIfInBounds_toArray, List.set_cons_zero, List.set_cons_succ, List.getElem_toArray, List.getElem_cons_zero, List.getElem_cons_succ]
                    first
                      | (refine wpAnyH_take (i := 21) (v := ?_) rfl (by kernel_rfl) (by kernel_rfl) (by kernel_rfl) (fun _ _ _ h => h) (Or.inl ⟨?_, ?_⟩) (by assumption) ?_; rotate_left; (focus rfl); (focus (intro w hSw; go_split_ands; go_simp; try with_reducible rfl)); skip)
                      | (refine wpAnyH_take (i := 21) (v := undef) rfl (by kernel_rfl) (by kernel_rfl) (by kernel_rfl) (fun _ _ _ h => h) (Or.inr ⟨?_, rfl⟩) (by assumption) ?_; (focus rfl))
                    try simp only [Act.put, List.setIfInBounds_toArray, List.set_cons_zero, List.set_cons_succ, List.getElem_toArray, List.getElem_cons_zero, List.getElem_cons_succ]
                    refine wpAnyH_ready (rs := [22, 25]) (by kernel_rfl) (by simp) ?_
                    refine AllReadyH.cons rfl (fun K hK => ?_) (AllReadyH.cons rfl (fun K hK => ?_) AllReadyH.nil)
                    · go_simp
                      refine hK.out _ _ (HFR.out _ (by ((repeat (first | (with_reducible refine Below.drew ?_) | (with_reducible refine Below.alloc ?_ (by first | omega | (simp; done) | (simp; omega)) _) | (with_reducible refine below_set ?_ (by first | omega | (simp; done) | (simp; omega))))); first | exact hv4 | exact hv | exact Below.refl _ _))) (fun hH => ?_)
                      clear hK K
                      try simp only [Act.put, List.setIfInBounds_toArray, List.set_cons_zero, List.set_cons_succ, List.getElem_toArray, List.getElem_cons_zero, List.getElem_cons_succ]
                      refine wpAnyH_ready (rs := [23, 25]) (by kernel_rfl) (by simp) ?_
                      refine AllReadyH.cons rfl (fun K hK => ?_) (AllReadyH.cons rfl (fun K hK => ?_) AllReadyH.nil)
                      · refine step_make_u8 rfl _ _ rfl k rfl rfl (by omega) ?_
                        refine hK.out _ _ (HFR.out _ (by ((repeat (first | (with_reducible refine Below.drew ?_) | (with_reducible refine Below.alloc ?_ (by first | omega | (simp; done) | (simp; omega)) _) | (with_reducible refine below_set ?_ (by first | omega | (simp; done) | (simp; omega))))); first | exact hv4 | exact hv | exact Below.refl _ _))) (fun hH => ?_)
                        clear hK K
                        try simp only [Act.put, List.setIfInBounds_toArray, List.set_cons_zero, List.set_cons_succ, List.getElem_toArray, List.getElem_cons_zero, List.getElem_cons_succ]
                        refine wpAnyH_ready (rs := [24, 25]) (by kernel_rfl) (by simp) ?_
                        refine AllReadyH.cons rfl (fun K hK => ?_) (AllReadyH.cons rfl (fun K hK => ?_) AllReadyH.nil)
                        · go_simp
                          go_at_call 8
                          (with_reducible refine (ofLaw _ _ _ _ _ _ _).mono ?_)
                          rintro e w3 ⟨rfl, hb⟩
                          have hv : Below V.heap.size V w3 := below_call (by ((repeat (first | (with_reducible refine Below.drew ?_) | (with_reducible refine Below.alloc ?_ (by first | omega | (simp; done) | (simp; omega)) _) | (with_reducible refine below_set ?_ (by first | omega | (simp; done) | (simp; omega))))); first | exact hv4 | exact hv | exact Below.refl _ _)) hb
                          have hv0 : V.heap.size ≤ w3.heap.size := hv.size
                          go_wp2_with fail
                          refine hK.out _ _ (HFR.out _ (by ((repeat (first | (with_reducible refine Below.drew ?_) | (with_reducible refine Below.alloc ?_ (by first | omega | (simp; done) | (simp; omega)) _) | (with_reducible refine below_set ?_ (by first | omega | (simp; done) | (simp; omega))))); first | exact hv4 | exact hv | exact Below.refl _ _))) (fun hH => ?_)
                          clear hK K
                          try simp only [Act.put, List.setIfInBounds_toArray, List.set_cons_zero, List.set_cons_succ, List.getElem_toArray, List.getElem_cons_zero, List.getElem_cons_succ]
                          refine wpAnyH_ready (rs := [25]) (by kernel_rfl) (by simp) ?_
                          refine AllReadyH.cons rfl (fun K hK => ?_) AllReadyH.nil
                          go_simp
                          refine hK.out _ _ (HFR.out _ (by ((repeat (first | (with_reducible refine Below.drew ?_) | (with_reducible refine Below.alloc ?_ (by first | omega | (simp; done) | (simp; omega)) _) | (with_reducible refine below_set ?_ (by first | omega | (simp; done) | (simp; omega))))); first | exact hv4 | exact hv | exact Below.refl _ _))) (fun hH => ?_)
                          clear hK K
                          try simp only [Act.put, List.setIfInBounds_toArray, List.set_cons_zero, List.set_cons_succ, List.getElem_toArray, List.getElem_cons_zero, List.getElem_cons_succ]
                          refine wpAnyH_ready (rs := [26]) (by kernel_rfl) (by simp) ?_
                          refine AllReadyH.cons rfl (fun K hK => ?_) AllReadyH.nil
                          go_simp
                          refine hK.out _ _ (HFR.out _ (by ((repeat (first | (with_reducible refine Below.drew ?_) | (with_reducible refine Below.alloc ?_ (by first | omega | (simp; done) | (simp; omega)) _) | (with_reducible refine below_set ?_ (by first | omega | (simp; done) | (simp; omega))))); first | exact hv4 | exact hv | exact Below.refl _ _))) (fun hH => ?_)
                          clear hK K
                          try simp only [Act.put, List.setIfInBounds_toArray, List.set_cons_zero, List.set_cons_succ, List.getElem_toArray, List.getElem_cons_zero, List.getElem_cons_succ]
                          refine wpAnyH_done (by kernel_rfl) ?_ _
                          go_wp2_with fail
                          go_meet
                          refine ⟨_, IntKind.i64.wrap (x + (n : Int).tmod 2), IntKind.i64.wrap (y + (IntKind.i64.wrap ((n : Int) / 2)).tmod 2), (IntKind.i64.wrap ((n : Int) / 4)).tmod 5, V.heap.size + 1, k, rfl, hk2, ?_, ?_, ?_⟩
                          · (repeat (first | (with_reducible refine Box.drew_ ?_) | ((with_reducible refine Box.at_ _ ?_); (simp; done)) | (with_reducible refine Box.alloc ?_ _) | (with_reducible refine Box.set3 ?_ _ _ _) | (with_reducible refine Box.set4 ?_ _ _ _ _) | ((with_reducible refine Box.far ?_ ?_ _); rotate_left; focus (first | (simp; done) | (simp; omega))) | (with_reducible exact Box.set4 bz _ _ _ _) | (with_reducible refine Box.later ?_ hb)))
                          · refine zeros_sl ?_ (by omega)
                            (repeat (first | (with_reducible refine Box.drew_ ?_) | ((with_reducible refine Box.at_ _ ?_); (simp; done)) | (with_reducible refine Box.alloc ?_ _) | (with_reducible refine Box.set3 ?_ _ _ _) | (with_reducible refine Box.set4 ?_ _ _ _ _) | ((with_reducible refine Box.far ?_ ?_ _); rotate_left; focus (first | (simp; done) | (simp; omega))) | (with_reducible exact Box.set4 bz _ _ _ _) | (with_reducible refine Box.later ?_ hb)))
                          · ((repeat (first | (with_reducible refine Below.drew ?_) | (with_reducible refine Below.alloc ?_ (by first | omega | (simp; done) | (simp; omega)) _) | (with_reducible refine below_set ?_ (by first | omega | (simp; done) | (simp; omega))))); first | exact hv4 | exact hv | exact Below.refl _ _)
                        · go_simp
                          refine hK.out _ _ (HFR.out _ (by ((repeat (first | (with_reducible refine Below.drew ?_) | (with_reducible refine Below.alloc ?_ (by first | omega | (simp; done) | (simp; omega)) _) | (with_reducible refine below_set ?_ (by first | omega | (simp; done) | (simp; omega))))); first | exact hv4 | exact hv | exact Below.refl _ _))) (fun hH => ?_)
                          clear hK K
                          try simp only [Act.put, List.setIfInBounds_toArray, List.set_cons_zero, List.set_cons_succ, List.getElem_toArray, List.getElem_cons_zero, List.getElem_cons_succ]
                          refine wpAnyH_ready (rs := [24]) (by kernel_rfl) (by simp) ?_
                          refine AllReadyH.cons rfl (fun K hK => ?_) AllReadyH.nil
                          go_simp
                          go_at_call 8
                          (with_reducible refine (ofLaw _ _ _ _ _ _ _).mono ?_)
                          rintro e w3 ⟨rfl, hb⟩
                          have hv : Below V.heap.size V w3 := below_call (by ((repeat (first | (with_reducible refine Below.drew ?_) | (with_reducible refine Below.alloc ?_ (by first | omega | (simp; done) | (simp; omega)) _) | (with_reducible refine below_set ?_ (by first | omega | (simp; done) | (simp; omega))))); first | exact hv4 | exact hv | exact Below.refl _ _)) hb
                          have hv0 : V.heap.size ≤ w3.heap.size := hv.size
                          have bz : Box w3 (V.heap.size + 1 + 1) #[.int .i64 0, .int .i64 0, .int .i64 0, .slice none 0 0] 28 := by (repeat (first | (with_reducible refine Box.drew_ ?_) | ((with_reducible refine Box.at_ _ ?_); (simp; done)) | (with_reducible refine Box.alloc ?_ _) | (with_reducible refine Box.set3 ?_ _ _ _) | (with_reducible refine Box.set4 ?_ _ _ _ _) | ((with_reducible refine Box.far ?_ ?_ _); rotate_left; focus (first | (simp; done) | (simp; omega))) | (with_reducible exact Box.set4 bz _ _ _ _) | (with_reducible refine Box.later ?_ hb)))
                          obtain ⟨kz, fz, zz⟩ := bz.facts
                          go_wp2_with fail
                          refine hK.out _ _ (HFR.out _ (by ((repeat (first | (with_reducible refine Below.drew ?_) | (with_reducible refine Below.alloc ?_ (by first | omega | (simp; done) | (simp; omega)) _) | (with_reducible refine below_set ?_ (by first | omega | (simp; done) | (simp; omega))))); first | exact hv4 | exact hv | exact Below.refl _ _))) (fun hH => ?_)
                          clear hK K
                          try simp only [Act.put, List.setIfInBounds_toArray, List.set_cons_zero, List.set_cons_succ, List.getElem_toArray, List.getElem_cons_zero, List.getElem_cons_succ]
                          refine wpAnyH_ready (rs := [26]) (by kernel_rfl) (by simp) ?_
                          refine AllReadyH.cons rfl (fun K hK => ?_) AllReadyH.nil
                          go_simp
                          refine hK.out _ _ (HFR.out _ (by ((repeat (first | (with_reducible refine Below.drew ?_) | (with_reducible refine Below.alloc ?_ (by first | omega | (simp; done) | (simp; omega)) _) | (with_reducible refine below_set ?_ (by first | omega | (simp; done) | (simp; omega))))); first | exact hv4 | exact hv | exact Below.refl _ _))) (fun hH => ?_)
                          clear hK K
                          try simp only [Act.put, List.setIfInBounds_toArray, List.set_cons_zero, List.set_cons_succ, List.getElem_toArray, List.getElem_cons_zero, List.getElem_cons_succ]
                          refine wpAnyH_done (by kernel_rfl) ?_ _
                          go_wp2_with fail
                          go_meet
                          refine ⟨_, IntKind.i64.wrap (x + (n : Int).tmod 2), IntKind.i64.wrap (y + (IntKind.i64.wrap ((n : Int) / 2)).tmod 2), (IntKind.i64.wrap ((n : Int) / 4)).tmod 5, V.heap.size + 1, k, rfl, hk2, ?_, ?_, ?_⟩
                          · (repeat (first | (with_reducible refine Box.drew_ ?_) | ((with_reducible refine Box.at_ _ ?_); (simp; done)) | (with_reducible refine Box.alloc ?_ _) | (with_reducible refine Box.set3 ?_ _ _ _) | (with_reducible refine Box.set4 ?_ _ _ _ _) | ((with_reducible refine Box.far ?_ ?_ _); rotate_left; focus (first | (simp; done) | (simp; omega))) | (with_reducible exact Box.set4 bz _ _ _ _) | (with_reducible refine Box.later ?_ hb)))
                          · refine zeros_sl ?_ (by omega)
                            (repeat (first | (with_reducible refine Box.drew_ ?_) | ((with_reducible refine Box.at_ _ ?_); (simp; done)) | (with_reducible refine Box.alloc ?_ _) | (with_reducible refine Box.set3 ?_ _ _ _) | (with_reducible refine Box.set4 ?_ _ _ _ _) | ((with_reducible refine Box.far ?_ ?_ _); rotate_left; focus (first | (simp; done) | (simp; omega))) | (with_reducible exact Box.set4 bz _ _ _ _) | (with_reducible refine Box.later ?_ hb)))
                          · ((repeat (first | (with_reducible refine Below.drew ?_) | (with_reducible refine Below.alloc ?_ (by first | omega | (simp; done) | (simp; omega)) _) | (with_reducible refine below_set ?_ (by first | omega | (simp; done) | (simp; omega))))); first | exact hv4 | exact hv | exact Below.refl _ _)
                      · go_simp
                        refine hK.out _ _ (HFR.out _ (by ((repeat (first | (with_reducible refine Below.drew ?_) | (with_reducible refine Below.alloc ?_ (by first | omega | (simp; done) | (simp; omega)) _) | (with_reducible refine below_set ?_ (by first | omega | (simp; done) | (simp; omega))))); first | exact hv4 | exact hv | exact Below.refl _ _))) (fun hH => ?_)
                        clear hK K
                        try simp only [Act.put, List.setIfInBounds_toArray, List.set_cons_zero, List.set_cons_succ, List.getElem_toArray, List.getElem_cons_zero, List.getElem_cons_succ]
                        refine wpAnyH_ready (rs := [23]) (by kernel_rfl) (by simp) ?_
                        refine AllReadyH.cons rfl (fun K hK => ?_) AllReadyH.nil
                        refine step_make_u8 rfl _ _ rfl k rfl rfl (by omega) ?_
                        refine hK.out _ _ (HFR.out _ (by ((repeat (first | (with_reducible refine Below.drew ?_) | (with_reducible refine Below.alloc ?_ (by first | omega | (simp; done) | (simp; omega)) _) | (with_reducible refine below_set ?_ (by first | omega | (simp; done) | (simp; omega))))); first | exact hv4 | exact hv | exact Below.refl _ _))) (fun hH => ?_)
                        clear hK K
                        try simp only [Act.put, List.setIfInBounds_toArray, List.set_cons_zero, List.set_cons_succ, List.getElem_toArray, List.getElem_cons_zero, List.getElem_cons_succ]
                        refine wpAnyH_ready (rs := [24]) (by kernel_rfl) (by simp) ?_
                        refine AllReadyH.cons rfl (fun K hK => ?_) AllReadyH.nil
                        go_simp
                        go_at_call 8
                        (with_reducible refine (ofLaw _ _ _ _ _ _ _).mono ?_)
                        rintro e w3 ⟨rfl, hb⟩
                        have hv : Below V.heap.size V w3 := below_call (by ((repeat (first | (with_reducible refine Below.drew ?_) | (with_reducible refine Below.alloc ?_ (by first | omega | (simp; done) | (simp; omega)) _) | (with_reducible refine below_set ?_ (by first | omega | (simp; done) | (simp; omega))))); first | exact hv4 | exact hv | exact Below.refl _ _)) hb
                        have hv0 : V.heap.size ≤ w3.heap.size := hv.size
                        have bz : Box w3 (V.heap.size + 1) #[.int .i64 0, .int .i64 0, .int .i64 0, .slice none 0 0] 28 := by (repeat (first | (with_reducible refine Box.drew_ ?_) | ((with_reducible refine Box.at_ _ ?_); (simp; done)) | (with_reducible refine Box.alloc ?_ _) | (with_reducible refine Box.set3 ?_ _ _ _) | (with_reducible refine Box.set4 ?_ _ _ _ _) | ((with_reducible refine Box.far ?_ ?_ _); rotate_left; focus (first | (simp; done) | (simp; omega))) | (with_reducible exact Box.set4 bz _ _ _ _) | (with_reducible refine Box.later ?_ hb)))
                        obtain ⟨kz, fz, zz⟩ := bz.facts
                        go_wp2_with fail
                        refine hK.out _ _ (HFR.out _ (by ((repeat (first | (with_reducible refine Below.drew ?_) | (with_reducible refine Below.alloc ?_ (by first | omega | (simp; done) | (simp; omega)) _) | (with_reducible refine below_set ?_ (by first | omega | (simp; done) | (simp; omega))))); first | exact hv4 | exact hv | exact Below.refl _ _))) (fun hH => ?_)
                        clear hK K
                        try simp only [Act.put, List.setIfInBounds_toArray, List.set_cons_zero, List.set_cons_succ, List.getElem_toArray, List.getElem_cons_zero, List.getElem_cons_succ]
                        refine wpAnyH_ready (rs := [26]) (by kernel_rfl) (by simp) ?_
                        refine AllReadyH.cons rfl (fun K hK => ?_) AllReadyH.nil
                        go_simp
                        refine hK.out _ _ (HFR.out _ (by ((repeat (first | (with_reducible refine Below.drew ?_) | (with_reducible refine Below.alloc ?_ (by first | omega | (simp; done) | (simp; omega)) _) | (with_reducible refine below_set ?_ (by first | omega | (simp; done) | (simp; omega))))); first | exact hv4 | exact hv | exact Below.refl _ _))) (fun hH => ?_)
                        clear hK K
                        try simp only [Act.put, List.setIfInBounds_toArray, List.set_cons_zero, List.set_cons_succ, List.getElem_toArray, List.getElem_cons_zero, List.getElem_cons_succ]
                        refine wpAnyH_done (by kernel_rfl) ?_ _
                        go_wp2_with fail
                        go_meet
                        refine ⟨_, IntKind.i64.wrap (x + (n : Int).tmod 2), IntKind.i64.wrap (y + (IntKind.i64.wrap ((n : Int) / 2)).tmod 2), (IntKind.i64.wrap ((n : Int) / 4)).tmod 5, V.heap.size + 1 + 1, k, rfl, hk2, ?_, ?_, ?_⟩
                        · (repeat (first | (with_reducible refine Box.drew_ ?_) | ((with_reducible refine Box.at_ _ ?_); (simp; done)) | (with_reducible refine Box.alloc ?_ _) | (with_reducible refine Box.set3 ?_ _ _ _) | (with_reducible refine Box.set4 ?_ _ _ _ _) | ((with_reducible refine Box.far ?_ ?_ _); rotate_left; focus (first | (simp; done) | (simp; omega))) | (with_reducible exact Box.set4 bz _ _ _ _) | (with_reducible refine Box.later ?_ hb)))
                        · refine zeros_sl ?_ (by omega)
                          (repeat (first | (with_reducible refine Box.drew_ ?_) | ((with_reducible refine Box.at_ _ ?_); (simp; done)) | (with_reducible refine Box.alloc ?_ _) | (with_reducible refine Box.set3 ?_ _ _ _) | (with_reducible refine Box.set4 ?_ _ _ _ _) | ((with_reducible refine Box.far ?_ ?_ _); rotate_left; focus (first | (simp; done) | (simp; omega))) | (with_reducible exact Box.set4 bz _ _ _ _) | (with_reducible refine Box.later ?_ hb)))
                        · ((repeat (first | (with_reducible refine Below.drew ?_) | (with_reducible refine Below.alloc ?_ (by first | omega | (simp; done) | (simp; omega)) _) | (with_reducible refine below_set ?_ (by first | omega | (simp; done) | (simp; omega))))); first | exact hv4 | exact hv | exact Below.refl _ _)
                    · go_simp
                      refine hK.out _ _ (HFR.out _ (by ((repeat (first | (with_reducible refine Below.drew ?_) | (with_reducible refine Below.alloc ?_ (by first | omega | (simp; done) | (simp; omega)) _) | (with_reducible refine below_set ?_ (by first | omega | (simp; done) | (simp; omega))))); first | exact hv4 | exact hv | exact Below.refl _ _))) (fun hH => ?_)
                      clear hK K
                      try simp only [Act.put, List.setIfInBounds_toArray, List.set_cons_zero, List.set_cons_succ, List.getElem_toArray, List.getElem_cons_zero, List.getElem_cons_succ]
                      refine wpAnyH_ready (rs := [22]) (by kernel_rfl) (by simp) ?_
                      refine AllReadyH.cons rfl (fun K hK => ?_) AllReadyH.nil
                      go_simp
                      refine hK.out _ _ (HFR.out _ (by ((repeat (first | (with_reducible refine Below.drew ?_) | (with_reducible refine Below.alloc ?_ (by first | omega | (simp; done) | (simp; omega)) _) | (with_reducible refine below_set ?_ (by first | omega | (simp; done) | (simp; omega))))); first | exact hv4 | exact hv | exact Below.refl _ _))) (fun hH => ?_)
                      clear hK K
                      try simp only [Act.put, List.setIfInBounds_toArray, List.set_cons_zero, List.set_cons_succ, List.getElem_toArray, List.getElem_cons_zero, List.getElem_cons_succ]
                      refine wpAnyH_ready (rs := [23]) (by kernel_rfl) (by simp) ?_
                      refine AllReadyH.cons rfl (fun K hK => ?_) AllReadyH.nil
                      refine step_make_u8 rfl _ _ rfl k rfl rfl (by omega) ?_
                      refine hK.out _ _ (HFR.out _ (by ((repeat (first | (with_reducible refine Below.drew ?_) | (with_reducible refine Below.alloc ?_ (by first | omega | (simp; done) | (simp; omega)) _) | (with_reducible refine below_set ?_ (by first | omega | (simp; done) | (simp; omega))))); first | exact hv4 | exact hv | exact Below.refl _ _))) (fun hH => ?_)
                      clear hK K
                      try simp only [Act.put, List.setIfInBounds_toArray, List.set_cons_zero, List.set_cons_succ, List.getElem_toArray, List.getElem_cons_zero, List.getElem_cons_succ]
                      refine wpAnyH_ready (rs := [24]) (by kernel_rfl) (by simp) ?_
                      refine AllReadyH.cons rfl (fun K hK => ?_) AllReadyH.nil
                      go_simp
                      go_at_call 8
                      (with_reducible refine (ofLaw _ _ _ _ _ _ _).mono ?_)
                      rintro e w3 ⟨rfl, hb⟩
                      have hv : Below V.heap.size V w3 := below_call (by ((repeat (first | (with_reducible refine Below.drew ?_) | (with_reducible refine Below.alloc ?_ (by first | omega | (simp; done) | (simp; omega)) _) | (with_reducible refine below_set ?_ (by first | omega | (simp; done) | (simp; omega))))); first | exact hv4 | exact hv | exact Below.refl _ _)) hb
                      have hv0 : V.heap.size ≤ w3.heap.size := hv.size
                      have bz : Box w3 (V.heap.size + 1) #[.int .i64 0, .int .i64 0, .int .i64 0, .slice none 0 0] 28 := by (repeat (first | (with_reducible refine Box.drew_ ?_) | ((with_reducible refine Box.at_ _ ?_); (simp; done)) | (with_reducible refine Box.alloc ?_ _) | (with_reducible refine Box.set3 ?_ _ _ _) | (with_reducible refine Box.set4 ?_ _ _ _ _) | ((with_reducible refine Box.far ?_ ?_ _); rotate_left; focus (first | (simp; done) | (simp; omega))) | (with_reducible exact Box.set4 bz _ _ _ _) | (with_reducible refine Box.later ?_ hb)))
                      obtain ⟨kz, fz, zz⟩ := bz.facts
                      go_wp2_with fail
                      refine hK.out _ _ (HFR.out _ (by ((repeat (first | (with_reducible refine Below.drew ?_) | (with_reducible refine Below.alloc ?_ (by first | omega | (simp; done) | (simp; omega)) _) | (with_reducible refine below_set ?_ (by first | omega | (simp; done) | (simp; omega))))); first | exact hv4 | exact hv | exact Below.refl _ _))) (fun hH => ?_)
                      clear hK K
                      try simp only [Act.put, List.setIfInBounds_toArray, List.set_cons_zero, List.set_cons_succ, List.getElem_toArray, List.getElem_cons_zero, List.getElem_cons_succ]
                      refine wpAnyH_ready (rs := [26]) (by kernel_rfl) (by simp) ?_
                      refine AllReadyH.cons rfl (fun K hK => ?_) AllReadyH.nil
                      go_simp
                      refine hK.out _ _ (HFR.out _ (by ((repeat (first | (with_reducible refine Below.drew ?_) | (with_reducible refine Below.alloc ?_ (by first | omega | (simp; done) | (simp; omega)) _) | (with_reducible refine below_set ?_ (by first | omega | (simp; done) | (simp; omega))))); first | exact hv4 | exact hv | exact Below.refl _ _))) (fun hH => ?_)
                      clear hK K
                      try simp only [Act.put, List.setIfInBounds_toArray, List.set_cons_zero, List.set_cons_succ, List.getElem_toArray, List.getElem_cons_zero, List.getElem_cons_succ]
                      refine wpAnyH_done (by kernel_rfl) ?_ _
                      go_wp2_with fail
                      go_meet
                      refine ⟨_, IntKind.i64.wrap (x + (n : Int).tmod 2), IntKind.i64.wrap (y + (IntKind.i64.wrap ((n : Int) / 2)).tmod 2), (IntKind.i64.wrap ((n : Int) / 4)).tmod 5, V.heap.size + 1 + 1, k, rfl, hk2, ?_, ?_, ?_⟩
                      · (repeat (first | (with_reducible refine Box.drew_ ?_) | ((with_reducible refine Box.at_ _ ?_); (simp; done)) | (with_reducible refine Box.alloc ?_ _) | (with_reducible refine Box.set3 ?_ _ _ _) | (with_reducible refine Box.set4 ?_ _ _ _ _) | ((with_reducible refine Box.far ?_ ?_ _); rotate_left; focus (first | (simp; done) | (simp; omega))) | (with_reducible exact Box.set4 bz _ _ _ _) | (with_reducible refine Box.later ?_ hb)))
                      · refine zeros_sl ?_ (by omega)
                        (repeat (first | (with_reducible refine Box.drew_ ?_) | ((with_reducible refine Box.at_ _ ?_); (simp; done)) | (with_reducible refine Box.alloc ?_ _) | (with_reducible refine Box.set3 ?_ _ _ _) | (with_reducible refine Box.set4 ?_ _ _ _ _) | ((with_reducible refine Box.far ?_ ?_ _); rotate_left; focus (first | (simp; done) | (simp; omega))) | (with_reducible exact Box.set4 bz _ _ _ _) | (with_reducible refine Box.later ?_ hb)))
                      · ((repeat (first | (with_reducible refine Below.drew ?_) | (with_reducible refine Below.alloc ?_ (by first | omega | (simp; done) | (simp; omega)) _) | (with_reducible refine below_set ?_ (by first | omega | (simp; done) | (simp; omega))))); first | exact hv4 | exact hv | exact Below.refl _ _)
                  · go_simp
                    refine hK.out _ _ (HFR.out _ (by ((repeat (first | (with_reducible refine Below.drew ?_) | (with_reducible refine Below.alloc ?_ (by first | omega | (simp; done) | (simp; omega)) _) | (with_reducible refine below_set ?_ (by first | omega | (simp; done) | (simp; omega))))); first | exact hv4 | exact hv | exact Below.refl _ _))) (fun hH => ?_)
                    clear hK K
                    try simp only [Act.put, List.setIfInBounds_toArray, List.set_cons_zero, List.set_cons_succ, List.getElem_toArray, List.getElem_cons_zero, List.getElem_cons_succ]
                    refine wpAnyH_ready (rs := [18]) (by kernel_rfl) (by simp) ?_
                    refine AllReadyH.cons rfl (fun K hK => ?_) AllReadyH.nil
                    go_simp
                    refine hK.out _ _ (HFR.out _ (by ((repeat (first | (with_reducible refine Below.drew ?_) | (with_reducible refine Below.alloc ?_ (by first | omega | (simp; done) | (simp; omega)) _) | (with_reducible refine below_set ?_ (by first | omega | (simp; done) | (simp; omega))))); first | exact hv4 | exact hv | exact Below.refl _ _))) (fun hH => ?_)
                    clear hK K
                    try simp only [Act.put, List.setIfInBounds_toArray, List.set_cons_zero, List.set_cons_succ, List.getElem_toArray, List.getElem_cons_zero, List.getElem_cons_succ]
                    first
                      | (refine wpAnyH_take (i := 21) (v := ?_) rfl (by kernel_rfl) (by kernel_rfl) (by kernel_rfl) (fun _ _ _ h => h) (Or.inl ⟨?_, ?_⟩) (by assumption) ?_; rotate_left; (focus rfl); (focus (intro w hSw; go_split_ands; go_simp; try with_reducible rfl)); skip)
                      | (refine wpAnyH_take (i := 21) (v := undef) rfl (by kernel_rfl) (by kernel_rfl) (by kernel_rfl) (fun _ _ _ h => h) (Or.inr ⟨?_, rfl⟩) (by assumption) ?_; (focus rfl))
                    try simp only [Act.put, List.setIfInBounds_toArray, List.set_cons_zero, List.set_cons_succ, List.getElem_toArray, List.getElem_cons_zero, List.getElem_cons_succ]
                    refine wpAnyH_ready (rs := [22]) (by kernel_rfl) (by simp) ?_
                    refine AllReadyH.cons rfl (fun K hK => ?_) AllReadyH.nil
                    go_simp
                    refine hK.out _ _ (HFR.out _ (by ((repeat (first | (with_reducible refine Below.drew ?_) | (with_reducible refine Below.alloc ?_ (by first | omega | (simp; done) | (simp; omega)) _) | (with_reducible refine below_set ?_ (by first | omega | (simp; done) | (simp; omega))))); first | exact hv4 | exact hv | exact Below.refl _ _))) (fun hH => ?_)
                    clear hK K
                    try simp only [Act.put, List.setIfInBounds_toArray, List.set_cons_zero, List.set_cons_succ, List.getElem_toArray, List.getElem_cons_zero, List.getElem_cons_succ]
                    refine wpAnyH_ready (rs := [23]) (by kernel_rfl) (by simp) ?_
                    refine AllReadyH.cons rfl (fun K hK => ?_) AllReadyH.nil
                    refine step_make_u8 rfl _ _ rfl k rfl rfl (by omega) ?_
                    refine hK.out _ _ (HFR.out _ (by ((repeat (first | (with_reducible refine Below.drew ?_) | (with_reducible refine Below.alloc ?_ (by first | omega | (simp; done) | (simp; omega)) _) | (with_reducible refine below_set ?_ (by first | omega | (simp; done) | (simp; omega))))); first | exact hv4 | exact hv | exact Below.refl _ _))) (fun hH => ?_)
                    clear hK K
                    try simp only [Act.put, List.setIfInBounds_toArray, List.set_cons_zero, List.set_cons_succ, List.getElem_toArray, List.getElem_cons_zero, List.getElem_cons_succ]
                    refine wpAnyH_ready (rs := [24]) (by kernel_rfl) (by simp) ?_
                    refine AllReadyH.cons rfl (fun K hK => ?_) AllReadyH.nil
                    go_simp
                    go_at_call 8
                    (with_reducible refine (ofLaw _ _ _ _ _ _ _).mono ?_)
                    rintro e w3 ⟨rfl, hb⟩
                    have hv : Below V.heap.size V w3 := below_call (by ((repeat (first | (with_reducible refine Below.drew ?_) | (with_reducible refine Below.alloc ?_ (by first | omega | (simp; done) | (simp; omega)) _) | (with_reducible refine below_set ?_ (by first | omega | (simp; done) | (simp; omega))))); first | exact hv4 | exact hv | exact Below.refl _ _)) hb
                    have hv0 : V.heap.size ≤ w3.heap.size := hv.size
                    have bz : Box w3 (V.heap.size) #[.int .i64 0, .int .i64 0, .int .i64 0, .slice none 0 0] 28 := by (repeat (first | (with_reducible refine Box.drew_ ?_) | ((with_reducible refine Box.at_ _ ?_); (simp; done)) | (with_reducible refine Box.alloc ?_ _) | (with_reducible refine Box.set3 ?_ _ _ _) | (with_reducible refine Box.set4 ?_ _ _ _ _) | ((with_reducible refine Box.far ?_ ?_ _); rotate_left; focus (first | (simp; done) | (simp; omega))) | (with_reducible exact Box.set4 bz _ _ _ _) | (with_reducible refine Box.later ?_ hb)))
                    obtain ⟨kz, fz, zz⟩ := bz.facts
                    go_wp2_with fail
                    refine hK.out _ _ (HFR.out _ (by ((repeat (first | (with_reducible refine Below.drew ?_) | (with_reducible refine Below.alloc ?_ (by first | omega | (simp; done) | (simp; omega)) _) | (with_reducible refine below_set ?_ (by first | omega | (simp; done) | (simp; omega))))); first | exact hv4 | exact hv | exact Below.refl _ _))) (fun hH => ?_)
                    clear hK K
                    try simp only [Act.put, List.setIfInBounds_toArray, List.set_cons_zero, List.set_cons_succ, List.getElem_toArray, List.getElem_cons_zero, List.getElem_cons_succ]
                    refine wpAnyH_ready (rs := [26]) (by kernel_rfl) (by simp) ?_
                    refine AllReadyH.cons rfl (fun K hK => ?_) AllReadyH.nil
                    go_simp
                    refine hK.out _ _ (HFR.out _ (by ((repeat (first | (with_reducible refine Below.drew ?_) | (with_reducible refine Below.alloc ?_ (by first | omega | (simp; done) | (simp; omega)) _) | (with_reducible refine below_set ?_ (by first | omega | (simp; done) | (simp; omega))))); first | exact hv4 | exact hv | exact Below.refl _ _))) (fun hH => ?_)
                    clear hK K
                    try simp only [Act.put, List.setIfInBounds_toArray, List.set_cons_zero, List.set_cons_succ, List.getElem_toArray, List.getElem_cons_zero, List.getElem_cons_succ]
                    refine wpAnyH_done (by kernel_rfl) ?_ _
                    go_wp2_with fail
                    go_meet
                    refine ⟨_, IntKind.i64.wrap (x + (n : Int).tmod 2), IntKind.i64.wrap (y + (IntKind.i64.wrap ((n : Int) / 2)).tmod 2), (IntKind.i64.wrap ((n : Int) / 4)).tmod 5, V.heap.size + 1 + 1, k, rfl, hk2, ?_, ?_, ?_⟩
                    · (repeat (first | (with_reducible refine Box.drew_ ?_) | ((with_reducible refine Box.at_ _ ?_); (simp; done)) | (with_reducible refine Box.alloc ?_ _) | (with_reducible refine Box.set3 ?_ _ _ _) | (with_reducible refine Box.set4 ?_ _ _ _ _) | ((with_reducible refine Box.far ?_ ?_ _); rotate_left; focus (first | (simp; done) | (simp; omega))) | (with_reducible exact Box.set4 bz _ _ _ _) | (with_reducible refine Box.later ?_ hb)))
                    · refine zeros_sl ?_ (by omega)
                      (repeat (first | (with_reducible refine Box.drew_ ?_) | ((with_reducible refine Box.at_ _ ?_); (simp; done)) | (with_reducible refine Box.alloc ?_ _) | (with_reducible refine Box.set3 ?_ _ _ _) | (with_reducible refine Box.set4 ?_ _ _ _ _) | ((with_reducible refine Box.far ?_ ?_ _); rotate_left; focus (first | (simp; done) | (simp; omega))) | (with_reducible exact Box.set4 bz _ _ _ _) | (with_reducible refine Box.later ?_ hb)))
                    · ((repeat (first | (with_reducible refine Below.drew ?_) | (with_reducible refine Below.alloc ?_ (by first | omega | (simp; done) | (simp; omega)) _) | (with_reducible refine below_set ?_ (by first | omega | (simp; done) | (simp; omega))))); first | exact hv4 | exact hv | exact Below.refl _ _)
                case rest =>
                  obtain ⟨gx, x1, x2, x3, ga, k, rfl, hk2, bx, sx, hB⟩ := hcut
                  obtain ⟨X, hX⟩ : ∃ z, z = wc := ⟨_, rfl⟩
                  rw [← hX] at bx sx hB
                  rw [← hX]
                  obtain ⟨e, he⟩ : ∃ e : Ent, e = ⟨x1, x2, x3, some ⟨ga, 0, none⟩, k, List.replicate k 0⟩ := ⟨_, rfl⟩
                  have HBx := Lib.hid (show Box X gx #[.int .i64 e.idx, .int .i64 e.trm, .int .i64 e.knd, .slice e.ba e.bd.length e.bc] 28 by rw [he]; simpa using bx)
                  have HEx : Hid (EntIn X.heap.size X e ∧ e.bd.length ≤ 201) := ⟨⟨by rw [he]; simpa using sx, fun y hy => by rw [he] at hy; have := List.eq_of_mem_replicate hy; omega⟩, by rw [he]; simpa using hk2⟩
                  have HBX := Lib.hid hB
                  clear bx sx hB hX he hk2 HFR
                  have HFR : Hid (∀ w', Below X.heap.size X w' → w'.cell? ⟨gx, 0, none⟩ = some (.int .i64 e.idx) ∧ w'.cell? ⟨gx, 1, none⟩ = some (.int .i64 e.trm) ∧ Below X.heap.size X w') := fun w' h => ⟨(HBx.out.later h).cell 0, (HBx.out.later h).cell 1, h⟩
                  obtain ⟨r, hr4, hr⟩ : ∃ r : Nat, r < 4 ∧ (n : Int).tmod 4 = (r : Int) := ⟨n % 4, Nat.mod_lt _ (by omega), rfl⟩
                  have r0 : (0 : Int) ≤ (r : Int) := by omega
                  have r1 : (r : Int) ≤ 3 := by omega
                  have r2 : r ≤ 3 := by omega
                  go_upto_region 13 with fail
                  go_cut [8] (fun u1 wx => ∃ (gy : Nat) (y1 y2 : Int) (gb c9 : Nat), u1 = .pointer (some ⟨gy, 0, none⟩) ∧ c9 ≤ 255 ∧ Box wx gy #[.int .i64 y1, .int .i64 y2, .int .i64 3, .slice (some ⟨gb, 0, none⟩) r 3] 28 ∧ Box wx gb #[.int .u8 1, .int .u8 (c9 : Int), .int .u8 3] 5 ∧ Below X.heap.size X wx)
                  case first =>
                    obtain ⟨c9, hc9, hm9⟩ : ∃ c : Nat, c ≤ 255 ∧ (n : Int).tmod 9 = (c : Int) := ⟨n % 9, by have := Nat.mod_lt n (show 9 > 0 by omega); omega, rfl⟩
                    have hw9 : IntKind.u8.wrap (c9 : Int) = (c9 : Int) := (show IntKind.u8.wrap (c9 : Int) = (c9 : Int) % 256 from rfl).trans (by omega)
                    go_region_held3 (fun w' => w'.cell? ⟨gx, 0, none⟩ = some (.int .i64 e.idx) ∧ w'.cell? ⟨gx, 1, none⟩ = some (.int .i64 e.trm) ∧ Below X.heap.size X w')
                      (first | (refine HFR.out _ ?_; ((repeat (first | (with_reducible refine Below.drew ?_) | (with_reducible refine Below.alloc ?_ (by first | omega | (simp; done) | (simp; omega)) _) | (with_reducible refine below_set ?_ (by first | omega | (simp; done) | (simp; omega))))); first | exact hv4 | exact hv | exact Below.refl _ _)))
                      (first | (go_at_call 8; (with_reducible refine (ofLaw _ _ _ _ _ _ _).mono ?_); rintro e w3 ⟨rfl, hb⟩; have hv : Below X.heap.size X w3 := below_call (by ((repeat (first | (with_reducible refine Below.drew ?_) | (with_reducible refine Below.alloc ?_ (by first | omega | (simp; done) | (simp; omega)) _) | (with_reducible refine below_set ?_ (by first | omega | (simp; done) | (simp; omega))))); first | exact hv4 | exact hv | exact Below.refl _ _)) hb; have hv0 : X.heap.size ≤ w3.heap.size := hv.size; (first | (refine Box.use (w := w3) (n := X.heap.size) (cs := #[.int .i64 0, .int .i64 0, .int .i64 0, .slice none 0 0]) (t := 28) ?_ ?_; (focus ((repeat (first | (with_reducible refine Box.drew_ ?_) | ((with_reducible refine Box.at_ _ ?_); (simp; done)) | (with_reducible refine Box.alloc ?_ _) | (with_reducible refine Box.set3 ?_ _ _ _) | (with_reducible refine Box.set4 ?_ _ _ _ _) | ((with_reducible refine Box.far ?_ ?_ _); rotate_left; focus (first | (simp; done) | (simp; omega))) | (with_reducible exact Box.set4 bz _ _ _ _) | (with_reducible refine Box.later ?_ hb))); done)); intro kz fz zz bz) | (refine Box.use (w := w3) (n := X.heap.size + 1) (cs := #[.int .i64 0, .int .i64 0, .int .i64 0, .slice none 0 0]) (t := 28) ?_ ?_; (focus ((repeat (first | (with_reducible refine Box.drew_ ?_) | ((with_reducible refine Box.at_ _ ?_); (simp; done)) | (with_reducible refine Box.alloc ?_ _) | (with_reducible refine Box.set3 ?_ _ _ _) | (with_reducible refine Box.set4 ?_ _ _ _ _) | ((with_reducible refine Box.far ?_ ?_ _); rotate_left; focus (first | (simp; done) | (simp; omega))) | (with_reducible exact Box.set4 bz _ _ _ _) | (with_reducible refine Box.later ?_ hb))); done)); intro kz fz zz bz) | skip)))
                    all_goals (go_wp2_with fail; go_meet)
                    · refine ⟨w3.heap.size, IntKind.i64.wrap (e.idx + 1), IntKind.i64.wrap (IntKind.i64.wrap (e.trm + IntKind.i64.wrap ((n : Int) / 20)) - 1), X.heap.size, c9, rfl, hc9, ?_, ?_, ?_⟩
                      · (repeat (first | (with_reducible refine Box.drew_ ?_) | ((with_reducible refine Box.at_ _ ?_); (simp; done)) | (with_reducible refine Box.alloc ?_ _) | (with_reducible refine Box.set3 ?_ _ _ _) | (with_reducible refine Box.set4 ?_ _ _ _ _) | ((with_reducible refine Box.far ?_ ?_ _); rotate_left; focus (first | (simp; done) | (simp; omega))) | (with_reducible exact Box.set4 bz _ _ _ _) | (with_reducible refine Box.later ?_ hb)))
                      · (repeat (first | (with_reducible refine Box.drew_ ?_) | ((with_reducible refine Box.at_ _ ?_); (simp; done)) | (with_reducible refine Box.alloc ?_ _) | (with_reducible refine Box.set3 ?_ _ _ _) | (with_reducible refine Box.set4 ?_ _ _ _ _) | ((with_reducible refine Box.far ?_ ?_ _); rotate_left; focus (first | (simp; done) | (simp; omega))) | (with_reducible exact Box.set4 bz _ _ _ _) | (with_reducible refine Box.later ?_ hb)))
                      · ((repeat (first | (with_reducible refine Below.drew ?_) | (with_reducible refine Below.alloc ?_ (by first | omega | (simp; done) | (simp; omega)) _) | (with_reducible refine below_set ?_ (by first | omega | (simp; done) | (simp; omega))))); first | exact hv4 | exact hv | exact Below.refl _ _)
                    · refine ⟨X.heap.size + 1, IntKind.i64.wrap (e.idx + 1), IntKind.i64.wrap (IntKind.i64.wrap (e.trm + IntKind.i64.wrap ((n : Int) / 20)) - 1), X.heap.size, c9, rfl, hc9, ?_, ?_, ?_⟩
                      · (repeat (first | (with_reducible refine Box.drew_ ?_) | ((with_reducible refine Box.at_ _ ?_); (simp; done)) | (with_reducible refine Box.alloc ?_ _) | (with_reducible refine Box.set3 ?_ _ _ _) | (with_reducible refine Box.set4 ?_ _ _ _ _) | ((with_reducible refine Box.far ?_ ?_ _); rotate_left; focus (first | (simp; done) | (simp; omega))) | (with_reducible exact Box.set4 bz _ _ _ _) | (with_reducible refine Box.later ?_ hb)))
                      · (repeat (first | (with_reducible refine Box.drew_ ?_) | ((with_reducible refine Box.at_ _ ?_); (simp; done)) | (with_reducible refine Box.alloc ?_ _) | (with_reducible refine Box.set3 ?_ _ _ _) | (with_reducible refine Box.set4 ?_ _ _ _ _) | ((with_reducible refine Box.far ?_ ?_ _); rotate_left; focus (first | (simp; done) | (simp; omega))) | (with_reducible exact Box.set4 bz _ _ _ _) | (with_reducible refine Box.later ?_ hb)))
                      · ((repeat (first | (with_reducible refine Below.drew ?_) | (with_reducible refine Below.alloc ?_ (by first | omega | (simp; done) | (simp; omega)) _) | (with_reducible refine below_set ?_ (by first | omega | (simp; done) | (simp; omega))))); first | exact hv4 | exact hv | exact Below.refl _ _)
                    · refine ⟨X.heap.size, IntKind.i64.wrap (e.idx + 1), IntKind.i64.wrap (IntKind.i64.wrap (e.trm + IntKind.i64.wrap ((n : Int) / 20)) - 1), X.heap.size + 1, c9, rfl, hc9, ?_, ?_, ?_⟩
                      · (repeat (first | (with_reducible refine Box.drew_ ?_) | ((with_reducible refine Box.at_ _ ?_); (simp; done)) | (with_reducible refine Box.alloc ?_ _) | (with_reducible refine Box.set3 ?_ _ _ _) | (with_reducible refine Box.set4 ?_ _ _ _ _) | ((with_reducible refine Box.far ?_ ?_ _); rotate_left; focus (first | (simp; done) | (simp; omega))) | (with_reducible exact Box.set4 bz _ _ _ _) | (with_reducible refine Box.later ?_ hb)))
                      · (repeat (first | (with_reducible refine Box.drew_ ?_) | ((with_reducible refine Box.at_ _ ?_); (simp; done)) | (with_reducible refine Box.alloc ?_ _) | (with_reducible refine Box.set3 ?_ _ _ _) | (with_reducible refine Box.set4 ?_ _ _ _ _) | ((with_reducible refine Box.far ?_ ?_ _); rotate_left; focus (first | (simp; done) | (simp; omega))) | (with_reducible exact Box.set4 bz _ _ _ _) | (with_reducible refine Box.later ?_ hb)))
                      · ((repeat (first | (with_reducible refine Below.drew ?_) | (with_reducible refine Below.alloc ?_ (by first | omega | (simp; done) | (simp; omega)) _) | (with_reducible refine below_set ?_ (by first | omega | (simp; done) | (simp; omega))))); first | exact hv4 | exact hv | exact Below.refl _ _)
                  case rest =>
                    obtain ⟨gy, y1, y2, gb, c9, rfl, hc9, hby, hbb, hB⟩ := hcut
                    obtain ⟨Y, hY⟩ : ∃ z, z = wc := ⟨_, rfl⟩
                    rw [← hY] at hby hbb hB
                    rw [← hY]
                    obtain ⟨f, hf⟩ : ∃ f : Ent, f = ⟨y1, y2, 3, some ⟨gb, 0, none⟩, 3, ([1, (c9 : Int), 3] : List Int).take r⟩ := ⟨_, rfl⟩
                    have htl : (([1, (c9 : Int), 3] : List Int).take r).length = r := by rw [List.length_take]; simp; omega
                    have HBy := Lib.hid (show Box Y gy #[.int .i64 f.idx, .int .i64 f.trm, .int .i64 f.knd, .slice f.ba f.bd.length f.bc] 28 by rw [hf]; simp only [htl]; exact hby)
                    have HFy : Hid (EntIn Y.heap.size Y f ∧ f.bd.length ≤ 3) := by
                      refine ⟨⟨?_, fun z hz => ?_⟩, by rw [hf]; simp only [htl]; omega⟩
                      · rw [hf]
                        show Sl 1 u8Row Y.heap.size Y (.slice (some ⟨gb, 0, none⟩) (([1, (c9 : Int), 3] : List Int).take r).length 3) _
                        rw [htl]
                        exact (Box.sl u8Row_length [1, (c9 : Int), 3] hbb rfl (by unfold maxLen; simp)).take_ (show r ≤ 3 by omega)
                      · rw [hf] at hz
                        have := List.mem_of_mem_take hz
                        simp at this; omega
                    have HBY := Lib.hid hB
                    have HBXx := Lib.hid (HBx.out.later hB)
                    have HEe : Hid (EntIn Y.heap.size Y e ∧ e.bd.length ≤ 201) := ⟨HEx.out.1.later hB, HEx.out.2⟩
                    have HBVY := Lib.hid (below_call HBX.out hB)
                    have HP3 := Lib.hid (HP.out.later (below_call HBn.out HBVY.out))
                    have HQ3 := Lib.hid (HQ.out.later (below_call HBn.out HBVY.out))
                    have HG3 := Lib.hid (errType_later HG.out (below_call HB0.out (below_call HBV.out HBVY.out)))
                    clear hby hbb hB hY hf htl HFR HBx HEx HBX
                    have HFR : Hid (∀ w', Below Y.heap.size Y w' → w'.cell? ⟨gp, 0, none⟩ = some (.int .i64 x) ∧ w'.cell? ⟨gp, 1, none⟩ = some (.int .i64 y) ∧ w'.cell? ⟨gp, 2, none⟩ = some (.int .i64 0) ∧ w'.cell? ⟨gq, 0, none⟩ = some (.int .i64 y) ∧ w'.cell? ⟨gq, 1, none⟩ = some (.int .i64 x) ∧ w'.cell? ⟨gq, 2, none⟩ = some (.int .i64 0) ∧ w'.cell? ⟨gx, 0, none⟩ = some (.int .i64 e.idx) ∧ w'.cell? ⟨gx, 1, none⟩ = some (.int .i64 e.trm) ∧ w'.cell? ⟨gx, 2, none⟩ = some (.int .i64 e.knd) ∧ w'.cell? ⟨gx, 3, none⟩ = some (.slice e.ba e.bd.length e.bc) ∧ w'.cell? ⟨gy, 0, none⟩ = some (.int .i64 f.idx) ∧ w'.cell? ⟨gy, 1, none⟩ = some (.int .i64 f.trm) ∧ w'.cell? ⟨gy, 2, none⟩ = some (.int .i64 f.knd) ∧ w'.cell? ⟨gy, 3, none⟩ = some (.slice f.ba f.bd.length f.bc) ∧ Below Y.heap.size Y w') := fun w' h => ⟨(HP3.out.later h).cell 0, (HP3.out.later h).cell 1, (HP3.out.later h).cell 2, (HQ3.out.later h).cell 0, (HQ3.out.later h).cell 1, (HQ3.out.later h).cell 2, (HBXx.out.later h).cell 0, (HBXx.out.later h).cell 1, (HBXx.out.later h).cell 2, (HBXx.out.later h).cell 3, (HBy.out.later h).cell 0, (HBy.out.later h).cell 1, (HBy.out.later h).cell 2, (HBy.out.later h).cell 3, h⟩
                    have hBa : Below Y.heap.size Y (Y.alloc (.cells #[.int .i64 e.idx, .int .i64 e.trm, .int .i64 e.knd, .slice e.ba e.bd.length e.bc, .int .i64 f.idx, .int .i64 f.trm, .int .i64 f.knd, .slice f.ba f.bd.length f.bc] 28)).drew := (below_new _ _).drew
                    have A1 : Hid (Calls Tryz.prog 9 #[.agg #[.int .i64 x, .int .i64 y, .int .i64 0], .agg #[.int .i64 y, .int .i64 x, .int .i64 0], .slice (some ⟨Y.heap.size, 0, none⟩) 2 2] (Y.alloc (.cells #[.int .i64 e.idx, .int .i64 e.trm, .int .i64 e.knd, .slice e.ba e.bd.length e.bc, .int .i64 f.idx, .int .i64 f.trm, .int .i64 f.knd, .slice f.ba f.bd.length f.bc] 28)).drew fun e w' => e = .returned (.bool true) ∧ Below Y.heap.size Y w') :=
                      (rows_one ⟨x, y, 0⟩ ⟨y, x, 0⟩ [e, f] _ _ (Box.sl entRow_length [e, f] (Box.drew_ (Box.new Y #[.int .i64 e.idx, .int .i64 e.trm, .int .i64 e.knd, .slice e.ba e.bd.length e.bc, .int .i64 f.idx, .int .i64 f.trm, .int .i64 f.knd, .slice f.ba f.bd.length f.bc] 28)) rfl (by unfold maxLen; simp)) (fun z hz => by
                        rcases List.mem_cons.1 hz with rfl | hz
                        · exact ⟨HEe.out.1.later hBa, by have := HEe.out.2; omega⟩
                        · rcases List.mem_cons.1 hz with rfl | hz
                          · exact ⟨HFy.out.1.later hBa, by have := HFy.out.2; omega⟩
                          · simp at hz) (errType_later HG3.out hBa) (by have := HEe.out.2; have := HFy.out.2; simp [sizeE]; omega)).mono fun _ _ h => ⟨h.1, below_call hBa h.2⟩
                    have A2 : Hid (∀ wv, Below Y.heap.size Y wv → Calls Tryz.prog 9 #[.agg #[.int .i64 y, .int .i64 x, .int .i64 0], .agg #[.int .i64 x, .int .i64 y, .int .i64 0], .slice (some ⟨wv.heap.size, 0, none⟩) r 3] (wv.alloc (.cells #[.int .i64 f.idx, .int .i64 f.trm, .int .i64 f.knd, .slice f.ba f.bd.length f.bc, .int .i64 e.idx, .int .i64 e.trm, .int .i64 e.knd, .slice e.ba e.bd.length e.bc, .int .i64 f.idx, .int .i64 f.trm, .int .i64 f.knd, .slice f.ba f.bd.length f.bc] 28)) fun e w' => e = .returned (.bool true) ∧ Below Y.heap.size Y w') := fun wv hv => by
                      have hba := below_call hv (below_new wv (.cells #[.int .i64 f.idx, .int .i64 f.trm, .int .i64 f.knd, .slice f.ba f.bd.length f.bc, .int .i64 e.idx, .int .i64 e.trm, .int .i64 e.knd, .slice e.ba e.bd.length e.bc, .int .i64 f.idx, .int .i64 f.trm, .int .i64 f.knd, .slice f.ba f.bd.length f.bc] 28))
                      have hsz : sizeE (([f, e, f] : List Ent).take r) ≤ 4000 := by
                        have := HEe.out.2; have := HFy.out.2
                        rcases (by omega : r = 0 ∨ r = 1 ∨ r = 2 ∨ r = 3) with h | h | h | h <;> (subst h; simp [sizeE]; try omega)
                      exact (rows_one ⟨y, x, 0⟩ ⟨x, y, 0⟩ (([f, e, f] : List Ent).take r) _ _ ((Box.sl entRow_length [f, e, f] (Box.new wv #[.int .i64 f.idx, .int .i64 f.trm, .int .i64 f.knd, .slice f.ba f.bd.length f.bc, .int .i64 e.idx, .int .i64 e.trm, .int .i64 e.knd, .slice e.ba e.bd.length e.bc, .int .i64 f.idx, .int .i64 f.trm, .int .i64 f.knd, .slice f.ba f.bd.length f.bc] 28) rfl (by unfold maxLen; simp)).take_ (show r ≤ 3 by omega)) (fun z hz => by
                        have hz := List.mem_of_mem_take hz
                        have h1 : EntIn (wv.alloc (.cells #[.int .i64 f.idx, .int .i64 f.trm, .int .i64 f.knd, .slice f.ba f.bd.length f.bc, .int .i64 e.idx, .int .i64 e.trm, .int .i64 e.knd, .slice e.ba e.bd.length e.bc, .int .i64 f.idx, .int .i64 f.trm, .int .i64 f.knd, .slice f.ba f.bd.length f.bc] 28)).heap.size (wv.alloc (.cells #[.int .i64 f.idx, .int .i64 f.trm, .int .i64 f.knd, .slice f.ba f.bd.length f.bc, .int .i64 e.idx, .int .i64 e.trm, .int .i64 e.knd, .slice e.ba e.bd.length e.bc, .int .i64 f.idx, .int .i64 f.trm, .int .i64 f.knd, .slice f.ba f.bd.length f.bc] 28)) e ∧ e.bd.length ≤ 140737488351232 := ⟨HEe.out.1.later hba, by have := HEe.out.2; omega⟩
                        have h2 : EntIn (wv.alloc (.cells #[.int .i64 f.idx, .int .i64 f.trm, .int .i64 f.knd, .slice f.ba f.bd.length f.bc, .int .i64 e.idx, .int .i64 e.trm, .int .i64 e.knd, .slice e.ba e.bd.length e.bc, .int .i64 f.idx, .int .i64 f.trm, .int .i64 f.knd, .slice f.ba f.bd.length f.bc] 28)).heap.size (wv.alloc (.cells #[.int .i64 f.idx, .int .i64 f.trm, .int .i64 f.knd, .slice f.ba f.bd.length f.bc, .int .i64 e.idx, .int .i64 e.trm, .int .i64 e.knd, .slice e.ba e.bd.length e.bc, .int .i64 f.idx, .int .i64 f.trm, .int .i64 f.knd, .slice f.ba f.bd.length f.bc] 28)) f ∧ f.bd.length ≤ 140737488351232 := ⟨HFy.out.1.later hba, by have := HFy.out.2; omega⟩
                        simp only [List.mem_cons, List.not_mem_nil, or_false] at hz
                        rcases hz with rfl | rfl | rfl
                        · exact h2
                        · exact h1
                        · exact h2) (errType_later HG3.out hba) hsz).mono fun _ _ h => ⟨h.1, below_call hba h.2⟩
                    have hc9' := hc9
                    clear hc9 hBa
                    go_upto_region 14 with fail
                    go_region_held3 (fun w' => w'.cell? ⟨gp, 0, none⟩ = some (.int .i64 x) ∧ w'.cell? ⟨gp, 1, none⟩ = some (.int .i64 y) ∧ w'.cell? ⟨gp, 2, none⟩ = some (.int .i64 0) ∧ w'.cell? ⟨gq, 0, none⟩ = some (.int .i64 y) ∧ w'.cell? ⟨gq, 1, none⟩ = some (.int .i64 x) ∧ w'.cell? ⟨gq, 2, none⟩ = some (.int .i64 0) ∧ w'.cell? ⟨gx, 0, none⟩ = some (.int .i64 e.idx) ∧ w'.cell? ⟨gx, 1, none⟩ = some (.int .i64 e.trm) ∧ w'.cell? ⟨gx, 2, none⟩ = some (.int .i64 e.knd) ∧ w'.cell? ⟨gx, 3, none⟩ = some (.slice e.ba e.bd.length e.bc) ∧ w'.cell? ⟨gy, 0, none⟩ = some (.int .i64 f.idx) ∧ w'.cell? ⟨gy, 1, none⟩ = some (.int .i64 f.trm) ∧ w'.cell? ⟨gy, 2, none⟩ = some (.int .i64 f.knd) ∧ w'.cell? ⟨gy, 3, none⟩ = some (.slice f.ba f.bd.length f.bc) ∧ Below Y.heap.size Y w')
                      (first | (refine HFR.out _ ?_; ((repeat (first | (with_reducible refine Below.drew ?_) | (with_reducible refine Below.alloc ?_ (by first | omega | (simp; done) | (simp; omega)) _) | (with_reducible refine below_set ?_ (by first | omega | (simp; done) | (simp; omega))))); first | exact hv4 | exact hv | exact Below.refl _ _)))
                      (first
                        | (go_at_call 9; (with_reducible refine A1.out.mono ?_); rintro e w3 ⟨rfl, hb⟩; have hv : Below Y.heap.size Y w3 := hb; have hv0 := hv.size)
                        | (go_at_call 9; (with_reducible refine (A2.out w3 hv).mono ?_); rintro e w4 ⟨rfl, hb⟩; have hv4 : Below Y.heap.size Y w4 := hb; have hv40 := hv4.size))
                    go_wp2_with fail
                    go_roundw
                    case rel => exact ⟨n + 1, by omega, by go_num, below_call HBn.out (below_call HBVY.out hv4)⟩
                    case measure => simp [intOf]; omega
              · have e1 : decide ((n : Int) < 60) = false := decide_eq_false (by omega)
                go_wp2_with fail
                go_roundw
                case rel => exact ⟨c + 1, by omega, by go_num, below_call HBU.out HBn.out⟩
                case measure => simp [intOf]; omega
        · have e0 : decide ((c : Int) < 9) = false := decide_eq_false (by omega)
          go_wp2_with fail
          go_roundw
          case rel => exact ⟨a + 1, by omega, by go_num, HBc.out⟩
          case measure => simp [intOf]; omega
    · have d0 : decide ((a : Int) < 9) = false := decide_eq_false (by omega)
      have HG1 := Lib.hid (errType_later HG.out (below_call HB0.out HBa.out))
      obtain ⟨V, hV⟩ : ∃ z, z = wr := ⟨_, rfl⟩
      rw [← hV] at HBa HG1
      rw [← hV]
      clear hV
      have HX1 := Lib.hid (Box.new V #[.int .i64 (-1), .int .i64 0, .int .i64 1, .int .i64 2, .int .i64 6, .int .i64 7, .int .i64 8, .int .i64 256, .int .i64 257] 3)
      have HB1 := Lib.hid (below_new V (.cells #[.int .i64 (-1), .int .i64 0, .int .i64 1, .int .i64 2, .int .i64 6, .int .i64 7, .int .i64 8, .int .i64 256, .int .i64 257] 3))
      obtain ⟨ge, hge⟩ : ∃ g, g = V.heap.size := ⟨_, rfl⟩
      obtain ⟨U, hU⟩ : ∃ z, z = V.alloc (.cells #[.int .i64 (-1), .int .i64 0, .int .i64 1, .int .i64 2, .int .i64 6, .int .i64 7, .int .i64 8, .int .i64 256, .int .i64 257] 3) := ⟨_, rfl⟩
      have HE1 := Lib.hid hU
      have HN1 := Lib.hid hge
      rw [← hge, ← hU] at HX1
      rw [← hU] at HB1
      clear hU hge
      go_wp2_with fail
      rw [← HE1.out, ← HN1.out]
      go_loopw [10] (fun i wr => ∃ n : Nat, n ≤ 729 ∧ i = .int .i64 (n : Int) ∧ Below U.heap.size U wr) (fun i _ => 730 - (intOf i).toNat)
      case atStart => exact ⟨0, by omega, rfl, Below.refl _ _⟩
      case round =>
        obtain ⟨n, hn, rfl, hBn⟩ := hrel
        have HBn := Lib.hid hBn
        clear hBn
        have n0 : (0 : Int) ≤ (n : Int) := by omega
        by_cases hln : n < 729
        · have n1 : (n : Int) < 729 := by omega
          have e1 : decide ((n : Int) < 729) = true := decide_eq_true n1
          obtain ⟨X, hX⟩ : ∃ z, z = wr := ⟨_, rfl⟩
          rw [← hX] at HBn
          rw [← hX]
          clear hX
          obtain ⟨j1, q1, f1⟩ : ∃ j : Nat, j < 9 ∧ (n : Int).tmod 9 = (j : Int) := ⟨n % 9, Nat.mod_lt _ (by omega), rfl⟩
          obtain ⟨j2, q2, f2⟩ : ∃ j : Nat, j < 9 ∧ (IntKind.i64.wrap ((n : Int) / 9)).tmod 9 = (j : Int) := ⟨n / 9 % 9, Nat.mod_lt _ (by omega), by rw [show IntKind.i64.wrap ((n : Int) / 9) = ((n / 9 : Nat) : Int) from (IntWalk.i64_in _ (by omega)).trans (by omega)]; rfl⟩
          obtain ⟨j3, q3, f3⟩ : ∃ j : Nat, j < 9 ∧ IntKind.i64.wrap ((n : Int) / 81) = (j : Int) := ⟨n / 81, by omega, (IntWalk.i64_in _ (by omega)).trans (by omega)⟩
          obtain ⟨v1, hv1⟩ := endsM_at q1
          obtain ⟨v2, hv2⟩ := endsM_at q2
          obtain ⟨v3, hv3⟩ := endsM_at q3
          have J0 : (0 : Int) ≤ (j1 : Int) := by omega
          have J1 : (j1 : Int) < 9 := by omega
          have J2 : (0 : Int) ≤ (j2 : Int) := by omega
          have J3 : (j2 : Int) < 9 := by omega
          have J4 : (0 : Int) ≤ (j3 : Int) := by omega
          have J5 : (j3 : Int) < 9 := by omega
          have HXn := Lib.hid (HX1.out.later HBn.out)
          have HFR : Hid (∀ w', Below X.heap.size X w' → w'.cell? ⟨ge, j1, none⟩ = some (.int .i64 v1) ∧ w'.cell? ⟨ge, j2, none⟩ = some (.int .i64 v2) ∧ w'.cell? ⟨ge, j3, none⟩ = some (.int .i64 v3) ∧ Below X.heap.size X w') := fun w' h => ⟨endsM_cell (HXn.out.later h) hv1, endsM_cell (HXn.out.later h) hv2, endsM_cell (HXn.out.later h) hv3, h⟩
          clear hv1 hv2 hv3 q1 q2 q3
          go_upto_region 20 with fail
          go_region_held3 (fun w' => w'.cell? ⟨ge, j1, none⟩ = some (.int .i64 v1) ∧ w'.cell? ⟨ge, j2, none⟩ = some (.int .i64 v2) ∧ w'.cell? ⟨ge, j3, none⟩ = some (.int .i64 v3) ∧ Below X.heap.size X w')
            (first | (refine HFR.out _ ?_; ((repeat (first | (with_reducible refine Below.drew ?_) | (with_reducible refine Below.alloc ?_ (by first | omega | (simp; done) | (simp; omega)) _) | (with_reducible refine below_set ?_ (by first | omega | (simp; done) | (simp; omega))))); first | exact hv4 | exact hv | exact Below.refl _ _)))
            (fail)
          obtain ⟨r, hr4, hr⟩ : ∃ r : Nat, r < 4 ∧ (n : Int).tmod 4 = (r : Int) := ⟨n % 4, Nat.mod_lt _ (by omega), rfl⟩
          have r0 : (0 : Int) ≤ (r : Int) := by omega
          have r1 : (r : Int) ≤ 3 := by omega
          have hBl : Below X.heap.size X (X.alloc (.cells #[.int .i64 v1, .int .i64 v2, .int .i64 v3] 3)).drew := (below_new _ _).drew
          have HBl := Lib.hid hBl
          have HLb := Lib.hid (show Box (X.alloc (.cells #[.int .i64 v1, .int .i64 v2, .int .i64 v3] 3)).drew X.heap.size #[.int .i64 v1, .int .i64 v2, .int .i64 v3] 3 from Box.drew_ (Box.new _ _ _))
          obtain ⟨gl, hgl⟩ : ∃ g, g = X.heap.size := ⟨_, rfl⟩
          obtain ⟨Y, hY⟩ : ∃ z, z = (X.alloc (.cells #[.int .i64 v1, .int .i64 v2, .int .i64 v3] 3)).drew := ⟨_, rfl⟩
          rw [← hY] at HBl HLb
          rw [← hgl] at HLb
          rw [← hY, ← hgl]
          clear hBl hY hgl HFR f1 f2 f3 J0 J1 J2 J3 J4 J5
          have HFR : Hid (∀ w', Below Y.heap.size Y w' → w'.cell? ⟨gl, 0, none⟩ = some (.int .i64 v1) ∧ w'.cell? ⟨gl, 1, none⟩ = some (.int .i64 v2) ∧ w'.cell? ⟨gl, 2, none⟩ = some (.int .i64 v3) ∧ Below Y.heap.size Y w') := fun w' h => ⟨(HLb.out.later h).cell 0, (HLb.out.later h).cell 1, (HLb.out.later h).cell 2, h⟩
          have A1 : Hid (Calls Tryz.prog 10 #[.slice (some ⟨gl, 0, none⟩) r 3, .slice (some ⟨Y.heap.size, 0, none⟩) 3 3] (Y.alloc (.cells #[.int .u8 (IntKind.u8.wrap v1), .int .u8 (IntKind.u8.wrap v2), .int .u8 (IntKind.u8.wrap v3)] 5)).drew fun e w' => e = .returned (.bool true) ∧ Below Y.heap.size Y w') := by
            have hba : Below Y.heap.size Y (Y.alloc (.cells #[.int .u8 (IntKind.u8.wrap v1), .int .u8 (IntKind.u8.wrap v2), .int .u8 (IntKind.u8.wrap v3)] 5)).drew := (below_new _ _).drew
            have hs := ((Box.sl i64Row_length [v1, v2, v3] (HLb.out.later hba) rfl (by unfold maxLen; simp)).take_ (show r ≤ 3 by omega))
            have hl : (([v1, v2, v3] : List Int).take r).length = r := by rw [List.length_take]; simp; omega
            exact (members_one (([v1, v2, v3] : List Int).take r) [IntKind.u8.wrap v1, IntKind.u8.wrap v2, IntKind.u8.wrap v3] _ _ _ hs (Box.sl u8Row_length [IntKind.u8.wrap v1, IntKind.u8.wrap v2, IntKind.u8.wrap v3] (Box.drew_ (Box.new Y #[.int .u8 (IntKind.u8.wrap v1), .int .u8 (IntKind.u8.wrap v2), .int .u8 (IntKind.u8.wrap v3)] 5)) rfl (by unfold maxLen; simp)) (fun z hz => by
              simp only [List.mem_cons, List.not_mem_nil, or_false] at hz
              rcases hz with rfl | rfl | rfl <;> exact u8_wrap_in _) (errType_later HG1.out (below_call (below_call HB1.out HBn.out) (below_call HBl.out hba))) (by rw [hl]; simp; omega)).mono fun _ _ h => ⟨h.1, below_call hba h.2⟩
          go_upto_region 21 with fail
          go_region_held3 (fun w' => w'.cell? ⟨gl, 0, none⟩ = some (.int .i64 v1) ∧ w'.cell? ⟨gl, 1, none⟩ = some (.int .i64 v2) ∧ w'.cell? ⟨gl, 2, none⟩ = some (.int .i64 v3) ∧ Below Y.heap.size Y w')
            (first | (refine HFR.out _ ?_; ((repeat (first | (with_reducible refine Below.drew ?_) | (with_reducible refine Below.alloc ?_ (by first | omega | (simp; done) | (simp; omega)) _) | (with_reducible refine below_set ?_ (by first | omega | (simp; done) | (simp; omega))))); first | exact hv4 | exact hv | exact Below.refl _ _)))
            (first | (go_at_call 10; (with_reducible refine A1.out.mono ?_); rintro e w3 ⟨rfl, hb⟩; have hv : Below Y.heap.size Y w3 := hb; have hv0 := hv.size))
          go_wp2_with fail
          go_roundw
          case rel => exact ⟨n + 1, by omega, by go_num, below_call HBn.out (below_call HBl.out hv)⟩
          case measure => simp [intOf]; omega
        · have e1 : decide ((n : Int) < 729) = false := decide_eq_false (by omega)
          have HG4 := Lib.hid (errType_later HG1.out (below_call HB1.out HBn.out))
          have HBW := Lib.hid (below_call HB0.out (below_call HBa.out (below_call HB1.out HBn.out)))
          obtain ⟨X, hX⟩ : ∃ z, z = wr := ⟨_, rfl⟩
          rw [← hX] at HG4 HBW
          rw [← hX]
          clear hX
          have hrun : ∀ w : World, (Instr.makeSlice 26 (.int .i64 300) (.int .i64 300)).run Tryz.prog w = .ok (.slice (some ⟨w.heap.size, 0, none⟩) 300 300) (w.alloc (.cells (madeCells #[.int .u8 0] 300) 5)) := fun w => run_make_row' (P := Tryz.prog) 26 5 _ 1 Tryz.underlying26 u8InfoE rfl .i64 .i64 300 (by omega) (by omega) w
          have M1 : Hid (∀ wv, Below X.heap.size X wv → Calls Tryz.prog 10 #[.slice (some ⟨wv.heap.size, 0, none⟩) 7 7, .slice (some ⟨wv.heap.size + 1, 0, none⟩) 7 7] ((wv.alloc (.cells #[.int .i64 1, .int .i64 2, .int .i64 3, .int .i64 4, .int .i64 5, .int .i64 6, .int .i64 7] 3)).alloc (.cells #[.int .u8 1, .int .u8 2, .int .u8 3, .int .u8 4, .int .u8 5, .int .u8 6, .int .u8 7] 5)) fun e w' => e = .returned (.bool true) ∧ Below X.heap.size X w') := fun wv hv => by
            have hb := below_call (below_call hv (below_new wv (.cells #[.int .i64 1, .int .i64 2, .int .i64 3, .int .i64 4, .int .i64 5, .int .i64 6, .int .i64 7] 3))) (below_new _ (.cells #[.int .u8 1, .int .u8 2, .int .u8 3, .int .u8 4, .int .u8 5, .int .u8 6, .int .u8 7] 5))
            have h := (members_one [1, 2, 3, 4, 5, 6, 7] [1, 2, 3, 4, 5, 6, 7] _ _ _ (Box.sl i64Row_length [1, 2, 3, 4, 5, 6, 7] ((Box.new wv #[.int .i64 1, .int .i64 2, .int .i64 3, .int .i64 4, .int .i64 5, .int .i64 6, .int .i64 7] 3).alloc (.cells #[.int .u8 1, .int .u8 2, .int .u8 3, .int .u8 4, .int .u8 5, .int .u8 6, .int .u8 7] 5)) rfl (by unfold maxLen; simp)) (Box.sl u8Row_length [1, 2, 3, 4, 5, 6, 7] (Box.new (wv.alloc (.cells #[.int .i64 1, .int .i64 2, .int .i64 3, .int .i64 4, .int .i64 5, .int .i64 6, .int .i64 7] 3)) #[.int .u8 1, .int .u8 2, .int .u8 3, .int .u8 4, .int .u8 5, .int .u8 6, .int .u8 7] 5) rfl (by unfold maxLen; simp)) (fun z hz => by simp at hz; omega) (errType_later HG4.out hb) (by simp)).mono fun _ _ h => (show _ ∧ Below X.heap.size X _ from ⟨h.1, below_call hb h.2⟩)
            rw [World.size_alloc] at h
            exact h
          have M2 : Hid (∀ wv, Below X.heap.size X wv → Calls Tryz.prog 10 #[.slice (some ⟨wv.heap.size, 0, none⟩) 8 8, .slice (some ⟨wv.heap.size + 1, 0, none⟩) 8 8] ((wv.alloc (.cells #[.int .i64 1, .int .i64 2, .int .i64 3, .int .i64 4, .int .i64 5, .int .i64 6, .int .i64 7, .int .i64 8] 3)).alloc (.cells #[.int .u8 1, .int .u8 2, .int .u8 3, .int .u8 4, .int .u8 5, .int .u8 6, .int .u8 7, .int .u8 8] 5)) fun e w' => e = .returned (.bool true) ∧ Below X.heap.size X w') := fun wv hv => by
            have hb := below_call (below_call hv (below_new wv (.cells #[.int .i64 1, .int .i64 2, .int .i64 3, .int .i64 4, .int .i64 5, .int .i64 6, .int .i64 7, .int .i64 8] 3))) (below_new _ (.cells #[.int .u8 1, .int .u8 2, .int .u8 3, .int .u8 4, .int .u8 5, .int .u8 6, .int .u8 7, .int .u8 8] 5))
            have h := (members_one [1, 2, 3, 4, 5, 6, 7, 8] [1, 2, 3, 4, 5, 6, 7, 8] _ _ _ (Box.sl i64Row_length [1, 2, 3, 4, 5, 6, 7, 8] ((Box.new wv #[.int .i64 1, .int .i64 2, .int .i64 3, .int .i64 4, .int .i64 5, .int .i64 6, .int .i64 7, .int .i64 8] 3).alloc (.cells #[.int .u8 1, .int .u8 2, .int .u8 3, .int .u8 4, .int .u8 5, .int .u8 6, .int .u8 7, .int .u8 8] 5)) rfl (by unfold maxLen; simp)) (Box.sl u8Row_length [1, 2, 3, 4, 5, 6, 7, 8] (Box.new (wv.alloc (.cells #[.int .i64 1, .int .i64 2, .int .i64 3, .int .i64 4, .int .i64 5, .int .i64 6, .int .i64 7, .int .i64 8] 3)) #[.int .u8 1, .int .u8 2, .int .u8 3, .int .u8 4, .int .u8 5, .int .u8 6, .int .u8 7, .int .u8 8] 5) rfl (by unfold maxLen; simp)) (fun z hz => by simp at hz; omega) (errType_later HG4.out hb) (by simp)).mono fun _ _ h => (show _ ∧ Below X.heap.size X _ from ⟨h.1, below_call hb h.2⟩)
            rw [World.size_alloc] at h
            exact h
          have M3 : Hid (∀ wv, Below X.heap.size X wv → Calls Tryz.prog 10 #[.slice none 0 0, .slice (some ⟨wv.heap.size, 0, none⟩) 300 300] (wv.alloc (.cells (madeCells #[.int .u8 0] 300) 5)) fun e w' => e = .returned (.bool true) ∧ Below X.heap.size X w') := fun wv hv => by
            have hb := below_call hv (below_new wv (.cells (madeCells #[.int .u8 0] 300) 5))
            exact (members_one [] (List.replicate 300 0) _ _ _ (Sl.nil_ _ _ _ _) (zeros_sl (Box.new wv _ 5) (by omega)) (fun z hz => by have := List.eq_of_mem_replicate hz; omega) (errType_later HG4.out hb) (by simp)).mono fun _ _ h => ⟨h.1, below_call hb h.2⟩
          go_wp2_with (first
            | (go_at_call 10; (with_reducible refine (M1.out X (Below.refl _ _)).mono ?_); rintro e w3 ⟨rfl, hb⟩; have H3 := Lib.hid hb; clear hb)
            | (go_at_call 10; (with_reducible refine (M2.out w3 H3.out).mono ?_); rintro e w4 ⟨rfl, hb⟩; have H4 := Lib.hid hb; clear hb)
            | (go_at_call 10; (with_reducible refine (M3.out w4 H4.out).mono ?_); rintro e w5 ⟨rfl, hb⟩; have H5 := Lib.hid hb; clear hb)
            | (go_at_call 11; refine (awake _ (errType_later HG4.out H5.out)).mono ?_; rintro e w6 ⟨rfl, hb⟩; have H6 := Lib.hid (below_call H5.out hb); clear hb))
          go_ret
          exact ⟨rfl, below_call HBW.out H6.out⟩
end Go.Proofs.YtfglkpcboodllaaGreatDoor
