/-
  WardShapes: true.
-/
import Derived.Test.YtnmlmnhgjnkbhaaWardTells
import Derived.Test.YtnmlmnhgjnkbhaaSlCut
import Derived.Test.YtnmlmnhgjnkbhaaExt
set_option linter.unusedVariables false
set_option linter.unusedSimpArgs false
namespace Go.Proofs.Ytnmlmnhgjnkbhaa
open Go.RowKit

def blkS : List Int := [-1, 0, 1, 2, 5]
theorem blkS_at {i : Nat} (h : i < 5) : ∃ x, blkS[i]? = some x := ⟨_, List.getElem?_eq_getElem (show i < blkS.length from h)⟩
theorem blkS_cell {w : World} {g i : Nat} {x : Int} (h : Box w g #[.int .i64 (-1), .int .i64 0, .int .i64 1, .int .i64 2, .int .i64 5] 3) (hx : blkS[i]? = some x) : w.cell? ⟨g, i, none⟩ = some (.int .i64 x) := by
  rw [h.cell]
  have hi : i < 5 := (List.getElem?_eq_some_iff.1 hx).1
  rcases (by omega : i = 0 ∨ i = 1 ∨ i = 2 ∨ i = 3 ∨ i = 4) with rfl | rfl | rfl | rfl | rfl <;> (simp [blkS] at hx; subst hx; rfl)
theorem blkS_in {x : Int} (h : x ∈ blkS) : J64 x := by
  unfold J64; simp [blkS] at h; omega
/-- WardTells at any input that is not great. -/
theorem tells12_any (l more : List Wnt) (bs : List Int) (vl vm vt : Value) (kd : Int) (w : World) (hl : Sl 3 wntRow w.heap.size w vl l) (hm : Sl 3 wntRow w.heap.size w vm more) (ht : Sl 1 i64Row w.heap.size w vt bs) (jl : ∀ x ∈ l, J64 x.blk) (jm : ∀ x ∈ more, J64 x.blk) (jt : ∀ x ∈ bs, J64 x) (hs : l.length ≤ 100 ∧ more.length ≤ 100 ∧ bs.length ≤ 100) :
    Calls Try.prog 3 #[vl, vm, vt, .int .i64 kd] w fun e w' => e = .returned (.bool true) ∧ Below w.heap.size w w' := tells12_go l more bs vl vm vt kd w hl hm ht jl jm jt (by omega)

set_option maxRecDepth 100000 in
set_option maxHeartbeats 8000000 in
theorem shapes12 (w : World) : Calls Try.prog 4 #[] w fun e w' => e = .returned (.bool true) ∧ Below w.heap.size w w' := by
  have HX0 := Lib.hid (Box.new w #[.int .i64 (-1), .int .i64 0, .int .i64 1, .int .i64 2, .int .i64 5] 3)
  have HB0 := Lib.hid (below_new w (.cells #[.int .i64 (-1), .int .i64 0, .int .i64 1, .int .i64 2, .int .i64 5] 3))
  obtain ⟨gb, hgb⟩ : ∃ g, g = w.heap.size := ⟨_, rfl⟩
  obtain ⟨U, hU⟩ : ∃ z, z = w.alloc (.cells #[.int .i64 (-1), .int .i64 0, .int .i64 1, .int .i64 2, .int .i64 5] 3) := ⟨_, rfl⟩
  have HE1 := Lib.hid hU
  have HN1 := Lib.hid hgb
  rw [← hgb, ← hU] at HX0
  rw [← hU] at HB0
  clear hU hgb
  go_enter Try.func4, Try.ntmps4
  go_wp2_with fail
  rw [← HE1.out, ← HN1.out]
  go_loopw [2, 3, 4] (fun i _ _ wr => ∃ n : Nat, n ≤ 125 ∧ i = .int .i64 (n : Int) ∧ Below U.heap.size U wr) (fun i _ _ _ => 126 - (kOf i).toNat)
  case atStart => exact ⟨0, by omega, rfl, Below.refl _ _⟩
  case round =>
    obtain ⟨n, hn, rfl, hBn⟩ := hrel
    have HBn := Lib.hid hBn
    clear hBn
    have n0 : (0 : Int) ≤ (n : Int) := by omega
    by_cases hln : n < 125
    · have n1 : (n : Int) < 125 := by omega
      have e1 : decide ((n : Int) < 125) = true := decide_eq_true n1
      obtain ⟨X, hX⟩ : ∃ z, z = wr := ⟨_, rfl⟩
      rw [← hX] at HBn
      rw [← hX]
      clear hX
      obtain ⟨j1, q1, f1⟩ : ∃ j : Nat, j < 5 ∧ (n : Int).tmod 5 = (j : Int) := ⟨n % 5, Nat.mod_lt _ (by omega), rfl⟩
      obtain ⟨j2, q2, f2⟩ : ∃ j : Nat, j < 5 ∧ (IntKind.i64.wrap ((n : Int) / 5)).tmod 5 = (j : Int) := ⟨n / 5 % 5, Nat.mod_lt _ (by omega), by rw [show IntKind.i64.wrap ((n : Int) / 5) = ((n / 5 : Nat) : Int) from (IntWalk.i64_in _ (by omega)).trans (by omega)]; rfl⟩
      obtain ⟨j3, q3, f3⟩ : ∃ j : Nat, j < 5 ∧ IntKind.i64.wrap ((n : Int) / 25) = (j : Int) := ⟨n / 25, by omega, (IntWalk.i64_in _ (by omega)).trans (by omega)⟩
      obtain ⟨v1, hv1⟩ := blkS_at q1
      obtain ⟨v2, hv2⟩ := blkS_at q2
      obtain ⟨v3, hv3⟩ := blkS_at q3
      have J0 : (0 : Int) ≤ (j1 : Int) := by omega
      have J1 : (j1 : Int) < 5 := by omega
      have J2 : (0 : Int) ≤ (j2 : Int) := by omega
      have J3 : (j2 : Int) < 5 := by omega
      have J4 : (0 : Int) ≤ (j3 : Int) := by omega
      have J5 : (j3 : Int) < 5 := by omega
      have HXn := Lib.hid (HX0.out.later HBn.out)
      have HFR : Hid (∀ w', Below X.heap.size X w' → w'.cell? ⟨gb, j1, none⟩ = some (.int .i64 v1) ∧ w'.cell? ⟨gb, j2, none⟩ = some (.int .i64 v2) ∧ w'.cell? ⟨gb, j3, none⟩ = some (.int .i64 v3) ∧ Below X.heap.size X w') := fun w' h => ⟨blkS_cell (HXn.out.later h) hv1, blkS_cell (HXn.out.later h) hv2, blkS_cell (HXn.out.later h) hv3, h⟩
      have HJ1 := Lib.hid (blkS_in (List.mem_of_getElem? hv1))
      have HJ2 := Lib.hid (blkS_in (List.mem_of_getElem? hv2))
      have HJ3 := Lib.hid (blkS_in (List.mem_of_getElem? hv3))
      clear hv1 hv2 hv3 q1 q2 q3
      go_upto_region 5 with fail
      go_cut [3] (fun u wx => ∃ (a b c : Wnt), u = .slice (some ⟨X.heap.size, 0, none⟩) 3 3 ∧ (J64 a.blk ∧ J64 b.blk ∧ J64 c.blk) ∧ Box wx X.heap.size #[.int .i64 a.blk, .int .i64 a.knd, .int .i64 a.num, .int .i64 b.blk, .int .i64 b.knd, .int .i64 b.num, .int .i64 c.blk, .int .i64 c.knd, .int .i64 c.num] 41 ∧ Below X.heap.size X wx)
      case first =>
        go_region_held3 (fun w' => w'.cell? ⟨gb, j1, none⟩ = some (.int .i64 v1) ∧ w'.cell? ⟨gb, j2, none⟩ = some (.int .i64 v2) ∧ w'.cell? ⟨gb, j3, none⟩ = some (.int .i64 v3) ∧ Below X.heap.size X w')
          (first | (refine HFR.out _ ?_; ((repeat (first | (with_reducible refine Below.drew ?_) | (with_reducible refine Below.alloc ?_ (by first | omega | (simp; done) | (simp; omega)) _))); exact Below.refl _ _)))
          (fail)
        all_goals (go_wp2_with fail; go_meet)
        all_goals exact ⟨⟨v1, _, _⟩, ⟨v2, _, _⟩, ⟨v3, _, _⟩, rfl, ⟨HJ1.out, HJ2.out, HJ3.out⟩, Box.drew_ (Box.new _ _ _), (below_new _ _).drew⟩
      case rest =>
        obtain ⟨a, b, c, rfl, hj, hbx, hB⟩ := hcut
        obtain ⟨gl, hgl⟩ : ∃ g, g = X.heap.size := ⟨_, rfl⟩
        obtain ⟨Y, hY⟩ : ∃ z, z = wc := ⟨_, rfl⟩
        have HLB := Lib.hid hbx
        have HBl := Lib.hid hB
        have HJ := Lib.hid hj
        rw [← hY, ← hgl] at HLB
        rw [← hY] at HBl
        rw [← hY, ← hgl]
        clear hY hgl HFR f1 f2 f3 J0 J1 J2 J3 J4 J5 hj hbx hB
        have HBB := Lib.hid (HXn.out.later HBl.out)
        have HJL : Hid (∀ x ∈ [a, b, c], J64 x.blk) := fun x hx => by
          simp only [List.mem_cons, List.not_mem_nil, or_false] at hx
          rcases hx with rfl | rfl | rfl
          · exact HJ.out.1
          · exact HJ.out.2.1
          · exact HJ.out.2.2
        obtain ⟨r, hr4, fr⟩ : ∃ r : Nat, r < 4 ∧ (n : Int).tmod 4 = (r : Int) := ⟨n % 4, Nat.mod_lt _ (by omega), rfl⟩
        have HFRr := Lib.hid fr
        have r0 : (0 : Int) ≤ (r : Int) := by omega
        have r1 : (r : Int) ≤ 3 := by omega
        have HBw := Lib.hid (below_call (below_call HB0.out HBn.out) HBl.out)
        clear fr
        go_wp2_with fail
        go_loopw [4] (fun i wr => ∃ k : Nat, k ≤ 10 ∧ i = .int .i64 (k : Int) ∧ Below Y.heap.size Y wr) (fun i _ => 11 - (kOf i).toNat)
        case atStart => exact ⟨0, by omega, rfl, Below.refl _ _⟩
        case round =>
          obtain ⟨k, hk, rfl, hBk⟩ := hrel
          have HBk := Lib.hid hBk
          clear hBk
          have k0 : (0 : Int) ≤ (k : Int) := by omega
          by_cases hlk : k < 10
          · have k1 : (k : Int) < 10 := by omega
            have e2 : decide ((k : Int) < 10) = true := decide_eq_true k1
            obtain ⟨Z, hZ⟩ : ∃ z, z = wr := ⟨_, rfl⟩
            rw [← hZ] at HBk
            rw [← hZ]
            clear hZ
            have fr := HFRr.out
            obtain ⟨s, hs4, fs⟩ : ∃ s : Nat, s < 4 ∧ (k : Int).tmod 4 = (s : Int) := ⟨k % 4, Nat.mod_lt _ (by omega), rfl⟩
            obtain ⟨u, hu5, fu⟩ : ∃ s : Nat, s < 5 ∧ (k : Int).tmod 5 = (s : Int) := ⟨k % 5, Nat.mod_lt _ (by omega), rfl⟩
            obtain ⟨t, ht2, ft⟩ : ∃ s : Nat, s < 2 ∧ (k : Int).tmod 2 = (s : Int) := ⟨k % 2, Nat.mod_lt _ (by omega), rfl⟩
            obtain ⟨y, hy6, fy⟩ : ∃ s : Nat, s < 6 ∧ (k : Int).tmod 6 = (s : Int) := ⟨k % 6, Nat.mod_lt _ (by omega), rfl⟩
            have a0 : (0 : Int) ≤ (s : Int) := by omega
            have a1 : (s : Int) ≤ 3 := by omega
            have a2 : (0 : Int) ≤ (u : Int) := by omega
            have a3 : (u : Int) ≤ 5 := by omega
            have a4 : (0 : Int) ≤ (t : Int) := by omega
            have a5 : (t : Int) ≤ 3 := by omega
            have a6 : (0 : Int) ≤ (y : Int) := by omega
            have a7 : (y : Int) ≤ 5 := by omega
            have a8 : ¬ 5 = u := by omega
            have a9 : t ≤ 5 - u := by omega
            have a10 : (t : Int) ≤ ((5 - u : Nat) : Int) := by omega
            have HLL : Hid (∀ x5 : Ext Z, Sl 3 wntRow x5.wd.heap.size x5.wd (.slice (some ⟨gl, 0, none⟩) 3 3) [a, b, c]) := fun x5 => Box.sl wntRow_length [a, b, c] ((HLB.out.later HBk.out).later x5.low) rfl (by unfold maxLen; simp)
            have HBS : Hid (∀ x5 : Ext Z, Sl 1 i64Row x5.wd.heap.size x5.wd (.slice (some ⟨gb, 0, none⟩) 5 5) blkS) := fun x5 => Box.sl i64Row_length blkS ((HBB.out.later HBk.out).later x5.low) rfl (by unfold maxLen; simp [blkS])
            by_cases hs3 : 3 = s
            · obtain rfl := hs3
              have HM : Hid (∀ x5 : Ext Z, Sl 3 wntRow x5.wd.heap.size x5.wd (.slice (some ⟨gl, 0, none⟩) 0 0) ([a, b, c].drop 3)) := fun x5 => by
                have h := (HLL.out x5).drop2 (j := 3) (by first | (simp; done) | (simp; omega))
                simpa using h
              have T1 : Hid (∀ x5 : Ext Z, Calls Try.prog 3 #[.slice (some ⟨gl, 0, none⟩) r 3, .slice (some ⟨gl, 0, none⟩) 0 0, .slice (some ⟨gb, u, none⟩) t (5 - u), .int .i64 (k : Int)] x5.wd fun e w' => e = .returned (.bool true) ∧ Below x5.wd.heap.size x5.wd w') := fun x5 => by
                have h1 := (HLL.out x5).take_ (j := r) (by first | (simp; done) | (simp; omega))
                have h3 := (HBS.out x5).drop_ (j := u) (by first | (simp [blkS]; done) | (simp [blkS]; omega))
                have h4 := h3.take_ (j := t) (by first | (simp [blkS]; done) | (simp [blkS]; omega))
                simp only [Nat.zero_add, Nat.mul_one] at h4
                refine tells12_any ([a, b, c].take r) ([a, b, c].drop 3) ((blkS.drop u).take t) _ _ _ (k : Int) x5.wd h1 (HM.out x5) h4 (fun x hx => HJL.out x (List.mem_of_mem_take hx)) (fun x hx => HJL.out x (List.mem_of_mem_drop hx)) (fun x hx => blkS_in (List.mem_of_mem_drop (List.mem_of_mem_take hx))) ⟨?_, ?_, ?_⟩
                · first | (simp; done) | (simp; omega) | (simp [blkS]; omega)
                · first | (simp; done) | (simp; omega)
                · first | (simp; done) | (simp; omega) | (simp [blkS]; omega)
              have T2 : Hid (∀ x5 : Ext Z, Calls Try.prog 3 #[.slice (some ⟨gl, 0, none⟩) 3 3, .slice (some ⟨gl, 0, none⟩) t 3, .slice (some ⟨gb, 0, none⟩) y 5, .int .i64 (k : Int)] x5.wd fun e w' => e = .returned (.bool true) ∧ Below x5.wd.heap.size x5.wd w') := fun x5 => by
                have h2 := (HLL.out x5).take_ (j := t) (by first | (simp; done) | (simp; omega))
                have h4 := (HBS.out x5).take_ (j := y) (by first | (simp [blkS]; done) | (simp [blkS]; omega))
                refine tells12_any [a, b, c] ([a, b, c].take t) (blkS.take y) _ _ _ (k : Int) x5.wd (HLL.out x5) h2 h4 HJL.out (fun x hx => HJL.out x (List.mem_of_mem_take hx)) (fun x hx => blkS_in (List.mem_of_mem_take hx)) ⟨?_, ?_, ?_⟩
                · simp
                · first | (simp; done) | (simp; omega) | (simp [blkS]; omega)
                · first | (simp; done) | (simp; omega) | (simp [blkS]; omega)
              go_upto_region 9 with fail
              refine wp_region_ext (by kernel_rfl) (by kernel_rfl) ?_
              repeat (go_big_quiet_step ((rename_i x5; first
                | (go_at_call 3; (with_reducible exact ext_of x5 (T1.out x5)))
                | (go_at_call 3; (with_reducible exact ext_of x5 (T2.out x5))))))
              refine wpQuiet_nil ?_
              intro _ hw'
              obtain ⟨x6, hw''⟩ := hw'
              subst hw''
              go_wp2_with fail
              go_roundw
              case rel => exact ⟨k + 1, by omega, by go_num, below_call HBk.out x6.low⟩
              case measure => simp [kOf]; omega
            · have HM : Hid (∀ x5 : Ext Z, Sl 3 wntRow x5.wd.heap.size x5.wd (.slice (some ⟨gl, s * 3, none⟩) (3 - s) (3 - s)) ([a, b, c].drop s)) := fun x5 => by
                have h := (HLL.out x5).drop_ (j := s) (by first | (simp; done) | (simp; omega))
                simpa using h
              have T1 : Hid (∀ x5 : Ext Z, Calls Try.prog 3 #[.slice (some ⟨gl, 0, none⟩) r 3, .slice (some ⟨gl, s * 3, none⟩) (3 - s) (3 - s), .slice (some ⟨gb, u, none⟩) t (5 - u), .int .i64 (k : Int)] x5.wd fun e w' => e = .returned (.bool true) ∧ Below x5.wd.heap.size x5.wd w') := fun x5 => by
                have h1 := (HLL.out x5).take_ (j := r) (by first | (simp; done) | (simp; omega))
                have h3 := (HBS.out x5).drop_ (j := u) (by first | (simp [blkS]; done) | (simp [blkS]; omega))
                have h4 := h3.take_ (j := t) (by first | (simp [blkS]; done) | (simp [blkS]; omega))
                simp only [Nat.zero_add, Nat.mul_one] at h4
                refine tells12_any ([a, b, c].take r) ([a, b, c].drop s) ((blkS.drop u).take t) _ _ _ (k : Int) x5.wd h1 (HM.out x5) h4 (fun x hx => HJL.out x (List.mem_of_mem_take hx)) (fun x hx => HJL.out x (List.mem_of_mem_drop hx)) (fun x hx => blkS_in (List.mem_of_mem_drop (List.mem_of_mem_take hx))) ⟨?_, ?_, ?_⟩
                · first | (simp; done) | (simp; omega) | (simp [blkS]; omega)
                · first | (simp; done) | (simp; omega)
                · first | (simp; done) | (simp; omega) | (simp [blkS]; omega)
              have T2 : Hid (∀ x5 : Ext Z, Calls Try.prog 3 #[.slice (some ⟨gl, 0, none⟩) 3 3, .slice (some ⟨gl, 0, none⟩) t 3, .slice (some ⟨gb, 0, none⟩) y 5, .int .i64 (k : Int)] x5.wd fun e w' => e = .returned (.bool true) ∧ Below x5.wd.heap.size x5.wd w') := fun x5 => by
                have h2 := (HLL.out x5).take_ (j := t) (by first | (simp; done) | (simp; omega))
                have h4 := (HBS.out x5).take_ (j := y) (by first | (simp [blkS]; done) | (simp [blkS]; omega))
                refine tells12_any [a, b, c] ([a, b, c].take t) (blkS.take y) _ _ _ (k : Int) x5.wd (HLL.out x5) h2 h4 HJL.out (fun x hx => HJL.out x (List.mem_of_mem_take hx)) (fun x hx => blkS_in (List.mem_of_mem_take hx)) ⟨?_, ?_, ?_⟩
                · simp
                · first | (simp; done) | (simp; omega) | (simp [blkS]; omega)
                · first | (simp; done) | (simp; omega) | (simp [blkS]; omega)
              go_upto_region 9 with fail
              refine wp_region_ext (by kernel_rfl) (by kernel_rfl) ?_
              repeat (go_big_quiet_step ((rename_i x5; first
                | (go_at_call 3; (with_reducible exact ext_of x5 (T1.out x5)))
                | (go_at_call 3; (with_reducible exact ext_of x5 (T2.out x5))))))
              refine wpQuiet_nil ?_
              intro _ hw'
              obtain ⟨x6, hw''⟩ := hw'
              subst hw''
              go_wp2_with fail
              go_roundw
              case rel => exact ⟨k + 1, by omega, by go_num, below_call HBk.out x6.low⟩
              case measure => simp [kOf]; omega
          · have e2 : decide ((k : Int) < 10) = false := decide_eq_false (by omega)
            go_wp2_with fail
            go_roundw
            case rel => exact ⟨n + 1, by omega, by go_num, below_call HBn.out (below_call HBl.out HBk.out)⟩
            case measure => simp [kOf]; omega
    · have e1 : decide ((n : Int) < 125) = false := decide_eq_false (by omega)
      have HB := Lib.hid (below_call HB0.out HBn.out)
      go_wp2_with (go_at_call 6; (with_reducible refine (awake12 _).mono ?_); rintro e wS ⟨rfl, hbS⟩)
      go_ret
      exact ⟨rfl, below_call HB.out hbS⟩
end Go.Proofs.Ytnmlmnhgjnkbhaa
