/-
  limpetlaw24.HealSmall: true. Condition: errors.errorType holds its value.
-/
import Derived.Test.YtglkgmijhdkhpaaGreatDoorHt39
set_option linter.unusedVariables false
set_option linter.unusedSimpArgs false
namespace Go.Proofs.YtglkgmijhdkhpaaGreatDoor
open Go.RowKit

theorem box_at {g : Nat} {W : World} {cs : Array Value} {t : TypeId} (h : g = W.heap.size) : Box (W.alloc (.cells cs t)) g cs t := by rw [h]; exact Box.new _ _ _

/-- The first of a round's two questions. -/
theorem small1 (p0 p1 p2 q0 q1 q2 c4 c5 c6 d4 d5 d6 bz : Int) (gb g1 g2 g3 : Nat) (many self turn : Int) (V : World) (hp : -1 ≤ p0 ∧ p0 ≤ 3) (hq : 1 ≤ q0 ∧ q0 ≤ 4) (hz : 0 ≤ bz ∧ bz ≤ 255) (hb : Box V gb #[.int .u8 1, .int .u8 bz] 5) (h1 : Box V g1 #[.int .i64 p0, .int .i64 p1, .int .i64 p2, .int .i64 q0, .int .i64 q1, .int .i64 q2] 42) (h2 : Box V g2 #[.int .i64 q0, .int .i64 q1, .int .i64 q2, .int .i64 p0, .int .i64 p1, .int .i64 p2, .int .i64 q0, .int .i64 q1, .int .i64 q2] 42) (h3 : Box V g3 #[.int .i64 q0, .int .i64 q1, .int .i64 1, .slice none 0 0, .int .i64 d4, .int .i64 d5, .int .i64 d6, .int .i64 p0, .int .i64 p1, .int .i64 p2, .slice (some ⟨gb, 0, none⟩) 2 2, .int .i64 c4, .int .i64 c5, .int .i64 c6, .int .i64 p0, .int .i64 p1, .int .i64 p2, .slice none 0 0, .int .i64 c4, .int .i64 c5, .int .i64 c6] 56) (hG : errTypeIs V) :
    Calls Tryz.prog 3 #[.slice (some ⟨g1, 0, none⟩) 2 2, .slice (some ⟨g2, 0, none⟩) 3 3, .slice (some ⟨g3, 0, none⟩) 3 3, .int .i64 many, .int .i64 self, .int .i64 turn] V fun e w' => e = .returned (.bool true) ∧ Below V.heap.size V w' := by
  have sb : Sl 1 u8Row V.heap.size V (.slice (some ⟨gb, 0, none⟩) 2 2) [1, bz] := Box.sl u8Row_length [1, bz] hb rfl (by unfold maxLen; simp)
  refine healTells [⟨p0, p1, p2⟩, ⟨q0, q1, q2⟩] [⟨q0, q1, q2⟩, ⟨p0, p1, p2⟩, ⟨q0, q1, q2⟩] [⟨⟨q0, q1, 1, none, 0, []⟩, ⟨d4, d5, d6⟩⟩, ⟨⟨p0, p1, p2, some ⟨gb, 0, none⟩, 2, [1, bz]⟩, ⟨c4, c5, c6⟩⟩, ⟨⟨p0, p1, p2, none, 0, []⟩, ⟨c4, c5, c6⟩⟩] _ _ _ many self turn V (Box.sl idRow_length [⟨p0, p1, p2⟩, ⟨q0, q1, q2⟩] h1 rfl (by unfold maxLen; simp)) (Box.sl idRow_length [⟨q0, q1, q2⟩, ⟨p0, p1, p2⟩, ⟨q0, q1, q2⟩] h2 rfl (by unfold maxLen; simp)) (Box.sl recRow_length [⟨⟨q0, q1, 1, none, 0, []⟩, ⟨d4, d5, d6⟩⟩, ⟨⟨p0, p1, p2, some ⟨gb, 0, none⟩, 2, [1, bz]⟩, ⟨c4, c5, c6⟩⟩, ⟨⟨p0, p1, p2, none, 0, []⟩, ⟨c4, c5, c6⟩⟩] h3 rfl (by unfold maxLen; simp)) (fun r hr => ?_) (by simp) (by simp) (by simp) hG
  simp only [List.mem_cons, List.not_mem_nil, or_false] at hr
  rcases hr with rfl | rfl | rfl
  · exact ⟨⟨⟨Sl.nil_ _ _ _ _, fun u hu => by cases hu⟩, by simp⟩, by unfold H64; simp only; omega⟩
  · exact ⟨⟨⟨sb, fun u hu => by simp at hu; omega⟩, by simp⟩, by unfold H64; simp only; omega⟩
  · exact ⟨⟨⟨Sl.nil_ _ _ _ _, fun u hu => by cases hu⟩, by simp⟩, by unfold H64; simp only; omega⟩
/-- The second. -/
theorem small2 (p0 p1 p2 q0 q1 q2 c4 c5 c6 d4 d5 d6 : Int) (g1 g2 g3 : Nat) (many self turn : Int) (V : World) (hp : -1 ≤ p0 ∧ p0 ≤ 3) (hq : 1 ≤ q0 ∧ q0 ≤ 4) (h1 : Box V g1 #[.int .i64 q0, .int .i64 q1, .int .i64 q2, .int .i64 p0, .int .i64 p1, .int .i64 p2, .int .i64 3, .int .i64 0, .int .i64 0] 42) (h2 : Box V g2 #[.int .i64 p0, .int .i64 p1, .int .i64 p2] 42) (h3 : Box V g3 #[.int .i64 p0, .int .i64 p1, .int .i64 p2, .slice none 0 0, .int .i64 c4, .int .i64 c5, .int .i64 c6, .int .i64 q0, .int .i64 q1, .int .i64 1, .slice none 0 0, .int .i64 d4, .int .i64 d5, .int .i64 d6] 56) (hG : errTypeIs V) :
    Calls Tryz.prog 3 #[.slice (some ⟨g1, 0, none⟩) 3 3, .slice (some ⟨g2, 0, none⟩) 1 1, .slice (some ⟨g3, 0, none⟩) 2 2, .int .i64 many, .int .i64 self, .int .i64 turn] V fun e w' => e = .returned (.bool true) ∧ Below V.heap.size V w' := by
  refine healTells [⟨q0, q1, q2⟩, ⟨p0, p1, p2⟩, ⟨3, 0, 0⟩] [⟨p0, p1, p2⟩] [⟨⟨p0, p1, p2, none, 0, []⟩, ⟨c4, c5, c6⟩⟩, ⟨⟨q0, q1, 1, none, 0, []⟩, ⟨d4, d5, d6⟩⟩] _ _ _ many self turn V (Box.sl idRow_length [⟨q0, q1, q2⟩, ⟨p0, p1, p2⟩, ⟨3, 0, 0⟩] h1 rfl (by unfold maxLen; simp)) (Box.sl idRow_length [⟨p0, p1, p2⟩] h2 rfl (by unfold maxLen; simp)) (Box.sl recRow_length [⟨⟨p0, p1, p2, none, 0, []⟩, ⟨c4, c5, c6⟩⟩, ⟨⟨q0, q1, 1, none, 0, []⟩, ⟨d4, d5, d6⟩⟩] h3 rfl (by unfold maxLen; simp)) (fun r hr => ?_) (by simp) (by simp) (by simp) hG
  simp only [List.mem_cons, List.not_mem_nil, or_false] at hr
  rcases hr with rfl | rfl
  · exact ⟨⟨⟨Sl.nil_ _ _ _ _, fun u hu => by cases hu⟩, by simp⟩, by unfold H64; simp only; omega⟩
  · exact ⟨⟨⟨Sl.nil_ _ _ _ _, fun u hu => by cases hu⟩, by simp⟩, by unfold H64; simp only; omega⟩

set_option maxRecDepth 100000 in
set_option maxHeartbeats 8000000 in
theorem healSmall (w : World) (hG : errTypeIs w) : Calls Tryz.prog 4 #[] w fun e w' => e = .returned (.bool true) ∧ Below w.heap.size w w' := by
  have HG := Lib.hid hG
  clear hG
  go_enter Tryz.func4, Tryz.ntmps4
  go_wp2_with fail
  go_loopw [1] (fun n wr => ∃ i : Nat, i ≤ 2000 ∧ n = .int .i64 (i : Int) ∧ Below w.heap.size w wr) (fun n _ => 2001 - (kOf n).toNat)
  case atStart => exact ⟨0, by omega, rfl, Below.refl _ _⟩
  case round =>
    obtain ⟨n, hn, rfl, hB0⟩ := hrel
    have HB0 := Lib.hid hB0
    clear hB0
    have k5 : (0 : Int) ≤ (n : Int) := by omega
    by_cases hlt : n < 2000
    · have d0 : decide ((n : Int) < 2000) = true := decide_eq_true (by omega)
      have i0 : (n : Int) < 2000 := by omega
      go_upto_region 4 with fail
      go_cut [2] (fun u wx => ∃ p0 p1 p2 : Int, u = .pointer (some ⟨wr.heap.size, 0, none⟩) ∧ -1 ≤ p0 ∧ p0 ≤ 3 ∧ wx = wr.alloc (.cells #[.int .i64 p0, .int .i64 p1, .int .i64 p2] 42))
      case first =>
        go_wp2_with fail
        go_meet
        exact ⟨_, _, _, rfl, by omega, by omega, rfl⟩
      case rest =>
      obtain ⟨p0, p1, p2, rfl, hp0, hp1, hwc⟩ := hcut
      obtain ⟨W1, hW⟩ : ∃ z, z = wc := ⟨_, rfl⟩
      obtain ⟨gp, hg⟩ : ∃ z, z = wr.heap.size := ⟨_, rfl⟩
      have HP1 := Lib.hid (show Box W1 gp #[.int .i64 p0, .int .i64 p1, .int .i64 p2] 42 by rw [hW, hwc, hg]; exact Box.new _ _ _)
      have HB1 := Lib.hid (show Below w.heap.size w W1 by rw [hW, hwc]; exact below_call HB0.out (below_new _ _))
      rw [← hW, ← hg]
      clear hwc hW hg HB0
      go_upto_region 5 with fail
      go_cut [3] (fun u wx => ∃ q0 q1 q2 : Int, u = .pointer (some ⟨W1.heap.size, 0, none⟩) ∧ 1 ≤ q0 ∧ q0 ≤ 4 ∧ wx = W1.alloc (.cells #[.int .i64 q0, .int .i64 q1, .int .i64 q2] 42))
      case first =>
        go_wp2_with fail
        go_meet
        exact ⟨_, _, _, rfl, by omega, by omega, rfl⟩
      case rest =>
      obtain ⟨q0, q1, q2, rfl, hq0, hq1, hwc⟩ := hcut
      obtain ⟨W2, hW⟩ : ∃ z, z = wc := ⟨_, rfl⟩
      obtain ⟨gq, hg⟩ : ∃ z, z = W1.heap.size := ⟨_, rfl⟩
      have hbn := Lib.hid (show Below W1.heap.size W1 W2 by rw [hW, hwc]; exact below_new _ _)
      have HQ2 := Lib.hid (show Box W2 gq #[.int .i64 q0, .int .i64 q1, .int .i64 q2] 42 by rw [hW, hwc, hg]; exact Box.new _ _ _)
      have HP2 := Lib.hid (HP1.out.later hbn.out)
      have HB2 := Lib.hid (below_call HB1.out hbn.out)
      rw [← hW, ← hg]
      clear hwc hW hg HB1 HP1 hbn
      obtain ⟨ka, fa, za⟩ := HP2.out.facts
      go_upto_region 6 with fail
      go_cut [4] (fun u wx => ∃ (g : Nat) (c4 c5 c6 : Int), u = .pointer (some ⟨g, 0, none⟩) ∧ Box wx g #[.int .i64 p0, .int .i64 p1, .int .i64 p2, .slice none 0 0, .int .i64 c4, .int .i64 c5, .int .i64 c6] 56 ∧ Below W2.heap.size W2 wx ∧ W2.heap.size ≤ g)
      case first =>
        go_wp2_with (go_at_call 27; (with_reducible refine (of24 _ _ _ _ _ _ W2).mono ?_); rintro e w3 ⟨rfl, hb⟩)
        go_meet
        exact ⟨_, _, _, _, rfl, Box.new _ _ _, below_call hb (below_new _ _), hb.size⟩
      case rest =>
      obtain ⟨gx, a4, a5, a6, rfl, hx, hb, hgx⟩ := hcut
      obtain ⟨W3, hW⟩ : ∃ z, z = wc := ⟨_, rfl⟩
      rw [← hW] at hx hb
      rw [← hW]
      have HX3 := Lib.hid hx
      have HB3 := Lib.hid hb
      clear hx hb hW ka fa za
      have HP3 := Lib.hid (HP2.out.later HB3.out)
      have HGX := Lib.hid hgx
      clear hgx
      go_upto_region 7 with fail
      go_cut [52] (fun v wx => ∃ bb : Bool, v = .bool bb ∧ wx = W3)
      case first =>
        obtain ⟨ka, fa, za⟩ := HP3.out.facts
        by_cases h1 : p0 = 1
        · have e1 : (p0 == 1) = true := by simp [h1]
          clear h1
          go_wp2_with fail
          go_meet
          exact ⟨_, rfl, rfl⟩
        · have e1 : (p0 == 1) = false := by simp [h1]
          clear h1
          go_wp2_with fail
          go_meet
          exact ⟨_, rfl, rfl⟩
      case rest =>
      obtain ⟨bb, rfl, hwc⟩ := hcut
      rw [hwc]
      clear hwc
      go_upto_if 52 with fail
      go_cut [] (fun wx => ∃ c4 c5 c6 : Int, Box wx gx #[.int .i64 p0, .int .i64 p1, .int .i64 p2, .slice none 0 0, .int .i64 c4, .int .i64 c5, .int .i64 c6] 56 ∧ Below W2.heap.size W2 wx)
      case first =>
        cases bb
        · go_wp2_with fail
          go_meet
          exact ⟨_, _, _, HX3.out, HB3.out⟩
        · obtain ⟨kx, fx, zx⟩ := HX3.out.facts
          go_wp2_with fail
          go_meet
          exact ⟨0, 0, 0, ((HX3.out.set_ 4 _).set_ 5 _).set_ 6 _, below_set (below_set (below_set HB3.out HGX.out) HGX.out) HGX.out⟩
      case rest =>
      obtain ⟨c4, c5, c6, hx, hb⟩ := hcut
      obtain ⟨W4, hW⟩ : ∃ z, z = wc := ⟨_, rfl⟩
      rw [← hW] at hx hb
      rw [← hW]
      have HX4 := Lib.hid hx
      have HP4 := Lib.hid (HP2.out.later hb)
      have HQ4 := Lib.hid (HQ2.out.later hb)
      have HB4 := Lib.hid (below_call HB2.out hb)
      clear hx hb hW HX3 HB3 HP3 HP2 HQ2 HB2
      obtain ⟨ka, fa, za⟩ := HQ4.out.facts
      go_upto_region 9 with fail
      go_cut [5] (fun u wx => ∃ (g : Nat) (d4 d5 d6 : Int), u = .pointer (some ⟨g, 0, none⟩) ∧ Box wx g #[.int .i64 q0, .int .i64 q1, .int .i64 1, .slice none 0 0, .int .i64 d4, .int .i64 d5, .int .i64 d6] 56 ∧ Below W4.heap.size W4 wx)
      case first =>
        go_wp2_with (go_at_call 27; (with_reducible refine (of24 _ _ _ _ _ _ W4).mono ?_); rintro e w3 ⟨rfl, hb⟩)
        go_meet
        exact ⟨_, _, _, _, rfl, Box.new _ _ _, below_call hb (below_new _ _)⟩
      case rest =>
      obtain ⟨gy, d4, d5, d6, rfl, hy, hb⟩ := hcut
      obtain ⟨W5, hW⟩ : ∃ z, z = wc := ⟨_, rfl⟩
      rw [← hW] at hy hb
      rw [← hW]
      have HY5 := Lib.hid hy
      have HX5 := Lib.hid (HX4.out.later hb)
      have HP5 := Lib.hid (HP4.out.later hb)
      have HQ5 := Lib.hid (HQ4.out.later hb)
      have HB5 := Lib.hid (below_call HB4.out hb)
      clear hy hb hW ka fa za HX4 HP4 HQ4 HB4
      obtain ⟨ka, fa, za⟩ := HX5.out.facts
      go_upto_region 10 with fail
      go_cut [6] (fun u wx => u = .pointer (some ⟨W5.heap.size, 0, none⟩) ∧ wx = W5.alloc (.cells #[.int .i64 p0, .int .i64 p1, .int .i64 p2, .slice none 0 0, .int .i64 c4, .int .i64 c5, .int .i64 c6] 56))
      case first =>
        go_wp2_with fail
        go_meet
        exact ⟨rfl, rfl⟩
      case rest =>
      obtain ⟨rfl, hwc⟩ := hcut
      obtain ⟨W6, hW⟩ : ∃ z, z = wc := ⟨_, rfl⟩
      obtain ⟨gz, hg⟩ : ∃ z, z = W5.heap.size := ⟨_, rfl⟩
      have hbn := Lib.hid (show Below W5.heap.size W5 W6 by rw [hW, hwc]; exact below_new _ _)
      have HZ6 := Lib.hid (show Box W6 gz #[.int .i64 p0, .int .i64 p1, .int .i64 p2, .slice none 0 0, .int .i64 c4, .int .i64 c5, .int .i64 c6] 56 by rw [hW, hwc, hg]; exact Box.new _ _ _)
      have HGZ := Lib.hid (show W5.heap.size ≤ gz by rw [hg]; exact Nat.le_refl _)
      have hz6 : gz < W6.heap.size := HZ6.out.lt
      rw [← hW, ← hg]
      clear hwc hW hg ka fa za
      obtain ⟨ka, fa, za⟩ := HZ6.out.facts
      go_upto_region 11 with fail
      go_cut [] (fun wx => ∃ (gb : Nat) (bz : Int), (0 ≤ bz ∧ bz ≤ 255) ∧ Box wx gz #[.int .i64 p0, .int .i64 p1, .int .i64 p2, .slice (some ⟨gb, 0, none⟩) 2 2, .int .i64 c4, .int .i64 c5, .int .i64 c6] 56 ∧ Box wx gb #[.int .u8 1, .int .u8 bz] 5 ∧ Below W5.heap.size W5 wx)
      case first =>
        go_wp2_with fail
        go_meet
        exact ⟨W6.heap.size, (n : Int) % 256, by omega, (HZ6.out.set_ 3 _).alloc _, box_at (by simp), below_call (below_set hbn.out HGZ.out) (below_new _ _)⟩
      case rest =>
      obtain ⟨gb, bz, hbz, hz, hbb, hb⟩ := hcut
      obtain ⟨W7, hW⟩ : ∃ z, z = wc := ⟨_, rfl⟩
      rw [← hW] at hz hbb hb
      rw [← hW]
      have HZ7 := Lib.hid hz
      have HBB7 := Lib.hid hbb
      have HBZ := Lib.hid hbz
      have HY7 := Lib.hid (HY5.out.later hb)
      have HX7 := Lib.hid (HX5.out.later hb)
      have HP7 := Lib.hid (HP5.out.later hb)
      have HQ7 := Lib.hid (HQ5.out.later hb)
      have HB7 := Lib.hid (below_call HB5.out hb)
      clear hz hbb hb hbz hW ka fa za HZ6 HGZ hz6 hbn HY5 HX5 HP5 HQ5 HB5
      obtain ⟨kp, fp, zp⟩ := HP7.out.facts
      obtain ⟨kq, fq, zq⟩ := HQ7.out.facts
      obtain ⟨kx, fx, zx⟩ := HX7.out.facts
      obtain ⟨ky, fy, zy⟩ := HY7.out.facts
      obtain ⟨kz, fz, zz⟩ := HZ7.out.facts
      have HNN : Hid (∀ (V : World) (a b c : Obj), Below V.heap.size V (((V.alloc a).alloc b).alloc c)) := fun V a b c => below_call (below_call (below_new _ _) (below_new _ _)) (below_new _ _)
      go_wp2_with (first
        | (go_at_call 3; (with_reducible refine (small1 p0 p1 p2 q0 q1 q2 c4 c5 c6 d4 d5 d6 bz gb _ _ _ _ _ _ _ ⟨hp0, hp1⟩ ⟨hq0, hq1⟩ HBZ.out ?_ ?_ ?_ ?_ ?_).mono ?_); (focus (exact ((HBB7.out.alloc _).alloc _).alloc _)); (focus (exact ((box_at (by simp)).alloc _).alloc _)); (focus (exact (box_at (by simp)).alloc _)); (focus (exact box_at (by simp))); (focus (exact errType_later HG.out (below_call HB7.out (HNN.out _ _ _ _)))); rintro e w8 ⟨rfl, hb⟩; have HB78 := Lib.hid (below_call (HNN.out _ _ _ _) hb); clear hb kp fp zp kq fq zq kx fx zx ky fy zy kz fz zz; obtain ⟨kp, fp, zp⟩ := (HP7.out.later HB78.out).facts; obtain ⟨kq, fq, zq⟩ := (HQ7.out.later HB78.out).facts; obtain ⟨kx, fx, zx⟩ := (HX7.out.later HB78.out).facts; obtain ⟨ky, fy, zy⟩ := (HY7.out.later HB78.out).facts)
        | (go_at_call 3; (with_reducible refine (small2 p0 p1 p2 q0 q1 q2 c4 c5 c6 d4 d5 d6 _ _ _ _ _ _ _ ⟨hp0, hp1⟩ ⟨hq0, hq1⟩ ?_ ?_ ?_ ?_).mono ?_); (focus (exact ((box_at (by simp)).alloc _).alloc _)); (focus (exact (box_at (by simp)).alloc _)); (focus (exact box_at (by simp))); (focus (exact errType_later HG.out (below_call (below_call HB7.out HB78.out) (HNN.out _ _ _ _)))); rintro e w9 ⟨rfl, hb⟩; have HB9 := Lib.hid (below_call (below_call HB7.out HB78.out) (below_call (HNN.out _ _ _ _) hb)); clear hb))
      go_roundw
      case rel => exact ⟨n + 1, by omega, by go_num, HB9.out⟩
      case measure => first | (simp [kOf]; done) | (simp [kOf]; omega)
    · have d0 : decide ((n : Int) < 2000) = false := decide_eq_false (by omega)
      have i0 : (2000 : Int) ≤ (n : Int) := by omega
      clear hlt
      have CT := Lib.hid (healTells [] [] [] (.slice none 0 0) (.slice none 0 0) (.slice none 0 0) 9223372036854775807 0 (-9223372036854775808) wr (Sl.nil_ _ _ _ _) (Sl.nil_ _ _ _ _) (Sl.nil_ _ _ _ _) (fun r hr => by simp at hr) (by simp) (by simp) (by simp) (errType_later HG.out HB0.out))
      go_wp2_with (first
        | (go_at_call 3; (with_reducible refine CT.out.mono ?_); rintro e w1 ⟨rfl, hb⟩; have H1 := Lib.hid (below_call HB0.out hb); clear hb)
        | (go_at_call 6; (with_reducible refine (awake24 w1 (errType_later HG.out H1.out)).mono ?_); rintro e w2 ⟨rfl, hb⟩; have H2 := Lib.hid (below_call H1.out hb); clear hb))
      go_ret
      exact ⟨rfl, H2.out⟩
end Go.Proofs.YtglkgmijhdkhpaaGreatDoor
