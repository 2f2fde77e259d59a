/-
  limpetkit's LentInts, KeptInts, SameInts: contracts.
-/
import Derived.Test.YtnmlmnhgjnkbhaaProg
import Derived.Test.YtnmlmnhgjnkbhaaLent
import Derived.Test.YtnmlmnhgjnkbhaaLeadMath
import Derived.WalkLawsBesides
import Derived.Lib.Hide
import Derived.Deep.QuietTactic
import Derived.BigQuiet
import Derived.IntWalk
namespace Go.Proofs.Ytnmlmnhgjnkbhaa
open Go.RowKit
set_option linter.unusedVariables false

theorem i64Row_length (x : Int) : (i64Row x).length = 1 := rfl
theorem i64Row_one (x : Int) : ∀ u ∈ i64Row x, u.oneCell' = true := by
  intro u hu; simp [i64Row] at hu; rcases hu with rfl; rfl
theorem intInfo : (Try.prog.info? 3).map (fun i => (i.zero, i.size, i.bytes)) = some (some (.int .i64 0), 1, 8) := by kernel_rfl
def mrk (i : Nat) : Int := 8000024 + (i : Int)
def marks : List Int := (List.range 12).map mrk
theorem marks_length : marks.length = 12 := rfl
theorem marks_at {i : Nat} (h : i < 12) : marks[i]? = some (mrk i) := by simp [marks, h]
theorem marks_more {i : Nat} (h : i < 12) : marks.take (i + 1) = marks.take i ++ [mrk i] := take_at (marks_at h)

set_option maxHeartbeats 400000 in
theorem mark1 (i : Nat) (w : World) (h : i ≤ 12) : Calls Try.prog 23 #[.int .i64 1, .int .i64 i] w fun e w' => e = .returned (.int .i64 (mrk i)) ∧ w = w' := by
  go_enter Try.func23, Try.ntmps23
  go_wp2
  go_ret
  exact ⟨rfl, rfl⟩

theorem mark2 (x : Int) (w : World) (h0 : 0 ≤ x) (h1 : x ≤ 12) : Calls Try.prog 23 #[.int .i64 1, .int .i64 x] w fun e w' => e = .returned (.int .i64 (8000024 + x)) ∧ w' = w := by
  obtain ⟨i, rfl⟩ := Int.eq_ofNat_of_zero_le h0
  exact (mark1 i w (by omega)).mono fun e w' ⟨he, hw⟩ => ⟨he, hw.symm⟩

set_option maxHeartbeats 400000 in
theorem lentIntsF (l : List Int) (v : Value) (w : World) (h : Sl 1 i64Row w.heap.size w v l) (hn : l.length ≤ 1000000) :
    Calls Try.prog 7 #[v] w fun e w' => ∃ g cp, e = .returned (.slice (some ⟨g, 0, none⟩) l.length cp) ∧ w.heap.size ≤ g ∧ Lnt 1 i64Row marks w'.heap.size w' (.slice (some ⟨g, 0, none⟩) l.length cp) l ∧ Below w.heap.size w w' := by
  have h' := h
  obtain ⟨A, cap, rfl, hlc, hcm, hN, -⟩ := h'
  clear hcm hN
  go_enter Try.func7, Try.ntmps7
  go_wp2_with (first
    | (at_make; refine wpList_make_rows _ rfl _ _ 23 rfl i64Row w.heap.size 3 _ 1 8 Try.underlying23 intInfo .i64 .i64 _ (l.length + 12) rfl rfl (by omega) (by omega) (by omega) (Nat.le_refl _) ?_; intro w0 hown0 hb0)
    | (at_builtin; refine wpList_append_all _ rfl (.tmp 9) (.tmp 10) 23 rfl w.heap.size 3 _ 1 8 Try.underlying23 intInfo rfl (by omega) i64Row i64Row_length i64Row_one [] _ rfl hown0 l w.heap.size _ (h.below hb0) rfl (by unfold maxLen; simp; omega) (by simp; omega) hb0.size ?_; intro v' w' h1 h2 h3 h4 h5))
  have hB := hb0.trans h2
  rw [List.nil_append] at h1
  clear hown0 hb0 h2 h3 h4 h5
  go_loopw [3, 4] (fun v i wr => ∃ k : Nat, k ≤ 12 ∧ i = .int .i64 k ∧ Own 1 i64Row 3 w.heap.size wr v (l ++ marks.take k) ∧ (v = .slice none 0 0 → k = 0) ∧ Below w.heap.size w wr) (fun _ i _ => 12 - (intOf i).toNat)
  case atStart => exact ⟨0, by omega, rfl, by simpa using h1, fun _ => rfl, hB⟩
  case round =>
    clear h1 hB
    obtain ⟨k, hk, rfl, hown, hnn, hB⟩ := hrel
    by_cases hlt : k < 12
    · have HO := Lib.hid hown
      have HN := Lib.hid hnn
      have hz := hB.size
      have hle : (l ++ marks.take k).length ≤ 1000012 := by have := List.length_take_le k marks; rw [List.length_append]; omega
      clear hown hnn
      go_wp2_with (first
        | (go_at_call 23; refine (mark1 k _ (by omega)).mono ?_; rintro e w' ⟨rfl, rfl⟩)
        | (at_builtin; refine wpList_append_row _ rfl (.tmp 16) (.tmp 19) 23 rfl w.heap.size 3 _ 1 8 Try.underlying23 intInfo rfl (by omega) i64Row i64Row_length i64Row_one _ _ rfl HO.out (mrk k) _ rfl 3 _ rfl rfl (by omega) (by omega) hz ?_; intro v' w' p1 p2 p3 p4 p5))
      have HP := Lib.hid p1
      have HB := Lib.hid (hB.trans p2)
      have HV := Lib.hid p5
      clear p1 p2 p3 p4 p5 hB
      go_roundw
      case rel => exact ⟨k + 1, by omega, by go_num, by rw [marks_more hlt, ← List.append_assoc]; exact HP.out, fun h => absurd h HV.out, HB.out⟩
      case measure => simp [intOf]; omega
    · obtain rfl : k = 12 := by omega
      have h3 : u3 ≠ .slice none 0 0 := fun h => by have := hnn h; omega
      obtain ⟨g, cp, rfl, q1, q2, q3, q4⟩ := hown.form' h3
      have HL : Hid (Lnt 1 i64Row marks wr.heap.size wr (.slice (some ⟨g, 0, none⟩) l.length cp) l) := Own.lnt hown i64Row_length (by decide)
      have HB := Lib.hid hB
      have hlen : (l ++ marks.take 12).length = l.length + 12 := by rw [List.length_append]; rfl
      rw [hlen] at q1
      clear hown hnn h3 hB
      go_wp2
      go_ret
      exact ⟨_, _, rfl, q3, HL.out, HB.out⟩

theorem lentInts (l : List Int) (v : Value) (w : World) (h : Sl 1 i64Row w.heap.size w v l) (hn : l.length ≤ 1000000) :
    Calls Try.prog 7 #[v] w fun e w' => ∃ v', e = .returned v' ∧ Lnt 1 i64Row marks w'.heap.size w' v' l ∧ Below w.heap.size w w' :=
  (lentIntsF l v w h hn).mono fun e w' ⟨g, cp, he, _, hl, hb⟩ => ⟨_, he, hl, hb⟩

set_option maxHeartbeats 1000000 in
theorem keptInts (l : List Int) (v v' : Value) (w : World) (h : Lnt 1 i64Row marks w.heap.size w v l) (h' : Sl 1 i64Row w.heap.size w v' l) (hn : l.length ≤ 1000000) :
    Calls Try.prog 22 #[v, v'] w fun e w' => e = .returned (.bool true) ∧ ∃ n, w' = w.drewN n := by
  obtain ⟨g, cap, rfl, q1, q2, hg, hall⟩ := h
  obtain ⟨A', cap', rfl, hlc', hcm', -, hA'⟩ := h'
  rw [marks_length] at q1
  have q2' : cap ≤ 9223372036854775807 := by unfold maxLen at q2; omega
  clear hcm' q2
  go_enter Try.func22, Try.ntmps22
  go_wp2_with fail
  go_loopw [6] (fun i wr => ∃ k n : Nat, k ≤ l.length + 12 ∧ i = .int .i64 k ∧ wr = w.drewN n) (fun i _ => l.length + 12 - (intOf i).toNat)
  case atStart => exact ⟨0, 0, by omega, rfl, rfl⟩
  case round =>
    obtain ⟨k, n, hk, rfl, hwr⟩ := hrel
    have HW := Lib.hid hwr
    have hcc : ∀ p, wr.cell? p = w.cell? p := fun p => by rw [hwr]; simp
    clear hwr
    have i0 : (0 : Int) ≤ (k : Int) := by omega
    by_cases hlt : k < l.length
    · obtain ⟨b', off', rfl, hb', hcell'⟩ := hA' (by intro h; subst h; simp at hlt)
      obtain ⟨x, hx⟩ : ∃ x, l[k]? = some x := ⟨_, List.getElem?_eq_getElem hlt⟩
      have c0 : wr.cell? ⟨g, k, none⟩ = some (.int .i64 x) := by rw [hcc]; simpa using hall k x (by rw [List.getElem?_append_left hlt]; exact hx) 0 _ rfl
      have c1 : wr.cell? ⟨b', off' + k, none⟩ = some (.int .i64 x) := by rw [hcc]; simpa using hcell' k x hx 0 _ rfl
      have i1 : (k : Int) < (l.length : Int) := by omega
      have i2 : (k : Int) < (l.length : Int) + 12 := by omega
      have d1 : decide (k < l.length) = true := by simpa using hlt
      have d2 : decide (l.length ≤ k) = false := by simpa using hlt
      clear hcell' hx hA' hall hcc
      go_wp2_with fail
      go_quiet (fail)
      go_wp2_with fail
      go_roundw
      case rel => exact ⟨k + 1, _, by omega, by go_num, by rw [HW.out]; exact World.drewN_drewN _ _ _⟩
      case measure => simp [intOf]; omega
    · by_cases hlt2 : k < l.length + 12
      · have c0 : wr.cell? ⟨g, k, none⟩ = some (.int .i64 (8000024 + ((k : Int) - (l.length : Int)))) := by
          have := hall k (mrk (k - l.length)) (by rw [List.getElem?_append_right (by omega)]; exact marks_at (by omega)) 0 _ rfl
          rw [show (8000024 + ((k : Int) - (l.length : Int)) : Int) = mrk (k - l.length) by unfold mrk; omega]
          rw [hcc]; simpa using this
        have i1 : (l.length : Int) ≤ (k : Int) := by omega
        have i2 : (k : Int) < (l.length : Int) + 12 := by omega
        have m0 : (0 : Int) ≤ (k : Int) - (l.length : Int) := by omega
        have m1 : (k : Int) - (l.length : Int) ≤ 12 := by omega
        have d1 : decide (k < l.length) = false := by simpa using hlt
        have d2 : decide (l.length ≤ k) = true := by simpa using hlt
        have w1 : IntKind.i64.wrap ((k : Int) - (l.length : Int)) = (k : Int) - (l.length : Int) := IntWalk.i64_in _ (by omega)
        clear hA' hall hlt hcc
        go_wp2_with fail
        go_quiet ((go_at_call 23; exact Calls.quiet_of_same (mark2 _ _ m0 m1)))
        clear w1
        go_wp2_with fail
        go_roundw
        case rel => exact ⟨k + 1, _, by omega, by go_num, by rw [HW.out]; exact World.drewN_drewN _ _ _⟩
        case measure => simp [intOf]; omega
      · go_wp2_with fail
        go_ret
        exact ⟨rfl, n, HW.out⟩
end Go.Proofs.Ytnmlmnhgjnkbhaa
