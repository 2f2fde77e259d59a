/-
  THE PACKAGE term: contracts.
-/
import Derived.Test.YtgbdnkmfinoopaaDoorErrTerm3
import Derived.Test.YtgbdnkmfinoopaaDoorTermMath
set_option linter.unusedVariables false
namespace Go.Proofs.YtgbdnkmfinoopaaDoor
open Go.RowKit

theorem tWithin (n most : Int) (w : World) : Calls Tryd.prog 23 #[.int .i64 n, .int .i64 most] w fun e w' => e = .returned (.bool (decide (0 ≤ n ∧ n ≤ most))) ∧ w = w' := by
  go_enter Tryd.func23, Tryd.ntmps23
  go_wp2
  all_goals go_ret
  all_goals (refine ⟨ret_bool ?_, rfl⟩; simp; try omega)
theorem tWithin_yes (n most : Int) (w : World) (h : 0 ≤ n ∧ n ≤ most) : Calls Tryd.prog 23 #[.int .i64 n, .int .i64 most] w fun e w' => e = .returned (.bool true) ∧ w = w' :=
  (tWithin n most w).mono fun _ _ ⟨he, hw⟩ => ⟨by rw [he, decide_eq_true h], hw⟩
theorem tWithin_no (n most : Int) (w : World) (h : ¬ (0 ≤ n ∧ n ≤ most)) : Calls Tryd.prog 23 #[.int .i64 n, .int .i64 most] w fun e w' => e = .returned (.bool false) ∧ w = w' :=
  (tWithin n most w).mono fun _ _ ⟨he, hw⟩ => ⟨by rw [he, decide_eq_false h], hw⟩

set_option maxHeartbeats 400000 in
theorem tRight (m : Met) (w : World) : Calls Tryd.prog 13 #[.agg #[.int .i64 m.ver, .int .i64 m.trm, .int .i64 m.vot]] w fun e w' => e = .returned (.bool (metRight m)) ∧ Below w.heap.size w w' := by
  by_cases h1 : 0 ≤ m.ver ∧ m.ver ≤ 1099511627776
  · by_cases h2 : 0 ≤ m.trm ∧ m.trm ≤ 1099511627776
    · by_cases h3 : 0 ≤ m.vot ∧ m.vot ≤ 7
      · have hr : metRight m = true := decide_eq_true (by omega)
        rw [hr]; clear hr
        go_enter Tryd.func13, Tryd.ntmps13
        go_wp2_with (go_at_call 23; refine (tWithin_yes _ _ _ (by omega)).mono ?_; rintro e w' ⟨rfl, rfl⟩)
        go_ret
        exact ⟨rfl, below_new _ _⟩
      · have hr : metRight m = false := decide_eq_false (by omega)
        rw [hr]; clear hr
        go_enter Tryd.func13, Tryd.ntmps13
        go_wp2_with (first | (go_at_call 23; refine (tWithin_yes _ _ _ (by omega)).mono ?_; rintro e w' ⟨rfl, rfl⟩) | (go_at_call 23; refine (tWithin_no _ _ _ (by omega)).mono ?_; rintro e w' ⟨rfl, rfl⟩))
        go_ret
        exact ⟨rfl, below_new _ _⟩
    · have hr : metRight m = false := decide_eq_false (by omega)
      rw [hr]; clear hr
      go_enter Tryd.func13, Tryd.ntmps13
      go_wp2_with (first | (go_at_call 23; refine (tWithin_yes _ _ _ (by omega)).mono ?_; rintro e w' ⟨rfl, rfl⟩) | (go_at_call 23; refine (tWithin_no _ _ _ (by omega)).mono ?_; rintro e w' ⟨rfl, rfl⟩))
      go_ret
      exact ⟨rfl, below_new _ _⟩
  · have hr : metRight m = false := decide_eq_false (by omega)
    rw [hr]; clear hr
    go_enter Tryd.func13, Tryd.ntmps13
    go_wp2_with (go_at_call 23; refine (tWithin_no _ _ _ (by omega)).mono ?_; rintro e w' ⟨rfl, rfl⟩)
    go_ret
    exact ⟨rfl, below_new _ _⟩

set_option maxHeartbeats 400000 in
theorem tTurns (m : Met) (w : World) : Calls Tryd.prog 21 #[.agg #[.int .i64 m.ver, .int .i64 m.trm, .int .i64 m.vot]] w fun e w' => e = .returned (.bool (metTurns m)) ∧ Below w.heap.size w w' := by
  cases hr : metRight m
  · have ht : metTurns m = false := by simp [metTurns, hr]
    rw [ht]; clear ht
    have HR := Lib.hid hr
    clear hr
    go_enter Tryd.func21, Tryd.ntmps21
    go_wp2_with (go_at_call 13; refine (tRight m _).mono ?_; rintro e w' ⟨rfl, hb⟩; rw [HR.out])
    go_ret
    exact ⟨rfl, below_call (below_new _ _) hb⟩
  · have ht : metTurns m = decide (m.ver < 1099511627776) := by simp [metTurns, hr]
    rw [ht]; clear ht
    have HR := Lib.hid hr
    clear hr
    go_enter Tryd.func21, Tryd.ntmps21
    go_wp2_with (go_at_call 13; refine (tRight m _).mono ?_; rintro e w' ⟨rfl, hb⟩; rw [HR.out]; obtain ⟨k1, f1, z1⟩ := ((Box.new w #[.int .i64 m.ver, .int .i64 m.trm, .int .i64 m.vot] 23).later hb).facts)
    go_ret
    exact ⟨rfl, below_call (below_new _ _) hb⟩

set_option maxHeartbeats 400000 in
theorem tTo (g : Nat) (m : Met) (term vote : Int) (w : World) (hb : Box w g #[.int .i64 m.ver, .int .i64 m.trm, .int .i64 m.vot] 54) (h1 : -4611686018427387904 ≤ m.ver) (h2 : m.ver ≤ 4611686018427387904) :
    Calls Tryd.prog 20 #[.pointer (some ⟨g, 0, none⟩), .int .i64 term, .int .i64 vote] w fun e w' => e = .returned (.tuple #[]) ∧
      Box w' g #[.int .i64 (toM m term vote).ver, .int .i64 (toM m term vote).trm, .int .i64 (toM m term vote).vot] 54 ∧ But g w w' := by
  obtain ⟨kb, fb, zb⟩ := hb.facts
  have c0 := kb 0
  have c1 := kb 1
  have c2 := kb 2
  have HB := Lib.hid hb
  clear kb hb
  by_cases h : m.trm = term
  · by_cases h' : m.vot = vote
    · have ht : toM m term vote = m := by simp [toM, h, h']
      rw [ht]; clear ht
      have q1 : (m.trm != term) = false := by simpa using h
      have q2 : (m.vot != vote) = false := by simpa using h'
      clear h h'
      go_enter Tryd.func20, Tryd.ntmps20
      go_wp2
      go_end0
      exact ⟨rfl, HB.out, But.refl _ _⟩
    · have ht : toM m term vote = ⟨m.ver + 1, term, vote⟩ := by simp [toM, h']
      rw [ht]; clear ht
      have q1 : (m.trm != term) = false := by simpa using h
      have q2 : (m.vot != vote) = true := by simpa using h'
      clear h h'
      go_enter Tryd.func20, Tryd.ntmps20
      go_wp2
      go_end0
      exact ⟨rfl, ((HB.out.set_ 0 _).set_ 1 _).set_ 2 _, (But.set_ _).trans ((But.set_ _).trans (But.set_ _))⟩
  · have ht : toM m term vote = ⟨m.ver + 1, term, vote⟩ := by simp [toM, h]
    rw [ht]; clear ht
    have q1 : (m.trm != term) = true := by simpa using h
    clear h
    go_enter Tryd.func20, Tryd.ntmps20
    go_wp2
    go_end0
    exact ⟨rfl, ((HB.out.set_ 0 _).set_ 1 _).set_ 2 _, (But.set_ _).trans ((But.set_ _).trans (But.set_ _))⟩
end Go.Proofs.YtgbdnkmfinoopaaDoor
