/-
  bound.Applies, limpetref21.Applies: contracts.
-/
import Derived.Test.YtclphcbjdcdkfaaDoorProg
import Derived.Test.YtclphcbjdcdkfaaDoorBoundOf
import Derived.Test.YtclphcbjdcdkfaaDoorExt
import Derived.Test.YtclphcbjdcdkfaaDoorMatchMath
set_option linter.unusedVariables false
set_option linter.unusedSimpArgs false
namespace Go.Proofs.YtclphcbjdcdkfaaDoor
open Go.RowKit

theorem within_ (n : Int) (b : Bool) (hb : inN n = b) (w : World) : Calls Tryd.prog 49 #[.int .i64 n] w fun e w' => e = .returned (.bool b) ∧ w = w' := by
  unfold inN at hb
  by_cases h1 : 0 ≤ n
  · by_cases h2 : n ≤ 1099511627776
    · have : b = true := by rw [← hb]; exact decide_eq_true ⟨h1, h2⟩
      subst this
      clear hb
      go_enter Tryd.func49, Tryd.ntmps49
      go_wp2
      go_ret
      exact ⟨rfl, rfl⟩
    · have : b = false := by rw [← hb]; exact decide_eq_false (by omega)
      subst this
      clear hb
      have h2' : 1099511627776 < n := by omega
      go_enter Tryd.func49, Tryd.ntmps49
      go_wp2
      go_ret
      exact ⟨rfl, rfl⟩
  · have : b = false := by rw [← hb]; exact decide_eq_false (by omega)
    subst this
    clear hb
    have h1' : n < 0 := by omega
    go_enter Tryd.func49, Tryd.ntmps49
    go_wp2
    go_ret
    exact ⟨rfl, rfl⟩

theorem ite_min (x y : Int) : (if x < y then x else y) = min x y := by split <;> omega
theorem app_no {c a r m : Int} (h : ¬ appOk c a r m) : appV c a r m = (0, 0) := by unfold appV; rw [if_neg h]
theorem app_yes {c a r m : Int} (h : appOk c a r m) : appV c a r m = (a + 1, topI c a r m) := by unfold appV; rw [if_pos h]
theorem inN_t {n : Int} (h : inN n = true) : 0 ≤ n ∧ n ≤ 1099511627776 := of_decide_eq_true h
theorem inN_f {n : Int} (h : inN n = false) : ¬ (0 ≤ n ∧ n ≤ 1099511627776) := of_decide_eq_false h

set_option maxRecDepth 100000 in
set_option maxHeartbeats 4000000 in
theorem appliesB (c a r m : Int) (hr : I64 r) (hm : I64 m) (w : World) :
    Calls Tryd.prog 23 #[.int .i64 c, .int .i64 a, .int .i64 r, .int .i64 m] w fun e w' => e = .returned (.tuple #[.int .i64 (appV c a r m).1, .int .i64 (appV c a r m).2]) ∧ Below w.heap.size w w' := by
  unfold I64 at hr hm
  by_cases hc : inN c = true
  · by_cases ha : inN a = true
    · have HC := Lib.hid hc
      have HA := Lib.hid ha
      obtain ⟨c0, c1⟩ := inN_t hc
      obtain ⟨a0, a1⟩ := inN_t ha
      clear hc ha
      by_cases h1 : 1 ≤ m
      · have m1 : decide (m < 1) = false := decide_eq_false (by omega)
        have m1' : ¬ m < 1 := by omega
        by_cases h2 : 0 < r
        · have w1 : wrap64 (r - 1) = r - 1 := by unfold wrap64; omega
          go_enter Tryd.func23, Tryd.ntmps23
          go_wp2_with (go_at_call 49; first | (refine (within_ c true HC.out _).mono ?_; rintro e w1 ⟨rfl, rfl⟩) | (refine (within_ a true HA.out _).mono ?_; rintro e w1 ⟨rfl, rfl⟩))
          all_goals
            refine bodyPost_ret (v := .tuple #[.int .i64 (appV c a r m).1, .int .i64 (appV c a r m).2]) ?_ rfl ⟨rfl, Below.refl _ _⟩
            simp only [results, Tryd.results23]
            simp [go_sem]
            (try simp only [ite_min] at *)
            by_cases hk : appOk c a r m
            · simp only [app_yes hk, topI, lowI, if_pos (show 0 < r by omega)]
              simp only [appOk, lowI, if_pos (show 0 < r by omega)] at hk
              first | omega | exact ⟨trivial, trivial⟩ | (refine ⟨trivial, ?_⟩; omega)
            · simp only [app_no hk]
              simp only [appOk, lowI, if_pos (show 0 < r by omega)] at hk
              first | omega | exact ⟨trivial, trivial⟩ | (refine ⟨trivial, ?_⟩; omega)
        · have h2' : decide (0 < r) = false := decide_eq_false h2
          have h2'' : r ≤ 0 := by omega
          go_enter Tryd.func23, Tryd.ntmps23
          go_wp2_with (go_at_call 49; first | (refine (within_ c true HC.out _).mono ?_; rintro e w1 ⟨rfl, rfl⟩) | (refine (within_ a true HA.out _).mono ?_; rintro e w1 ⟨rfl, rfl⟩))
          all_goals
            refine bodyPost_ret (v := .tuple #[.int .i64 (appV c a r m).1, .int .i64 (appV c a r m).2]) ?_ rfl ⟨rfl, Below.refl _ _⟩
            simp only [results, Tryd.results23]
            simp [go_sem]
            (try simp only [ite_min] at *)
            by_cases hk : appOk c a r m
            · simp only [app_yes hk, topI, lowI, if_neg (show ¬ 0 < r by omega)]
              simp only [appOk, lowI, if_neg (show ¬ 0 < r by omega)] at hk
              first | omega | exact ⟨trivial, trivial⟩ | (refine ⟨trivial, ?_⟩; omega)
            · simp only [app_no hk]
              simp only [appOk, lowI, if_neg (show ¬ 0 < r by omega)] at hk
              first | omega | exact ⟨trivial, trivial⟩ | (refine ⟨trivial, ?_⟩; omega)
      · have h1' : m < 1 := by omega
        rw [app_no (fun h => h1 h.2.2.2.2.1)]
        go_enter Tryd.func23, Tryd.ntmps23
        go_wp2_with (go_at_call 49; first | (refine (within_ c true HC.out _).mono ?_; rintro e w1 ⟨rfl, rfl⟩) | (refine (within_ a true HA.out _).mono ?_; rintro e w1 ⟨rfl, rfl⟩))
        refine bodyPost_ret (v := .tuple #[.int .i64 0, .int .i64 0]) (by simp [results, Tryd.results23, go_sem]) rfl ⟨rfl, Below.refl _ _⟩
    · have HC := Lib.hid hc
      have HA := Lib.hid (show inN a = false by simpa using ha)
      rw [app_no (fun h => (inN_f HA.out) ⟨h.2.2.1, h.2.2.2.1⟩)]
      clear hc ha
      go_enter Tryd.func23, Tryd.ntmps23
      go_wp2_with (go_at_call 49; first | (with_reducible refine (within_ c true HC.out _).mono ?_; rintro e w1 ⟨rfl, rfl⟩) | (with_reducible refine (within_ a false HA.out _).mono ?_; rintro e w1 ⟨rfl, rfl⟩))
      refine bodyPost_ret (v := .tuple #[.int .i64 0, .int .i64 0]) (by simp [results, Tryd.results23, go_sem]) rfl ⟨rfl, Below.refl _ _⟩
  · have HC := Lib.hid (show inN c = false by simpa using hc)
    rw [app_no (fun h => (inN_f HC.out) ⟨h.1, h.2.1⟩)]
    clear hc
    go_enter Tryd.func23, Tryd.ntmps23
    go_wp2_with (go_at_call 49; refine (within_ c false HC.out _).mono ?_; rintro e w1 ⟨rfl, rfl⟩)
    refine bodyPost_ret (v := .tuple #[.int .i64 0, .int .i64 0]) (by simp [results, Tryd.results23, go_sem]) rfl ⟨rfl, Below.refl _ _⟩

set_option maxRecDepth 100000 in
set_option maxHeartbeats 4000000 in
theorem rApplies (c a r m : Int) (hr : I64 r) (hm : I64 m) (w : World) :
    Calls Tryd.prog 24 #[.int .i64 c, .int .i64 a, .int .i64 r, .int .i64 m] w fun e w' => e = .returned (.tuple #[.int .i64 (appV c a r m).1, .int .i64 (appV c a r m).2]) ∧ Below w.heap.size w w' := by
  unfold I64 at hr hm
  by_cases hg : 0 ≤ c ∧ c ≤ 1099511627776 ∧ 0 ≤ a ∧ a ≤ 1099511627776 ∧ 1 ≤ m
  · obtain ⟨c0, c1, a0, a1, m1⟩ := hg
    have d1 : decide (c < 0) = false := decide_eq_false (by omega)
    have d2 : decide (1099511627776 < c) = false := decide_eq_false (by omega)
    have d3 : decide (a < 0) = false := decide_eq_false (by omega)
    have d4 : decide (1099511627776 < a) = false := decide_eq_false (by omega)
    have d5 : decide (m < 1) = false := decide_eq_false (by omega)
    by_cases h2 : 0 < r
    · have h2' : decide (0 < r) = true := decide_eq_true h2
      have w1 : wrap64 (r - 1) = r - 1 := by unfold wrap64; omega
      go_enter Tryd.func24, Tryd.ntmps24
      go_wp2_with fail
      all_goals
        refine bodyPost_ret (v := .tuple #[.int .i64 (appV c a r m).1, .int .i64 (appV c a r m).2]) ?_ rfl ⟨rfl, Below.refl _ _⟩
        simp only [results, Tryd.results24]
        simp [go_sem]
        (try simp only [ite_min] at *)
        by_cases hk : appOk c a r m
        · simp only [app_yes hk, topI, lowI, if_pos (show 0 < r by omega)]
          simp only [appOk, lowI, if_pos (show 0 < r by omega)] at hk
          first | omega | exact ⟨trivial, trivial⟩ | (refine ⟨trivial, ?_⟩; omega)
        · simp only [app_no hk]
          simp only [appOk, lowI, if_pos (show 0 < r by omega)] at hk
          first | omega | exact ⟨trivial, trivial⟩ | (refine ⟨trivial, ?_⟩; omega)
    · have h2' : decide (0 < r) = false := decide_eq_false h2
      go_enter Tryd.func24, Tryd.ntmps24
      go_wp2_with fail
      all_goals
        refine bodyPost_ret (v := .tuple #[.int .i64 (appV c a r m).1, .int .i64 (appV c a r m).2]) ?_ rfl ⟨rfl, Below.refl _ _⟩
        simp only [results, Tryd.results24]
        simp [go_sem]
        (try simp only [ite_min] at *)
        by_cases hk : appOk c a r m
        · simp only [app_yes hk, topI, lowI, if_neg (show ¬ 0 < r by omega)]
          simp only [appOk, lowI, if_neg (show ¬ 0 < r by omega)] at hk
          first | omega | exact ⟨trivial, trivial⟩ | (refine ⟨trivial, ?_⟩; omega)
        · simp only [app_no hk]
          simp only [appOk, lowI, if_neg (show ¬ 0 < r by omega)] at hk
          first | omega | exact ⟨trivial, trivial⟩ | (refine ⟨trivial, ?_⟩; omega)
  · rw [app_no (fun h => hg ⟨h.1, h.2.1, h.2.2.1, h.2.2.2.1, h.2.2.2.2.1⟩)]
    by_cases g1 : c < 0
    · have d1 : decide (c < 0) = true := decide_eq_true g1
      clear hg
      go_enter Tryd.func24, Tryd.ntmps24
      go_wp2_with fail
      refine bodyPost_ret (v := .tuple #[.int .i64 0, .int .i64 0]) (by simp [results, Tryd.results24, go_sem]) rfl ⟨rfl, Below.refl _ _⟩
    have d1 : decide (c < 0) = false := decide_eq_false g1
    by_cases g2 : 1099511627776 < c
    · have d2 : decide (1099511627776 < c) = true := decide_eq_true g2
      clear hg
      go_enter Tryd.func24, Tryd.ntmps24
      go_wp2_with fail
      refine bodyPost_ret (v := .tuple #[.int .i64 0, .int .i64 0]) (by simp [results, Tryd.results24, go_sem]) rfl ⟨rfl, Below.refl _ _⟩
    have d2 : decide (1099511627776 < c) = false := decide_eq_false g2
    by_cases g3 : a < 0
    · have d3 : decide (a < 0) = true := decide_eq_true g3
      clear hg
      go_enter Tryd.func24, Tryd.ntmps24
      go_wp2_with fail
      refine bodyPost_ret (v := .tuple #[.int .i64 0, .int .i64 0]) (by simp [results, Tryd.results24, go_sem]) rfl ⟨rfl, Below.refl _ _⟩
    have d3 : decide (a < 0) = false := decide_eq_false g3
    by_cases g4 : 1099511627776 < a
    · have d4 : decide (1099511627776 < a) = true := decide_eq_true g4
      clear hg
      go_enter Tryd.func24, Tryd.ntmps24
      go_wp2_with fail
      refine bodyPost_ret (v := .tuple #[.int .i64 0, .int .i64 0]) (by simp [results, Tryd.results24, go_sem]) rfl ⟨rfl, Below.refl _ _⟩
    have d4 : decide (1099511627776 < a) = false := decide_eq_false g4
    have g5 : m < 1 := by omega
    have d5 : decide (m < 1) = true := decide_eq_true g5
    clear hg
    go_enter Tryd.func24, Tryd.ntmps24
    go_wp2_with fail
    refine bodyPost_ret (v := .tuple #[.int .i64 0, .int .i64 0]) (by simp [results, Tryd.results24, go_sem]) rfl ⟨rfl, Below.refl _ _⟩
end Go.Proofs.YtclphcbjdcdkfaaDoor
