/-
  THE DOCUMENT'S ANSWER FOR term: Right, See, Older, Grant, Start (limpetref19, limpetref17).
-/
import Derived.Test.YtgbdnkmfinoopaaDoorTerm4
set_option linter.unusedVariables false
set_option linter.unusedSimpArgs false
namespace Go.Proofs.YtgbdnkmfinoopaaDoor
open Go.RowKit

theorem rRight_0 (m : Met) (w : World)  (h : ¬ 0 ≤ m.ver) :
    Calls Tryd.prog 14 #[.agg #[.int .i64 m.ver, .int .i64 m.trm, .int .i64 m.vot]] w fun e w' => e = .returned (.bool false) ∧ Below w.heap.size w w' := by
  go_enter Tryd.func14, Tryd.ntmps14
  go_wp2
  go_ret
  exact ⟨rfl, below_new _ _⟩
theorem rRight_1 (m : Met) (w : World) (h0 : 0 ≤ m.ver) (h : ¬ m.ver ≤ 1099511627776) :
    Calls Tryd.prog 14 #[.agg #[.int .i64 m.ver, .int .i64 m.trm, .int .i64 m.vot]] w fun e w' => e = .returned (.bool false) ∧ Below w.heap.size w w' := by
  go_enter Tryd.func14, Tryd.ntmps14
  go_wp2
  go_ret
  exact ⟨rfl, below_new _ _⟩
theorem rRight_2 (m : Met) (w : World) (h0 : 0 ≤ m.ver) (h1 : m.ver ≤ 1099511627776) (h : ¬ 0 ≤ m.trm) :
    Calls Tryd.prog 14 #[.agg #[.int .i64 m.ver, .int .i64 m.trm, .int .i64 m.vot]] w fun e w' => e = .returned (.bool false) ∧ Below w.heap.size w w' := by
  go_enter Tryd.func14, Tryd.ntmps14
  go_wp2
  go_ret
  exact ⟨rfl, below_new _ _⟩
theorem rRight_3 (m : Met) (w : World) (h0 : 0 ≤ m.ver) (h1 : m.ver ≤ 1099511627776) (h2 : 0 ≤ m.trm) (h : ¬ m.trm ≤ 1099511627776) :
    Calls Tryd.prog 14 #[.agg #[.int .i64 m.ver, .int .i64 m.trm, .int .i64 m.vot]] w fun e w' => e = .returned (.bool false) ∧ Below w.heap.size w w' := by
  go_enter Tryd.func14, Tryd.ntmps14
  go_wp2
  go_ret
  exact ⟨rfl, below_new _ _⟩
theorem rRight_4 (m : Met) (w : World) (h0 : 0 ≤ m.ver) (h1 : m.ver ≤ 1099511627776) (h2 : 0 ≤ m.trm) (h3 : m.trm ≤ 1099511627776) (h : ¬ 0 ≤ m.vot) :
    Calls Tryd.prog 14 #[.agg #[.int .i64 m.ver, .int .i64 m.trm, .int .i64 m.vot]] w fun e w' => e = .returned (.bool false) ∧ Below w.heap.size w w' := by
  go_enter Tryd.func14, Tryd.ntmps14
  go_wp2
  go_ret
  exact ⟨rfl, below_new _ _⟩
theorem rRight_5 (m : Met) (w : World) (h0 : 0 ≤ m.ver) (h1 : m.ver ≤ 1099511627776) (h2 : 0 ≤ m.trm) (h3 : m.trm ≤ 1099511627776) (h4 : 0 ≤ m.vot) (h : ¬ m.vot ≤ 7) :
    Calls Tryd.prog 14 #[.agg #[.int .i64 m.ver, .int .i64 m.trm, .int .i64 m.vot]] w fun e w' => e = .returned (.bool false) ∧ Below w.heap.size w w' := by
  go_enter Tryd.func14, Tryd.ntmps14
  go_wp2
  go_ret
  exact ⟨rfl, below_new _ _⟩
theorem rRight_6 (m : Met) (w : World) (h0 : 0 ≤ m.ver) (h1 : m.ver ≤ 1099511627776) (h2 : 0 ≤ m.trm) (h3 : m.trm ≤ 1099511627776) (h4 : 0 ≤ m.vot) (h5 : m.vot ≤ 7) :
    Calls Tryd.prog 14 #[.agg #[.int .i64 m.ver, .int .i64 m.trm, .int .i64 m.vot]] w fun e w' => e = .returned (.bool true) ∧ Below w.heap.size w w' := by
  go_enter Tryd.func14, Tryd.ntmps14
  go_wp2
  go_ret
  exact ⟨rfl, below_new _ _⟩
theorem rRight (m : Met) (w : World) :
    Calls Tryd.prog 14 #[.agg #[.int .i64 m.ver, .int .i64 m.trm, .int .i64 m.vot]] w fun e w' => e = .returned (.bool (metRight m)) ∧ Below w.heap.size w w' := by
  by_cases h0 : 0 ≤ m.ver
  case neg =>
    have e : metRight m = false := by simp [metRight]; omega
    rw [e]
    exact rRight_0 m w h0
  by_cases h1 : m.ver ≤ 1099511627776
  case neg =>
    have e : metRight m = false := by simp [metRight]; omega
    rw [e]
    exact rRight_1 m w h0 h1
  by_cases h2 : 0 ≤ m.trm
  case neg =>
    have e : metRight m = false := by simp [metRight]; omega
    rw [e]
    exact rRight_2 m w h0 h1 h2
  by_cases h3 : m.trm ≤ 1099511627776
  case neg =>
    have e : metRight m = false := by simp [metRight]; omega
    rw [e]
    exact rRight_3 m w h0 h1 h2 h3
  by_cases h4 : 0 ≤ m.vot
  case neg =>
    have e : metRight m = false := by simp [metRight]; omega
    rw [e]
    exact rRight_4 m w h0 h1 h2 h3 h4
  by_cases h5 : m.vot ≤ 7
  case neg =>
    have e : metRight m = false := by simp [metRight]; omega
    rw [e]
    exact rRight_5 m w h0 h1 h2 h3 h4 h5
  have e : metRight m = true := by simp [metRight]; omega
  rw [e]
  exact rRight_6 m w h0 h1 h2 h3 h4 h5

set_option maxHeartbeats 400000 in
theorem rOlder (a b : Idt) (w : World) : Calls Tryd.prog 22 #[.agg #[.int .i64 a.idx, .int .i64 a.trm, .int .i64 a.knd], .agg #[.int .i64 b.idx, .int .i64 b.trm, .int .i64 b.knd]] w fun e w' => e = .returned (.bool (olderB a b)) ∧ Below w.heap.size w w' := by
  by_cases h : a.trm < b.trm
  · have ho : olderB a b = true := by unfold olderB; rw [if_neg (by omega)]; simpa using h
    rw [ho]; clear ho
    go_enter Tryd.func22, Tryd.ntmps22
    go_wp2
    go_ret
    exact ⟨rfl, below_call (below_new _ _) (below_new _ _)⟩
  · by_cases h2 : a.trm = b.trm
    · have ho : olderB a b = decide (a.idx < b.idx) := by simp [olderB, h2]
      have q : (a.trm == b.trm) = true := by simpa using h2
      rw [ho]; clear ho h2
      go_enter Tryd.func22, Tryd.ntmps22
      go_wp2
      go_ret
      exact ⟨rfl, below_call (below_new _ _) (below_new _ _)⟩
    · have ho : olderB a b = false := by simp [olderB, h2]; omega
      have q : (a.trm == b.trm) = false := by simpa using h2
      rw [ho]; clear ho h2
      go_enter Tryd.func22, Tryd.ntmps22
      go_wp2
      go_ret
      exact ⟨rfl, below_call (below_new _ _) (below_new _ _)⟩
set_option maxRecDepth 100000 in
set_option maxHeartbeats 1000000 in
theorem rSee_a (m : Met) (term : Int) (w : World) (hr : metRight m = false) :
    Calls Tryd.prog 15 #[.agg #[.int .i64 m.ver, .int .i64 m.trm, .int .i64 m.vot], .int .i64 term] w fun e w' => e = .returned (.agg #[.int .i64 m.ver, .int .i64 m.trm, .int .i64 m.vot]) ∧ Below w.heap.size w w' := by
  have HR := Lib.hid hr
  clear hr
  go_enter Tryd.func15, Tryd.ntmps15
  go_wp2_with fail
  refine (rRight m _).mono ?_
  rintro e w1 ⟨rfl, hb⟩
  rw [HR.out]
  obtain ⟨p1, p2, P1⟩ := boxes2 #[.int .i64 m.ver, .int .i64 m.trm, .int .i64 m.vot] #[.int .i64 0, .int .i64 0, .int .i64 0] 23 23 hb
  obtain ⟨k1, f1, z1⟩ := p1.facts
  obtain ⟨k2, f2, z2⟩ := p2.facts
  go_wp2_with fail
  refine bodyPost_ret (v := .agg #[.int .i64 m.ver, .int .i64 m.trm, .int .i64 m.vot]) (by simp [results, Tryd.results15, go_sem, k2]) rfl ⟨rfl, ?_⟩
  repeat refine below_set ?_ (by omega)
  exact P1
set_option maxRecDepth 100000 in
set_option maxHeartbeats 1000000 in
theorem rSee_b (m : Met) (term : Int) (w : World) (hr : metRight m = true) (q : (m.ver == 1099511627776) = true) :
    Calls Tryd.prog 15 #[.agg #[.int .i64 m.ver, .int .i64 m.trm, .int .i64 m.vot], .int .i64 term] w fun e w' => e = .returned (.agg #[.int .i64 m.ver, .int .i64 m.trm, .int .i64 m.vot]) ∧ Below w.heap.size w w' := by
  have HR := Lib.hid hr
  clear hr
  go_enter Tryd.func15, Tryd.ntmps15
  go_wp2_with fail
  refine (rRight m _).mono ?_
  rintro e w1 ⟨rfl, hb⟩
  rw [HR.out]
  obtain ⟨p1, p2, P1⟩ := boxes2 #[.int .i64 m.ver, .int .i64 m.trm, .int .i64 m.vot] #[.int .i64 0, .int .i64 0, .int .i64 0] 23 23 hb
  obtain ⟨k1, f1, z1⟩ := p1.facts
  obtain ⟨k2, f2, z2⟩ := p2.facts
  go_wp2_with fail
  refine bodyPost_ret (v := .agg #[.int .i64 m.ver, .int .i64 m.trm, .int .i64 m.vot]) (by simp [results, Tryd.results15, go_sem, k2]) rfl ⟨rfl, ?_⟩
  repeat refine below_set ?_ (by omega)
  exact P1
set_option maxRecDepth 100000 in
set_option maxHeartbeats 1000000 in
theorem rSee_c (m : Met) (term : Int) (w : World) (hr : metRight m = true) (q : (m.ver == 1099511627776) = false) (h : term ≤ m.trm) :
    Calls Tryd.prog 15 #[.agg #[.int .i64 m.ver, .int .i64 m.trm, .int .i64 m.vot], .int .i64 term] w fun e w' => e = .returned (.agg #[.int .i64 m.ver, .int .i64 m.trm, .int .i64 m.vot]) ∧ Below w.heap.size w w' := by
  have HR := Lib.hid hr
  clear hr
  go_enter Tryd.func15, Tryd.ntmps15
  go_wp2_with fail
  refine (rRight m _).mono ?_
  rintro e w1 ⟨rfl, hb⟩
  rw [HR.out]
  obtain ⟨p1, p2, P1⟩ := boxes2 #[.int .i64 m.ver, .int .i64 m.trm, .int .i64 m.vot] #[.int .i64 0, .int .i64 0, .int .i64 0] 23 23 hb
  obtain ⟨k1, f1, z1⟩ := p1.facts
  obtain ⟨k2, f2, z2⟩ := p2.facts
  go_wp2_with fail
  refine bodyPost_ret (v := .agg #[.int .i64 m.ver, .int .i64 m.trm, .int .i64 m.vot]) (by simp [results, Tryd.results15, go_sem, k2]) rfl ⟨rfl, ?_⟩
  repeat refine below_set ?_ (by omega)
  exact P1
set_option maxRecDepth 100000 in
set_option maxHeartbeats 1000000 in
theorem rSee_d (m : Met) (term : Int) (w : World) (hr : metRight m = true) (q : (m.ver == 1099511627776) = false) (h : ¬ term ≤ m.trm) (h2 : 1099511627776 < term) :
    Calls Tryd.prog 15 #[.agg #[.int .i64 m.ver, .int .i64 m.trm, .int .i64 m.vot], .int .i64 term] w fun e w' => e = .returned (.agg #[.int .i64 m.ver, .int .i64 m.trm, .int .i64 m.vot]) ∧ Below w.heap.size w w' := by
  have HR := Lib.hid hr
  clear hr
  go_enter Tryd.func15, Tryd.ntmps15
  go_wp2_with fail
  refine (rRight m _).mono ?_
  rintro e w1 ⟨rfl, hb⟩
  rw [HR.out]
  obtain ⟨p1, p2, P1⟩ := boxes2 #[.int .i64 m.ver, .int .i64 m.trm, .int .i64 m.vot] #[.int .i64 0, .int .i64 0, .int .i64 0] 23 23 hb
  obtain ⟨k1, f1, z1⟩ := p1.facts
  obtain ⟨k2, f2, z2⟩ := p2.facts
  go_wp2_with fail
  refine bodyPost_ret (v := .agg #[.int .i64 m.ver, .int .i64 m.trm, .int .i64 m.vot]) (by simp [results, Tryd.results15, go_sem, k2]) rfl ⟨rfl, ?_⟩
  repeat refine below_set ?_ (by omega)
  exact P1
set_option maxRecDepth 100000 in
set_option maxHeartbeats 1000000 in
theorem rSee_e (m : Met) (term : Int) (w : World) (hr : metRight m = true) (q : (m.ver == 1099511627776) = false) (h : ¬ term ≤ m.trm) (h2 : ¬ 1099511627776 < term) (b1 : 0 ≤ m.ver) (b2 : m.ver ≤ 1099511627776) :
    Calls Tryd.prog 15 #[.agg #[.int .i64 m.ver, .int .i64 m.trm, .int .i64 m.vot], .int .i64 term] w fun e w' => e = .returned (.agg #[.int .i64 (m.ver + 1), .int .i64 term, .int .i64 0]) ∧ Below w.heap.size w w' := by
  have HR := Lib.hid hr
  clear hr
  go_enter Tryd.func15, Tryd.ntmps15
  go_wp2_with fail
  refine (rRight m _).mono ?_
  rintro e w1 ⟨rfl, hb⟩
  rw [HR.out]
  obtain ⟨p1, p2, P1⟩ := boxes2 #[.int .i64 m.ver, .int .i64 m.trm, .int .i64 m.vot] #[.int .i64 0, .int .i64 0, .int .i64 0] 23 23 hb
  obtain ⟨k1, f1, z1⟩ := p1.facts
  obtain ⟨k2, f2, z2⟩ := p2.facts
  go_wp2_with fail
  refine bodyPost_ret (v := .agg #[.int .i64 (m.ver + 1), .int .i64 term, .int .i64 0]) (by simp [results, Tryd.results15, go_sem, k2]) rfl ⟨rfl, ?_⟩
  repeat refine below_set ?_ (by omega)
  exact P1
theorem rSee (m : Met) (term : Int) (w : World) : Calls Tryd.prog 15 #[.agg #[.int .i64 m.ver, .int .i64 m.trm, .int .i64 m.vot], .int .i64 term] w fun e w' =>
    e = .returned (.agg #[.int .i64 (seeM m term).ver, .int .i64 (seeM m term).trm, .int .i64 (seeM m term).vot]) ∧ Below w.heap.size w w' := by
  cases hr : metRight m with
  | false =>
    have e : seeM m term = m := by simp [seeM, metTurns, hr]
    rw [e]; exact rSee_a m term w hr
  | true =>
    have hb := metRight_iff.1 hr
    by_cases h1 : m.ver = 1099511627776
    · have e : seeM m term = m := by simp [seeM, metTurns, h1]
      rw [e]; exact rSee_b m term w hr (by simpa using h1)
    · by_cases h2 : term ≤ m.trm
      · have e : seeM m term = m := by simp [seeM, h2]; intros; omega
        rw [e]; exact rSee_c m term w hr (by simpa using h1) h2
      · by_cases h3 : 1099511627776 < term
        · have e : seeM m term = m := by simp [seeM]; intros; omega
          rw [e]; exact rSee_d m term w hr (by simpa using h1) h2 h3
        · have ht : metTurns m = true := metTurns_iff.2 (by omega)
          have e : seeM m term = ⟨m.ver + 1, term, 0⟩ := by
            unfold seeM toM
            rw [if_pos ⟨ht, by omega, by omega⟩, if_pos (Or.inl (by omega))]
          rw [e]; exact rSee_e m term w hr (by simpa using h1) h2 h3 (by omega) (by omega)
set_option maxRecDepth 100000 in
set_option maxHeartbeats 1000000 in
theorem rStart_a (m : Met) (self : Int) (w : World) (hr : metRight m = false) :
    Calls Tryd.prog 12 #[.agg #[.int .i64 m.ver, .int .i64 m.trm, .int .i64 m.vot], .int .i64 self] w fun e w' => e = .returned (.tuple #[.agg #[.int .i64 m.ver, .int .i64 m.trm, .int .i64 m.vot], .int .i64 2]) ∧ Below w.heap.size w w' := by
  have HR := Lib.hid hr
  clear hr
  go_enter Tryd.func12, Tryd.ntmps12
  go_wp2_with fail
  refine (rRight m _).mono ?_
  rintro e w1 ⟨rfl, hb⟩
  rw [HR.out]
  obtain ⟨p1, p2, P1⟩ := boxes2 #[.int .i64 m.ver, .int .i64 m.trm, .int .i64 m.vot] #[.int .i64 0, .int .i64 0, .int .i64 0] 23 23 hb
  obtain ⟨k1, f1, z1⟩ := p1.facts
  obtain ⟨k2, f2, z2⟩ := p2.facts
  go_wp2_with fail
  refine bodyPost_ret (v := .tuple #[.agg #[.int .i64 m.ver, .int .i64 m.trm, .int .i64 m.vot], .int .i64 2]) (by simp [results, Tryd.results12, go_sem, k2]) rfl ⟨rfl, ?_⟩
  repeat refine below_set ?_ (by omega)
  exact P1
set_option maxRecDepth 100000 in
set_option maxHeartbeats 1000000 in
theorem rStart_b (m : Met) (self : Int) (w : World) (hr : metRight m = true) (h : self < 1) :
    Calls Tryd.prog 12 #[.agg #[.int .i64 m.ver, .int .i64 m.trm, .int .i64 m.vot], .int .i64 self] w fun e w' => e = .returned (.tuple #[.agg #[.int .i64 m.ver, .int .i64 m.trm, .int .i64 m.vot], .int .i64 2]) ∧ Below w.heap.size w w' := by
  have HR := Lib.hid hr
  clear hr
  go_enter Tryd.func12, Tryd.ntmps12
  go_wp2_with fail
  refine (rRight m _).mono ?_
  rintro e w1 ⟨rfl, hb⟩
  rw [HR.out]
  obtain ⟨p1, p2, P1⟩ := boxes2 #[.int .i64 m.ver, .int .i64 m.trm, .int .i64 m.vot] #[.int .i64 0, .int .i64 0, .int .i64 0] 23 23 hb
  obtain ⟨k1, f1, z1⟩ := p1.facts
  obtain ⟨k2, f2, z2⟩ := p2.facts
  go_wp2_with fail
  refine bodyPost_ret (v := .tuple #[.agg #[.int .i64 m.ver, .int .i64 m.trm, .int .i64 m.vot], .int .i64 2]) (by simp [results, Tryd.results12, go_sem, k2]) rfl ⟨rfl, ?_⟩
  repeat refine below_set ?_ (by omega)
  exact P1
set_option maxRecDepth 100000 in
set_option maxHeartbeats 1000000 in
theorem rStart_c (m : Met) (self : Int) (w : World) (hr : metRight m = true) (h : ¬ self < 1) (h2 : 7 < self) :
    Calls Tryd.prog 12 #[.agg #[.int .i64 m.ver, .int .i64 m.trm, .int .i64 m.vot], .int .i64 self] w fun e w' => e = .returned (.tuple #[.agg #[.int .i64 m.ver, .int .i64 m.trm, .int .i64 m.vot], .int .i64 2]) ∧ Below w.heap.size w w' := by
  have HR := Lib.hid hr
  clear hr
  go_enter Tryd.func12, Tryd.ntmps12
  go_wp2_with fail
  refine (rRight m _).mono ?_
  rintro e w1 ⟨rfl, hb⟩
  rw [HR.out]
  obtain ⟨p1, p2, P1⟩ := boxes2 #[.int .i64 m.ver, .int .i64 m.trm, .int .i64 m.vot] #[.int .i64 0, .int .i64 0, .int .i64 0] 23 23 hb
  obtain ⟨k1, f1, z1⟩ := p1.facts
  obtain ⟨k2, f2, z2⟩ := p2.facts
  go_wp2_with fail
  refine bodyPost_ret (v := .tuple #[.agg #[.int .i64 m.ver, .int .i64 m.trm, .int .i64 m.vot], .int .i64 2]) (by simp [results, Tryd.results12, go_sem, k2]) rfl ⟨rfl, ?_⟩
  repeat refine below_set ?_ (by omega)
  exact P1
set_option maxRecDepth 100000 in
set_option maxHeartbeats 1000000 in
theorem rStart_d (m : Met) (self : Int) (w : World) (hr : metRight m = true) (h : ¬ self < 1) (h2 : ¬ 7 < self) (q : (m.trm == 1099511627776) = true) :
    Calls Tryd.prog 12 #[.agg #[.int .i64 m.ver, .int .i64 m.trm, .int .i64 m.vot], .int .i64 self] w fun e w' => e = .returned (.tuple #[.agg #[.int .i64 m.ver, .int .i64 m.trm, .int .i64 m.vot], .int .i64 3]) ∧ Below w.heap.size w w' := by
  have HR := Lib.hid hr
  clear hr
  go_enter Tryd.func12, Tryd.ntmps12
  go_wp2_with fail
  refine (rRight m _).mono ?_
  rintro e w1 ⟨rfl, hb⟩
  rw [HR.out]
  obtain ⟨p1, p2, P1⟩ := boxes2 #[.int .i64 m.ver, .int .i64 m.trm, .int .i64 m.vot] #[.int .i64 0, .int .i64 0, .int .i64 0] 23 23 hb
  obtain ⟨k1, f1, z1⟩ := p1.facts
  obtain ⟨k2, f2, z2⟩ := p2.facts
  go_wp2_with fail
  refine bodyPost_ret (v := .tuple #[.agg #[.int .i64 m.ver, .int .i64 m.trm, .int .i64 m.vot], .int .i64 3]) (by simp [results, Tryd.results12, go_sem, k2]) rfl ⟨rfl, ?_⟩
  repeat refine below_set ?_ (by omega)
  exact P1
set_option maxRecDepth 100000 in
set_option maxHeartbeats 1000000 in
theorem rStart_e (m : Met) (self : Int) (w : World) (hr : metRight m = true) (h : ¬ self < 1) (h2 : ¬ 7 < self) (q : (m.trm == 1099511627776) = false) (q2 : (m.ver == 1099511627776) = true) :
    Calls Tryd.prog 12 #[.agg #[.int .i64 m.ver, .int .i64 m.trm, .int .i64 m.vot], .int .i64 self] w fun e w' => e = .returned (.tuple #[.agg #[.int .i64 m.ver, .int .i64 m.trm, .int .i64 m.vot], .int .i64 3]) ∧ Below w.heap.size w w' := by
  have HR := Lib.hid hr
  clear hr
  go_enter Tryd.func12, Tryd.ntmps12
  go_wp2_with fail
  refine (rRight m _).mono ?_
  rintro e w1 ⟨rfl, hb⟩
  rw [HR.out]
  obtain ⟨p1, p2, P1⟩ := boxes2 #[.int .i64 m.ver, .int .i64 m.trm, .int .i64 m.vot] #[.int .i64 0, .int .i64 0, .int .i64 0] 23 23 hb
  obtain ⟨k1, f1, z1⟩ := p1.facts
  obtain ⟨k2, f2, z2⟩ := p2.facts
  go_wp2_with fail
  refine bodyPost_ret (v := .tuple #[.agg #[.int .i64 m.ver, .int .i64 m.trm, .int .i64 m.vot], .int .i64 3]) (by simp [results, Tryd.results12, go_sem, k2]) rfl ⟨rfl, ?_⟩
  repeat refine below_set ?_ (by omega)
  exact P1
set_option maxRecDepth 100000 in
set_option maxHeartbeats 1000000 in
theorem rStart_f (m : Met) (self : Int) (w : World) (hr : metRight m = true) (h : ¬ self < 1) (h2 : ¬ 7 < self) (q : (m.trm == 1099511627776) = false) (q2 : (m.ver == 1099511627776) = false) (b1 : 0 ≤ m.ver) (b2 : m.ver ≤ 1099511627776) (b3 : 0 ≤ m.trm) (b4 : m.trm ≤ 1099511627776) :
    Calls Tryd.prog 12 #[.agg #[.int .i64 m.ver, .int .i64 m.trm, .int .i64 m.vot], .int .i64 self] w fun e w' => e = .returned (.tuple #[.agg #[.int .i64 (m.ver + 1), .int .i64 (m.trm + 1), .int .i64 self], .int .i64 0]) ∧ Below w.heap.size w w' := by
  have HR := Lib.hid hr
  clear hr
  go_enter Tryd.func12, Tryd.ntmps12
  go_wp2_with fail
  refine (rRight m _).mono ?_
  rintro e w1 ⟨rfl, hb⟩
  rw [HR.out]
  obtain ⟨p1, p2, P1⟩ := boxes2 #[.int .i64 m.ver, .int .i64 m.trm, .int .i64 m.vot] #[.int .i64 0, .int .i64 0, .int .i64 0] 23 23 hb
  obtain ⟨k1, f1, z1⟩ := p1.facts
  obtain ⟨k2, f2, z2⟩ := p2.facts
  go_wp2_with fail
  refine bodyPost_ret (v := .tuple #[.agg #[.int .i64 (m.ver + 1), .int .i64 (m.trm + 1), .int .i64 self], .int .i64 0]) (by simp [results, Tryd.results12, go_sem, k2]) rfl ⟨rfl, ?_⟩
  repeat refine below_set ?_ (by omega)
  exact P1
theorem rStart (m : Met) (self : Int) (w : World) :
    Calls Tryd.prog 12 #[.agg #[.int .i64 m.ver, .int .i64 m.trm, .int .i64 m.vot], .int .i64 self] w fun e w' => e = .returned (.tuple #[.agg #[.int .i64 (startM m self).1.ver, .int .i64 (startM m self).1.trm, .int .i64 (startM m self).1.vot], .int .i64 (startM m self).2]) ∧ Below w.heap.size w w' := by
  cases hr : metRight m with
  | false =>
    have e : startM m self = (m, 2) := by simp [startM, hr]
    rw [e]; exact rStart_a m self w hr
  | true =>
    have hb := metRight_iff.1 hr
    by_cases h1 : self < 1
    · have e : startM m self = (m, 2) := by simp [startM, h1]
      rw [e]; exact rStart_b m self w hr h1
    · by_cases h2 : 7 < self
      · have e : startM m self = (m, 2) := by simp [startM, h2]
        rw [e]; exact rStart_c m self w hr h1 h2
      · have e0 : startM m self = if m.trm = 1099511627776 ∨ metTurns m = false then (m, 3) else (toM m (m.trm + 1) self, 0) := by simp [startM, hr, h1, h2]
        rw [e0]; clear e0
        by_cases h3 : m.trm = 1099511627776
        · rw [if_pos (Or.inl h3)]; exact rStart_d m self w hr h1 h2 (by simpa using h3)
        · by_cases h4 : m.ver = 1099511627776
          · have ht : metTurns m = false := by simp [metTurns, h4]
            rw [if_pos (Or.inr ht)]; exact rStart_e m self w hr h1 h2 (by simpa using h3) (by simpa using h4)
          · have ht : metTurns m = true := metTurns_iff.2 (by omega)
            have e : toM m (m.trm + 1) self = ⟨m.ver + 1, m.trm + 1, self⟩ := by unfold toM; rw [if_pos (Or.inl (by omega))]
            rw [if_neg (by rw [ht]; simp [h3]), e]; exact rStart_f m self w hr h1 h2 (by simpa using h3) (by simpa using h4) (by omega) (by omega) (by omega) (by omega)
set_option maxRecDepth 100000 in
set_option maxHeartbeats 1000000 in
theorem rGrant_a (m s : Met) (own last : Idt) (frm term : Int) (w : World) (hs : seeM m term = s) (hr : metRight m = false) :
    Calls Tryd.prog 10 #[.agg #[.int .i64 m.ver, .int .i64 m.trm, .int .i64 m.vot], .agg #[.int .i64 own.idx, .int .i64 own.trm, .int .i64 own.knd], .int .i64 frm, .int .i64 term, .agg #[.int .i64 last.idx, .int .i64 last.trm, .int .i64 last.knd]] w fun e w' => e = .returned (.tuple #[.agg #[.int .i64 s.ver, .int .i64 s.trm, .int .i64 s.vot], .bool false]) ∧ Below w.heap.size w w' := by
  have HS := Lib.hid hs
  clear hs
  have HR := Lib.hid hr
  clear hr
  go_enter Tryd.func10, Tryd.ntmps10
  go_wp2_with fail
  refine (rSee m term _).mono ?_
  rintro e w1 ⟨rfl, hb⟩
  rw [HS.out]
  obtain ⟨p1, p2, p3, p4, P⟩ := boxes4 #[.int .i64 m.ver, .int .i64 m.trm, .int .i64 m.vot] #[.int .i64 own.idx, .int .i64 own.trm, .int .i64 own.knd] #[.int .i64 last.idx, .int .i64 last.trm, .int .i64 last.knd] #[.int .i64 0, .int .i64 0, .int .i64 0] 23 26 26 23 hb
  clear hb
  obtain ⟨k1, f1, z1⟩ := p1.facts
  obtain ⟨k2, f2, z2⟩ := p2.facts
  obtain ⟨k3, f3, z3⟩ := p3.facts
  obtain ⟨k4, f4, z4⟩ := p4.facts
  go_wp2_with fail
  have p1 := p1.alloc (.cells #[.int .i64 s.ver, .int .i64 s.trm, .int .i64 s.vot] 23)
  have p2 := p2.alloc (.cells #[.int .i64 s.ver, .int .i64 s.trm, .int .i64 s.vot] 23)
  have p3 := p3.alloc (.cells #[.int .i64 s.ver, .int .i64 s.trm, .int .i64 s.vot] 23)
  have p4 := p4.alloc (.cells #[.int .i64 s.ver, .int .i64 s.trm, .int .i64 s.vot] 23)
  have p5 := Box.new w1 #[.int .i64 s.ver, .int .i64 s.trm, .int .i64 s.vot] 23
  have P := below_call P (below_new w1 (.cells #[.int .i64 s.ver, .int .i64 s.trm, .int .i64 s.vot] 23))
  refine (rRight m _).mono ?_
  rintro e w2 ⟨rfl, hb⟩
  rw [HR.out]
  have p1 := p1.later hb
  have p2 := p2.later hb
  have p3 := p3.later hb
  have p4 := p4.later hb
  have p5 := p5.later hb
  have P := below_call P hb
  clear hb k1 f1 z1 k2 f2 z2 k3 f3 z3 k4 f4 z4
  obtain ⟨k1, f1, z1⟩ := p1.facts
  obtain ⟨k2, f2, z2⟩ := p2.facts
  obtain ⟨k3, f3, z3⟩ := p3.facts
  obtain ⟨k4, f4, z4⟩ := p4.facts
  obtain ⟨k5, f5, z5⟩ := p5.facts
  go_wp2_with fail
  refine bodyPost_ret (v := .tuple #[.agg #[.int .i64 s.ver, .int .i64 s.trm, .int .i64 s.vot], .bool false]) (by simp [results, Tryd.results10, go_sem, k4]) rfl ⟨rfl, ?_⟩
  repeat refine below_set ?_ (by omega)
  exact P
set_option maxRecDepth 100000 in
set_option maxHeartbeats 1000000 in
theorem rGrant_b (m s : Met) (own last : Idt) (frm term : Int) (w : World) (hs : seeM m term = s) (hr : metRight m = true) (q1 : (s.trm != term) = true) :
    Calls Tryd.prog 10 #[.agg #[.int .i64 m.ver, .int .i64 m.trm, .int .i64 m.vot], .agg #[.int .i64 own.idx, .int .i64 own.trm, .int .i64 own.knd], .int .i64 frm, .int .i64 term, .agg #[.int .i64 last.idx, .int .i64 last.trm, .int .i64 last.knd]] w fun e w' => e = .returned (.tuple #[.agg #[.int .i64 s.ver, .int .i64 s.trm, .int .i64 s.vot], .bool false]) ∧ Below w.heap.size w w' := by
  have HS := Lib.hid hs
  clear hs
  have HR := Lib.hid hr
  clear hr
  go_enter Tryd.func10, Tryd.ntmps10
  go_wp2_with fail
  refine (rSee m term _).mono ?_
  rintro e w1 ⟨rfl, hb⟩
  rw [HS.out]
  obtain ⟨p1, p2, p3, p4, P⟩ := boxes4 #[.int .i64 m.ver, .int .i64 m.trm, .int .i64 m.vot] #[.int .i64 own.idx, .int .i64 own.trm, .int .i64 own.knd] #[.int .i64 last.idx, .int .i64 last.trm, .int .i64 last.knd] #[.int .i64 0, .int .i64 0, .int .i64 0] 23 26 26 23 hb
  clear hb
  obtain ⟨k1, f1, z1⟩ := p1.facts
  obtain ⟨k2, f2, z2⟩ := p2.facts
  obtain ⟨k3, f3, z3⟩ := p3.facts
  obtain ⟨k4, f4, z4⟩ := p4.facts
  go_wp2_with fail
  have p1 := p1.alloc (.cells #[.int .i64 s.ver, .int .i64 s.trm, .int .i64 s.vot] 23)
  have p2 := p2.alloc (.cells #[.int .i64 s.ver, .int .i64 s.trm, .int .i64 s.vot] 23)
  have p3 := p3.alloc (.cells #[.int .i64 s.ver, .int .i64 s.trm, .int .i64 s.vot] 23)
  have p4 := p4.alloc (.cells #[.int .i64 s.ver, .int .i64 s.trm, .int .i64 s.vot] 23)
  have p5 := Box.new w1 #[.int .i64 s.ver, .int .i64 s.trm, .int .i64 s.vot] 23
  have P := below_call P (below_new w1 (.cells #[.int .i64 s.ver, .int .i64 s.trm, .int .i64 s.vot] 23))
  refine (rRight m _).mono ?_
  rintro e w2 ⟨rfl, hb⟩
  rw [HR.out]
  have p1 := p1.later hb
  have p2 := p2.later hb
  have p3 := p3.later hb
  have p4 := p4.later hb
  have p5 := p5.later hb
  have P := below_call P hb
  clear hb k1 f1 z1 k2 f2 z2 k3 f3 z3 k4 f4 z4
  obtain ⟨k1, f1, z1⟩ := p1.facts
  obtain ⟨k2, f2, z2⟩ := p2.facts
  obtain ⟨k3, f3, z3⟩ := p3.facts
  obtain ⟨k4, f4, z4⟩ := p4.facts
  obtain ⟨k5, f5, z5⟩ := p5.facts
  go_wp2_with fail
  refine bodyPost_ret (v := .tuple #[.agg #[.int .i64 s.ver, .int .i64 s.trm, .int .i64 s.vot], .bool false]) (by simp [results, Tryd.results10, go_sem, k4]) rfl ⟨rfl, ?_⟩
  repeat refine below_set ?_ (by omega)
  exact P
set_option maxRecDepth 100000 in
set_option maxHeartbeats 1000000 in
theorem rGrant_c (m s : Met) (own last : Idt) (frm term : Int) (w : World) (hs : seeM m term = s) (hr : metRight m = true) (q1 : (s.trm != term) = false) (h2 : term < 1) :
    Calls Tryd.prog 10 #[.agg #[.int .i64 m.ver, .int .i64 m.trm, .int .i64 m.vot], .agg #[.int .i64 own.idx, .int .i64 own.trm, .int .i64 own.knd], .int .i64 frm, .int .i64 term, .agg #[.int .i64 last.idx, .int .i64 last.trm, .int .i64 last.knd]] w fun e w' => e = .returned (.tuple #[.agg #[.int .i64 s.ver, .int .i64 s.trm, .int .i64 s.vot], .bool false]) ∧ Below w.heap.size w w' := by
  have HS := Lib.hid hs
  clear hs
  have HR := Lib.hid hr
  clear hr
  go_enter Tryd.func10, Tryd.ntmps10
  go_wp2_with fail
  refine (rSee m term _).mono ?_
  rintro e w1 ⟨rfl, hb⟩
  rw [HS.out]
  obtain ⟨p1, p2, p3, p4, P⟩ := boxes4 #[.int .i64 m.ver, .int .i64 m.trm, .int .i64 m.vot] #[.int .i64 own.idx, .int .i64 own.trm, .int .i64 own.knd] #[.int .i64 last.idx, .int .i64 last.trm, .int .i64 last.knd] #[.int .i64 0, .int .i64 0, .int .i64 0] 23 26 26 23 hb
  clear hb
  obtain ⟨k1, f1, z1⟩ := p1.facts
  obtain ⟨k2, f2, z2⟩ := p2.facts
  obtain ⟨k3, f3, z3⟩ := p3.facts
  obtain ⟨k4, f4, z4⟩ := p4.facts
  go_wp2_with fail
  have p1 := p1.alloc (.cells #[.int .i64 s.ver, .int .i64 s.trm, .int .i64 s.vot] 23)
  have p2 := p2.alloc (.cells #[.int .i64 s.ver, .int .i64 s.trm, .int .i64 s.vot] 23)
  have p3 := p3.alloc (.cells #[.int .i64 s.ver, .int .i64 s.trm, .int .i64 s.vot] 23)
  have p4 := p4.alloc (.cells #[.int .i64 s.ver, .int .i64 s.trm, .int .i64 s.vot] 23)
  have p5 := Box.new w1 #[.int .i64 s.ver, .int .i64 s.trm, .int .i64 s.vot] 23
  have P := below_call P (below_new w1 (.cells #[.int .i64 s.ver, .int .i64 s.trm, .int .i64 s.vot] 23))
  refine (rRight m _).mono ?_
  rintro e w2 ⟨rfl, hb⟩
  rw [HR.out]
  have p1 := p1.later hb
  have p2 := p2.later hb
  have p3 := p3.later hb
  have p4 := p4.later hb
  have p5 := p5.later hb
  have P := below_call P hb
  clear hb k1 f1 z1 k2 f2 z2 k3 f3 z3 k4 f4 z4
  obtain ⟨k1, f1, z1⟩ := p1.facts
  obtain ⟨k2, f2, z2⟩ := p2.facts
  obtain ⟨k3, f3, z3⟩ := p3.facts
  obtain ⟨k4, f4, z4⟩ := p4.facts
  obtain ⟨k5, f5, z5⟩ := p5.facts
  go_wp2_with fail
  refine bodyPost_ret (v := .tuple #[.agg #[.int .i64 s.ver, .int .i64 s.trm, .int .i64 s.vot], .bool false]) (by simp [results, Tryd.results10, go_sem, k4]) rfl ⟨rfl, ?_⟩
  repeat refine below_set ?_ (by omega)
  exact P
set_option maxRecDepth 100000 in
set_option maxHeartbeats 1000000 in
theorem rGrant_d (m s : Met) (own last : Idt) (frm term : Int) (w : World) (hs : seeM m term = s) (hr : metRight m = true) (q1 : (s.trm != term) = false) (h2 : ¬ term < 1) (h3 : frm < 1) :
    Calls Tryd.prog 10 #[.agg #[.int .i64 m.ver, .int .i64 m.trm, .int .i64 m.vot], .agg #[.int .i64 own.idx, .int .i64 own.trm, .int .i64 own.knd], .int .i64 frm, .int .i64 term, .agg #[.int .i64 last.idx, .int .i64 last.trm, .int .i64 last.knd]] w fun e w' => e = .returned (.tuple #[.agg #[.int .i64 s.ver, .int .i64 s.trm, .int .i64 s.vot], .bool false]) ∧ Below w.heap.size w w' := by
  have HS := Lib.hid hs
  clear hs
  have HR := Lib.hid hr
  clear hr
  go_enter Tryd.func10, Tryd.ntmps10
  go_wp2_with fail
  refine (rSee m term _).mono ?_
  rintro e w1 ⟨rfl, hb⟩
  rw [HS.out]
  obtain ⟨p1, p2, p3, p4, P⟩ := boxes4 #[.int .i64 m.ver, .int .i64 m.trm, .int .i64 m.vot] #[.int .i64 own.idx, .int .i64 own.trm, .int .i64 own.knd] #[.int .i64 last.idx, .int .i64 last.trm, .int .i64 last.knd] #[.int .i64 0, .int .i64 0, .int .i64 0] 23 26 26 23 hb
  clear hb
  obtain ⟨k1, f1, z1⟩ := p1.facts
  obtain ⟨k2, f2, z2⟩ := p2.facts
  obtain ⟨k3, f3, z3⟩ := p3.facts
  obtain ⟨k4, f4, z4⟩ := p4.facts
  go_wp2_with fail
  have p1 := p1.alloc (.cells #[.int .i64 s.ver, .int .i64 s.trm, .int .i64 s.vot] 23)
  have p2 := p2.alloc (.cells #[.int .i64 s.ver, .int .i64 s.trm, .int .i64 s.vot] 23)
  have p3 := p3.alloc (.cells #[.int .i64 s.ver, .int .i64 s.trm, .int .i64 s.vot] 23)
  have p4 := p4.alloc (.cells #[.int .i64 s.ver, .int .i64 s.trm, .int .i64 s.vot] 23)
  have p5 := Box.new w1 #[.int .i64 s.ver, .int .i64 s.trm, .int .i64 s.vot] 23
  have P := below_call P (below_new w1 (.cells #[.int .i64 s.ver, .int .i64 s.trm, .int .i64 s.vot] 23))
  refine (rRight m _).mono ?_
  rintro e w2 ⟨rfl, hb⟩
  rw [HR.out]
  have p1 := p1.later hb
  have p2 := p2.later hb
  have p3 := p3.later hb
  have p4 := p4.later hb
  have p5 := p5.later hb
  have P := below_call P hb
  clear hb k1 f1 z1 k2 f2 z2 k3 f3 z3 k4 f4 z4
  obtain ⟨k1, f1, z1⟩ := p1.facts
  obtain ⟨k2, f2, z2⟩ := p2.facts
  obtain ⟨k3, f3, z3⟩ := p3.facts
  obtain ⟨k4, f4, z4⟩ := p4.facts
  obtain ⟨k5, f5, z5⟩ := p5.facts
  go_wp2_with fail
  refine bodyPost_ret (v := .tuple #[.agg #[.int .i64 s.ver, .int .i64 s.trm, .int .i64 s.vot], .bool false]) (by simp [results, Tryd.results10, go_sem, k4]) rfl ⟨rfl, ?_⟩
  repeat refine below_set ?_ (by omega)
  exact P
set_option maxRecDepth 100000 in
set_option maxHeartbeats 1000000 in
theorem rGrant_e (m s : Met) (own last : Idt) (frm term : Int) (w : World) (hs : seeM m term = s) (hr : metRight m = true) (q1 : (s.trm != term) = false) (h2 : ¬ term < 1) (h3 : ¬ frm < 1) (h4 : 7 < frm) :
    Calls Tryd.prog 10 #[.agg #[.int .i64 m.ver, .int .i64 m.trm, .int .i64 m.vot], .agg #[.int .i64 own.idx, .int .i64 own.trm, .int .i64 own.knd], .int .i64 frm, .int .i64 term, .agg #[.int .i64 last.idx, .int .i64 last.trm, .int .i64 last.knd]] w fun e w' => e = .returned (.tuple #[.agg #[.int .i64 s.ver, .int .i64 s.trm, .int .i64 s.vot], .bool false]) ∧ Below w.heap.size w w' := by
  have HS := Lib.hid hs
  clear hs
  have HR := Lib.hid hr
  clear hr
  go_enter Tryd.func10, Tryd.ntmps10
  go_wp2_with fail
  refine (rSee m term _).mono ?_
  rintro e w1 ⟨rfl, hb⟩
  rw [HS.out]
  obtain ⟨p1, p2, p3, p4, P⟩ := boxes4 #[.int .i64 m.ver, .int .i64 m.trm, .int .i64 m.vot] #[.int .i64 own.idx, .int .i64 own.trm, .int .i64 own.knd] #[.int .i64 last.idx, .int .i64 last.trm, .int .i64 last.knd] #[.int .i64 0, .int .i64 0, .int .i64 0] 23 26 26 23 hb
  clear hb
  obtain ⟨k1, f1, z1⟩ := p1.facts
  obtain ⟨k2, f2, z2⟩ := p2.facts
  obtain ⟨k3, f3, z3⟩ := p3.facts
  obtain ⟨k4, f4, z4⟩ := p4.facts
  go_wp2_with fail
  have p1 := p1.alloc (.cells #[.int .i64 s.ver, .int .i64 s.trm, .int .i64 s.vot] 23)
  have p2 := p2.alloc (.cells #[.int .i64 s.ver, .int .i64 s.trm, .int .i64 s.vot] 23)
  have p3 := p3.alloc (.cells #[.int .i64 s.ver, .int .i64 s.trm, .int .i64 s.vot] 23)
  have p4 := p4.alloc (.cells #[.int .i64 s.ver, .int .i64 s.trm, .int .i64 s.vot] 23)
  have p5 := Box.new w1 #[.int .i64 s.ver, .int .i64 s.trm, .int .i64 s.vot] 23
  have P := below_call P (below_new w1 (.cells #[.int .i64 s.ver, .int .i64 s.trm, .int .i64 s.vot] 23))
  refine (rRight m _).mono ?_
  rintro e w2 ⟨rfl, hb⟩
  rw [HR.out]
  have p1 := p1.later hb
  have p2 := p2.later hb
  have p3 := p3.later hb
  have p4 := p4.later hb
  have p5 := p5.later hb
  have P := below_call P hb
  clear hb k1 f1 z1 k2 f2 z2 k3 f3 z3 k4 f4 z4
  obtain ⟨k1, f1, z1⟩ := p1.facts
  obtain ⟨k2, f2, z2⟩ := p2.facts
  obtain ⟨k3, f3, z3⟩ := p3.facts
  obtain ⟨k4, f4, z4⟩ := p4.facts
  obtain ⟨k5, f5, z5⟩ := p5.facts
  go_wp2_with fail
  refine bodyPost_ret (v := .tuple #[.agg #[.int .i64 s.ver, .int .i64 s.trm, .int .i64 s.vot], .bool false]) (by simp [results, Tryd.results10, go_sem, k4]) rfl ⟨rfl, ?_⟩
  repeat refine below_set ?_ (by omega)
  exact P
set_option maxRecDepth 100000 in
set_option maxHeartbeats 1000000 in
theorem rGrant_f (m s : Met) (own last : Idt) (frm term : Int) (w : World) (hs : seeM m term = s) (hr : metRight m = true) (q1 : (s.trm != term) = false) (h2 : ¬ term < 1) (h3 : ¬ frm < 1) (h4 : ¬ 7 < frm) (q5 : (s.vot != 0) = true) (q6 : (s.vot != frm) = true) :
    Calls Tryd.prog 10 #[.agg #[.int .i64 m.ver, .int .i64 m.trm, .int .i64 m.vot], .agg #[.int .i64 own.idx, .int .i64 own.trm, .int .i64 own.knd], .int .i64 frm, .int .i64 term, .agg #[.int .i64 last.idx, .int .i64 last.trm, .int .i64 last.knd]] w fun e w' => e = .returned (.tuple #[.agg #[.int .i64 s.ver, .int .i64 s.trm, .int .i64 s.vot], .bool false]) ∧ Below w.heap.size w w' := by
  have HS := Lib.hid hs
  clear hs
  have HR := Lib.hid hr
  clear hr
  go_enter Tryd.func10, Tryd.ntmps10
  go_wp2_with fail
  refine (rSee m term _).mono ?_
  rintro e w1 ⟨rfl, hb⟩
  rw [HS.out]
  obtain ⟨p1, p2, p3, p4, P⟩ := boxes4 #[.int .i64 m.ver, .int .i64 m.trm, .int .i64 m.vot] #[.int .i64 own.idx, .int .i64 own.trm, .int .i64 own.knd] #[.int .i64 last.idx, .int .i64 last.trm, .int .i64 last.knd] #[.int .i64 0, .int .i64 0, .int .i64 0] 23 26 26 23 hb
  clear hb
  obtain ⟨k1, f1, z1⟩ := p1.facts
  obtain ⟨k2, f2, z2⟩ := p2.facts
  obtain ⟨k3, f3, z3⟩ := p3.facts
  obtain ⟨k4, f4, z4⟩ := p4.facts
  go_wp2_with fail
  have p1 := p1.alloc (.cells #[.int .i64 s.ver, .int .i64 s.trm, .int .i64 s.vot] 23)
  have p2 := p2.alloc (.cells #[.int .i64 s.ver, .int .i64 s.trm, .int .i64 s.vot] 23)
  have p3 := p3.alloc (.cells #[.int .i64 s.ver, .int .i64 s.trm, .int .i64 s.vot] 23)
  have p4 := p4.alloc (.cells #[.int .i64 s.ver, .int .i64 s.trm, .int .i64 s.vot] 23)
  have p5 := Box.new w1 #[.int .i64 s.ver, .int .i64 s.trm, .int .i64 s.vot] 23
  have P := below_call P (below_new w1 (.cells #[.int .i64 s.ver, .int .i64 s.trm, .int .i64 s.vot] 23))
  refine (rRight m _).mono ?_
  rintro e w2 ⟨rfl, hb⟩
  rw [HR.out]
  have p1 := p1.later hb
  have p2 := p2.later hb
  have p3 := p3.later hb
  have p4 := p4.later hb
  have p5 := p5.later hb
  have P := below_call P hb
  clear hb k1 f1 z1 k2 f2 z2 k3 f3 z3 k4 f4 z4
  obtain ⟨k1, f1, z1⟩ := p1.facts
  obtain ⟨k2, f2, z2⟩ := p2.facts
  obtain ⟨k3, f3, z3⟩ := p3.facts
  obtain ⟨k4, f4, z4⟩ := p4.facts
  obtain ⟨k5, f5, z5⟩ := p5.facts
  go_wp2_with fail
  refine bodyPost_ret (v := .tuple #[.agg #[.int .i64 s.ver, .int .i64 s.trm, .int .i64 s.vot], .bool false]) (by simp [results, Tryd.results10, go_sem, k4]) rfl ⟨rfl, ?_⟩
  repeat refine below_set ?_ (by omega)
  exact P
set_option maxRecDepth 100000 in
set_option maxHeartbeats 1000000 in
theorem rGrant_g (m s : Met) (own last : Idt) (frm term : Int) (w : World) (hs : seeM m term = s) (hr : metRight m = true) (q1 : (s.trm != term) = false) (h2 : ¬ term < 1) (h3 : ¬ frm < 1) (h4 : ¬ 7 < frm) (q5 : (s.vot != 0) = false) (ho : olderB last own = true) :
    Calls Tryd.prog 10 #[.agg #[.int .i64 m.ver, .int .i64 m.trm, .int .i64 m.vot], .agg #[.int .i64 own.idx, .int .i64 own.trm, .int .i64 own.knd], .int .i64 frm, .int .i64 term, .agg #[.int .i64 last.idx, .int .i64 last.trm, .int .i64 last.knd]] w fun e w' => e = .returned (.tuple #[.agg #[.int .i64 s.ver, .int .i64 s.trm, .int .i64 s.vot], .bool false]) ∧ Below w.heap.size w w' := by
  have HS := Lib.hid hs
  clear hs
  have HR := Lib.hid hr
  clear hr
  have HO := Lib.hid ho
  clear ho
  go_enter Tryd.func10, Tryd.ntmps10
  go_wp2_with fail
  refine (rSee m term _).mono ?_
  rintro e w1 ⟨rfl, hb⟩
  rw [HS.out]
  obtain ⟨p1, p2, p3, p4, P⟩ := boxes4 #[.int .i64 m.ver, .int .i64 m.trm, .int .i64 m.vot] #[.int .i64 own.idx, .int .i64 own.trm, .int .i64 own.knd] #[.int .i64 last.idx, .int .i64 last.trm, .int .i64 last.knd] #[.int .i64 0, .int .i64 0, .int .i64 0] 23 26 26 23 hb
  clear hb
  obtain ⟨k1, f1, z1⟩ := p1.facts
  obtain ⟨k2, f2, z2⟩ := p2.facts
  obtain ⟨k3, f3, z3⟩ := p3.facts
  obtain ⟨k4, f4, z4⟩ := p4.facts
  go_wp2_with fail
  have p1 := p1.alloc (.cells #[.int .i64 s.ver, .int .i64 s.trm, .int .i64 s.vot] 23)
  have p2 := p2.alloc (.cells #[.int .i64 s.ver, .int .i64 s.trm, .int .i64 s.vot] 23)
  have p3 := p3.alloc (.cells #[.int .i64 s.ver, .int .i64 s.trm, .int .i64 s.vot] 23)
  have p4 := p4.alloc (.cells #[.int .i64 s.ver, .int .i64 s.trm, .int .i64 s.vot] 23)
  have p5 := Box.new w1 #[.int .i64 s.ver, .int .i64 s.trm, .int .i64 s.vot] 23
  have P := below_call P (below_new w1 (.cells #[.int .i64 s.ver, .int .i64 s.trm, .int .i64 s.vot] 23))
  refine (rRight m _).mono ?_
  rintro e w2 ⟨rfl, hb⟩
  rw [HR.out]
  have p1 := p1.later hb
  have p2 := p2.later hb
  have p3 := p3.later hb
  have p4 := p4.later hb
  have p5 := p5.later hb
  have P := below_call P hb
  clear hb k1 f1 z1 k2 f2 z2 k3 f3 z3 k4 f4 z4
  obtain ⟨k1, f1, z1⟩ := p1.facts
  obtain ⟨k2, f2, z2⟩ := p2.facts
  obtain ⟨k3, f3, z3⟩ := p3.facts
  obtain ⟨k4, f4, z4⟩ := p4.facts
  obtain ⟨k5, f5, z5⟩ := p5.facts
  go_wp2_with fail
  refine (rOlder last own _).mono ?_
  rintro e w3 ⟨rfl, hb⟩
  rw [HO.out]
  have p1 := p1.later hb
  have p2 := p2.later hb
  have p3 := p3.later hb
  have p4 := p4.later hb
  have p5 := p5.later hb
  have P := below_call P hb
  clear hb k1 f1 z1 k2 f2 z2 k3 f3 z3 k4 f4 z4 k5 f5 z5
  obtain ⟨k1, f1, z1⟩ := p1.facts
  obtain ⟨k2, f2, z2⟩ := p2.facts
  obtain ⟨k3, f3, z3⟩ := p3.facts
  obtain ⟨k4, f4, z4⟩ := p4.facts
  obtain ⟨k5, f5, z5⟩ := p5.facts
  go_wp2_with fail
  refine bodyPost_ret (v := .tuple #[.agg #[.int .i64 s.ver, .int .i64 s.trm, .int .i64 s.vot], .bool false]) (by simp [results, Tryd.results10, go_sem, k4]) rfl ⟨rfl, ?_⟩
  repeat refine below_set ?_ (by omega)
  exact P
set_option maxRecDepth 100000 in
set_option maxHeartbeats 1000000 in
theorem rGrant_h (m s : Met) (own last : Idt) (frm term : Int) (w : World) (hs : seeM m term = s) (hr : metRight m = true) (q1 : (s.trm != term) = false) (h2 : ¬ term < 1) (h3 : ¬ frm < 1) (h4 : ¬ 7 < frm) (q5 : (s.vot != 0) = true) (q6 : (s.vot != frm) = false) (ho : olderB last own = true) :
    Calls Tryd.prog 10 #[.agg #[.int .i64 m.ver, .int .i64 m.trm, .int .i64 m.vot], .agg #[.int .i64 own.idx, .int .i64 own.trm, .int .i64 own.knd], .int .i64 frm, .int .i64 term, .agg #[.int .i64 last.idx, .int .i64 last.trm, .int .i64 last.knd]] w fun e w' => e = .returned (.tuple #[.agg #[.int .i64 s.ver, .int .i64 s.trm, .int .i64 s.vot], .bool false]) ∧ Below w.heap.size w w' := by
  have HS := Lib.hid hs
  clear hs
  have HR := Lib.hid hr
  clear hr
  have HO := Lib.hid ho
  clear ho
  go_enter Tryd.func10, Tryd.ntmps10
  go_wp2_with fail
  refine (rSee m term _).mono ?_
  rintro e w1 ⟨rfl, hb⟩
  rw [HS.out]
  obtain ⟨p1, p2, p3, p4, P⟩ := boxes4 #[.int .i64 m.ver, .int .i64 m.trm, .int .i64 m.vot] #[.int .i64 own.idx, .int .i64 own.trm, .int .i64 own.knd] #[.int .i64 last.idx, .int .i64 last.trm, .int .i64 last.knd] #[.int .i64 0, .int .i64 0, .int .i64 0] 23 26 26 23 hb
  clear hb
  obtain ⟨k1, f1, z1⟩ := p1.facts
  obtain ⟨k2, f2, z2⟩ := p2.facts
  obtain ⟨k3, f3, z3⟩ := p3.facts
  obtain ⟨k4, f4, z4⟩ := p4.facts
  go_wp2_with fail
  have p1 := p1.alloc (.cells #[.int .i64 s.ver, .int .i64 s.trm, .int .i64 s.vot] 23)
  have p2 := p2.alloc (.cells #[.int .i64 s.ver, .int .i64 s.trm, .int .i64 s.vot] 23)
  have p3 := p3.alloc (.cells #[.int .i64 s.ver, .int .i64 s.trm, .int .i64 s.vot] 23)
  have p4 := p4.alloc (.cells #[.int .i64 s.ver, .int .i64 s.trm, .int .i64 s.vot] 23)
  have p5 := Box.new w1 #[.int .i64 s.ver, .int .i64 s.trm, .int .i64 s.vot] 23
  have P := below_call P (below_new w1 (.cells #[.int .i64 s.ver, .int .i64 s.trm, .int .i64 s.vot] 23))
  refine (rRight m _).mono ?_
  rintro e w2 ⟨rfl, hb⟩
  rw [HR.out]
  have p1 := p1.later hb
  have p2 := p2.later hb
  have p3 := p3.later hb
  have p4 := p4.later hb
  have p5 := p5.later hb
  have P := below_call P hb
  clear hb k1 f1 z1 k2 f2 z2 k3 f3 z3 k4 f4 z4
  obtain ⟨k1, f1, z1⟩ := p1.facts
  obtain ⟨k2, f2, z2⟩ := p2.facts
  obtain ⟨k3, f3, z3⟩ := p3.facts
  obtain ⟨k4, f4, z4⟩ := p4.facts
  obtain ⟨k5, f5, z5⟩ := p5.facts
  go_wp2_with fail
  refine (rOlder last own _).mono ?_
  rintro e w3 ⟨rfl, hb⟩
  rw [HO.out]
  have p1 := p1.later hb
  have p2 := p2.later hb
  have p3 := p3.later hb
  have p4 := p4.later hb
  have p5 := p5.later hb
  have P := below_call P hb
  clear hb k1 f1 z1 k2 f2 z2 k3 f3 z3 k4 f4 z4 k5 f5 z5
  obtain ⟨k1, f1, z1⟩ := p1.facts
  obtain ⟨k2, f2, z2⟩ := p2.facts
  obtain ⟨k3, f3, z3⟩ := p3.facts
  obtain ⟨k4, f4, z4⟩ := p4.facts
  obtain ⟨k5, f5, z5⟩ := p5.facts
  go_wp2_with fail
  refine bodyPost_ret (v := .tuple #[.agg #[.int .i64 s.ver, .int .i64 s.trm, .int .i64 s.vot], .bool false]) (by simp [results, Tryd.results10, go_sem, k4]) rfl ⟨rfl, ?_⟩
  repeat refine below_set ?_ (by omega)
  exact P
set_option maxRecDepth 100000 in
set_option maxHeartbeats 1000000 in
theorem rGrant_i (m s : Met) (own last : Idt) (frm term : Int) (w : World) (hs : seeM m term = s) (hr : metRight m = true) (q1 : (s.trm != term) = false) (h2 : ¬ term < 1) (h3 : ¬ frm < 1) (h4 : ¬ 7 < frm) (q5 : (s.vot != 0) = false) (q7 : (s.vot == frm) = false) (q8 : (m.ver == 1099511627776) = true) (ho : olderB last own = false) :
    Calls Tryd.prog 10 #[.agg #[.int .i64 m.ver, .int .i64 m.trm, .int .i64 m.vot], .agg #[.int .i64 own.idx, .int .i64 own.trm, .int .i64 own.knd], .int .i64 frm, .int .i64 term, .agg #[.int .i64 last.idx, .int .i64 last.trm, .int .i64 last.knd]] w fun e w' => e = .returned (.tuple #[.agg #[.int .i64 m.ver, .int .i64 m.trm, .int .i64 m.vot], .bool false]) ∧ Below w.heap.size w w' := by
  have HS := Lib.hid hs
  clear hs
  have HR := Lib.hid hr
  clear hr
  have HO := Lib.hid ho
  clear ho
  go_enter Tryd.func10, Tryd.ntmps10
  go_wp2_with fail
  refine (rSee m term _).mono ?_
  rintro e w1 ⟨rfl, hb⟩
  rw [HS.out]
  obtain ⟨p1, p2, p3, p4, P⟩ := boxes4 #[.int .i64 m.ver, .int .i64 m.trm, .int .i64 m.vot] #[.int .i64 own.idx, .int .i64 own.trm, .int .i64 own.knd] #[.int .i64 last.idx, .int .i64 last.trm, .int .i64 last.knd] #[.int .i64 0, .int .i64 0, .int .i64 0] 23 26 26 23 hb
  clear hb
  obtain ⟨k1, f1, z1⟩ := p1.facts
  obtain ⟨k2, f2, z2⟩ := p2.facts
  obtain ⟨k3, f3, z3⟩ := p3.facts
  obtain ⟨k4, f4, z4⟩ := p4.facts
  go_wp2_with fail
  have p1 := p1.alloc (.cells #[.int .i64 s.ver, .int .i64 s.trm, .int .i64 s.vot] 23)
  have p2 := p2.alloc (.cells #[.int .i64 s.ver, .int .i64 s.trm, .int .i64 s.vot] 23)
  have p3 := p3.alloc (.cells #[.int .i64 s.ver, .int .i64 s.trm, .int .i64 s.vot] 23)
  have p4 := p4.alloc (.cells #[.int .i64 s.ver, .int .i64 s.trm, .int .i64 s.vot] 23)
  have p5 := Box.new w1 #[.int .i64 s.ver, .int .i64 s.trm, .int .i64 s.vot] 23
  have P := below_call P (below_new w1 (.cells #[.int .i64 s.ver, .int .i64 s.trm, .int .i64 s.vot] 23))
  refine (rRight m _).mono ?_
  rintro e w2 ⟨rfl, hb⟩
  rw [HR.out]
  have p1 := p1.later hb
  have p2 := p2.later hb
  have p3 := p3.later hb
  have p4 := p4.later hb
  have p5 := p5.later hb
  have P := below_call P hb
  clear hb k1 f1 z1 k2 f2 z2 k3 f3 z3 k4 f4 z4
  obtain ⟨k1, f1, z1⟩ := p1.facts
  obtain ⟨k2, f2, z2⟩ := p2.facts
  obtain ⟨k3, f3, z3⟩ := p3.facts
  obtain ⟨k4, f4, z4⟩ := p4.facts
  obtain ⟨k5, f5, z5⟩ := p5.facts
  go_wp2_with fail
  refine (rOlder last own _).mono ?_
  rintro e w3 ⟨rfl, hb⟩
  rw [HO.out]
  have p1 := p1.later hb
  have p2 := p2.later hb
  have p3 := p3.later hb
  have p4 := p4.later hb
  have p5 := p5.later hb
  have P := below_call P hb
  clear hb k1 f1 z1 k2 f2 z2 k3 f3 z3 k4 f4 z4 k5 f5 z5
  obtain ⟨k1, f1, z1⟩ := p1.facts
  obtain ⟨k2, f2, z2⟩ := p2.facts
  obtain ⟨k3, f3, z3⟩ := p3.facts
  obtain ⟨k4, f4, z4⟩ := p4.facts
  obtain ⟨k5, f5, z5⟩ := p5.facts
  go_wp2_with fail
  refine bodyPost_ret (v := .tuple #[.agg #[.int .i64 m.ver, .int .i64 m.trm, .int .i64 m.vot], .bool false]) (by simp [results, Tryd.results10, go_sem, k4]) rfl ⟨rfl, ?_⟩
  repeat refine below_set ?_ (by omega)
  exact P
set_option maxRecDepth 100000 in
set_option maxHeartbeats 1000000 in
theorem rGrant_j (m s : Met) (own last : Idt) (frm term : Int) (w : World) (hs : seeM m term = s) (hr : metRight m = true) (q1 : (s.trm != term) = false) (h2 : ¬ term < 1) (h3 : ¬ frm < 1) (h4 : ¬ 7 < frm) (q5 : (s.vot != 0) = false) (q7 : (s.vot == frm) = false) (q8 : (m.ver == 1099511627776) = false) (ho : olderB last own = false) (b1 : 0 ≤ m.ver) (b2 : m.ver ≤ 1099511627776) :
    Calls Tryd.prog 10 #[.agg #[.int .i64 m.ver, .int .i64 m.trm, .int .i64 m.vot], .agg #[.int .i64 own.idx, .int .i64 own.trm, .int .i64 own.knd], .int .i64 frm, .int .i64 term, .agg #[.int .i64 last.idx, .int .i64 last.trm, .int .i64 last.knd]] w fun e w' => e = .returned (.tuple #[.agg #[.int .i64 (m.ver + 1), .int .i64 term, .int .i64 frm], .bool true]) ∧ Below w.heap.size w w' := by
  have HS := Lib.hid hs
  clear hs
  have HR := Lib.hid hr
  clear hr
  have HO := Lib.hid ho
  clear ho
  go_enter Tryd.func10, Tryd.ntmps10
  go_wp2_with fail
  refine (rSee m term _).mono ?_
  rintro e w1 ⟨rfl, hb⟩
  rw [HS.out]
  obtain ⟨p1, p2, p3, p4, P⟩ := boxes4 #[.int .i64 m.ver, .int .i64 m.trm, .int .i64 m.vot] #[.int .i64 own.idx, .int .i64 own.trm, .int .i64 own.knd] #[.int .i64 last.idx, .int .i64 last.trm, .int .i64 last.knd] #[.int .i64 0, .int .i64 0, .int .i64 0] 23 26 26 23 hb
  clear hb
  obtain ⟨k1, f1, z1⟩ := p1.facts
  obtain ⟨k2, f2, z2⟩ := p2.facts
  obtain ⟨k3, f3, z3⟩ := p3.facts
  obtain ⟨k4, f4, z4⟩ := p4.facts
  go_wp2_with fail
  have p1 := p1.alloc (.cells #[.int .i64 s.ver, .int .i64 s.trm, .int .i64 s.vot] 23)
  have p2 := p2.alloc (.cells #[.int .i64 s.ver, .int .i64 s.trm, .int .i64 s.vot] 23)
  have p3 := p3.alloc (.cells #[.int .i64 s.ver, .int .i64 s.trm, .int .i64 s.vot] 23)
  have p4 := p4.alloc (.cells #[.int .i64 s.ver, .int .i64 s.trm, .int .i64 s.vot] 23)
  have p5 := Box.new w1 #[.int .i64 s.ver, .int .i64 s.trm, .int .i64 s.vot] 23
  have P := below_call P (below_new w1 (.cells #[.int .i64 s.ver, .int .i64 s.trm, .int .i64 s.vot] 23))
  refine (rRight m _).mono ?_
  rintro e w2 ⟨rfl, hb⟩
  rw [HR.out]
  have p1 := p1.later hb
  have p2 := p2.later hb
  have p3 := p3.later hb
  have p4 := p4.later hb
  have p5 := p5.later hb
  have P := below_call P hb
  clear hb k1 f1 z1 k2 f2 z2 k3 f3 z3 k4 f4 z4
  obtain ⟨k1, f1, z1⟩ := p1.facts
  obtain ⟨k2, f2, z2⟩ := p2.facts
  obtain ⟨k3, f3, z3⟩ := p3.facts
  obtain ⟨k4, f4, z4⟩ := p4.facts
  obtain ⟨k5, f5, z5⟩ := p5.facts
  go_wp2_with fail
  refine (rOlder last own _).mono ?_
  rintro e w3 ⟨rfl, hb⟩
  rw [HO.out]
  have p1 := p1.later hb
  have p2 := p2.later hb
  have p3 := p3.later hb
  have p4 := p4.later hb
  have p5 := p5.later hb
  have P := below_call P hb
  clear hb k1 f1 z1 k2 f2 z2 k3 f3 z3 k4 f4 z4 k5 f5 z5
  obtain ⟨k1, f1, z1⟩ := p1.facts
  obtain ⟨k2, f2, z2⟩ := p2.facts
  obtain ⟨k3, f3, z3⟩ := p3.facts
  obtain ⟨k4, f4, z4⟩ := p4.facts
  obtain ⟨k5, f5, z5⟩ := p5.facts
  go_wp2_with fail
  refine bodyPost_ret (v := .tuple #[.agg #[.int .i64 (m.ver + 1), .int .i64 term, .int .i64 frm], .bool true]) (by simp [results, Tryd.results10, go_sem, k4]) rfl ⟨rfl, ?_⟩
  repeat refine below_set ?_ (by omega)
  exact P
set_option maxRecDepth 100000 in
set_option maxHeartbeats 1000000 in
theorem rGrant_k (m s : Met) (own last : Idt) (frm term : Int) (w : World) (hs : seeM m term = s) (hr : metRight m = true) (q1 : (s.trm != term) = false) (h2 : ¬ term < 1) (h3 : ¬ frm < 1) (h4 : ¬ 7 < frm) (q5 : (s.vot != 0) = true) (q6 : (s.vot != frm) = false) (q7 : (s.vot == frm) = true) (ho : olderB last own = false) :
    Calls Tryd.prog 10 #[.agg #[.int .i64 m.ver, .int .i64 m.trm, .int .i64 m.vot], .agg #[.int .i64 own.idx, .int .i64 own.trm, .int .i64 own.knd], .int .i64 frm, .int .i64 term, .agg #[.int .i64 last.idx, .int .i64 last.trm, .int .i64 last.knd]] w fun e w' => e = .returned (.tuple #[.agg #[.int .i64 s.ver, .int .i64 s.trm, .int .i64 s.vot], .bool true]) ∧ Below w.heap.size w w' := by
  have HS := Lib.hid hs
  clear hs
  have HR := Lib.hid hr
  clear hr
  have HO := Lib.hid ho
  clear ho
  go_enter Tryd.func10, Tryd.ntmps10
  go_wp2_with fail
  refine (rSee m term _).mono ?_
  rintro e w1 ⟨rfl, hb⟩
  rw [HS.out]
  obtain ⟨p1, p2, p3, p4, P⟩ := boxes4 #[.int .i64 m.ver, .int .i64 m.trm, .int .i64 m.vot] #[.int .i64 own.idx, .int .i64 own.trm, .int .i64 own.knd] #[.int .i64 last.idx, .int .i64 last.trm, .int .i64 last.knd] #[.int .i64 0, .int .i64 0, .int .i64 0] 23 26 26 23 hb
  clear hb
  obtain ⟨k1, f1, z1⟩ := p1.facts
  obtain ⟨k2, f2, z2⟩ := p2.facts
  obtain ⟨k3, f3, z3⟩ := p3.facts
  obtain ⟨k4, f4, z4⟩ := p4.facts
  go_wp2_with fail
  have p1 := p1.alloc (.cells #[.int .i64 s.ver, .int .i64 s.trm, .int .i64 s.vot] 23)
  have p2 := p2.alloc (.cells #[.int .i64 s.ver, .int .i64 s.trm, .int .i64 s.vot] 23)
  have p3 := p3.alloc (.cells #[.int .i64 s.ver, .int .i64 s.trm, .int .i64 s.vot] 23)
  have p4 := p4.alloc (.cells #[.int .i64 s.ver, .int .i64 s.trm, .int .i64 s.vot] 23)
  have p5 := Box.new w1 #[.int .i64 s.ver, .int .i64 s.trm, .int .i64 s.vot] 23
  have P := below_call P (below_new w1 (.cells #[.int .i64 s.ver, .int .i64 s.trm, .int .i64 s.vot] 23))
  refine (rRight m _).mono ?_
  rintro e w2 ⟨rfl, hb⟩
  rw [HR.out]
  have p1 := p1.later hb
  have p2 := p2.later hb
  have p3 := p3.later hb
  have p4 := p4.later hb
  have p5 := p5.later hb
  have P := below_call P hb
  clear hb k1 f1 z1 k2 f2 z2 k3 f3 z3 k4 f4 z4
  obtain ⟨k1, f1, z1⟩ := p1.facts
  obtain ⟨k2, f2, z2⟩ := p2.facts
  obtain ⟨k3, f3, z3⟩ := p3.facts
  obtain ⟨k4, f4, z4⟩ := p4.facts
  obtain ⟨k5, f5, z5⟩ := p5.facts
  go_wp2_with fail
  refine (rOlder last own _).mono ?_
  rintro e w3 ⟨rfl, hb⟩
  rw [HO.out]
  have p1 := p1.later hb
  have p2 := p2.later hb
  have p3 := p3.later hb
  have p4 := p4.later hb
  have p5 := p5.later hb
  have P := below_call P hb
  clear hb k1 f1 z1 k2 f2 z2 k3 f3 z3 k4 f4 z4 k5 f5 z5
  obtain ⟨k1, f1, z1⟩ := p1.facts
  obtain ⟨k2, f2, z2⟩ := p2.facts
  obtain ⟨k3, f3, z3⟩ := p3.facts
  obtain ⟨k4, f4, z4⟩ := p4.facts
  obtain ⟨k5, f5, z5⟩ := p5.facts
  go_wp2_with fail
  refine bodyPost_ret (v := .tuple #[.agg #[.int .i64 s.ver, .int .i64 s.trm, .int .i64 s.vot], .bool true]) (by simp [results, Tryd.results10, go_sem, k4]) rfl ⟨rfl, ?_⟩
  repeat refine below_set ?_ (by omega)
  exact P
end Go.Proofs.YtgbdnkmfinoopaaDoor
