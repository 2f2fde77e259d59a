/-
  THE PACKAGE term, 3: asked, Start.
-/
import Derived.Test.YtgbdnkmfinoopaaDoorTerm2
set_option linter.unusedVariables false
namespace Go.Proofs.YtgbdnkmfinoopaaDoor
open Go.RowKit

/-- The error of a broken rule. -/
def askV (frm : Int) : Option Int → Value
  | none => .nilIface
  | some r => .iface 48 (.agg #[.int .i64 frm, .iface 50 (.int .i64 r)])

set_option maxHeartbeats 400000 in
theorem asked_4a (m : Met) (own : Idt) (frm term : Int) (last : Idt) (w : World) (hr : metRight m = false) :
    Calls Tryd.prog 17 #[.agg #[.int .i64 m.ver, .int .i64 m.trm, .int .i64 m.vot], .agg #[.int .i64 own.idx, .int .i64 own.trm, .int .i64 own.knd], .int .i64 frm, .int .i64 term, .agg #[.int .i64 last.idx, .int .i64 last.trm, .int .i64 last.knd]] w fun e w' => e = .returned (askV frm (some 4)) ∧ Below w.heap.size w w' := by
  have HR := Lib.hid hr
  clear hr
  go_enter Tryd.func17, Tryd.ntmps17
  go_wp2_with (first | (go_at_call 13; refine (tRight m _).mono ?_; rintro e w1 ⟨rfl, hb1⟩; rw [HR.out]; obtain ⟨p1, p2, p3, P1⟩ := boxes3 #[.int .i64 m.ver, .int .i64 m.trm, .int .i64 m.vot] #[.int .i64 own.idx, .int .i64 own.trm, .int .i64 own.knd] #[.int .i64 last.idx, .int .i64 last.trm, .int .i64 last.knd] 23 26 26 hb1; obtain ⟨k1, f1, z1⟩ := p1.facts; obtain ⟨k2, f2, z2⟩ := p2.facts; obtain ⟨k3, f3, z3⟩ := p3.facts))
  go_ret
  exact ⟨rfl, P1⟩
set_option maxHeartbeats 400000 in
theorem asked_4b (m : Met) (own : Idt) (frm term : Int) (last : Idt) (w : World) (hr : metRight m = true) (h : frm < 1) :
    Calls Tryd.prog 17 #[.agg #[.int .i64 m.ver, .int .i64 m.trm, .int .i64 m.vot], .agg #[.int .i64 own.idx, .int .i64 own.trm, .int .i64 own.knd], .int .i64 frm, .int .i64 term, .agg #[.int .i64 last.idx, .int .i64 last.trm, .int .i64 last.knd]] w fun e w' => e = .returned (askV frm (some 4)) ∧ Below w.heap.size w w' := by
  have HR := Lib.hid hr
  clear hr
  go_enter Tryd.func17, Tryd.ntmps17
  go_wp2_with (first | (go_at_call 13; refine (tRight m _).mono ?_; rintro e w1 ⟨rfl, hb1⟩; rw [HR.out]; obtain ⟨p1, p2, p3, P1⟩ := boxes3 #[.int .i64 m.ver, .int .i64 m.trm, .int .i64 m.vot] #[.int .i64 own.idx, .int .i64 own.trm, .int .i64 own.knd] #[.int .i64 last.idx, .int .i64 last.trm, .int .i64 last.knd] 23 26 26 hb1; obtain ⟨k1, f1, z1⟩ := p1.facts; obtain ⟨k2, f2, z2⟩ := p2.facts; obtain ⟨k3, f3, z3⟩ := p3.facts))
  go_ret
  exact ⟨rfl, P1⟩
set_option maxHeartbeats 400000 in
theorem asked_4c (m : Met) (own : Idt) (frm term : Int) (last : Idt) (w : World) (hr : metRight m = true) (h1 : 1 ≤ frm) (h : 7 < frm) :
    Calls Tryd.prog 17 #[.agg #[.int .i64 m.ver, .int .i64 m.trm, .int .i64 m.vot], .agg #[.int .i64 own.idx, .int .i64 own.trm, .int .i64 own.knd], .int .i64 frm, .int .i64 term, .agg #[.int .i64 last.idx, .int .i64 last.trm, .int .i64 last.knd]] w fun e w' => e = .returned (askV frm (some 4)) ∧ Below w.heap.size w w' := by
  have HR := Lib.hid hr
  clear hr
  go_enter Tryd.func17, Tryd.ntmps17
  go_wp2_with (first | (go_at_call 13; refine (tRight m _).mono ?_; rintro e w1 ⟨rfl, hb1⟩; rw [HR.out]; obtain ⟨p1, p2, p3, P1⟩ := boxes3 #[.int .i64 m.ver, .int .i64 m.trm, .int .i64 m.vot] #[.int .i64 own.idx, .int .i64 own.trm, .int .i64 own.knd] #[.int .i64 last.idx, .int .i64 last.trm, .int .i64 last.knd] 23 26 26 hb1; obtain ⟨k1, f1, z1⟩ := p1.facts; obtain ⟨k2, f2, z2⟩ := p2.facts; obtain ⟨k3, f3, z3⟩ := p3.facts))
  go_ret
  exact ⟨rfl, P1⟩
set_option maxHeartbeats 400000 in
theorem asked_4d (m : Met) (own : Idt) (frm term : Int) (last : Idt) (w : World) (hr : metRight m = true) (h1 : 1 ≤ frm) (h2 : frm ≤ 7) (h : term < 1) :
    Calls Tryd.prog 17 #[.agg #[.int .i64 m.ver, .int .i64 m.trm, .int .i64 m.vot], .agg #[.int .i64 own.idx, .int .i64 own.trm, .int .i64 own.knd], .int .i64 frm, .int .i64 term, .agg #[.int .i64 last.idx, .int .i64 last.trm, .int .i64 last.knd]] w fun e w' => e = .returned (askV frm (some 4)) ∧ Below w.heap.size w w' := by
  have HR := Lib.hid hr
  clear hr
  go_enter Tryd.func17, Tryd.ntmps17
  go_wp2_with (first | (go_at_call 13; refine (tRight m _).mono ?_; rintro e w1 ⟨rfl, hb1⟩; rw [HR.out]; obtain ⟨p1, p2, p3, P1⟩ := boxes3 #[.int .i64 m.ver, .int .i64 m.trm, .int .i64 m.vot] #[.int .i64 own.idx, .int .i64 own.trm, .int .i64 own.knd] #[.int .i64 last.idx, .int .i64 last.trm, .int .i64 last.knd] 23 26 26 hb1; obtain ⟨k1, f1, z1⟩ := p1.facts; obtain ⟨k2, f2, z2⟩ := p2.facts; obtain ⟨k3, f3, z3⟩ := p3.facts))
  go_ret
  exact ⟨rfl, P1⟩
set_option maxHeartbeats 400000 in
theorem asked_4e (m : Met) (own : Idt) (frm term : Int) (last : Idt) (w : World) (hr : metRight m = true) (h1 : 1 ≤ frm) (h2 : frm ≤ 7) (h3 : 1 ≤ term) (h : 1099511627776 < term) :
    Calls Tryd.prog 17 #[.agg #[.int .i64 m.ver, .int .i64 m.trm, .int .i64 m.vot], .agg #[.int .i64 own.idx, .int .i64 own.trm, .int .i64 own.knd], .int .i64 frm, .int .i64 term, .agg #[.int .i64 last.idx, .int .i64 last.trm, .int .i64 last.knd]] w fun e w' => e = .returned (askV frm (some 4)) ∧ Below w.heap.size w w' := by
  have HR := Lib.hid hr
  clear hr
  go_enter Tryd.func17, Tryd.ntmps17
  go_wp2_with (first | (go_at_call 13; refine (tRight m _).mono ?_; rintro e w1 ⟨rfl, hb1⟩; rw [HR.out]; obtain ⟨p1, p2, p3, P1⟩ := boxes3 #[.int .i64 m.ver, .int .i64 m.trm, .int .i64 m.vot] #[.int .i64 own.idx, .int .i64 own.trm, .int .i64 own.knd] #[.int .i64 last.idx, .int .i64 last.trm, .int .i64 last.knd] 23 26 26 hb1; obtain ⟨k1, f1, z1⟩ := p1.facts; obtain ⟨k2, f2, z2⟩ := p2.facts; obtain ⟨k3, f3, z3⟩ := p3.facts))
  go_ret
  exact ⟨rfl, P1⟩
set_option maxHeartbeats 400000 in
theorem asked_1 (m : Met) (own : Idt) (frm term : Int) (last : Idt) (w : World) (hr : metRight m = true) (g1 : 1 ≤ frm) (g2 : frm ≤ 7) (g3 : 1 ≤ term) (g4 : term ≤ 1099511627776) (h : term < m.trm) :
    Calls Tryd.prog 17 #[.agg #[.int .i64 m.ver, .int .i64 m.trm, .int .i64 m.vot], .agg #[.int .i64 own.idx, .int .i64 own.trm, .int .i64 own.knd], .int .i64 frm, .int .i64 term, .agg #[.int .i64 last.idx, .int .i64 last.trm, .int .i64 last.knd]] w fun e w' => e = .returned (askV frm (some 1)) ∧ Below w.heap.size w w' := by
  have HR := Lib.hid hr
  clear hr
  go_enter Tryd.func17, Tryd.ntmps17
  go_wp2_with (first | (go_at_call 13; refine (tRight m _).mono ?_; rintro e w1 ⟨rfl, hb1⟩; rw [HR.out]; obtain ⟨p1, p2, p3, P1⟩ := boxes3 #[.int .i64 m.ver, .int .i64 m.trm, .int .i64 m.vot] #[.int .i64 own.idx, .int .i64 own.trm, .int .i64 own.knd] #[.int .i64 last.idx, .int .i64 last.trm, .int .i64 last.knd] 23 26 26 hb1; obtain ⟨k1, f1, z1⟩ := p1.facts; obtain ⟨k2, f2, z2⟩ := p2.facts; obtain ⟨k3, f3, z3⟩ := p3.facts))
  go_ret
  exact ⟨rfl, P1⟩
set_option maxHeartbeats 400000 in
theorem asked_5a (m : Met) (own : Idt) (frm term : Int) (last : Idt) (w : World) (hr : metRight m = true) (g1 : 1 ≤ frm) (g2 : frm ≤ 7) (g3 : 1 ≤ term) (g4 : term ≤ 1099511627776) (ht : metTurns m = false) (h : m.trm < term) :
    Calls Tryd.prog 17 #[.agg #[.int .i64 m.ver, .int .i64 m.trm, .int .i64 m.vot], .agg #[.int .i64 own.idx, .int .i64 own.trm, .int .i64 own.knd], .int .i64 frm, .int .i64 term, .agg #[.int .i64 last.idx, .int .i64 last.trm, .int .i64 last.knd]] w fun e w' => e = .returned (askV frm (some 5)) ∧ Below w.heap.size w w' := by
  have HR := Lib.hid hr
  clear hr
  have HT := Lib.hid ht
  clear ht
  go_enter Tryd.func17, Tryd.ntmps17
  go_wp2_with (first | (go_at_call 13; refine (tRight m _).mono ?_; rintro e w1 ⟨rfl, hb1⟩; rw [HR.out]; obtain ⟨p1, p2, p3, P1⟩ := boxes3 #[.int .i64 m.ver, .int .i64 m.trm, .int .i64 m.vot] #[.int .i64 own.idx, .int .i64 own.trm, .int .i64 own.knd] #[.int .i64 last.idx, .int .i64 last.trm, .int .i64 last.knd] 23 26 26 hb1; obtain ⟨k1, f1, z1⟩ := p1.facts; obtain ⟨k2, f2, z2⟩ := p2.facts; obtain ⟨k3, f3, z3⟩ := p3.facts) | (go_at_call 21; refine (tTurns m _).mono ?_; rintro e w2 ⟨rfl, hb2⟩; rw [HT.out]; obtain ⟨j1, -, -⟩ := (p1.later hb2).facts; obtain ⟨j2, -, -⟩ := (p2.later hb2).facts; obtain ⟨j3, -, -⟩ := (p3.later hb2).facts))
  go_ret
  exact ⟨rfl, below_call P1 hb2⟩
set_option maxHeartbeats 400000 in
theorem asked_5b (m : Met) (own : Idt) (frm term : Int) (last : Idt) (w : World) (hr : metRight m = true) (g1 : 1 ≤ frm) (g2 : frm ≤ 7) (g3 : 1 ≤ term) (g4 : term ≤ 1099511627776) (ht : metTurns m = false) (h : m.trm ≤ term) (h1 : term ≤ m.trm) (h2 : m.vot = 0) :
    Calls Tryd.prog 17 #[.agg #[.int .i64 m.ver, .int .i64 m.trm, .int .i64 m.vot], .agg #[.int .i64 own.idx, .int .i64 own.trm, .int .i64 own.knd], .int .i64 frm, .int .i64 term, .agg #[.int .i64 last.idx, .int .i64 last.trm, .int .i64 last.knd]] w fun e w' => e = .returned (askV frm (some 5)) ∧ Below w.heap.size w w' := by
  have HR := Lib.hid hr
  clear hr
  have HT := Lib.hid ht
  clear ht
  have q0 : (m.vot == 0) = true := by simpa using h2
  clear h2
  go_enter Tryd.func17, Tryd.ntmps17
  go_wp2_with (first | (go_at_call 13; refine (tRight m _).mono ?_; rintro e w1 ⟨rfl, hb1⟩; rw [HR.out]; obtain ⟨p1, p2, p3, P1⟩ := boxes3 #[.int .i64 m.ver, .int .i64 m.trm, .int .i64 m.vot] #[.int .i64 own.idx, .int .i64 own.trm, .int .i64 own.knd] #[.int .i64 last.idx, .int .i64 last.trm, .int .i64 last.knd] 23 26 26 hb1; obtain ⟨k1, f1, z1⟩ := p1.facts; obtain ⟨k2, f2, z2⟩ := p2.facts; obtain ⟨k3, f3, z3⟩ := p3.facts) | (go_at_call 21; refine (tTurns m _).mono ?_; rintro e w2 ⟨rfl, hb2⟩; rw [HT.out]; obtain ⟨j1, -, -⟩ := (p1.later hb2).facts; obtain ⟨j2, -, -⟩ := (p2.later hb2).facts; obtain ⟨j3, -, -⟩ := (p3.later hb2).facts))
  go_ret
  exact ⟨rfl, below_call P1 hb2⟩
set_option maxHeartbeats 400000 in
theorem asked_2 (m : Met) (own : Idt) (frm term : Int) (last : Idt) (w : World) (hr : metRight m = true) (g1 : 1 ≤ frm) (g2 : frm ≤ 7) (g3 : 1 ≤ term) (g4 : term ≤ 1099511627776) (h : m.trm ≤ term) (h1 : term ≤ m.trm) (h2 : m.vot ≠ 0) (h5 : m.vot ≠ frm) :
    Calls Tryd.prog 17 #[.agg #[.int .i64 m.ver, .int .i64 m.trm, .int .i64 m.vot], .agg #[.int .i64 own.idx, .int .i64 own.trm, .int .i64 own.knd], .int .i64 frm, .int .i64 term, .agg #[.int .i64 last.idx, .int .i64 last.trm, .int .i64 last.knd]] w fun e w' => e = .returned (askV frm (some 2)) ∧ Below w.heap.size w w' := by
  have HR := Lib.hid hr
  clear hr
  have q0 : (m.vot == 0) = false := by simpa using h2
  clear h2
  have q1 : (m.vot != frm) = true := by simpa using h5
  clear h5
  go_enter Tryd.func17, Tryd.ntmps17
  go_wp2_with (first | (go_at_call 13; refine (tRight m _).mono ?_; rintro e w1 ⟨rfl, hb1⟩; rw [HR.out]; obtain ⟨p1, p2, p3, P1⟩ := boxes3 #[.int .i64 m.ver, .int .i64 m.trm, .int .i64 m.vot] #[.int .i64 own.idx, .int .i64 own.trm, .int .i64 own.knd] #[.int .i64 last.idx, .int .i64 last.trm, .int .i64 last.knd] 23 26 26 hb1; obtain ⟨k1, f1, z1⟩ := p1.facts; obtain ⟨k2, f2, z2⟩ := p2.facts; obtain ⟨k3, f3, z3⟩ := p3.facts))
  go_ret
  exact ⟨rfl, P1⟩
set_option maxHeartbeats 400000 in
theorem asked_3a (m : Met) (own : Idt) (frm term : Int) (last : Idt) (w : World) (hr : metRight m = true) (g1 : 1 ≤ frm) (g2 : frm ≤ 7) (g3 : 1 ≤ term) (g4 : term ≤ 1099511627776) (ht : metTurns m = true) (h : m.trm < term) (ho : olderB last own = true) :
    Calls Tryd.prog 17 #[.agg #[.int .i64 m.ver, .int .i64 m.trm, .int .i64 m.vot], .agg #[.int .i64 own.idx, .int .i64 own.trm, .int .i64 own.knd], .int .i64 frm, .int .i64 term, .agg #[.int .i64 last.idx, .int .i64 last.trm, .int .i64 last.knd]] w fun e w' => e = .returned (askV frm (some 3)) ∧ Below w.heap.size w w' := by
  have HR := Lib.hid hr
  clear hr
  have HT := Lib.hid ht
  clear ht
  have HO := Lib.hid ho
  clear ho
  go_enter Tryd.func17, Tryd.ntmps17
  go_wp2_with (first | (go_at_call 13; refine (tRight m _).mono ?_; rintro e w1 ⟨rfl, hb1⟩; rw [HR.out]; obtain ⟨p1, p2, p3, P1⟩ := boxes3 #[.int .i64 m.ver, .int .i64 m.trm, .int .i64 m.vot] #[.int .i64 own.idx, .int .i64 own.trm, .int .i64 own.knd] #[.int .i64 last.idx, .int .i64 last.trm, .int .i64 last.knd] 23 26 26 hb1; obtain ⟨k1, f1, z1⟩ := p1.facts; obtain ⟨k2, f2, z2⟩ := p2.facts; obtain ⟨k3, f3, z3⟩ := p3.facts) | (go_at_call 21; refine (tTurns m _).mono ?_; rintro e w2 ⟨rfl, hb2⟩; rw [HT.out]; obtain ⟨j1, -, -⟩ := (p1.later hb2).facts; obtain ⟨j2, -, -⟩ := (p2.later hb2).facts; obtain ⟨j3, -, -⟩ := (p3.later hb2).facts) | (go_at_call 16; refine (tOlder last own _).mono ?_; rintro e w3 ⟨rfl, hb3⟩; rw [HO.out]))
  go_ret
  exact ⟨rfl, below_call (below_call P1 hb2) hb3⟩
set_option maxHeartbeats 400000 in
theorem asked_3b (m : Met) (own : Idt) (frm term : Int) (last : Idt) (w : World) (hr : metRight m = true) (g1 : 1 ≤ frm) (g2 : frm ≤ 7) (g3 : 1 ≤ term) (g4 : term ≤ 1099511627776) (ht : metTurns m = true) (h : m.trm ≤ term) (h1 : term ≤ m.trm) (h2 : m.vot = 0) (ho : olderB last own = true) :
    Calls Tryd.prog 17 #[.agg #[.int .i64 m.ver, .int .i64 m.trm, .int .i64 m.vot], .agg #[.int .i64 own.idx, .int .i64 own.trm, .int .i64 own.knd], .int .i64 frm, .int .i64 term, .agg #[.int .i64 last.idx, .int .i64 last.trm, .int .i64 last.knd]] w fun e w' => e = .returned (askV frm (some 3)) ∧ Below w.heap.size w w' := by
  have HR := Lib.hid hr
  clear hr
  have HT := Lib.hid ht
  clear ht
  have q0 : (m.vot == 0) = true := by simpa using h2
  clear h2
  have HO := Lib.hid ho
  clear ho
  go_enter Tryd.func17, Tryd.ntmps17
  go_wp2_with (first | (go_at_call 13; refine (tRight m _).mono ?_; rintro e w1 ⟨rfl, hb1⟩; rw [HR.out]; obtain ⟨p1, p2, p3, P1⟩ := boxes3 #[.int .i64 m.ver, .int .i64 m.trm, .int .i64 m.vot] #[.int .i64 own.idx, .int .i64 own.trm, .int .i64 own.knd] #[.int .i64 last.idx, .int .i64 last.trm, .int .i64 last.knd] 23 26 26 hb1; obtain ⟨k1, f1, z1⟩ := p1.facts; obtain ⟨k2, f2, z2⟩ := p2.facts; obtain ⟨k3, f3, z3⟩ := p3.facts) | (go_at_call 21; refine (tTurns m _).mono ?_; rintro e w2 ⟨rfl, hb2⟩; rw [HT.out]; obtain ⟨j1, -, -⟩ := (p1.later hb2).facts; obtain ⟨j2, -, -⟩ := (p2.later hb2).facts; obtain ⟨j3, -, -⟩ := (p3.later hb2).facts) | (go_at_call 16; refine (tOlder last own _).mono ?_; rintro e w3 ⟨rfl, hb3⟩; rw [HO.out]))
  go_ret
  exact ⟨rfl, below_call (below_call P1 hb2) hb3⟩
set_option maxHeartbeats 400000 in
theorem asked_3c (m : Met) (own : Idt) (frm term : Int) (last : Idt) (w : World) (hr : metRight m = true) (g1 : 1 ≤ frm) (g2 : frm ≤ 7) (g3 : 1 ≤ term) (g4 : term ≤ 1099511627776) (h : m.trm ≤ term) (h1 : term ≤ m.trm) (h2 : m.vot ≠ 0) (h5 : m.vot = frm) (ho : olderB last own = true) :
    Calls Tryd.prog 17 #[.agg #[.int .i64 m.ver, .int .i64 m.trm, .int .i64 m.vot], .agg #[.int .i64 own.idx, .int .i64 own.trm, .int .i64 own.knd], .int .i64 frm, .int .i64 term, .agg #[.int .i64 last.idx, .int .i64 last.trm, .int .i64 last.knd]] w fun e w' => e = .returned (askV frm (some 3)) ∧ Below w.heap.size w w' := by
  have HR := Lib.hid hr
  clear hr
  have q0 : (m.vot == 0) = false := by simpa using h2
  clear h2
  have q1 : (m.vot != frm) = false := by simpa using h5
  clear h5
  have HO := Lib.hid ho
  clear ho
  go_enter Tryd.func17, Tryd.ntmps17
  go_wp2_with (first | (go_at_call 13; refine (tRight m _).mono ?_; rintro e w1 ⟨rfl, hb1⟩; rw [HR.out]; obtain ⟨p1, p2, p3, P1⟩ := boxes3 #[.int .i64 m.ver, .int .i64 m.trm, .int .i64 m.vot] #[.int .i64 own.idx, .int .i64 own.trm, .int .i64 own.knd] #[.int .i64 last.idx, .int .i64 last.trm, .int .i64 last.knd] 23 26 26 hb1; obtain ⟨k1, f1, z1⟩ := p1.facts; obtain ⟨k2, f2, z2⟩ := p2.facts; obtain ⟨k3, f3, z3⟩ := p3.facts) | (go_at_call 16; refine (tOlder last own _).mono ?_; rintro e w3 ⟨rfl, hb3⟩; rw [HO.out]))
  go_ret
  exact ⟨rfl, below_call P1 hb3⟩
set_option maxHeartbeats 400000 in
theorem asked_0a (m : Met) (own : Idt) (frm term : Int) (last : Idt) (w : World) (hr : metRight m = true) (g1 : 1 ≤ frm) (g2 : frm ≤ 7) (g3 : 1 ≤ term) (g4 : term ≤ 1099511627776) (ht : metTurns m = true) (h : m.trm < term) (ho : olderB last own = false) :
    Calls Tryd.prog 17 #[.agg #[.int .i64 m.ver, .int .i64 m.trm, .int .i64 m.vot], .agg #[.int .i64 own.idx, .int .i64 own.trm, .int .i64 own.knd], .int .i64 frm, .int .i64 term, .agg #[.int .i64 last.idx, .int .i64 last.trm, .int .i64 last.knd]] w fun e w' => e = .returned (askV frm none) ∧ Below w.heap.size w w' := by
  have HR := Lib.hid hr
  clear hr
  have HT := Lib.hid ht
  clear ht
  have HO := Lib.hid ho
  clear ho
  go_enter Tryd.func17, Tryd.ntmps17
  go_wp2_with (first | (go_at_call 13; refine (tRight m _).mono ?_; rintro e w1 ⟨rfl, hb1⟩; rw [HR.out]; obtain ⟨p1, p2, p3, P1⟩ := boxes3 #[.int .i64 m.ver, .int .i64 m.trm, .int .i64 m.vot] #[.int .i64 own.idx, .int .i64 own.trm, .int .i64 own.knd] #[.int .i64 last.idx, .int .i64 last.trm, .int .i64 last.knd] 23 26 26 hb1; obtain ⟨k1, f1, z1⟩ := p1.facts; obtain ⟨k2, f2, z2⟩ := p2.facts; obtain ⟨k3, f3, z3⟩ := p3.facts) | (go_at_call 21; refine (tTurns m _).mono ?_; rintro e w2 ⟨rfl, hb2⟩; rw [HT.out]; obtain ⟨j1, -, -⟩ := (p1.later hb2).facts; obtain ⟨j2, -, -⟩ := (p2.later hb2).facts; obtain ⟨j3, -, -⟩ := (p3.later hb2).facts) | (go_at_call 16; refine (tOlder last own _).mono ?_; rintro e w3 ⟨rfl, hb3⟩; rw [HO.out]))
  go_ret
  exact ⟨rfl, below_call (below_call P1 hb2) hb3⟩
set_option maxHeartbeats 400000 in
theorem asked_0b (m : Met) (own : Idt) (frm term : Int) (last : Idt) (w : World) (hr : metRight m = true) (g1 : 1 ≤ frm) (g2 : frm ≤ 7) (g3 : 1 ≤ term) (g4 : term ≤ 1099511627776) (ht : metTurns m = true) (h : m.trm ≤ term) (h1 : term ≤ m.trm) (h2 : m.vot = 0) (ho : olderB last own = false) :
    Calls Tryd.prog 17 #[.agg #[.int .i64 m.ver, .int .i64 m.trm, .int .i64 m.vot], .agg #[.int .i64 own.idx, .int .i64 own.trm, .int .i64 own.knd], .int .i64 frm, .int .i64 term, .agg #[.int .i64 last.idx, .int .i64 last.trm, .int .i64 last.knd]] w fun e w' => e = .returned (askV frm none) ∧ Below w.heap.size w w' := by
  have HR := Lib.hid hr
  clear hr
  have HT := Lib.hid ht
  clear ht
  have q0 : (m.vot == 0) = true := by simpa using h2
  clear h2
  have HO := Lib.hid ho
  clear ho
  go_enter Tryd.func17, Tryd.ntmps17
  go_wp2_with (first | (go_at_call 13; refine (tRight m _).mono ?_; rintro e w1 ⟨rfl, hb1⟩; rw [HR.out]; obtain ⟨p1, p2, p3, P1⟩ := boxes3 #[.int .i64 m.ver, .int .i64 m.trm, .int .i64 m.vot] #[.int .i64 own.idx, .int .i64 own.trm, .int .i64 own.knd] #[.int .i64 last.idx, .int .i64 last.trm, .int .i64 last.knd] 23 26 26 hb1; obtain ⟨k1, f1, z1⟩ := p1.facts; obtain ⟨k2, f2, z2⟩ := p2.facts; obtain ⟨k3, f3, z3⟩ := p3.facts) | (go_at_call 21; refine (tTurns m _).mono ?_; rintro e w2 ⟨rfl, hb2⟩; rw [HT.out]; obtain ⟨j1, -, -⟩ := (p1.later hb2).facts; obtain ⟨j2, -, -⟩ := (p2.later hb2).facts; obtain ⟨j3, -, -⟩ := (p3.later hb2).facts) | (go_at_call 16; refine (tOlder last own _).mono ?_; rintro e w3 ⟨rfl, hb3⟩; rw [HO.out]))
  go_ret
  exact ⟨rfl, below_call (below_call P1 hb2) hb3⟩
set_option maxHeartbeats 400000 in
theorem asked_0c (m : Met) (own : Idt) (frm term : Int) (last : Idt) (w : World) (hr : metRight m = true) (g1 : 1 ≤ frm) (g2 : frm ≤ 7) (g3 : 1 ≤ term) (g4 : term ≤ 1099511627776) (h : m.trm ≤ term) (h1 : term ≤ m.trm) (h2 : m.vot ≠ 0) (h5 : m.vot = frm) (ho : olderB last own = false) :
    Calls Tryd.prog 17 #[.agg #[.int .i64 m.ver, .int .i64 m.trm, .int .i64 m.vot], .agg #[.int .i64 own.idx, .int .i64 own.trm, .int .i64 own.knd], .int .i64 frm, .int .i64 term, .agg #[.int .i64 last.idx, .int .i64 last.trm, .int .i64 last.knd]] w fun e w' => e = .returned (askV frm none) ∧ Below w.heap.size w w' := by
  have HR := Lib.hid hr
  clear hr
  have q0 : (m.vot == 0) = false := by simpa using h2
  clear h2
  have q1 : (m.vot != frm) = false := by simpa using h5
  clear h5
  have HO := Lib.hid ho
  clear ho
  go_enter Tryd.func17, Tryd.ntmps17
  go_wp2_with (first | (go_at_call 13; refine (tRight m _).mono ?_; rintro e w1 ⟨rfl, hb1⟩; rw [HR.out]; obtain ⟨p1, p2, p3, P1⟩ := boxes3 #[.int .i64 m.ver, .int .i64 m.trm, .int .i64 m.vot] #[.int .i64 own.idx, .int .i64 own.trm, .int .i64 own.knd] #[.int .i64 last.idx, .int .i64 last.trm, .int .i64 last.knd] 23 26 26 hb1; obtain ⟨k1, f1, z1⟩ := p1.facts; obtain ⟨k2, f2, z2⟩ := p2.facts; obtain ⟨k3, f3, z3⟩ := p3.facts) | (go_at_call 16; refine (tOlder last own _).mono ?_; rintro e w3 ⟨rfl, hb3⟩; rw [HO.out]))
  go_ret
  exact ⟨rfl, below_call P1 hb3⟩

theorem tAsked (m : Met) (own : Idt) (frm term : Int) (last : Idt) (w : World) :
    Calls Tryd.prog 17 #[.agg #[.int .i64 m.ver, .int .i64 m.trm, .int .i64 m.vot], .agg #[.int .i64 own.idx, .int .i64 own.trm, .int .i64 own.knd], .int .i64 frm, .int .i64 term, .agg #[.int .i64 last.idx, .int .i64 last.trm, .int .i64 last.knd]] w fun e w' => e = .returned (askV frm (askedR m own frm term last)) ∧ Below w.heap.size w w' := by
  cases hr : metRight m
  · rw [show askedR m own frm term last = some 4 by simp [askedR, hr]]; exact asked_4a m own frm term last w hr
  by_cases g1 : frm < 1
  · rw [show askedR m own frm term last = some 4 by simp [askedR, g1]]; exact asked_4b m own frm term last w hr g1
  by_cases g2 : 7 < frm
  · rw [show askedR m own frm term last = some 4 by simp [askedR, g2]]; exact asked_4c m own frm term last w hr (by omega) g2
  by_cases g3 : term < 1
  · rw [show askedR m own frm term last = some 4 by simp [askedR, g3]]; exact asked_4d m own frm term last w hr (by omega) (by omega) g3
  by_cases g4 : 1099511627776 < term
  · rw [show askedR m own frm term last = some 4 by simp [askedR, g4]]; exact asked_4e m own frm term last w hr (by omega) (by omega) (by omega) g4
  by_cases h : term < m.trm
  · rw [show askedR m own frm term last = some 1 by simp [askedR, hr, g1, g2, g3, g4, h]]; exact asked_1 m own frm term last w hr (by omega) (by omega) (by omega) (by omega) h
  by_cases h' : m.trm < term
  · cases ht : metTurns m
    · rw [show askedR m own frm term last = some 5 by simp [askedR, hr, g1, g2, g3, g4, h, h', ht]]; exact asked_5a m own frm term last w hr (by omega) (by omega) (by omega) (by omega) ht h'
    · cases ho : olderB last own
      · rw [show askedR m own frm term last = none by simp [askedR, hr, g1, g2, g3, g4, h, h', ht, ho]]; exact asked_0a m own frm term last w hr (by omega) (by omega) (by omega) (by omega) ht h' ho
      · rw [show askedR m own frm term last = some 3 by simp [askedR, hr, g1, g2, g3, g4, h, h', ht, ho]]; exact asked_3a m own frm term last w hr (by omega) (by omega) (by omega) (by omega) ht h' ho
  by_cases h2 : m.vot = 0
  · cases ht : metTurns m
    · rw [show askedR m own frm term last = some 5 by simp [askedR, hr, g1, g2, g3, g4, h, h', h2, ht]]; exact asked_5b m own frm term last w hr (by omega) (by omega) (by omega) (by omega) ht (by omega) (by omega) h2
    · cases ho : olderB last own
      · rw [show askedR m own frm term last = none by simp [askedR, hr, g1, g2, g3, g4, h, h', h2, ht, ho]]; exact asked_0b m own frm term last w hr (by omega) (by omega) (by omega) (by omega) ht (by omega) (by omega) h2 ho
      · rw [show askedR m own frm term last = some 3 by simp [askedR, hr, g1, g2, g3, g4, h, h', h2, ht, ho]]; exact asked_3b m own frm term last w hr (by omega) (by omega) (by omega) (by omega) ht (by omega) (by omega) h2 ho
  by_cases h5 : m.vot = frm
  · cases ho : olderB last own
    · rw [show askedR m own frm term last = none by subst h5; simp [askedR, hr, g1, g2, g3, g4, h, h', h2, ho]]; exact asked_0c m own frm term last w hr (by omega) (by omega) (by omega) (by omega) (by omega) (by omega) h2 h5 ho
    · rw [show askedR m own frm term last = some 3 by subst h5; simp [askedR, hr, g1, g2, g3, g4, h, h', h2, ho]]; exact asked_3c m own frm term last w hr (by omega) (by omega) (by omega) (by omega) (by omega) (by omega) h2 h5 ho
  · rw [show askedR m own frm term last = some 2 by simp [askedR, hr, g1, g2, g3, g4, h, h', h2, h5]]; exact asked_2 m own frm term last w hr (by omega) (by omega) (by omega) (by omega) (by omega) (by omega) h2 h5
end Go.Proofs.YtgbdnkmfinoopaaDoor
