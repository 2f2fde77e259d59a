/-
  THE PACKAGE term, 4: Start, Grant.
-/
import Derived.Test.YtgbdnkmfinoopaaDoorTerm3
set_option linter.unusedVariables false
namespace Go.Proofs.YtgbdnkmfinoopaaDoor
open Go.RowKit

set_option maxHeartbeats 400000 in
theorem start_2a (m : Met) (self : Int) (w : World) (hr : metRight m = false) :
    Calls Tryd.prog 11 #[.agg #[.int .i64 m.ver, .int .i64 m.trm, .int .i64 m.vot], .int .i64 self] w fun e w' => e = .returned (.tuple #[.agg #[.int .i64 m.ver, .int .i64 m.trm, .int .i64 m.vot], .int .i64 2]) ∧ Below w.heap.size w w' := by
  have HR := Lib.hid hr
  clear hr
  go_enter Tryd.func11, Tryd.ntmps11
  go_wp2_with (first | (go_at_call 13; refine (tRight m _).mono ?_; rintro e w1 ⟨rfl, hb1⟩; rw [HR.out]; obtain ⟨p1, p2, P1⟩ := boxes2 #[.int .i64 m.ver, .int .i64 m.trm, .int .i64 m.vot] #[.int .i64 0, .int .i64 0, .int .i64 0] 23 23 hb1; obtain ⟨k1, f1, z1⟩ := p1.facts; obtain ⟨k2, f2, z2⟩ := p2.facts))
  refine bodyPost_ret (v := .tuple #[.agg #[.int .i64 m.ver, .int .i64 m.trm, .int .i64 m.vot], .int .i64 2]) (by simp [results, Tryd.results11, go_sem, k2]) rfl ⟨rfl, ?_⟩
  repeat refine below_set ?_ (by omega)
  exact P1
set_option maxHeartbeats 400000 in
theorem start_2b (m : Met) (self : Int) (w : World) (hr : metRight m = true) (h : self < 1) :
    Calls Tryd.prog 11 #[.agg #[.int .i64 m.ver, .int .i64 m.trm, .int .i64 m.vot], .int .i64 self] w fun e w' => e = .returned (.tuple #[.agg #[.int .i64 m.ver, .int .i64 m.trm, .int .i64 m.vot], .int .i64 2]) ∧ Below w.heap.size w w' := by
  have HR := Lib.hid hr
  clear hr
  go_enter Tryd.func11, Tryd.ntmps11
  go_wp2_with (first | (go_at_call 13; refine (tRight m _).mono ?_; rintro e w1 ⟨rfl, hb1⟩; rw [HR.out]; obtain ⟨p1, p2, P1⟩ := boxes2 #[.int .i64 m.ver, .int .i64 m.trm, .int .i64 m.vot] #[.int .i64 0, .int .i64 0, .int .i64 0] 23 23 hb1; obtain ⟨k1, f1, z1⟩ := p1.facts; obtain ⟨k2, f2, z2⟩ := p2.facts))
  refine bodyPost_ret (v := .tuple #[.agg #[.int .i64 m.ver, .int .i64 m.trm, .int .i64 m.vot], .int .i64 2]) (by simp [results, Tryd.results11, go_sem, k2]) rfl ⟨rfl, ?_⟩
  repeat refine below_set ?_ (by omega)
  exact P1
set_option maxHeartbeats 400000 in
theorem start_2c (m : Met) (self : Int) (w : World) (hr : metRight m = true) (h1 : 1 ≤ self) (h : 7 < self) :
    Calls Tryd.prog 11 #[.agg #[.int .i64 m.ver, .int .i64 m.trm, .int .i64 m.vot], .int .i64 self] w fun e w' => e = .returned (.tuple #[.agg #[.int .i64 m.ver, .int .i64 m.trm, .int .i64 m.vot], .int .i64 2]) ∧ Below w.heap.size w w' := by
  have HR := Lib.hid hr
  clear hr
  go_enter Tryd.func11, Tryd.ntmps11
  go_wp2_with (first | (go_at_call 13; refine (tRight m _).mono ?_; rintro e w1 ⟨rfl, hb1⟩; rw [HR.out]; obtain ⟨p1, p2, P1⟩ := boxes2 #[.int .i64 m.ver, .int .i64 m.trm, .int .i64 m.vot] #[.int .i64 0, .int .i64 0, .int .i64 0] 23 23 hb1; obtain ⟨k1, f1, z1⟩ := p1.facts; obtain ⟨k2, f2, z2⟩ := p2.facts))
  refine bodyPost_ret (v := .tuple #[.agg #[.int .i64 m.ver, .int .i64 m.trm, .int .i64 m.vot], .int .i64 2]) (by simp [results, Tryd.results11, go_sem, k2]) rfl ⟨rfl, ?_⟩
  repeat refine below_set ?_ (by omega)
  exact P1
set_option maxHeartbeats 400000 in
theorem start_3a (m : Met) (self : Int) (w : World) (hr : metRight m = true) (h1 : 1 ≤ self) (h2 : self ≤ 7) (h : m.trm = 1099511627776) :
    Calls Tryd.prog 11 #[.agg #[.int .i64 m.ver, .int .i64 m.trm, .int .i64 m.vot], .int .i64 self] w fun e w' => e = .returned (.tuple #[.agg #[.int .i64 m.ver, .int .i64 m.trm, .int .i64 m.vot], .int .i64 3]) ∧ Below w.heap.size w w' := by
  have HR := Lib.hid hr
  clear hr
  have q0 : (m.trm == 1099511627776) = true := by simpa using h
  clear h
  go_enter Tryd.func11, Tryd.ntmps11
  go_wp2_with (first | (go_at_call 13; refine (tRight m _).mono ?_; rintro e w1 ⟨rfl, hb1⟩; rw [HR.out]; obtain ⟨p1, p2, P1⟩ := boxes2 #[.int .i64 m.ver, .int .i64 m.trm, .int .i64 m.vot] #[.int .i64 0, .int .i64 0, .int .i64 0] 23 23 hb1; obtain ⟨k1, f1, z1⟩ := p1.facts; obtain ⟨k2, f2, z2⟩ := p2.facts))
  refine bodyPost_ret (v := .tuple #[.agg #[.int .i64 m.ver, .int .i64 m.trm, .int .i64 m.vot], .int .i64 3]) (by simp [results, Tryd.results11, go_sem, k2]) rfl ⟨rfl, ?_⟩
  repeat refine below_set ?_ (by omega)
  exact P1
set_option maxHeartbeats 400000 in
theorem start_3b (m : Met) (self : Int) (w : World) (hr : metRight m = true) (h1 : 1 ≤ self) (h2 : self ≤ 7) (h : m.trm ≠ 1099511627776) (ht : metTurns m = false) :
    Calls Tryd.prog 11 #[.agg #[.int .i64 m.ver, .int .i64 m.trm, .int .i64 m.vot], .int .i64 self] w fun e w' => e = .returned (.tuple #[.agg #[.int .i64 m.ver, .int .i64 m.trm, .int .i64 m.vot], .int .i64 3]) ∧ Below w.heap.size w w' := by
  have HR := Lib.hid hr
  clear hr
  have q0 : (m.trm == 1099511627776) = false := by simpa using h
  clear h
  have HT := Lib.hid ht
  clear ht
  go_enter Tryd.func11, Tryd.ntmps11
  go_wp2_with (first | (go_at_call 13; refine (tRight m _).mono ?_; rintro e w1 ⟨rfl, hb1⟩; rw [HR.out]; obtain ⟨p1, p2, P1⟩ := boxes2 #[.int .i64 m.ver, .int .i64 m.trm, .int .i64 m.vot] #[.int .i64 0, .int .i64 0, .int .i64 0] 23 23 hb1; obtain ⟨k1, f1, z1⟩ := p1.facts; obtain ⟨k2, f2, z2⟩ := p2.facts) | (go_at_call 21; refine (tTurns m _).mono ?_; rintro e w2 ⟨rfl, hb2⟩; rw [HT.out]; obtain ⟨j1, g1, y1⟩ := (p1.later hb2).facts; obtain ⟨j2, g2, y2⟩ := (p2.later hb2).facts))
  refine bodyPost_ret (v := .tuple #[.agg #[.int .i64 m.ver, .int .i64 m.trm, .int .i64 m.vot], .int .i64 3]) (by simp [results, Tryd.results11, go_sem, j2]) rfl ⟨rfl, ?_⟩
  repeat refine below_set ?_ (by omega)
  exact below_call P1 hb2
set_option maxHeartbeats 400000 in
theorem start_0 (m : Met) (self : Int) (w : World) (hr : metRight m = true) (h1 : 1 ≤ self) (h2 : self ≤ 7) (h : m.trm ≠ 1099511627776) (ht : metTurns m = true) :
    Calls Tryd.prog 11 #[.agg #[.int .i64 m.ver, .int .i64 m.trm, .int .i64 m.vot], .int .i64 self] w fun e w' => e = .returned (.tuple #[.agg #[.int .i64 (toM m (m.trm + 1) self).ver, .int .i64 (toM m (m.trm + 1) self).trm, .int .i64 (toM m (m.trm + 1) self).vot], .int .i64 0]) ∧ Below w.heap.size w w' := by
  have hmr := metTurns_iff.1 ht
  have HR := Lib.hid hr
  have HT := Lib.hid ht
  clear hr ht
  have q0 : (m.trm == 1099511627776) = false := by simpa using h
  clear h
  go_enter Tryd.func11, Tryd.ntmps11
  go_wp2_with (first | (go_at_call 13; refine (tRight m _).mono ?_; rintro e w1 ⟨rfl, hb1⟩; rw [HR.out]; obtain ⟨p1, p2, P1⟩ := boxes2 #[.int .i64 m.ver, .int .i64 m.trm, .int .i64 m.vot] #[.int .i64 0, .int .i64 0, .int .i64 0] 23 23 hb1; obtain ⟨k1, f1, z1⟩ := p1.facts; obtain ⟨k2, f2, z2⟩ := p2.facts) | (go_at_call 21; refine (tTurns m _).mono ?_; rintro e w2 ⟨rfl, hb2⟩; rw [HT.out]; obtain ⟨j1, g1, y1⟩ := (p1.later hb2).facts; obtain ⟨j2, g2, y2⟩ := (p2.later hb2).facts))
  have b2 := p2.later hb2
  have hB2 := below_call P1 hb2
  refine (tTo _ m (m.trm + 1) self _ (Box.new w2 _ _) (by omega) (by omega)).mono ?_
  rintro e w3 ⟨rfl, hb3, hbut⟩
  have B2 := (b2.alloc (.cells #[.int .i64 m.ver, .int .i64 m.trm, .int .i64 m.vot] 54)).but hbut (by omega)
  obtain ⟨i3, g3, y3⟩ := hb3.facts
  obtain ⟨i4, g4, y4⟩ := B2.facts
  have HB : Hid (Below w.heap.size w w3) := (below_call hB2 (below_new w2 _)).trans (hbut.below (by omega) (by simp; omega))
  clear k1 f1 z1 k2 f2 z2 j1 g1 y1 j2 g2 y2 p1 p2 b2 hb1 hb2 hbut hb3 B2 P1 hB2
  go_wp2_with fail
  refine bodyPost_ret (v := .tuple #[.agg #[.int .i64 (toM m (m.trm + 1) self).ver, .int .i64 (toM m (m.trm + 1) self).trm, .int .i64 (toM m (m.trm + 1) self).vot], .int .i64 0]) (by simp [results, Tryd.results11, go_sem, i4]) rfl ⟨rfl, ?_⟩
  repeat refine below_set ?_ (by omega)
  exact HB.out

theorem tStart (m : Met) (self : Int) (w : World) :
    Calls Tryd.prog 11 #[.agg #[.int .i64 m.ver, .int .i64 m.trm, .int .i64 m.vot], .int .i64 self] w fun e w' => e = .returned (.tuple #[.agg #[.int .i64 (startM m self).1.ver, .int .i64 (startM m self).1.trm, .int .i64 (startM m self).1.vot], .int .i64 (startM m self).2]) ∧ Below w.heap.size w w' := by
  cases hr : metRight m
  · rw [show startM m self = (m, 2) by simp [startM, hr]]; exact start_2a m self w hr
  by_cases h1 : self < 1
  · rw [show startM m self = (m, 2) by simp [startM, h1]]; exact start_2b m self w hr h1
  by_cases h2 : 7 < self
  · rw [show startM m self = (m, 2) by simp [startM, h2]]; exact start_2c m self w hr (by omega) h2
  by_cases h : m.trm = 1099511627776
  · rw [show startM m self = (m, 3) by simp [startM, hr, h1, h2, h]]; exact start_3a m self w hr (by omega) (by omega) h
  cases ht : metTurns m
  · rw [show startM m self = (m, 3) by simp [startM, hr, h1, h2, h, ht]]; exact start_3b m self w hr (by omega) (by omega) h ht
  · rw [show startM m self = (toM m (m.trm + 1) self, 0) by simp [startM, hr, h1, h2, h, ht]]; exact start_0 m self w hr (by omega) (by omega) h ht

set_option maxRecDepth 100000 in
set_option maxHeartbeats 400000 in
theorem grant_5 (m : Met) (own : Idt) (frm term : Int) (last : Idt) (w : World) (ha : askedR m own frm term last = some 5) :
    Calls Tryd.prog 8 #[.agg #[.int .i64 m.ver, .int .i64 m.trm, .int .i64 m.vot], .agg #[.int .i64 own.idx, .int .i64 own.trm, .int .i64 own.knd], .int .i64 frm, .int .i64 term, .agg #[.int .i64 last.idx, .int .i64 last.trm, .int .i64 last.knd]] w fun e w' => e = .returned (.tuple #[.agg #[.int .i64 m.ver, .int .i64 m.trm, .int .i64 m.vot], .bool false]) ∧ Below w.heap.size w w' := by
  have HA := Lib.hid ha
  clear ha
  go_enter Tryd.func8, Tryd.ntmps8
  go_wp2_with (go_at_call 17; refine (tAsked m own frm term last _).mono ?_; rintro e w1 ⟨rfl, hb1⟩; rw [HA.out]; obtain ⟨p1, p2, p3, p4, P1⟩ := boxes4 #[.int .i64 m.ver, .int .i64 m.trm, .int .i64 m.vot] #[.int .i64 own.idx, .int .i64 own.trm, .int .i64 own.knd] #[.int .i64 last.idx, .int .i64 last.trm, .int .i64 last.knd] #[.int .i64 0, .int .i64 0, .int .i64 0] 23 26 26 23 hb1; obtain ⟨k1, f1, z1⟩ := p1.facts; obtain ⟨k4, f4, z4⟩ := p4.facts; unfold askV)
  refine (is_wrap frm 5 5 _).mono ?_
  rintro e w2 ⟨rfl, hb2⟩
  have hB2 := Lib.hid (below_call (below_call P1 (below_new w1 _)) hb2)
  obtain ⟨j1, g1, y1⟩ := ((p1.alloc _).later hb2).facts
  obtain ⟨j4, g4, y4⟩ := ((p4.alloc _).later hb2).facts
  clear k1 f1 z1 k4 f4 z4 p1 p2 p3 p4 hb1 hb2 P1
  go_wp2_with fail
  refine bodyPost_ret (v := .tuple #[.agg #[.int .i64 m.ver, .int .i64 m.trm, .int .i64 m.vot], .bool false]) (by simp [results, Tryd.results8, go_sem, j4]) rfl ⟨rfl, ?_⟩
  repeat refine below_set ?_ (by omega)
  exact hB2.out
set_option maxRecDepth 100000 in
set_option maxHeartbeats 1000000 in
theorem grant_r (m : Met) (own : Idt) (frm term : Int) (last : Idt) (r : Int) (w : World) (hG : errTypeIs w) (ha : askedR m own frm term last = some r) (hr5 : r ≠ 5) :
    Calls Tryd.prog 8 #[.agg #[.int .i64 m.ver, .int .i64 m.trm, .int .i64 m.vot], .agg #[.int .i64 own.idx, .int .i64 own.trm, .int .i64 own.knd], .int .i64 frm, .int .i64 term, .agg #[.int .i64 last.idx, .int .i64 last.trm, .int .i64 last.knd]] w fun e w' => e = .returned (.tuple #[.agg #[.int .i64 (seeM m term).ver, .int .i64 (seeM m term).trm, .int .i64 (seeM m term).vot], .bool false]) ∧ Below w.heap.size w w' := by
  have HA := Lib.hid ha
  have HG := Lib.hid hG
  have HR := Lib.hid (show (r == 5) = false by simpa using hr5)
  have z0 : 0 < w.heap.size := World.block_lt_of_cell? _ _ hG
  clear ha hG hr5
  go_enter Tryd.func8, Tryd.ntmps8
  go_wp2_with (go_at_call 17; refine (tAsked m own frm term last _).mono ?_; rintro e w1 ⟨rfl, hb1⟩; rw [HA.out]; obtain ⟨p1, p2, p3, p4, P1⟩ := boxes4 #[.int .i64 m.ver, .int .i64 m.trm, .int .i64 m.vot] #[.int .i64 own.idx, .int .i64 own.trm, .int .i64 own.knd] #[.int .i64 last.idx, .int .i64 last.trm, .int .i64 last.knd] #[.int .i64 0, .int .i64 0, .int .i64 0] 23 26 26 23 hb1; obtain ⟨k1, f1, z1⟩ := p1.facts; obtain ⟨k4, f4, z4⟩ := p4.facts; unfold askV)
  refine (is_wrap frm r 5 _).mono ?_
  rintro e w2 ⟨rfl, hb2⟩
  rw [HR.out]
  have q1 := (p1.alloc (.cells #[.int .i64 0, .nilIface] 48)).later hb2
  have q4 := (p4.alloc (.cells #[.int .i64 0, .nilIface] 48)).later hb2
  have qr := (Box.new w1 #[.int .i64 0, .nilIface] 48).later hb2
  have hB2 := below_call (below_call P1 (below_new w1 (.cells #[.int .i64 0, .nilIface] 48))) hb2
  have hG2 : errTypeIs w2 := (hB2.cell (p := ⟨0, 0, none⟩) z0).trans HG.out
  obtain ⟨j1, g1, y1⟩ := q1.facts
  obtain ⟨j4, g4, y4⟩ := q4.facts
  clear k1 f1 k4 f4 p1 p2 p3 p4 hb1 hb2
  go_wp2_with fail
  refine (as_direct _ frm r _ _ _ hG2 qr).mono ?_
  rintro e w3 ⟨rfl, -, hbut⟩
  have u1 := q1.but hbut (by omega)
  have u4 := q4.but hbut (by omega)
  have hB3 := hB2.trans (hbut.below (B := w.heap.size) (by have := P1.size; omega) hB2.size)
  obtain ⟨l1, a1, b1⟩ := u1.facts
  obtain ⟨l4, a4, b4⟩ := u4.facts
  clear j1 g1 y1 j4 g4 y4 q1 q4 qr hbut hB2 hG2
  go_wp2_with fail
  refine (tSee m term _).mono ?_
  rintro e w4 ⟨rfl, hb4⟩
  have hB4 := Lib.hid (below_call hB3 hb4)
  obtain ⟨n4, c4, d4⟩ := (u4.later hb4).facts
  clear l1 a1 b1 l4 a4 b4 u1 u4 hb4 hB3
  go_wp2_with fail
  refine bodyPost_ret (v := .tuple #[.agg #[.int .i64 (seeM m term).ver, .int .i64 (seeM m term).trm, .int .i64 (seeM m term).vot], .bool false]) (by simp [results, Tryd.results8, go_sem, n4]) rfl ⟨rfl, ?_⟩
  repeat refine below_set ?_ (by omega)
  exact hB4.out

theorem asked_none {m : Met} {own : Idt} {frm term : Int} {last : Idt} (h : askedR m own frm term last = none) : metRight m = true := by
  unfold askedR at h
  cases hr : metRight m
  · simp [hr] at h
  · rfl

set_option maxRecDepth 100000 in
set_option maxHeartbeats 1000000 in
theorem grant_0 (m : Met) (own : Idt) (frm term : Int) (last : Idt) (w : World) (ha : askedR m own frm term last = none) :
    Calls Tryd.prog 8 #[.agg #[.int .i64 m.ver, .int .i64 m.trm, .int .i64 m.vot], .agg #[.int .i64 own.idx, .int .i64 own.trm, .int .i64 own.knd], .int .i64 frm, .int .i64 term, .agg #[.int .i64 last.idx, .int .i64 last.trm, .int .i64 last.knd]] w fun e w' => e = .returned (.tuple #[.agg #[.int .i64 (toM m term frm).ver, .int .i64 (toM m term frm).trm, .int .i64 (toM m term frm).vot], .bool true]) ∧ Below w.heap.size w w' := by
  have hmr := metRight_iff.1 (asked_none ha)
  have HA := Lib.hid ha
  clear ha
  go_enter Tryd.func8, Tryd.ntmps8
  go_wp2_with (first | (go_at_call 17; refine (tAsked m own frm term last _).mono ?_; rintro e w1 ⟨rfl, hb1⟩; rw [HA.out]; obtain ⟨p1, p2, p3, p4, P1⟩ := boxes4 #[.int .i64 m.ver, .int .i64 m.trm, .int .i64 m.vot] #[.int .i64 own.idx, .int .i64 own.trm, .int .i64 own.knd] #[.int .i64 last.idx, .int .i64 last.trm, .int .i64 last.knd] #[.int .i64 0, .int .i64 0, .int .i64 0] 23 26 26 23 hb1; obtain ⟨k1, f1, z1⟩ := p1.facts; obtain ⟨k4, f4, z4⟩ := p4.facts; unfold askV) | (go_at_call 18; refine (is_nil 5 _).mono ?_; rintro e w2 ⟨rfl, rfl⟩) | (go_at_call 19; refine (as_nil _ _).mono ?_; rintro e w2 ⟨rfl, rfl⟩))
  have q1 := p1.alloc (.cells #[.int .i64 0, .nilIface] 48)
  have q4 := p4.alloc (.cells #[.int .i64 0, .nilIface] 48)
  have hB2 := below_call P1 (below_new w1 (.cells #[.int .i64 0, .nilIface] 48))
  have ht := Box.new (w1.alloc (.cells #[.int .i64 0, .nilIface] 48)) #[.int .i64 m.ver, .int .i64 m.trm, .int .i64 m.vot] 54
  rw [World.size_alloc] at ht
  refine (tTo _ m term frm _ ht (by omega) (by omega)).mono ?_
  rintro e w3 ⟨rfl, hb3, hbut⟩
  have u4 := (q4.alloc (.cells #[.int .i64 m.ver, .int .i64 m.trm, .int .i64 m.vot] 54)).but hbut (by omega)
  obtain ⟨i3, g3, y3⟩ := hb3.facts
  obtain ⟨i4, g4, y4⟩ := u4.facts
  have HB : Hid (Below w.heap.size w w3) := (below_call hB2 (below_new _ _)).trans (hbut.below (by have := P1.size; omega) (by have := P1.size; simp; omega))
  clear k1 f1 k4 f4 p1 p2 p3 p4 q1 q4 hb1 hbut hb3 u4 hB2 ht
  go_wp2_with fail
  refine bodyPost_ret (v := .tuple #[.agg #[.int .i64 (toM m term frm).ver, .int .i64 (toM m term frm).trm, .int .i64 (toM m term frm).vot], .bool true]) (by simp [results, Tryd.results8, go_sem, i4]) rfl ⟨rfl, ?_⟩
  repeat refine below_set ?_ (by omega)
  exact HB.out

theorem tGrant (m : Met) (own : Idt) (frm term : Int) (last : Idt) (w : World) (hG : errTypeIs w) :
    Calls Tryd.prog 8 #[.agg #[.int .i64 m.ver, .int .i64 m.trm, .int .i64 m.vot], .agg #[.int .i64 own.idx, .int .i64 own.trm, .int .i64 own.knd], .int .i64 frm, .int .i64 term, .agg #[.int .i64 last.idx, .int .i64 last.trm, .int .i64 last.knd]] w fun e w' =>
      e = .returned (.tuple #[.agg #[.int .i64 (grantM m own frm term last).1.ver, .int .i64 (grantM m own frm term last).1.trm, .int .i64 (grantM m own frm term last).1.vot], .bool (grantM m own frm term last).2]) ∧ Below w.heap.size w w' := by
  cases ha : askedR m own frm term last with
  | none => rw [show grantM m own frm term last = (toM m term frm, true) by simp [grantM, ha]]; exact grant_0 m own frm term last w ha
  | some r =>
    by_cases h5 : r = 5
    · subst h5; rw [show grantM m own frm term last = (m, false) by simp [grantM, ha]]; exact grant_5 m own frm term last w ha
    · rw [show grantM m own frm term last = (seeM m term, false) by simp [grantM, ha, h5]]; exact grant_r m own frm term last r w hG ha h5
end Go.Proofs.YtgbdnkmfinoopaaDoor
