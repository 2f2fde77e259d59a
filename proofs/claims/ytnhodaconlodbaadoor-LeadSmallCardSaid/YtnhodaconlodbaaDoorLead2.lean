/-
  THE PACKAGE lead, 2: acks, gots, Keep, Begin, Matches.
-/
import Derived.Test.YtnhodaconlodbaaDoorLead
import Derived.StillTailTactics
import Derived.Deep.QuietTactic
import Derived.BigQuiet
namespace Go.Proofs.YtnhodaconlodbaaDoor
open Go.RowKit
set_option linter.unusedVariables false


theorem max_ite (a b : Int) : max a b = if a < b then b else a := by split <;> omega
theorem max_lt_r {a b : Int} (h : a < b) : max a b = b := by omega
theorem max_lt_l {a b : Int} (h : ¬ a < b) : max a b = a := by omega

set_option maxHeartbeats 400000 in
theorem has (g o : Nat) (x : Bk) (index : Int) (w : World) (c1 : w.cell? ⟨g, o + 1, none⟩ = some (.int .i64 x.next)) (c2 : w.cell? ⟨g, o + 2, none⟩ = some (.int .i64 x.mat))
    (f1 : w.frozen? ⟨g, o + 1, none⟩ = false) (f2 : w.frozen? ⟨g, o + 2, none⟩ = false) (hm1 : -4611686018427387904 ≤ x.mat) (hm2 : x.mat ≤ 4611686018427387904) :
    Calls Tryd.prog 74 #[.pointer (some ⟨g, o, none⟩), .int .i64 index] w fun e w' => e = .returned (.tuple #[]) ∧
      (if index ≤ 1099511627776 then Like w' ((w.setCell ⟨g, o + 2, none⟩ (.int .i64 (hasMatch x.mat index))).setCell ⟨g, o + 1, none⟩ (.int .i64 (max x.next (hasMatch x.mat index + 1))))
        else Like w' (w.setCell ⟨g, o + 1, none⟩ (.int .i64 (max x.next (hasMatch x.mat index + 1))))) := by
  rw [max_ite]
  by_cases h : index ≤ 1099511627776
  · rw [show hasMatch x.mat index = max x.mat index by simp [hasMatch, h]]
    simp only [if_pos h]
    by_cases h1 : x.mat < index
    · rw [max_lt_r h1]
      go_enter Tryd.func74, Tryd.ntmps74
      go_wp2
      go_region
      go_end0
      exact ⟨rfl, rfl, rfl, rfl, rfl⟩
    · rw [max_lt_l h1]
      go_enter Tryd.func74, Tryd.ntmps74
      go_wp2
      go_region
      go_end0
      exact ⟨rfl, rfl, rfl, rfl, rfl⟩
  · rw [show hasMatch x.mat index = x.mat by simp [hasMatch, h]]
    simp only [if_neg h]
    go_enter Tryd.func74, Tryd.ntmps74
    go_wp2
    go_region
    go_end0
    exact ⟨rfl, rfl, rfl, rfl, rfl⟩

/-- 'has' on a book of an owned list. -/
theorem has_own {e : TypeId} {base g cap n k : Nat} {l : List Bk} {x : Bk} (index : Int) (w : World) (h : Own 4 bkRow e base w (.slice (some ⟨g, 0, none⟩) n cap) l) (hx : l[k]? = some x)
    (hm1 : -4611686018427387904 ≤ x.mat) (hm2 : x.mat ≤ 4611686018427387904) :
    Calls Tryd.prog 74 #[.pointer (some ⟨g, k * 4, none⟩), .int .i64 index] w fun e' w' => e' = .returned (.tuple #[]) ∧
      Own 4 bkRow e base w' (.slice (some ⟨g, 0, none⟩) n cap) (l.set k (yesBk x index)) ∧ But g w w' := by
  have hl : l ≠ [] := by rintro rfl; simp at hx
  obtain ⟨g', cap', hv, hg, hgs, hfz⟩ := h.place hl
  simp only [Value.slice.injEq, Option.some.injEq, Addr.mk.injEq, and_true] at hv
  obtain ⟨rfl, rfl, rfl⟩ := hv
  obtain ⟨b, off, cap', hv, -, -, -, hc⟩ := bk_at (h.sl bkRow_length) hl
  simp only [Value.slice.injEq, Option.some.injEq, Addr.mk.injEq, and_true] at hv
  obtain ⟨⟨rfl, rfl⟩, -, rfl⟩ := hv
  obtain ⟨-, c1, c2, -⟩ := hc k x hx
  rw [Nat.zero_add] at c1 c2
  refine (has g (k * 4) x index w c1 c2 (hfz _) (hfz _) hm1 hm2).mono ?_
  rintro e' w' ⟨rfl, hw⟩
  refine ⟨rfl, ?_⟩
  split at hw
  · have h1 := h.write bkRow_length (i := k) (j := 2) (y := ⟨x.who, x.next, hasMatch x.mat index, x.piece⟩) (u := .int .i64 (hasMatch x.mat index)) hx rfl (by omega)
    have hx1 : (l.set k ⟨x.who, x.next, hasMatch x.mat index, x.piece⟩)[k]? = some ⟨x.who, x.next, hasMatch x.mat index, x.piece⟩ := by
      have hk := (List.getElem?_eq_some_iff.1 hx).1
      simp [hk]
    have h2 := h1.write bkRow_length (i := k) (j := 1) (y := yesBk x index) (u := .int .i64 (max x.next (hasMatch x.mat index + 1))) hx1 rfl (by omega)
    rw [List.set_set] at h2
    exact ⟨hw.own h2, ((But.set_ w).trans (But.set_ _)).like hw⟩
  · rename_i hi
    have h1 := h.write bkRow_length (i := k) (j := 1) (y := yesBk x index) (u := .int .i64 (max x.next (hasMatch x.mat index + 1))) hx (by simp [bkRow, yesBk, hasMatch, hi]) (by omega)
    exact ⟨hw.own h1, (But.set_ w).like hw⟩

set_option maxHeartbeats 400000 in
theorem ack1 {e : TypeId} {base g cap n k gy gi : Nat} {l : List Bk} {x : Bk} (index : Int) (yes : Bool) (w : World) (h : Own 4 bkRow e base w (.slice (some ⟨g, 0, none⟩) n cap) l) (hx : l[k]? = some x)
    (hm1 : -4611686018427387904 ≤ x.mat) (hm2 : x.mat ≤ 4611686018427387904) (hn1 : -4611686018427387904 ≤ x.next) (hn2 : x.next ≤ 4611686018427387904) (hi1 : -9223372036854775808 ≤ index)
    (cy : w.cell? ⟨gy, 0, none⟩ = some (.bool yes)) (ci : w.cell? ⟨gi, 0, none⟩ = some (.int .i64 index)) :
    Calls Tryd.prog 73 #[.pointer (some ⟨g, k * 4, none⟩), .pointer (some ⟨gy, 0, none⟩), .pointer (some ⟨gi, 0, none⟩)] w fun e' w' => e' = .returned (.tuple #[]) ∧
      Own 4 bkRow e base w' (.slice (some ⟨g, 0, none⟩) n cap) (l.set k (ackBk x index yes)) ∧ But g w w' := by
  have hl : l ≠ [] := by rintro rfl; simp at hx
  obtain ⟨g', cap', hv, hg, hgs, hfz⟩ := h.place hl
  simp only [Value.slice.injEq, Option.some.injEq, Addr.mk.injEq, and_true] at hv
  obtain ⟨rfl, rfl, rfl⟩ := hv
  obtain ⟨b, off, cap', hv, -, -, -, hc⟩ := bk_at (h.sl bkRow_length) hl
  simp only [Value.slice.injEq, Option.some.injEq, Addr.mk.injEq, and_true] at hv
  obtain ⟨⟨rfl, rfl⟩, -, rfl⟩ := hv
  obtain ⟨-, c1, c2, -⟩ := hc k x hx
  rw [Nat.zero_add] at c1 c2
  have f1 := hfz (k * 4 + 1)
  have HX := Lib.hid hx
  have HO := Lib.hid h
  clear hc hfz hx h
  cases yes with
  | true =>
    go_enter Tryd.func73, Tryd.ntmps73
    go_wp2_with fail
    refine (has_own index _ HO.out HX.out hm1 hm2).mono ?_
    rintro e' w' ⟨rfl, ho, hb⟩
    go_wp2_with fail
    go_end0
    exact ⟨rfl, ho, hb⟩
  | false =>
    have HM : ∀ w', Like w' ((w.setCell ⟨g, k * 4 + 1, none⟩ (.int .i64 (index + 1))).setCell ⟨g, k * 4 + 1, none⟩ (.int .i64 (if index + 1 < x.mat + 1 then x.mat + 1 else index + 1))) → index < x.next - 1 →
        Own 4 bkRow e base w' (.slice (some ⟨g, 0, none⟩) l.length cap) (l.set k (ackBk x index false)) ∧ But g w w' := by
      intro w' hw hi
      have h1 := HO.out.write bkRow_length (i := k) (j := 1) (y := ⟨x.who, index + 1, x.mat, x.piece⟩) (u := .int .i64 (index + 1)) HX.out rfl (by omega)
      have hx1 : (l.set k ⟨x.who, index + 1, x.mat, x.piece⟩)[k]? = some ⟨x.who, index + 1, x.mat, x.piece⟩ := by
        have hk := (List.getElem?_eq_some_iff.1 HX.out).1
        simp [hk]
      have h2 := h1.write bkRow_length (i := k) (j := 1) (y := ackBk x index false) (u := .int .i64 (if index + 1 < x.mat + 1 then x.mat + 1 else index + 1)) hx1 (by simp [ackBk, noBk, bkRow, hi, max_ite]) (by omega)
      rw [List.set_set] at h2
      exact ⟨hw.own h2, ((But.set_ w).trans (But.set_ _)).like hw⟩
    have HN : ∀ w', Like w' (w.setCell ⟨g, k * 4 + 1, none⟩ (.int .i64 (if x.next < x.mat + 1 then x.mat + 1 else x.next))) → ¬ index < x.next - 1 →
        Own 4 bkRow e base w' (.slice (some ⟨g, 0, none⟩) l.length cap) (l.set k (ackBk x index false)) ∧ But g w w' := by
      intro w' hw hi
      have h2 := HO.out.write bkRow_length (i := k) (j := 1) (y := ackBk x index false) (u := .int .i64 (if x.next < x.mat + 1 then x.mat + 1 else x.next)) HX.out (by simp [ackBk, noBk, bkRow, hi, max_ite]) (by omega)
      exact ⟨hw.own h2, (But.set_ w).like hw⟩
    have HM := Lib.hid HM
    have HN := Lib.hid HN
    by_cases hlt : index < x.next - 1
    · go_enter Tryd.func73, Tryd.ntmps73
      go_wp2_with fail
      go_region
      go_wp2
      go_region
      go_wp2
      all_goals go_end0
      all_goals first
        | exact ⟨rfl, HM.out _ ⟨rfl, rfl, rfl, rfl⟩ hlt⟩
        | (refine ⟨rfl, HM.out _ ?_ hlt⟩; rw [if_pos (by omega)]; exact ⟨rfl, rfl, rfl, rfl⟩)
        | (refine ⟨rfl, HM.out _ ?_ hlt⟩; rw [if_neg (by omega)]; exact ⟨rfl, rfl, rfl, rfl⟩)
    · go_enter Tryd.func73, Tryd.ntmps73
      go_wp2_with fail
      go_region
      go_wp2
      go_region
      go_wp2
      all_goals go_end0
      all_goals first
        | exact ⟨rfl, HN.out _ ⟨rfl, rfl, rfl, rfl⟩ hlt⟩
        | (refine ⟨rfl, HN.out _ ?_ hlt⟩; rw [if_pos (by omega)]; exact ⟨rfl, rfl, rfl, rfl⟩)
        | (refine ⟨rfl, HN.out _ ?_ hlt⟩; rw [if_neg (by omega)]; exact ⟨rfl, rfl, rfl, rfl⟩)

set_option maxHeartbeats 400000 in
theorem got1 {e : TypeId} {base g cap n k gy gi gp : Nat} {l : List Bk} {x : Bk} (index piece : Int) (yes : Bool) (w : World) (h : Own 4 bkRow e base w (.slice (some ⟨g, 0, none⟩) n cap) l) (hx : l[k]? = some x)
    (hm1 : -4611686018427387904 ≤ x.mat) (hm2 : x.mat ≤ 4611686018427387904)
    (cy : w.cell? ⟨gy, 0, none⟩ = some (.bool yes)) (ci : w.cell? ⟨gi, 0, none⟩ = some (.int .i64 index)) (cp : Box w gp #[.int .i64 piece] 3) (hgp : gp ≠ g) :
    Calls Tryd.prog 77 #[.pointer (some ⟨g, k * 4, none⟩), .pointer (some ⟨gy, 0, none⟩), .pointer (some ⟨gi, 0, none⟩), .pointer (some ⟨gp, 0, none⟩)] w fun e' w' => e' = .returned (.tuple #[]) ∧
      Own 4 bkRow e base w' (.slice (some ⟨g, 0, none⟩) n cap) (l.set k (gotBk x index piece yes)) ∧ (∀ i, i < w.heap.size → i ≠ g → i ≠ gp → w'.heap[i]? = w.heap[i]?) ∧ w'.os = w.os ∧ w'.tape = w.tape ∧ w'.output = w.output ∧ w.heap.size ≤ w'.heap.size := by
  have hl : l ≠ [] := by rintro rfl; simp at hx
  obtain ⟨g', cap', hv, hg, hgs, hfz⟩ := h.place hl
  simp only [Value.slice.injEq, Option.some.injEq, Addr.mk.injEq, and_true] at hv
  obtain ⟨rfl, rfl, rfl⟩ := hv
  have f1 := hfz (k * 4 + 3)
  obtain ⟨b, off, cap', hv, -, -, -, hc⟩ := bk_at (h.sl bkRow_length) hl
  simp only [Value.slice.injEq, Option.some.injEq, Addr.mk.injEq, and_true] at hv
  obtain ⟨⟨rfl, rfl⟩, -, rfl⟩ := hv
  obtain ⟨-, -, -, c3⟩ := hc k x hx
  rw [Nat.zero_add] at c3
  have HX := Lib.hid hx
  have HO := Lib.hid h
  have HP := Lib.hid cp
  obtain ⟨k1, f2, z1⟩ := cp.facts
  have kp := k1 0
  clear hc hfz hx h cp k1
  cases yes with
  | true =>
    go_enter Tryd.func77, Tryd.ntmps77
    go_wp2_with fail
    refine (has_own index _ HO.out HX.out hm1 hm2).mono ?_
    rintro e' w' ⟨rfl, ho, hb⟩
    have HP' := HP.out.but hb hgp
    obtain ⟨k3, f3, z3⟩ := HP'.facts
    have k4 := k3 0
    have hset : l.set k (yesBk x index) ≠ [] := by intro h; apply hl; simpa using h
    obtain ⟨g', cap', hv', -, hgs', hfz'⟩ := ho.place hset
    simp only [Value.slice.injEq, Option.some.injEq, Addr.mk.injEq, and_true] at hv'
    obtain ⟨rfl, hcc, rfl⟩ := hv'
    have f4 := hfz' (k * 4 + 3)
    obtain ⟨b, off, cap', hv, -, -, -, hc⟩ := bk_at (ho.sl bkRow_length) hset
    simp only [Value.slice.injEq, Option.some.injEq, Addr.mk.injEq, and_true] at hv
    obtain ⟨⟨rfl, rfl⟩, -, rfl⟩ := hv
    have hx1 : (l.set k (yesBk x index))[k]? = some (yesBk x index) := by
      have hk := (List.getElem?_eq_some_iff.1 HX.out).1
      simp [hk]
    obtain ⟨-, -, -, c5⟩ := hc k _ hx1
    rw [Nat.zero_add] at c5
    have HB := Lib.hid hb
    have HO' := Lib.hid ho
    have HX1 := Lib.hid hx1
    have HL := Lib.hid hset
    have HP2 := Lib.hid HP'
    have hne : g ≠ gp := fun h => hgp h.symm
    clear hc hfz' k3 hb ho hx1 hset hcc HP' c3 f1 f2 kp
    go_wp2_with fail
    go_end0
    have h1 := (HO'.out.set_far (p := gp) (i := 0) (u := .int .i64 0) hgp).write bkRow_length (i := k) (j := 3) (y := gotBk x index piece true) (u := .int .i64 0) HX1.out rfl (by omega)
    rw [List.set_set] at h1
    refine ⟨rfl, h1, fun i hi hn1 hn2 => ?_, HB.out.1, HB.out.2.1, HB.out.2.2.1, by simpa using HB.out.2.2.2.1⟩
    rw [Below.heap_setCell _ _ _ _ hn1, Below.heap_setCell _ _ _ _ hn2]
    exact HB.out.2.2.2.2 i hi hn1
  | false =>
    by_cases h0 : 0 ≤ piece
    · by_cases h1 : piece ≤ 48
      · go_enter Tryd.func77, Tryd.ntmps77
        go_wp2_with fail
        go_end0
        have h1 := HO.out.write bkRow_length (i := k) (j := 3) (y := gotBk x index piece false) (u := .int .i64 piece) HX.out (by simp [gotBk, bkRow, h0, h1]) (by omega)
        exact ⟨rfl, h1, fun i hi hn1 hn2 => Below.heap_setCell _ _ _ _ hn1, rfl, rfl, rfl, by simp⟩
      · go_enter Tryd.func77, Tryd.ntmps77
        go_wp2_with fail
        go_end0
        have hg : gotBk x index piece false = x := by unfold gotBk; rw [if_neg (by simp), if_neg (by omega)]
        rw [hg, List.set_eq_of_getElem? HX.out]
        exact ⟨rfl, HO.out, fun i hi hn1 hn2 => rfl, rfl, rfl, rfl, Nat.le_refl _⟩
    · go_enter Tryd.func77, Tryd.ntmps77
      go_wp2_with fail
      go_end0
      have hg : gotBk x index piece false = x := by unfold gotBk; rw [if_neg (by simp), if_neg (by omega)]
      rw [hg, List.set_eq_of_getElem? HX.out]
      exact ⟨rfl, HO.out, fun i hi hn1 hn2 => rfl, rfl, rfl, rfl, Nat.le_refl _⟩

set_option maxHeartbeats 400000 in
theorem turn_none (l : List Bk) (v : Value) (who : Int) (F : Fn) (a0 a1 : Array Value) (w : World) (h : Sl 4 bkRow w.heap.size w v l) (hx : findBk l who = none) :
    Calls Tryd.prog 72 #[v, .int .i64 who, .func F a0 a1] w fun e w' => e = .returned (.tuple #[]) ∧ Below w.heap.size w w' := by
  rcases idxOf_cases l who with ⟨k, y, hk, hy, -, hi, hf, -⟩ | ⟨hi, -⟩
  · rw [hx] at hf; cases hf
  · have HI := Lib.hid hi
    clear hi hx
    go_enter Tryd.func72, Tryd.ntmps72
    go_wp2_with fail
    refine (booksOf who l _ _ h).mono ?_
    rintro e w' ⟨rfl, hB'⟩
    rw [HI.out]
    go_wp2_with fail
    go_end0
    exact ⟨rfl, hB'⟩

set_option maxHeartbeats 400000 in
/-- 'turn' at someone who has a book, the closure known by its contract. -/
theorem turn_some {e : TypeId} {base k : Nat} (l : List Bk) (y : Bk) (v : Value) (who : Int) (F : FuncId) (a1 : Array Value) (hcf : ∀ (xs : Array Value) (W : World), Sem.run Tryd.prog (callFunc F xs) W = .ok (.enter F xs) W) (R : Nat → World → World → Prop) (w : World) (h : Own 4 bkRow e base w v l)
    (hy : l[k]? = some y) (hi : idxOf l who = (k : Int))
    (hF : ∀ (w1 : World) (g cap : Nat), v = .slice (some ⟨g, 0, none⟩) l.length cap → Below w.heap.size w w1 → Own 4 bkRow e base w1 v l → Calls Tryd.prog F (#[.pointer (some ⟨g, k * 4, none⟩)] ++ a1) w1 fun e' w' => e' = .returned (.tuple #[]) ∧ R g w1 w') :
    Calls Tryd.prog 72 #[v, .int .i64 who, .func (.func F) #[] a1] w fun e' w' => e' = .returned (.tuple #[]) ∧ ∃ g cap w1, v = .slice (some ⟨g, 0, none⟩) l.length cap ∧ base ≤ g ∧ g < w.heap.size ∧ Below w.heap.size w w1 ∧ R g w1 w' := by
  have hk := (List.getElem?_eq_some_iff.1 hy).1
  have hl : l ≠ [] := by rintro rfl; simp at hy
  obtain ⟨g, cap, rfl, hg, hgs, hfz⟩ := h.place hl
  have HI := Lib.hid hi
  have HF := Lib.hid hF
  have HO := Lib.hid h
  have HS := h.sl bkRow_length
  have hlc : l.length ≤ cap := by obtain ⟨_, _, hv, h1, _⟩ := HS; cases hv; exact h1
  clear hi hF hy hfz h
  go_enter Tryd.func72, Tryd.ntmps72
  go_wp2_with fail
  refine (booksOf who l _ _ HS).mono ?_
  rintro e' w' ⟨rfl, hB'⟩
  rw [HI.out]
  go_wp2_with fail
  refine (HF.out w' g cap rfl hB' (HO.out.later hB')).mono ?_
  rintro e' w2 ⟨rfl, hr⟩
  go_wp2_with fail
  go_end0
  exact ⟨rfl, g, cap, w', rfl, hg, hgs, hB', hr⟩

set_option maxHeartbeats 400000 in
theorem ack (l : List Bk) (v : Value) (who index : Int) (yes : Bool) (w : World) (h : Sl 4 bkRow w.heap.size w v l) (hn : l.length ≤ 4294967296)
    (hm : ∀ x ∈ l, (-4611686018427387904 ≤ x.mat ∧ x.mat ≤ 4611686018427387904) ∧ -4611686018427387904 ≤ x.next ∧ x.next ≤ 4611686018427387904) (hi1 : -9223372036854775808 ≤ index) :
    Calls Tryd.prog 43 #[v, .int .i64 who, .int .i64 index, .bool yes] w fun e w' => ∃ v', e = .returned v' ∧ Sl 4 bkRow w'.heap.size w' v' (ackBks l who index yes) ∧ Below w.heap.size w w' := by
  have h' := (h.alloc (.cells #[.int .i64 index] 3)).alloc (.cells #[.bool yes] 4)
  rcases idxOf_cases l who with ⟨k, y, hk, hy, hw, hi, hf, hno⟩ | ⟨hi, hf⟩
  · obtain ⟨⟨m1, m2⟩, m3, m4⟩ := hm y (List.mem_of_getElem? hy)
    have HT := Lib.hid (show ackBks l who index yes = l.set k (ackBk y index yes) from turnBks_set hno hy hw)
    have HY := Lib.hid hy
    have HI := Lib.hid hi
    clear hm hy hw hi hf hno
    go_enter Tryd.func43, Tryd.ntmps43
    go_wp2_with fail
    refine (ofL l _ _ h' hn).mono ?_
    rintro e w' ⟨v', rfl, hown, hB'⟩
    have b1 := ((Box.new w #[.int .i64 index] 3).alloc (.cells #[.bool yes] 4)).later hB'
    have b2 := (Box.new (w.alloc (.cells #[.int .i64 index] 3)) #[.bool yes] 4).later hB'
    obtain ⟨A', n', c', hv⟩ := hown.form
    subst hv
    go_wp2_with fail
    have c1 := b1.alloc (.cells #[.slice A' n' c'] 128)
    have c2 := b2.alloc (.cells #[.slice A' n' c'] 128)
    have c3 := Box.new w' #[.slice A' n' c'] 128
    refine (turn_some l y _ who 73 _ (callFunc_enter Tryd.func73 (by kernel_rfl) rfl) (fun g w1 w2 => Own 4 bkRow 24 ((w.alloc (.cells #[.int .i64 index] 3)).alloc (.cells #[.bool yes] 4)).heap.size w2 (.slice A' n' c') (l.set k (ackBk y index yes)) ∧ But g w1 w2) _ (hown.alloc _) HY.out HI.out ?_).mono ?_
    · intro w1 g cap hv hb ho
      have d1 := c1.later hb
      have d2 := c2.later hb
      have hv' := hv
      simp only [Value.slice.injEq] at hv'
      obtain ⟨rfl, rfl, rfl⟩ := hv'
      exact ack1 index yes w1 ho HY.out m1 m2 m3 m4 hi1 (by simpa using d2.cell 0) (d1.cell 0)
    · rintro e w2 ⟨rfl, g, cap, w1, hv, hg, hgs, hb, ho, hbut⟩
      cases hv
      have hgl := (World.ownsRow.lt hown g rfl).2
      have hgb : w.heap.size ≤ g := by simp at hg; omega
      have d3 := (c3.later hb).but hbut (by omega)
      obtain ⟨k3, f3, z3⟩ := d3.facts
      have k4 := k3 0
      have HOb := Lib.hid ho
      have HBb : Hid (Below w.heap.size w w2) := (below_call (below_call ((below_new _ _).trans ((Below.refl _ _).alloc (by simp) _)) hB') (below_new _ _)).trans ((hb.mono (by have := hB'.size; simp at this ⊢; omega)).trans (hbut.below hgb (by have := hB'.size; have := hb.size; simp at *; omega)))
      clear k3 ho hbut
      go_wp2_with fail
      go_ret
      exact ⟨_, rfl, by rw [HT.out]; exact HOb.out.sl bkRow_length, HBb.out⟩
  · have HT := Lib.hid (show ackBks l who index yes = l from turnBks_none hf)
    have HF := Lib.hid hf
    clear hm hi hf
    go_enter Tryd.func43, Tryd.ntmps43
    go_wp2_with fail
    refine (ofL l _ _ h' hn).mono ?_
    rintro e w' ⟨v', rfl, hown, hB'⟩
    obtain ⟨A', n', c', hv⟩ := hown.form
    subst hv
    go_wp2_with fail
    refine (turn_none l _ who _ _ _ _ ((hown.alloc _).sl bkRow_length) HF.out).mono ?_
    rintro e w2 ⟨rfl, hb⟩
    obtain ⟨k3, f3, z3⟩ := ((Box.new w' #[.slice A' n' c'] 128).later hb).facts
    have k4 := k3 0
    have HO := Lib.hid ((hown.alloc (.cells #[.slice A' n' c'] 128)).later hb)
    have HBb : Hid (Below w.heap.size w w2) := below_call (below_call (below_call ((below_new _ _).trans ((Below.refl _ _).alloc (by simp) _)) hB') (below_new _ _)) hb
    clear k3 hown hb
    go_wp2_with fail
    go_ret
    exact ⟨_, rfl, by rw [HT.out]; exact HO.out.sl bkRow_length, HBb.out⟩
end Go.Proofs.YtnhodaconlodbaaDoor
