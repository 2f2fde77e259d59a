/-
  Merged: Ent3, Ent4, ErrEntry.
-/
import Derived.Test.YtfglkpcboodllaaGreatDoorMr5
/-
  THE PACKAGE entry, 3: members of bytes, what is good: contracts.
-/
set_option linter.unusedVariables false
set_option linter.unusedSimpArgs false
namespace Go.Proofs.YtfglkpcboodllaaGreatDoor
open Go.RowKit

theorem flat_zeros : ∀ n : Nat, (List.replicate n (0 : Int)).flatMap i64Row = List.replicate n (Value.int .i64 0)
  | 0 => rfl
  | n + 1 => by rw [List.replicate_succ, List.flatMap_cons, flat_zeros n, List.replicate_succ]; rfl
/-- 'make([]int, n)': n zeros are owned. -/
theorem wpList_make_ints {P : Program} (w : World) {ops : Array Oper} {rest : List Oper} {o : Oper} {a : Act} {Q : Exit → Act → World → Prop}
    (hg : o.guard = none) (l c : Operand) (t : TypeId) (hop : o.op = Op.makeSlice t l c)
    (base : Nat) (e : TypeId) (h1 : P.underlying t = some (.slice e)) (hinfo : (P.info? e).map (fun i => (i.zero, i.size, i.bytes)) = some (some (.int .i64 0), 1, 8))
    (L C : Int) (n : Nat) (hl : a.eval l = .int .i64 L) (hc : a.eval c = .int .i64 C) (hL : L = (n : Int)) (hC : C = (n : Int)) (b2 : n ≤ 4294967296) (b4 : base ≤ w.heap.size)
    (hK : ∀ w', Own 1 i64Row e base w' (.slice (some ⟨w.heap.size, 0, none⟩) n n) (List.replicate n 0) → Below base w w' → w.heap.size < w'.heap.size → wpList P ops Q rest (a.put o.dst (.slice (some ⟨w.heap.size, 0, none⟩) n n)) w') :
    wpList P ops Q (o :: rest) a w := by
  obtain ⟨i, hi, hz, hsz, hby⟩ := info_parts hinfo
  refine wpList_make_full w hg l c t hop base e i _ 1 h1 hi hz hsz .i64 .i64 L C n hl hc hL hC (by rw [hby]; omega) (by unfold maxLen; omega) b4 fun w' r1 r2 => ?_
  have ho : Own 1 i64Row e base w' (.slice (some ⟨w.heap.size, 0, none⟩) n n) (List.replicate n 0) := by
    unfold Own
    have e1 : (List.replicate n (0 : Int)).flatMap i64Row = (madeCells (Value.int .i64 0).cells (n * 1)).toList := by
      rw [Nat.mul_one, show (Value.int .i64 0).cells = #[Value.int .i64 0] from rfl, toList_madeCells_one]
      exact flat_zeros n
    rw [List.length_replicate, e1]; exact r1
  refine hK w' ho (grown_below r2 b4 (by simp)) ?_
  rcases r1.2 with ⟨hv, _⟩ | ⟨g, cap, cur, hv, _, hh, _⟩
  · simp at hv
  · simp only [Value.slice.injEq, Option.some.injEq, Addr.mk.injEq, and_true] at hv
    obtain ⟨rfl, -⟩ := hv
    exact (Array.getElem?_eq_some_iff.1 hh).1

theorem set_zero {b : List Int} {k : Nat} {x : Int} (hx : b[k]? = some x) : (b.take k ++ List.replicate (b.length - k) 0).set k x = b.take (k + 1) ++ List.replicate (b.length - (k + 1)) 0 := by
  have hk := (List.getElem?_eq_some_iff.1 hx).1
  have e : b.length - k = (b.length - (k + 1)) + 1 := by omega
  have hl : (b.take k).length = k := by rw [List.length_take]; omega
  rw [e, List.replicate_succ, List.set_append_right _ _ (by omega), hl, Nat.sub_self, List.set_cons_zero, take_at hx, List.append_assoc]
  rfl

/-- What Members tells: the members, or error 4. -/
def MemPost (b : List Int) (w : World) (e : Ending) (w' : World) : Prop :=
  ∃ v', e = .returned (.tuple #[v', .int .i64 (if memOk b then 0 else 4)]) ∧ (if memOk b then Own 1 i64Row 3 w.heap.size w' v' b else v' = .slice none 0 0) ∧ Below w.heap.size w w'
theorem memPost_yes {b : List Int} {w w' : World} {v' : Value} (h : memOk b = true) (ho : Own 1 i64Row 3 w.heap.size w' v' b) (hb : Below w.heap.size w w') : MemPost b w (.returned (.tuple #[v', .int .i64 0])) w' :=
  ⟨v', by rw [h]; rfl, by rw [h]; exact ho, hb⟩
theorem memPost_no {b : List Int} {w w' : World} (h : memOk b = false) (hb : Below w.heap.size w w') : MemPost b w (.returned (.tuple #[.slice none 0 0, .int .i64 4])) w' :=
  ⟨_, by rw [h]; rfl, by rw [h]; rfl, hb⟩

set_option maxHeartbeats 1000000 in
theorem entMembers (b : List Int) (hbb : ∀ x ∈ b, 0 ≤ x ∧ x ≤ 255) (v : Value) (w : World) (h : Sl 1 u8Row w.heap.size w v b) :
    Calls Tryz.prog 65 #[v] w (MemPost b w) := by
  obtain ⟨A, cap, rfl, hlc, hcm, -, hA⟩ := h
  have hn : b.length ≤ 9223372036854775807 := by unfold maxLen at hcm; omega
  clear hcm
  by_cases h7 : 7 < b.length
  · have d7 : decide (7 < b.length) = true := decide_eq_true h7
    have HM := Lib.hid (show memOk b = false by unfold memOk; rw [decide_eq_false (by omega)]; rfl)
    clear hA
    go_enter Tryz.func65, Tryz.ntmps65
    go_wp2_with fail
    go_ret2
    exact memPost_no HM.out (Below.refl _ _)
  · have h7' : b.length ≤ 7 := by omega
    have HA := Lib.hid hA
    have HBB := Lib.hid hbb
    clear hA hbb
    go_enter Tryz.func65, Tryz.ntmps65
    go_wp2_with (at_make; refine wpList_make_ints _ rfl _ _ 22 rfl w.heap.size 3 Tryz.underlying22 intInfo _ _ b.length rfl rfl rfl rfl (by omega) (Nat.le_refl _) ?_; intro w0 hown0 hb0 hz0)
    go_loopw [15] (fun i wr => ∃ k : Nat, k ≤ b.length ∧ i = .int .i64 k ∧ Own 1 i64Row 3 w.heap.size wr (.slice (some ⟨w.heap.size, 0, none⟩) b.length b.length) (b.take k ++ List.replicate (b.length - k) 0) ∧ Below w.heap.size w wr) (fun i _ => b.length - (intOf i).toNat)
    case atStart => exact ⟨0, by omega, rfl, by simpa using hown0, hb0⟩
    case round =>
      clear hown0 hb0
      obtain ⟨k, hk, rfl, hown, hB⟩ := hrel
      by_cases hlt : k < b.length
      · obtain ⟨bb, off, rfl, hbl, hcell⟩ := HA.out (by intro h; subst h; simp at hlt)
        obtain ⟨x, hx⟩ : ∃ x, b[k]? = some x := ⟨_, List.getElem?_eq_getElem hlt⟩
        have c0 : wr.cell? ⟨bb, off + k, none⟩ = some (.int .u8 x) := by
          have := (hB.cell (p := ⟨bb, off + k * 1 + 0, none⟩) hbl).trans (hcell k x hx 0 _ rfl)
          simpa using this
        obtain ⟨x0, x1⟩ := HBB.out x (List.mem_of_getElem? hx)
        have hwx : IntKind.i64.wrap x = x := IntWalk.i64_in _ (by omega)
        obtain ⟨g, cp, e0, hg1, hg2, hfr⟩ := hown.place (by intro h; have := congrArg List.length h; simp at this; omega)
        have hl0 : (b.take k ++ List.replicate (b.length - k) 0)[k]? = some 0 := by
          rw [List.getElem?_append_right (by rw [List.length_take]; omega), List.length_take]
          rw [show k - min k b.length = 0 by omega]
          rw [List.getElem?_replicate]; simp; omega
        have hw1 := hown.write i64Row_length (i := k) (j := 0) (x := 0) (y := x) (u := .int .i64 x) hl0 rfl (by omega)
        rw [set_zero hx] at hw1
        have HW := Lib.hid hw1
        have cz : wr.cell? ⟨w.heap.size, k, none⟩ = some (.int .i64 0) := by
          obtain ⟨b2, off2, cap2, e2, -, -, -, hc2⟩ := (hown.sl i64Row_length).cellAt (by intro h; have := congrArg List.length h; simp at this; omega)
          simp only [Value.slice.injEq, Option.some.injEq, Addr.mk.injEq, and_true] at e2
          obtain ⟨⟨rfl, rfl⟩, -⟩ := e2
          simpa using hc2 k 0 hl0 0 _ rfl
        have fz : ∀ o, wr.frozen? ⟨w.heap.size, o, none⟩ = false := by
          simp only [Value.slice.injEq, Option.some.injEq, Addr.mk.injEq, and_true] at e0
          obtain ⟨rfl, -⟩ := e0; exact hfr
        have HB := Lib.hid (below_set (n := w.heap.size) (i := k) (u := .int .i64 x) hB (Nat.le_refl _))
        have i0 : (0 : Int) ≤ (k : Int) := by omega
        have i1 : (k : Int) < (b.length : Int) := by omega
        clear hcell hx hown hw1 hl0 hfr e0 hB
        go_wp2_with fail
        go_roundw
        case rel => exact ⟨k + 1, by omega, by go_num, by simpa using HW.out, by simpa using HB.out⟩
        case measure => simp [intOf]; omega
      · have hk' : k = b.length := by omega
        have ho : Own 1 i64Row 3 w.heap.size wr (.slice (some ⟨w.heap.size, 0, none⟩) b.length b.length) b := by
          rw [hk', List.take_length] at hown; simpa using hown
        have HO := Lib.hid ho
        have HS := Lib.hid (ho.sl i64Row_length)
        have HB := Lib.hid hB
        clear hk' hown hB ho
        cases hm : memRight b with
        | true =>
          have HM := Lib.hid (show memOk b = true by unfold memOk; rw [hm, decide_eq_true h7']; rfl)
          have HR := Lib.hid hm
          clear hm
          go_wp2_with (go_at_call 67; refine (entryRight b _ _ HS.out).mono ?_; rintro e w' ⟨rfl, rfl⟩; rw [HR.out])
          go_ret2
          exact memPost_yes HM.out HO.out HB.out
        | false =>
          have HM := Lib.hid (show memOk b = false by unfold memOk; rw [hm]; simp)
          have HR := Lib.hid hm
          clear hm
          go_wp2_with (go_at_call 67; refine (entryRight b _ _ HS.out).mono ?_; rintro e w' ⟨rfl, rfl⟩; rw [HR.out])
          go_ret2
          exact memPost_no HM.out HB.out
end Go.Proofs.YtfglkpcboodllaaGreatDoor
/-
  THE PACKAGE entry, 4: what an entry is known by, whether it is good, whether it follows: contracts.
-/
set_option linter.unusedVariables false
set_option linter.unusedSimpArgs false
namespace Go.Proofs.YtfglkpcboodllaaGreatDoor
open Go.RowKit

/-- What is known of an entry's bytes, in a world. -/
def EntIn (B : Nat) (w : World) (x : Ent) : Prop := Sl 1 u8Row B w (.slice x.ba x.bd.length x.bc) x.bd ∧ ∀ y ∈ x.bd, 0 ≤ y ∧ y ≤ 255
theorem EntIn.below {B : Nat} {w w' : World} {x : Ent} (h : EntIn B w x) (hb : Below B w w') : EntIn B w' x := ⟨h.1.below hb, h.2⟩
theorem EntIn.later {w w' : World} {x : Ent} (h : EntIn w.heap.size w x) (hb : Below w.heap.size w w') : EntIn w'.heap.size w' x := ⟨h.1.later hb, h.2⟩
theorem EntIn.more {B B' : Nat} {w : World} {x : Ent} (h : EntIn B w x) (hB : B ≤ B') : EntIn B' w x := ⟨h.1.more hB, h.2⟩
theorem EntIn.keep {B : Nat} {w w' : World} {x : Ent} (h : EntIn B w x) (hk : ∀ b o, b < B → w'.cell? ⟨b, o, none⟩ = w.cell? ⟨b, o, none⟩) : EntIn B w' x := ⟨h.1.keep hk, h.2⟩

set_option maxHeartbeats 400000 in
theorem entOf (x : Ent) (w : World) :
    Calls Tryz.prog 51 #[.agg #[.int .i64 x.idx, .int .i64 x.trm, .int .i64 x.knd, .slice x.ba x.bd.length x.bc]] w fun e w' => e = .returned (.agg #[.int .i64 x.idx, .int .i64 x.trm, .int .i64 x.knd]) ∧ Below w.heap.size w w' := by
  go_enter Tryz.func51, Tryz.ntmps51
  go_wp2_with fail
  refine bodyPost_ret (v := .agg #[.int .i64 x.idx, .int .i64 x.trm, .int .i64 x.knd]) (by simp [results, Tryz.results51, go_sem]) rfl ⟨rfl, ?_⟩
  first | exact below_call (below_new _ _) (below_new _ _) | exact below_new _ _ | (repeat (first | exact Below.refl _ _ | refine Below.alloc ?_ (by simp) _ | refine below_set ?_ (by simp)))

theorem good_false {x : Ent} (h : rangeE x = false) : goodE x = false := by unfold goodE; rw [h]; rfl
theorem good_none {x : Ent} (h : rangeE x = true) (hk : x.knd = 1) : goodE x = decide (x.bd.length = 0) := by unfold goodE; rw [h, if_pos hk]; rfl
theorem good_com {x : Ent} (h : rangeE x = true) (hk : x.knd = 2) : goodE x = true := by unfold goodE; rw [h, if_neg (by omega), if_pos hk]; rfl
theorem good_grp {x : Ent} (h : rangeE x = true) (h1 : x.knd ≠ 1) (h2 : x.knd ≠ 2) : goodE x = memOk x.bd := by unfold goodE; rw [h, if_neg h1, if_neg h2]; rfl

set_option maxHeartbeats 2000000 in
theorem entGood (x : Ent) (w : World) (hx : EntIn w.heap.size w x) :
    Calls Tryz.prog 53 #[.agg #[.int .i64 x.idx, .int .i64 x.trm, .int .i64 x.knd, .slice x.ba x.bd.length x.bc]] w fun e w' => e = .returned (.bool (goodE x)) ∧ Below w.heap.size w w' := by
  have HX := Lib.hid hx
  clear hx
  cases hr : rangeE x with
  | false =>
    have HR := Lib.hid hr
    clear hr
    go_enter Tryz.func53, Tryz.ntmps53
    go_wp2_with (go_at_call 112; refine (codeRight x _).mono ?_; rintro e w1 ⟨rfl, hb⟩; rw [HR.out])
    go_ret
    exact ⟨ret_bool (good_false HR.out).symm, below_call (below_new _ _) (by assumption)⟩
  | true =>
    have HR := Lib.hid hr
    clear hr
    have H1 := Lib.hid (fun k => good_none (x := x) HR.out k)
    have H2 := Lib.hid (fun k => good_com (x := x) HR.out k)
    have H3 := Lib.hid (fun k1 k2 => good_grp (x := x) HR.out k1 k2)
    by_cases g1 : x.knd = 1
    · have e1 : (x.knd == 1) = true := by simpa using g1
      have HG := Lib.hid (H1.out g1)
      by_cases g0 : x.bd.length = 0
      · have d0 : decide (0 < x.bd.length) = false := by simp [g0]
        have d0' : x.bd.length ≤ 0 := by omega
        have HG0 := Lib.hid (show goodE x = true by rw [HG.out, g0]; rfl)
        clear g0 g1
        go_enter Tryz.func53, Tryz.ntmps53
        go_wp2_with (go_at_call 112; refine (codeRight x _).mono ?_; rintro e w1 ⟨rfl, hb⟩; rw [HR.out]; obtain ⟨kb, -, zb⟩ := ((Box.new w #[.int .i64 x.idx, .int .i64 x.trm, .int .i64 x.knd, .slice x.ba x.bd.length x.bc] 28).later hb).facts)
        go_ret
        exact ⟨ret_bool HG0.out.symm, below_call (below_new _ _) (by assumption)⟩
      · have d0 : decide (0 < x.bd.length) = true := by simpa using Nat.pos_of_ne_zero g0
        have d0' : 0 < x.bd.length := by omega
        have HG0 := Lib.hid (show goodE x = false by rw [HG.out]; exact decide_eq_false g0)
        clear g0 g1
        go_enter Tryz.func53, Tryz.ntmps53
        go_wp2_with (go_at_call 112; refine (codeRight x _).mono ?_; rintro e w1 ⟨rfl, hb⟩; rw [HR.out]; obtain ⟨kb, -, zb⟩ := ((Box.new w #[.int .i64 x.idx, .int .i64 x.trm, .int .i64 x.knd, .slice x.ba x.bd.length x.bc] 28).later hb).facts)
        go_ret
        exact ⟨ret_bool HG0.out.symm, below_call (below_new _ _) (by assumption)⟩
    · have e1 : (x.knd == 1) = false := by simpa using g1
      by_cases g2 : x.knd = 2
      · have e2 : (x.knd == 2) = true := by simpa using g2
        have HG0 := Lib.hid (H2.out g2)
        clear g1 g2
        go_enter Tryz.func53, Tryz.ntmps53
        go_wp2_with (go_at_call 112; refine (codeRight x _).mono ?_; rintro e w1 ⟨rfl, hb⟩; rw [HR.out]; obtain ⟨kb, -, zb⟩ := ((Box.new w #[.int .i64 x.idx, .int .i64 x.trm, .int .i64 x.knd, .slice x.ba x.bd.length x.bc] 28).later hb).facts)
        go_ret
        exact ⟨ret_bool HG0.out.symm, below_call (below_new _ _) (by assumption)⟩
      · have e2 : (x.knd == 2) = false := by simpa using g2
        have HG0 := Lib.hid (H3.out g1 g2)
        clear g1 g2
        cases hm : memOk x.bd with
        | true =>
          have HM := Lib.hid hm
          clear hm
          go_enter Tryz.func53, Tryz.ntmps53
          go_wp2_with (first
            | (go_at_call 112; refine (codeRight x _).mono ?_; rintro e w1 ⟨rfl, hb⟩; rw [HR.out]; obtain ⟨kb, -, zb⟩ := ((Box.new w #[.int .i64 x.idx, .int .i64 x.trm, .int .i64 x.knd, .slice x.ba x.bd.length x.bc] 28).later hb).facts)
            | (go_at_call 65; refine (entMembers x.bd HX.out.2 _ _ (HX.out.later (below_call (below_new _ _) hb)).1).mono ?_; rintro e w2 ⟨v2, rfl, -, hb2⟩; rw [HM.out]))
          go_ret
          exact ⟨ret_bool (by rw [HG0.out, HM.out]), below_call (below_call (below_new _ _) hb) hb2⟩
        | false =>
          have HM := Lib.hid hm
          clear hm
          go_enter Tryz.func53, Tryz.ntmps53
          go_wp2_with (first
            | (go_at_call 112; refine (codeRight x _).mono ?_; rintro e w1 ⟨rfl, hb⟩; rw [HR.out]; obtain ⟨kb, -, zb⟩ := ((Box.new w #[.int .i64 x.idx, .int .i64 x.trm, .int .i64 x.knd, .slice x.ba x.bd.length x.bc] 28).later hb).facts)
            | (go_at_call 65; refine (entMembers x.bd HX.out.2 _ _ (HX.out.later (below_call (below_new _ _) hb)).1).mono ?_; rintro e w2 ⟨v2, rfl, -, hb2⟩; rw [HM.out]))
          go_ret
          exact ⟨ret_bool (by rw [HG0.out, HM.out]), below_call (below_call (below_new _ _) hb) hb2⟩

/-- An error's number, as an error. -/
def numV (n : Int) : Value := if n = 0 then .nilIface else .iface 165 (.int .i64 n)
theorem step_bad {p : Idt} {x : Ent} (h : goodE x = false) : stepE p x = 4 := by unfold stepE; rw [if_pos h]
theorem step_out {p : Idt} {x : Ent} (h : goodE x = true) (hn : x.idx - 1 ≠ p.idx ∨ x.trm < p.trm) : stepE p x = 12 := by unfold stepE; rw [if_neg (by simp [h]), if_pos hn]
theorem step_ok {p : Idt} {x : Ent} (h : goodE x = true) (hn : ¬ (x.idx - 1 ≠ p.idx ∨ x.trm < p.trm)) : stepE p x = 0 := by unfold stepE; rw [if_neg (by simp [h]), if_neg hn]
theorem good_range {x : Ent} (h : goodE x = true) : 1 ≤ x.idx ∧ x.idx ≤ 1099511627776 ∧ 0 ≤ x.trm ∧ x.trm ≤ 1099511627776 := by
  unfold goodE rangeE at h
  simp only [Bool.and_eq_true, decide_eq_true_eq] at h
  omega

set_option maxHeartbeats 2000000 in
theorem entMeets (p : Idt) (x : Ent) (w : World) (hx : EntIn w.heap.size w x) :
    Calls Tryz.prog 156 #[.agg #[.int .i64 p.idx, .int .i64 p.trm, .int .i64 p.knd], .agg #[.int .i64 x.idx, .int .i64 x.trm, .int .i64 x.knd, .slice x.ba x.bd.length x.bc]] w fun e w' => e = .returned (numV (stepE p x)) ∧ Below w.heap.size w w' := by
  have HX := Lib.hid (hx.later (below_call (below_new w (.cells #[.int .i64 p.idx, .int .i64 p.trm, .int .i64 p.knd] 161)) (below_new _ (.cells #[.int .i64 x.idx, .int .i64 x.trm, .int .i64 x.knd, .slice x.ba x.bd.length x.bc] 28))))
  clear hx
  cases hg : goodE x with
  | false =>
    have HS := Lib.hid (step_bad (p := p) hg)
    have HG := Lib.hid hg
    clear hg
    go_enter Tryz.func156, Tryz.ntmps156
    go_wp2_with (go_at_call 53; refine (entGood x _ HX.out).mono ?_; rintro e w1 ⟨rfl, hb⟩; rw [HG.out])
    go_ret
    exact ⟨by rw [HS.out]; rfl, below_call (below_call (below_new _ _) (below_new _ _)) (by assumption)⟩
  | true =>
    obtain ⟨r1, r2, r3, r4⟩ := good_range hg
    have HG := Lib.hid hg
    by_cases hn : x.idx - 1 = p.idx
    · have e1 : (x.idx - 1 != p.idx) = false := by simpa using hn
      by_cases ht : x.trm < p.trm
      · have e2 : decide (x.trm < p.trm) = true := decide_eq_true ht
        have HS := Lib.hid (step_out (p := p) hg (.inr ht))
        clear hg hn
        go_enter Tryz.func156, Tryz.ntmps156
        go_wp2_with (go_at_call 53; refine (entGood x _ HX.out).mono ?_; rintro e w1 ⟨rfl, hb⟩; rw [HG.out]; obtain ⟨pa, pb, P⟩ := boxes2 _ _ _ _ hb; obtain ⟨ka, -, za⟩ := pa.facts; obtain ⟨kb, -, zb⟩ := pb.facts)
        go_ret
        exact ⟨by rw [HS.out]; rfl, P⟩
      · have e2 : decide (x.trm < p.trm) = false := decide_eq_false ht
        have HS := Lib.hid (step_ok (p := p) hg (by omega))
        clear hg hn
        go_enter Tryz.func156, Tryz.ntmps156
        go_wp2_with (go_at_call 53; refine (entGood x _ HX.out).mono ?_; rintro e w1 ⟨rfl, hb⟩; rw [HG.out]; obtain ⟨pa, pb, P⟩ := boxes2 _ _ _ _ hb; obtain ⟨ka, -, za⟩ := pa.facts; obtain ⟨kb, -, zb⟩ := pb.facts)
        go_ret
        exact ⟨by rw [HS.out]; rfl, P⟩
    · have e1 : (x.idx - 1 != p.idx) = true := by simpa using hn
      have HS := Lib.hid (step_out (p := p) hg (.inl hn))
      clear hg hn
      go_enter Tryz.func156, Tryz.ntmps156
      go_wp2_with (go_at_call 53; refine (entGood x _ HX.out).mono ?_; rintro e w1 ⟨rfl, hb⟩; rw [HG.out]; obtain ⟨pa, pb, P⟩ := boxes2 _ _ _ _ hb; obtain ⟨ka, -, za⟩ := pa.facts; obtain ⟨kb, -, zb⟩ := pb.facts)
      go_ret
      exact ⟨by rw [HS.out]; rfl, P⟩

set_option maxHeartbeats 1000000 in
theorem entOlder (a b : Idt) (w : World) :
    Calls Tryz.prog 59 #[.agg #[.int .i64 a.idx, .int .i64 a.trm, .int .i64 a.knd], .agg #[.int .i64 b.idx, .int .i64 b.trm, .int .i64 b.knd]] w fun e w' => e = .returned (.bool (olderI a b)) ∧ Below w.heap.size w w' := by
  by_cases h : a.trm = b.trm
  · have e1 : (a.trm != b.trm) = false := by simpa using h
    have HR := Lib.hid (show olderI a b = decide (a.idx < b.idx) by unfold olderI; rw [if_pos h])
    clear h
    go_enter Tryz.func59, Tryz.ntmps59
    go_wp2_with fail
    go_ret
    exact ⟨ret_bool HR.out.symm, below_call (below_new _ _) (below_new _ _)⟩
  · have e1 : (a.trm != b.trm) = true := by simpa using h
    have HR := Lib.hid (show olderI a b = decide (a.trm < b.trm) by unfold olderI; rw [if_neg h])
    clear h
    go_enter Tryz.func59, Tryz.ntmps59
    go_wp2_with fail
    go_ret
    exact ⟨ret_bool HR.out.symm, below_call (below_new _ _) (below_new _ _)⟩
end Go.Proofs.YtfglkpcboodllaaGreatDoor
/-
  errors.Is, errors.As at ErrEntry's errors: contracts. Go's own text of them is walked.
-/
set_option linter.unusedVariables false
namespace Go.Proofs.YtfglkpcboodllaaGreatDoor.EntE
open Go.RowKit Go.Extern.Stop Go.Stop Go.Extern

theorem eTypeOf (v : Value) (w : World) : (callFunc 151 #[.iface 165 v]).run Tryz.prog w = .ok (.value (.iface 214 (.agg #[.pointer (some ⟨1, 165, none⟩)]))) w := by
  rw [@run_callFunc_extern Tryz.prog 151 _ ReflectliteType.typeOf Tryz.func151 (by kernel_rfl) (by kernel_rfl) (by kernel_rfl) (by kernel_rfl)]
  rw [show (ReflectliteType.typeOf #[.iface 165 v]).run Tryz.prog w = .ok (.iface 214 (.agg #[.pointer (some ⟨1, 165, none⟩)])) w by kernel_rfl]
  rfl
theorem eMethodComparable (v : Value) (w : World) : (Go.method 398 214 v "Comparable").run Tryz.prog w = .ok (208, v) w := by kernel_rfl
theorem eComparable (w : World) : (callFunc 208 #[.agg #[.pointer (some ⟨1, 165, none⟩)]]).run Tryz.prog w = .ok (.value (.bool true)) w := by
  rw [@run_callFunc_extern Tryz.prog 208 _ (ReflectliteType.method fun t => do Rtype.noPackHeld "Comparable" t; pure (.bool (← typeInfo t).comparable)) Tryz.func208 (by kernel_rfl) (by kernel_rfl) (by kernel_rfl) (by kernel_rfl)]
  rw [show ((ReflectliteType.method fun t => do Rtype.noPackHeld "Comparable" t; pure (.bool (← typeInfo t).comparable)) #[.agg #[.pointer (some ⟨1, 165, none⟩)]]).run Tryz.prog w = .ok (.bool true) w by kernel_rfl]
  rfl
theorem eComp : (Tryz.prog.info? 165).map (·.comparable) = some true := by kernel_rfl
theorem noIsE (v : Value) (xT : TypeId) (w : World) : (Instr.typeAssert (.iface 165 v) xT 264 true).run Tryz.prog w = .ok (.tuple #[.nilIface, .bool false]) w := run_typeAssert_lacksB Tryz.underlying264 (by kernel_rfl) (by kernel_rfl) v xT w
theorem noUnwrapE (v : Value) (xT : TypeId) (w : World) : (Instr.typeAssert (.iface 165 v) xT 221 true).run Tryz.prog w = .ok (.tuple #[.nilIface, .bool false]) w := run_typeAssert_lacksB Tryz.underlying221 (by kernel_rfl) (by kernel_rfl) v xT w
theorem noUnwrapsE (v : Value) (xT : TypeId) (w : World) : (Instr.typeAssert (.iface 165 v) xT 223 true).run Tryz.prog w = .ok (.tuple #[.nilIface, .bool false]) w := run_typeAssert_lacksB Tryz.underlying223 (by kernel_rfl) (by kernel_rfl) v xT w
theorem noIsW (v : Value) (xT : TypeId) (w : World) : (Instr.typeAssert (.iface 209 v) xT 264 true).run Tryz.prog w = .ok (.tuple #[.nilIface, .bool false]) w := run_typeAssert_lacksB Tryz.underlying264 (by kernel_rfl) (by kernel_rfl) v xT w
theorem hasUnwrapW (v : Value) (xT : TypeId) (w : World) : (Instr.typeAssert (.iface 209 v) xT 221 true).run Tryz.prog w = .ok (.tuple #[.iface 209 v, .bool true]) w := run_typeAssert_hasB Tryz.underlying221 (by kernel_rfl) v xT w
theorem methodUnwrap (v : Value) (w : World) : (Go.method 398 209 v "Unwrap").run Tryz.prog w = .ok (205, v) w := by kernel_rfl

set_option maxHeartbeats 400000 in
theorem is_nil (m : Int) (w : World) : Calls Tryz.prog 99 #[.nilIface, .iface 165 (.int .i64 m)] w fun e w' => e = .returned (.bool false) ∧ w = w' := by
  have hn := run_eql_iface_nil_left (P := Tryz.prog) w 165 (.int .i64 m) Tryz.underlying113
  go_enter Tryz.func99, Tryz.ntmps99
  go_wp2
  go_ret
  exact ⟨rfl, rfl⟩

set_option maxHeartbeats 400000 in
theorem is_num (n m : Int) (w : World) : Calls Tryz.prog 99 #[.iface 165 (.int .i64 n), .iface 165 (.int .i64 m)] w fun e w' => e = .returned (.bool (n == m)) ∧ Below w.heap.size w w' := by
  obtain ⟨i, hi, hcmp⟩ := Option.map_eq_some_iff.1 eComp
  have tT := eTypeOf
  have cT := eComparable
  have mR := eMethodComparable
  have nE := noIsE
  have uE := noUnwrapE
  have vE := noUnwrapsE
  have heq := fun w => run_eql_iface_int (P := Tryz.prog) w n m Tryz.underlying113 Tryz.underlying165 hi hcmp
  clear hi hcmp
  go_enter Tryz.func99, Tryz.ntmps99
  go_wp2
  refine wp_loop_rounds 1 ?_
  rw [rounds_succ]
  go_wp2
  all_goals go_ret
  · have h : (n == m) = true := by assumption
    exact ⟨ret_bool h.symm, Below.refl _ _⟩
  · have h : (n == m) = false := by assumption
    exact ⟨ret_bool h.symm, Below.refl _ _⟩

set_option maxHeartbeats 400000 in
theorem is_wrap (a n m : Int) (w : World) : Calls Tryz.prog 99 #[.iface 209 (.agg #[.int .i64 a, .iface 165 (.int .i64 n)]), .iface 165 (.int .i64 m)] w fun e w' => e = .returned (.bool (n == m)) ∧ Below w.heap.size w w' := by
  obtain ⟨i, hi, hcmp⟩ := Option.map_eq_some_iff.1 eComp
  have tT := eTypeOf
  have cT := eComparable
  have mR := eMethodComparable
  have nE := noIsE
  have uE := noUnwrapE
  have vE := noUnwrapsE
  have nW := noIsW
  have uW := hasUnwrapW
  have mU := methodUnwrap
  have heq := fun w => run_eql_iface_int (P := Tryz.prog) w n m Tryz.underlying113 Tryz.underlying165 hi hcmp
  have hty := run_eql_iface_types (P := Tryz.prog) 209 165 (.agg #[.int .i64 a, .iface 165 (.int .i64 n)]) (.int .i64 m) Tryz.underlying113 (by decide)
  clear hi hcmp
  go_enter Tryz.func99, Tryz.ntmps99
  go_wp2
  refine wp_loop_rounds 2 ?_
  rw [rounds_succ]
  go_wp2
  rw [rounds_succ]
  go_wp2
  all_goals go_ret
  · have h : (n == m) = true := by assumption
    exact ⟨ret_bool h.symm, below_new _ _⟩
  · have h : (n == m) = false := by assumption
    exact ⟨ret_bool h.symm, below_new _ _⟩
end Go.Proofs.YtfglkpcboodllaaGreatDoor.EntE
