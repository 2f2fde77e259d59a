/-
  Merged: Ent3, Ent4, HealFits, ErrType.
-/
import Derived.Test.YtglkgmijhdkhpaaGreatDoorHt4
import Derived.Deep.DeepCutAuto
import Derived.Deep.RegionHeld3
import Derived.Test.YtglkgmijhdkhpaaGreatDoorProg
import Derived.Test.YtglkgmijhdkhpaaGreatDoorHt3
import Derived.WalkLawsBesides
import Derived.LaidEql
import Derived.Stop.Asserts
import Derived.RowKitTokens
/-
  THE PACKAGE entry, 3: members of bytes, what is good: contracts.
-/
set_option linter.unusedVariables false
set_option linter.unusedSimpArgs false
namespace Go.Proofs.YtglkgmijhdkhpaaGreatDoor
open Go.RowKit

theorem flat_zeros : ∀ n : Nat, (List.replicate n (0 : Int)).flatMap i64Row = List.replicate n (Value.int .i64 0)
  | 0 => rfl
  | n + 1 => by rw [List.replicate_succ, List.flatMap_cons, flat_zeros n, List.replicate_succ]; rfl
/-- 'make([]int, n)': n zeros are owned. -/
theorem wpList_make_ints {P : Program} (w : World) {ops : Array Oper} {rest : List Oper} {o : Oper} {a : Act} {Q : Exit → Act → World → Prop}
    (hg : o.guard = none) (l c : Operand) (t : TypeId) (hop : o.op = Op.makeSlice t l c)
    (base : Nat) (e : TypeId) (h1 : P.underlying t = some (.slice e)) (hinfo : (P.info? e).map (fun i => (i.zero, i.size, i.bytes)) = some (some (.int .i64 0), 1, 8))
    (L C : Int) (n : Nat) (hl : a.eval l = .int .i64 L) (hc : a.eval c = .int .i64 C) (hL : L = (n : Int)) (hC : C = (n : Int)) (b2 : n ≤ 4294967296) (b4 : base ≤ w.heap.size)
    (hK : ∀ w', Own 1 i64Row e base w' (.slice (some ⟨w.heap.size, 0, none⟩) n n) (List.replicate n 0) → Below base w w' → w.heap.size < w'.heap.size → wpList P ops Q rest (a.put o.dst (.slice (some ⟨w.heap.size, 0, none⟩) n n)) w') :
    wpList P ops Q (o :: rest) a w := by
  obtain ⟨i, hi, hz, hsz, hby⟩ := info_parts hinfo
  refine wpList_make_full w hg l c t hop base e i _ 1 h1 hi hz hsz .i64 .i64 L C n hl hc hL hC (by rw [hby]; omega) (by unfold maxLen; omega) b4 fun w' r1 r2 => ?_
  have ho : Own 1 i64Row e base w' (.slice (some ⟨w.heap.size, 0, none⟩) n n) (List.replicate n 0) := by
    unfold Own
    have e1 : (List.replicate n (0 : Int)).flatMap i64Row = (madeCells (Value.int .i64 0).cells (n * 1)).toList := by
      rw [Nat.mul_one, show (Value.int .i64 0).cells = #[Value.int .i64 0] from rfl, toList_madeCells_one]
      exact flat_zeros n
    rw [List.length_replicate, e1]; exact r1
  refine hK w' ho (grown_below r2 b4 (by simp)) ?_
  rcases r1.2 with ⟨hv, _⟩ | ⟨g, cap, cur, hv, _, hh, _⟩
  · simp at hv
  · simp only [Value.slice.injEq, Option.some.injEq, Addr.mk.injEq, and_true] at hv
    obtain ⟨rfl, -⟩ := hv
    exact (Array.getElem?_eq_some_iff.1 hh).1

theorem set_zero {b : List Int} {k : Nat} {x : Int} (hx : b[k]? = some x) : (b.take k ++ List.replicate (b.length - k) 0).set k x = b.take (k + 1) ++ List.replicate (b.length - (k + 1)) 0 := by
  have hk := (List.getElem?_eq_some_iff.1 hx).1
  have e : b.length - k = (b.length - (k + 1)) + 1 := by omega
  have hl : (b.take k).length = k := by rw [List.length_take]; omega
  rw [e, List.replicate_succ, List.set_append_right _ _ (by omega), hl, Nat.sub_self, List.set_cons_zero, take_at hx, List.append_assoc]
  rfl

/-- What Members tells: the members, or error 4. -/
def MemPost (b : List Int) (w : World) (e : Ending) (w' : World) : Prop :=
  ∃ v', e = .returned (.tuple #[v', .int .i64 (if memOk b then 0 else 4)]) ∧ (if memOk b then Own 1 i64Row 3 w.heap.size w' v' b else v' = .slice none 0 0) ∧ Below w.heap.size w w'
theorem memPost_yes {b : List Int} {w w' : World} {v' : Value} (h : memOk b = true) (ho : Own 1 i64Row 3 w.heap.size w' v' b) (hb : Below w.heap.size w w') : MemPost b w (.returned (.tuple #[v', .int .i64 0])) w' :=
  ⟨v', by rw [h]; rfl, by rw [h]; exact ho, hb⟩
theorem memPost_no {b : List Int} {w w' : World} (h : memOk b = false) (hb : Below w.heap.size w w') : MemPost b w (.returned (.tuple #[.slice none 0 0, .int .i64 4])) w' :=
  ⟨_, by rw [h]; rfl, by rw [h]; rfl, hb⟩

set_option maxHeartbeats 1000000 in
theorem entMembers (b : List Int) (hbb : ∀ x ∈ b, 0 ≤ x ∧ x ≤ 255) (v : Value) (w : World) (h : Sl 1 u8Row w.heap.size w v b) :
    Calls Tryz.prog 100 #[v] w (MemPost b w) := by
  obtain ⟨A, cap, rfl, hlc, hcm, -, hA⟩ := h
  have hn : b.length ≤ 9223372036854775807 := by unfold maxLen at hcm; omega
  clear hcm
  by_cases h7 : 7 < b.length
  · have d7 : decide (7 < b.length) = true := decide_eq_true h7
    have HM := Lib.hid (show memOk b = false by unfold memOk; rw [decide_eq_false (by omega)]; rfl)
    clear hA
    go_enter Tryz.func100, Tryz.ntmps100
    go_wp2_with fail
    go_ret2
    exact memPost_no HM.out (Below.refl _ _)
  · have h7' : b.length ≤ 7 := by omega
    have HA := Lib.hid hA
    have HBB := Lib.hid hbb
    clear hA hbb
    go_enter Tryz.func100, Tryz.ntmps100
    go_wp2_with (at_make; refine wpList_make_ints _ rfl _ _ 39 rfl w.heap.size 3 Tryz.underlying39 intInfo _ _ b.length rfl rfl rfl rfl (by omega) (Nat.le_refl _) ?_; intro w0 hown0 hb0 hz0)
    go_loopw [15] (fun i wr => ∃ k : Nat, k ≤ b.length ∧ i = .int .i64 k ∧ Own 1 i64Row 3 w.heap.size wr (.slice (some ⟨w.heap.size, 0, none⟩) b.length b.length) (b.take k ++ List.replicate (b.length - k) 0) ∧ Below w.heap.size w wr) (fun i _ => b.length - (intOf i).toNat)
    case atStart => exact ⟨0, by omega, rfl, by simpa using hown0, hb0⟩
    case round =>
      clear hown0 hb0
      obtain ⟨k, hk, rfl, hown, hB⟩ := hrel
      by_cases hlt : k < b.length
      · obtain ⟨bb, off, rfl, hbl, hcell⟩ := HA.out (by intro h; subst h; simp at hlt)
        obtain ⟨x, hx⟩ : ∃ x, b[k]? = some x := ⟨_, List.getElem?_eq_getElem hlt⟩
        have c0 : wr.cell? ⟨bb, off + k, none⟩ = some (.int .u8 x) := by
          have := (hB.cell (p := ⟨bb, off + k * 1 + 0, none⟩) hbl).trans (hcell k x hx 0 _ rfl)
          simpa using this
        obtain ⟨x0, x1⟩ := HBB.out x (List.mem_of_getElem? hx)
        have hwx : IntKind.i64.wrap x = x := IntWalk.i64_in _ (by omega)
        obtain ⟨g, cp, e0, hg1, hg2, hfr⟩ := hown.place (by intro h; have := congrArg List.length h; simp at this; omega)
        have hl0 : (b.take k ++ List.replicate (b.length - k) 0)[k]? = some 0 := by
          rw [List.getElem?_append_right (by rw [List.length_take]; omega), List.length_take]
          rw [show k - min k b.length = 0 by omega]
          rw [List.getElem?_replicate]; simp; omega
        have hw1 := hown.write i64Row_length (i := k) (j := 0) (x := 0) (y := x) (u := .int .i64 x) hl0 rfl (by omega)
        rw [set_zero hx] at hw1
        have HW := Lib.hid hw1
        have cz : wr.cell? ⟨w.heap.size, k, none⟩ = some (.int .i64 0) := by
          obtain ⟨b2, off2, cap2, e2, -, -, -, hc2⟩ := (hown.sl i64Row_length).cellAt (by intro h; have := congrArg List.length h; simp at this; omega)
          simp only [Value.slice.injEq, Option.some.injEq, Addr.mk.injEq, and_true] at e2
          obtain ⟨⟨rfl, rfl⟩, -⟩ := e2
          simpa using hc2 k 0 hl0 0 _ rfl
        have fz : ∀ o, wr.frozen? ⟨w.heap.size, o, none⟩ = false := by
          simp only [Value.slice.injEq, Option.some.injEq, Addr.mk.injEq, and_true] at e0
          obtain ⟨rfl, -⟩ := e0; exact hfr
        have HB := Lib.hid (below_set (n := w.heap.size) (i := k) (u := .int .i64 x) hB (Nat.le_refl _))
        have i0 : (0 : Int) ≤ (k : Int) := by omega
        have i1 : (k : Int) < (b.length : Int) := by omega
        clear hcell hx hown hw1 hl0 hfr e0 hB
        go_wp2_with fail
        go_roundw
        case rel => exact ⟨k + 1, by omega, by go_num, by simpa using HW.out, by simpa using HB.out⟩
        case measure => simp [intOf]; omega
      · have hk' : k = b.length := by omega
        have ho : Own 1 i64Row 3 w.heap.size wr (.slice (some ⟨w.heap.size, 0, none⟩) b.length b.length) b := by
          rw [hk', List.take_length] at hown; simpa using hown
        have HO := Lib.hid ho
        have HS := Lib.hid (ho.sl i64Row_length)
        have HB := Lib.hid hB
        clear hk' hown hB ho
        cases hm : memRight b with
        | true =>
          have HM := Lib.hid (show memOk b = true by unfold memOk; rw [hm, decide_eq_true h7']; rfl)
          have HR := Lib.hid hm
          clear hm
          go_wp2_with (go_at_call 119; refine (entryRight b _ _ HS.out).mono ?_; rintro e w' ⟨rfl, rfl⟩; rw [HR.out])
          go_ret2
          exact memPost_yes HM.out HO.out HB.out
        | false =>
          have HM := Lib.hid (show memOk b = false by unfold memOk; rw [hm]; simp)
          have HR := Lib.hid hm
          clear hm
          go_wp2_with (go_at_call 119; refine (entryRight b _ _ HS.out).mono ?_; rintro e w' ⟨rfl, rfl⟩; rw [HR.out])
          go_ret2
          exact memPost_no HM.out HB.out
end Go.Proofs.YtglkgmijhdkhpaaGreatDoor
/-
  THE PACKAGE entry, 4: what an entry is known by, whether it is good, whether it follows: contracts.
-/
set_option linter.unusedVariables false
set_option linter.unusedSimpArgs false
namespace Go.Proofs.YtglkgmijhdkhpaaGreatDoor
open Go.RowKit

/-- What is known of an entry's bytes, in a world. -/
def EntIn (B : Nat) (w : World) (x : Ent) : Prop := Sl 1 u8Row B w (.slice x.ba x.bd.length x.bc) x.bd ∧ ∀ y ∈ x.bd, 0 ≤ y ∧ y ≤ 255
theorem EntIn.below {B : Nat} {w w' : World} {x : Ent} (h : EntIn B w x) (hb : Below B w w') : EntIn B w' x := ⟨h.1.below hb, h.2⟩
theorem EntIn.later {w w' : World} {x : Ent} (h : EntIn w.heap.size w x) (hb : Below w.heap.size w w') : EntIn w'.heap.size w' x := ⟨h.1.later hb, h.2⟩
theorem EntIn.more {B B' : Nat} {w : World} {x : Ent} (h : EntIn B w x) (hB : B ≤ B') : EntIn B' w x := ⟨h.1.more hB, h.2⟩
theorem EntIn.keep {B : Nat} {w w' : World} {x : Ent} (h : EntIn B w x) (hk : ∀ b o, b < B → w'.cell? ⟨b, o, none⟩ = w.cell? ⟨b, o, none⟩) : EntIn B w' x := ⟨h.1.keep hk, h.2⟩

set_option maxHeartbeats 400000 in
theorem entOf (x : Ent) (w : World) :
    Calls Tryz.prog 67 #[.agg #[.int .i64 x.idx, .int .i64 x.trm, .int .i64 x.knd, .slice x.ba x.bd.length x.bc]] w fun e w' => e = .returned (.agg #[.int .i64 x.idx, .int .i64 x.trm, .int .i64 x.knd]) ∧ Below w.heap.size w w' := by
  go_enter Tryz.func67, Tryz.ntmps67
  go_wp2_with fail
  refine bodyPost_ret (v := .agg #[.int .i64 x.idx, .int .i64 x.trm, .int .i64 x.knd]) (by simp [results, Tryz.results67, go_sem]) rfl ⟨rfl, ?_⟩
  first | exact below_call (below_new _ _) (below_new _ _) | exact below_new _ _ | (repeat (first | exact Below.refl _ _ | refine Below.alloc ?_ (by simp) _ | refine below_set ?_ (by simp)))

theorem good_false {x : Ent} (h : rangeE x = false) : goodE x = false := by unfold goodE; rw [h]; rfl
theorem good_none {x : Ent} (h : rangeE x = true) (hk : x.knd = 1) : goodE x = decide (x.bd.length = 0) := by unfold goodE; rw [h, if_pos hk]; rfl
theorem good_com {x : Ent} (h : rangeE x = true) (hk : x.knd = 2) : goodE x = true := by unfold goodE; rw [h, if_neg (by omega), if_pos hk]; rfl
theorem good_grp {x : Ent} (h : rangeE x = true) (h1 : x.knd ≠ 1) (h2 : x.knd ≠ 2) : goodE x = memOk x.bd := by unfold goodE; rw [h, if_neg h1, if_neg h2]; rfl

set_option maxHeartbeats 2000000 in
theorem entGood (x : Ent) (w : World) (hx : EntIn w.heap.size w x) :
    Calls Tryz.prog 66 #[.agg #[.int .i64 x.idx, .int .i64 x.trm, .int .i64 x.knd, .slice x.ba x.bd.length x.bc]] w fun e w' => e = .returned (.bool (goodE x)) ∧ Below w.heap.size w w' := by
  have HX := Lib.hid hx
  clear hx
  cases hr : rangeE x with
  | false =>
    have HR := Lib.hid hr
    clear hr
    go_enter Tryz.func66, Tryz.ntmps66
    go_wp2_with (go_at_call 99; refine (codeRight x _).mono ?_; rintro e w1 ⟨rfl, hb⟩; rw [HR.out])
    go_ret
    exact ⟨ret_bool (good_false HR.out).symm, below_call (below_new _ _) (by assumption)⟩
  | true =>
    have HR := Lib.hid hr
    clear hr
    have H1 := Lib.hid (fun k => good_none (x := x) HR.out k)
    have H2 := Lib.hid (fun k => good_com (x := x) HR.out k)
    have H3 := Lib.hid (fun k1 k2 => good_grp (x := x) HR.out k1 k2)
    by_cases g1 : x.knd = 1
    · have e1 : (x.knd == 1) = true := by simpa using g1
      have HG := Lib.hid (H1.out g1)
      by_cases g0 : x.bd.length = 0
      · have d0 : decide (0 < x.bd.length) = false := by simp [g0]
        have d0' : x.bd.length ≤ 0 := by omega
        have HG0 := Lib.hid (show goodE x = true by rw [HG.out, g0]; rfl)
        clear g0 g1
        go_enter Tryz.func66, Tryz.ntmps66
        go_wp2_with (go_at_call 99; refine (codeRight x _).mono ?_; rintro e w1 ⟨rfl, hb⟩; rw [HR.out]; obtain ⟨kb, -, zb⟩ := ((Box.new w #[.int .i64 x.idx, .int .i64 x.trm, .int .i64 x.knd, .slice x.ba x.bd.length x.bc] 54).later hb).facts)
        go_ret
        exact ⟨ret_bool HG0.out.symm, below_call (below_new _ _) (by assumption)⟩
      · have d0 : decide (0 < x.bd.length) = true := by simpa using Nat.pos_of_ne_zero g0
        have d0' : 0 < x.bd.length := by omega
        have HG0 := Lib.hid (show goodE x = false by rw [HG.out]; exact decide_eq_false g0)
        clear g0 g1
        go_enter Tryz.func66, Tryz.ntmps66
        go_wp2_with (go_at_call 99; refine (codeRight x _).mono ?_; rintro e w1 ⟨rfl, hb⟩; rw [HR.out]; obtain ⟨kb, -, zb⟩ := ((Box.new w #[.int .i64 x.idx, .int .i64 x.trm, .int .i64 x.knd, .slice x.ba x.bd.length x.bc] 54).later hb).facts)
        go_ret
        exact ⟨ret_bool HG0.out.symm, below_call (below_new _ _) (by assumption)⟩
    · have e1 : (x.knd == 1) = false := by simpa using g1
      by_cases g2 : x.knd = 2
      · have e2 : (x.knd == 2) = true := by simpa using g2
        have HG0 := Lib.hid (H2.out g2)
        clear g1 g2
        go_enter Tryz.func66, Tryz.ntmps66
        go_wp2_with (go_at_call 99; refine (codeRight x _).mono ?_; rintro e w1 ⟨rfl, hb⟩; rw [HR.out]; obtain ⟨kb, -, zb⟩ := ((Box.new w #[.int .i64 x.idx, .int .i64 x.trm, .int .i64 x.knd, .slice x.ba x.bd.length x.bc] 54).later hb).facts)
        go_ret
        exact ⟨ret_bool HG0.out.symm, below_call (below_new _ _) (by assumption)⟩
      · have e2 : (x.knd == 2) = false := by simpa using g2
        have HG0 := Lib.hid (H3.out g1 g2)
        clear g1 g2
        cases hm : memOk x.bd with
        | true =>
          have HM := Lib.hid hm
          clear hm
          go_enter Tryz.func66, Tryz.ntmps66
          go_wp2_with (first
            | (go_at_call 99; refine (codeRight x _).mono ?_; rintro e w1 ⟨rfl, hb⟩; rw [HR.out]; obtain ⟨kb, -, zb⟩ := ((Box.new w #[.int .i64 x.idx, .int .i64 x.trm, .int .i64 x.knd, .slice x.ba x.bd.length x.bc] 54).later hb).facts)
            | (go_at_call 100; refine (entMembers x.bd HX.out.2 _ _ (HX.out.later (below_call (below_new _ _) hb)).1).mono ?_; rintro e w2 ⟨v2, rfl, -, hb2⟩; rw [HM.out]))
          go_ret
          exact ⟨ret_bool (by rw [HG0.out, HM.out]), below_call (below_call (below_new _ _) hb) hb2⟩
        | false =>
          have HM := Lib.hid hm
          clear hm
          go_enter Tryz.func66, Tryz.ntmps66
          go_wp2_with (first
            | (go_at_call 99; refine (codeRight x _).mono ?_; rintro e w1 ⟨rfl, hb⟩; rw [HR.out]; obtain ⟨kb, -, zb⟩ := ((Box.new w #[.int .i64 x.idx, .int .i64 x.trm, .int .i64 x.knd, .slice x.ba x.bd.length x.bc] 54).later hb).facts)
            | (go_at_call 100; refine (entMembers x.bd HX.out.2 _ _ (HX.out.later (below_call (below_new _ _) hb)).1).mono ?_; rintro e w2 ⟨v2, rfl, -, hb2⟩; rw [HM.out]))
          go_ret
          exact ⟨ret_bool (by rw [HG0.out, HM.out]), below_call (below_call (below_new _ _) hb) hb2⟩

theorem step_bad {p : Idt} {x : Ent} (h : goodE x = false) : stepE p x = 4 := by unfold stepE; rw [if_pos h]
theorem step_out {p : Idt} {x : Ent} (h : goodE x = true) (hn : x.idx - 1 ≠ p.idx ∨ x.trm < p.trm) : stepE p x = 12 := by unfold stepE; rw [if_neg (by simp [h]), if_pos hn]
theorem step_ok {p : Idt} {x : Ent} (h : goodE x = true) (hn : ¬ (x.idx - 1 ≠ p.idx ∨ x.trm < p.trm)) : stepE p x = 0 := by unfold stepE; rw [if_neg (by simp [h]), if_neg hn]
theorem good_range {x : Ent} (h : goodE x = true) : 1 ≤ x.idx ∧ x.idx ≤ 1099511627776 ∧ 0 ≤ x.trm ∧ x.trm ≤ 1099511627776 := by
  unfold goodE rangeE at h
  simp only [Bool.and_eq_true, decide_eq_true_eq] at h
  omega

end Go.Proofs.YtglkgmijhdkhpaaGreatDoor
/-
  heal.fits: contract.
-/
set_option linter.unusedVariables false
set_option linter.unusedSimpArgs false
namespace Go.Proofs.YtglkgmijhdkhpaaGreatDoor
open Go.RowKit

def H64 (x : Int) : Prop := -9223372036854775808 ≤ x ∧ x ≤ 9223372036854775807
def refuV (n k : Int) : Value := .iface 64 (.agg #[.int .i64 n, .iface 70 (.int .i64 k)])
/-- What fits tells. -/
def fitV (p : Idt) (r : Rec) : Value := if goodR r = true then (if eqI (ofE r.e) p = true then .nilIface else refuV r.e.idx 2) else refuV r.e.idx 1
theorem fit_bad {r : Rec} {p : Idt} (h : goodR r = false) : fitV p r = refuV r.e.idx 1 := by unfold fitV; rw [h]; rfl
theorem fitV_cases (p : Idt) (r : Rec) : (fitR p r = true ∧ fitV p r = .nilIface) ∨ (fitR p r = false ∧ ∃ n : Int, fitV p r = refuV n 1) ∨ (fitR p r = false ∧ ∃ n : Int, fitV p r = refuV n 2) := by
  unfold fitR fitV
  cases goodR r with
  | false => exact .inr (.inl ⟨rfl, _, rfl⟩)
  | true =>
    cases eqI (ofE r.e) p with
    | false => exact .inr (.inr ⟨rfl, _, rfl⟩)
    | true => exact .inl ⟨rfl, rfl⟩
theorem good_first {r : Rec} (h : (decide (r.e.idx = 1) && !eqI r.a zI0) = true) : goodR r = false := by
  rw [Bool.and_eq_true, decide_eq_true_eq, Bool.not_eq_true'] at h
  unfold goodR
  rw [h.2, decide_eq_false (show ¬ 1 < r.e.idx by omega)]
  simp
theorem good_not {r : Rec} (h : goodE r.e = false) : goodR r = false := by unfold goodR; rw [h]; rfl
theorem good_idx {r : Rec} (h : r.a.idx ≠ r.e.idx - 1) : goodR r = false := by unfold goodR; rw [decide_eq_false h]; simp
theorem good_trm {r : Rec} (h : r.e.trm < r.a.trm) : goodR r = false := by unfold goodR; rw [decide_eq_false (show ¬ r.a.trm ≤ r.e.trm by omega)]; simp
theorem goodE_one {x : Ent} (h : goodE x = true) : 1 ≤ x.idx := by
  unfold goodE at h
  rw [Bool.and_eq_true] at h
  have h1 := h.1
  simp [rangeE] at h1
  omega
theorem good_all {r : Rec} (h1 : (decide (r.e.idx = 1) && !eqI r.a zI0) = false) (h2 : goodE r.e = true) (h3 : r.a.idx = r.e.idx - 1) (h4 : r.a.trm ≤ r.e.trm) : goodR r = true := by
  have h5 := goodE_one h2
  unfold goodR
  rw [h2, decide_eq_true h3, decide_eq_true h4]
  by_cases h : r.e.idx = 1
  · rw [decide_eq_true h] at h1
    simp at h1
    rw [h1]; simp
  · rw [decide_eq_true (show 1 < r.e.idx by omega)]; rfl
theorem eq3 (a b : Idt) : eqI a b = ((a.idx == b.idx) && (a.trm == b.trm) && (a.knd == b.knd)) := rfl

set_option maxRecDepth 100000 in
set_option maxHeartbeats 4000000 in
theorem healFits (r : Rec) (p : Idt) (w : World) (hin : EntIn w.heap.size w r.e) (hI : H64 r.e.idx) : Calls Tryz.prog 35 #[.agg #[.int .i64 r.e.idx, .int .i64 r.e.trm, .int .i64 r.e.knd, .slice r.e.ba r.e.bd.length r.e.bc, .int .i64 r.a.idx, .int .i64 r.a.trm, .int .i64 r.a.knd], .agg #[.int .i64 p.idx, .int .i64 p.trm, .int .i64 p.knd]] w fun e w' => e = .returned (fitV p r) ∧ Below w.heap.size w w' := by
  have HB0 := Lib.hid (below_call (below_new w (.cells #[.int .i64 r.e.idx, .int .i64 r.e.trm, .int .i64 r.e.knd, .slice r.e.ba r.e.bd.length r.e.bc, .int .i64 r.a.idx, .int .i64 r.a.trm, .int .i64 r.a.knd] 66)) (below_new _ (.cells #[.int .i64 p.idx, .int .i64 p.trm, .int .i64 p.knd] 42)))
  have HX := Lib.hid ((Box.new w #[.int .i64 r.e.idx, .int .i64 r.e.trm, .int .i64 r.e.knd, .slice r.e.ba r.e.bd.length r.e.bc, .int .i64 r.a.idx, .int .i64 r.a.trm, .int .i64 r.a.knd] 66).alloc (.cells #[.int .i64 p.idx, .int .i64 p.trm, .int .i64 p.knd] 42))
  have HP := Lib.hid (show Box ((w.alloc (.cells #[.int .i64 r.e.idx, .int .i64 r.e.trm, .int .i64 r.e.knd, .slice r.e.ba r.e.bd.length r.e.bc, .int .i64 r.a.idx, .int .i64 r.a.trm, .int .i64 r.a.knd] 66)).alloc (.cells #[.int .i64 p.idx, .int .i64 p.trm, .int .i64 p.knd] 42)) (w.heap.size + 1) #[.int .i64 p.idx, .int .i64 p.trm, .int .i64 p.knd] 42 by
    have h := Box.new (w.alloc (.cells #[.int .i64 r.e.idx, .int .i64 r.e.trm, .int .i64 r.e.knd, .slice r.e.ba r.e.bd.length r.e.bc, .int .i64 r.a.idx, .int .i64 r.a.trm, .int .i64 r.a.knd] 66)) #[.int .i64 p.idx, .int .i64 p.trm, .int .i64 p.knd] 42
    rw [World.size_alloc] at h; exact h)
  have CG : Hid (∀ W, Below w.heap.size w W → Calls Tryz.prog 66 #[.agg #[.int .i64 r.e.idx, .int .i64 r.e.trm, .int .i64 r.e.knd, .slice r.e.ba r.e.bd.length r.e.bc]] W fun e w' => e = .returned (.bool (goodE r.e)) ∧ Below W.heap.size W w') := fun W hv => entGood r.e W (hin.later hv)
  have k1 : wrap64 (r.e.idx - 1) = r.e.idx - 1 ∨ goodE r.e = false := by
    cases hg : goodE r.e with
    | false => exact .inr rfl
    | true => have := goodE_one hg; unfold H64 at hI; left; unfold wrap64; omega
  obtain ⟨W, hW⟩ : ∃ z, z = (w.alloc (.cells #[.int .i64 r.e.idx, .int .i64 r.e.trm, .int .i64 r.e.knd, .slice r.e.ba r.e.bd.length r.e.bc, .int .i64 r.a.idx, .int .i64 r.a.trm, .int .i64 r.a.knd] 66)).alloc (.cells #[.int .i64 p.idx, .int .i64 p.trm, .int .i64 p.knd] 42) := ⟨_, rfl⟩
  have HE := Lib.hid hW
  rw [← hW] at HB0 HX HP
  obtain ⟨kx, fx, zx⟩ := HX.out.facts
  obtain ⟨kp, fp, zp⟩ := HP.out.facts
  clear hin hW
  go_enter Tryz.func35, Tryz.ntmps35
  go_upto_region 1 with fail
  rw [← HE.out]
  go_cut [5] (fun v wx => v = .bool (decide (r.e.idx = 1) && !eqI r.a zI0) ∧ W = wx)
  case first =>
    by_cases h1 : r.e.idx = 1
    · have e1 : (r.e.idx == 1) = true := by simpa using h1
      have HD := Lib.hid (decide_eq_true h1)
      clear h1 k1
      by_cases a1 : r.a.idx = 0
      · have b1 : (r.a.idx == 0) = true := by simpa using a1
        clear a1
        by_cases a2 : r.a.trm = 0
        · have b2 : (r.a.trm == 0) = true := by simpa using a2
          clear a2
          by_cases a3 : r.a.knd = 0
          · have b3 : (r.a.knd == 0) = true := by simpa using a3
            have HZ := Lib.hid (show (decide (r.e.idx = 1) && !eqI r.a zI0) = !((r.a.idx == 0) && (r.a.trm == 0) && (r.a.knd == 0)) by rw [HD.out]; rfl)
            clear a3
            go_wp2_with fail
            go_meet
            exact ⟨congrArg Value.bool (by rw [HZ.out]; simp [*]), rfl⟩
          · have b3 : (r.a.knd == 0) = false := by simpa using a3
            have HZ := Lib.hid (show (decide (r.e.idx = 1) && !eqI r.a zI0) = !((r.a.idx == 0) && (r.a.trm == 0) && (r.a.knd == 0)) by rw [HD.out]; rfl)
            clear a3
            go_wp2_with fail
            go_meet
            exact ⟨congrArg Value.bool (by rw [HZ.out]; simp [*]), rfl⟩
        · have b2 : (r.a.trm == 0) = false := by simpa using a2
          have HZ := Lib.hid (show (decide (r.e.idx = 1) && !eqI r.a zI0) = !((r.a.idx == 0) && (r.a.trm == 0) && (r.a.knd == 0)) by rw [HD.out]; rfl)
          clear a2
          go_wp2_with fail
          go_meet
          exact ⟨congrArg Value.bool (by rw [HZ.out]; simp [*]), rfl⟩
      · have b1 : (r.a.idx == 0) = false := by simpa using a1
        have HZ := Lib.hid (show (decide (r.e.idx = 1) && !eqI r.a zI0) = !((r.a.idx == 0) && (r.a.trm == 0) && (r.a.knd == 0)) by rw [HD.out]; rfl)
        clear a1
        go_wp2_with fail
        go_meet
        exact ⟨congrArg Value.bool (by rw [HZ.out]; simp [*]), rfl⟩
    · have e1 : (r.e.idx == 1) = false := by simpa using h1
      have HD := Lib.hid (decide_eq_false h1)
      clear h1 k1
      go_wp2_with fail
      go_meet
      exact ⟨by rw [HD.out]; rfl, rfl⟩
  case rest =>
    obtain ⟨rfl, rfl⟩ := hcut
    obtain ⟨c1, hc1⟩ : ∃ c1, (decide (r.e.idx = 1) && !eqI r.a zI0) = c1 := ⟨_, rfl⟩
    rw [hc1]
    by_cases hb : c1 = true
    · subst hb
      have HF := Lib.hid (fit_bad (p := p) (good_first hc1))
      clear hc1 k1
      go_wp2_with fail
      go_ret
      exact ⟨by rw [HF.out]; rfl, HB0.out⟩
    · obtain rfl : c1 = false := by simpa using hb
      have HC1 := Lib.hid hc1
      clear hb hc1
      obtain ⟨c2, hc2⟩ : ∃ c2, goodE r.e = c2 := ⟨_, rfl⟩
      rw [hc2] at CG k1
      by_cases hb : c2 = true
      · subst hb
        have k1 : wrap64 (r.e.idx - 1) = r.e.idx - 1 := by rcases k1 with h | h; (exact h); (cases h)
        have HC2 := Lib.hid hc2
        clear hc2
        by_cases a3 : r.a.idx = r.e.idx - 1
        · have b3 : (r.a.idx == r.e.idx - 1) = true := by simpa using a3
          have HA3 := Lib.hid a3
          clear a3
          by_cases a4 : r.e.trm < r.a.trm
          · have b4 : decide (r.e.trm < r.a.trm) = true := decide_eq_true a4
            have HF := Lib.hid (fit_bad (p := p) (good_trm a4))
            clear a4
            go_wp2_with (go_at_call 66; (with_reducible refine (CG.out _ HB0.out).mono ?_); rintro e w7 ⟨rfl, hb⟩; have H7 := Lib.hid (below_call HB0.out hb); have HX7 := Lib.hid (HX.out.later hb); have HP7 := Lib.hid (HP.out.later hb); clear kx fx zx kp fp zp; obtain ⟨kx, fx, zx⟩ := HX7.out.facts; obtain ⟨kp, fp, zp⟩ := HP7.out.facts; clear hb)
            go_ret
            exact ⟨by rw [HF.out]; rfl, H7.out⟩
          · have b4 : decide (r.e.trm < r.a.trm) = false := decide_eq_false a4
            have HG := Lib.hid (good_all HC1.out HC2.out HA3.out (by omega))
            clear a4
            go_upto_region 5 with (go_at_call 66; (with_reducible refine (CG.out _ HB0.out).mono ?_); rintro e w7 ⟨rfl, hb⟩; have H7 := Lib.hid (below_call HB0.out hb); have HX7 := Lib.hid (HX.out.later hb); have HP7 := Lib.hid (HP.out.later hb); clear kx fx zx kp fp zp; obtain ⟨kx, fx, zx⟩ := HX7.out.facts; obtain ⟨kp, fp, zp⟩ := HP7.out.facts; clear hb)
            clear kx fx zx kp fp zp b3 b4 k1
            obtain ⟨V, hV⟩ : ∃ z, z = w7 := ⟨_, rfl⟩
            rw [← hV] at H7 HX7 HP7
            rw [← hV]
            clear hV
            have g0 : ∀ x : Ext V, x.wd.cell? ⟨w.heap.size, 0, none⟩ = some (.int .i64 r.e.idx) := HX7.out.ext 0
            have g1 : ∀ x : Ext V, x.wd.cell? ⟨w.heap.size, 1, none⟩ = some (.int .i64 r.e.trm) := HX7.out.ext 1
            have g2 : ∀ x : Ext V, x.wd.cell? ⟨w.heap.size, 2, none⟩ = some (.int .i64 r.e.knd) := HX7.out.ext 2
            have g3 : ∀ x : Ext V, x.wd.cell? ⟨w.heap.size, 3, none⟩ = some (.slice r.e.ba r.e.bd.length r.e.bc) := HX7.out.ext 3
            have p0 : ∀ x : Ext V, x.wd.cell? ⟨w.heap.size + 1, 0, none⟩ = some (.int .i64 p.idx) := HP7.out.ext 0
            have p1 : ∀ x : Ext V, x.wd.cell? ⟨w.heap.size + 1, 1, none⟩ = some (.int .i64 p.trm) := HP7.out.ext 1
            have p2 : ∀ x : Ext V, x.wd.cell? ⟨w.heap.size + 1, 2, none⟩ = some (.int .i64 p.knd) := HP7.out.ext 2
            have HQ : Hid (∀ c, ((r.e.idx == p.idx) && (r.e.trm == p.trm) && (r.e.knd == p.knd)) = c → fitV p r = if c = true then .nilIface else refuV r.e.idx 2) := fun c hc => by unfold fitV; rw [if_pos HG.out, eq3]; exact congrArg (fun b : Bool => if b = true then Value.nilIface else refuV r.e.idx 2) hc
            by_cases a1 : r.e.idx = p.idx
            · have b1 : (r.e.idx == p.idx) = true := by simpa using a1
              clear a1
              by_cases a2 : r.e.trm = p.trm
              · have b2 : (r.e.trm == p.trm) = true := by simpa using a2
                clear a2
                by_cases a3 : r.e.knd = p.knd
                · have b3 : (r.e.knd == p.knd) = true := by simpa using a3
                  have HF := Lib.hid (HQ.out true (by rw [b1, b2, b3]; rfl))
                  clear a3
                  refine wp_region_ext (by kernel_rfl) (by kernel_rfl) ?_
                  repeat (go_big_quiet_step ((rename_i x5; (go_at_call 67; exact ext_of x5 (entOf r.e x5.wd)))))
                  refine wpQuiet_nil ?_
                  intro _ hw'
                  obtain ⟨x6, hw''⟩ := hw'
                  subst hw''
                  go_wp2_with fail
                  go_ret
                  exact ⟨by rw [HF.out]; rfl, below_call H7.out x6.low⟩
                · have b3 : (r.e.knd == p.knd) = false := by simpa using a3
                  have HF := Lib.hid (HQ.out false (by rw [b1, b2, b3]; rfl))
                  clear a3
                  refine wp_region_ext (by kernel_rfl) (by kernel_rfl) ?_
                  repeat (go_big_quiet_step ((rename_i x5; (go_at_call 67; exact ext_of x5 (entOf r.e x5.wd)))))
                  refine wpQuiet_nil ?_
                  intro _ hw'
                  obtain ⟨x6, hw''⟩ := hw'
                  subst hw''
                  have q0 := g0 x6
                  go_wp2_with fail
                  go_ret
                  exact ⟨by rw [HF.out]; rfl, below_call H7.out x6.low⟩
              · have b2 : (r.e.trm == p.trm) = false := by simpa using a2
                have HF := Lib.hid (HQ.out false (by rw [b1, b2]; rfl))
                clear a2
                refine wp_region_ext (by kernel_rfl) (by kernel_rfl) ?_
                repeat (go_big_quiet_step ((rename_i x5; (go_at_call 67; exact ext_of x5 (entOf r.e x5.wd)))))
                refine wpQuiet_nil ?_
                intro _ hw'
                obtain ⟨x6, hw''⟩ := hw'
                subst hw''
                have q0 := g0 x6
                go_wp2_with fail
                go_ret
                exact ⟨by rw [HF.out]; rfl, below_call H7.out x6.low⟩
            · have b1 : (r.e.idx == p.idx) = false := by simpa using a1
              have HF := Lib.hid (HQ.out false (by rw [b1]; rfl))
              clear a1
              refine wp_region_ext (by kernel_rfl) (by kernel_rfl) ?_
              repeat (go_big_quiet_step ((rename_i x5; (go_at_call 67; exact ext_of x5 (entOf r.e x5.wd)))))
              refine wpQuiet_nil ?_
              intro _ hw'
              obtain ⟨x6, hw''⟩ := hw'
              subst hw''
              have q0 := g0 x6
              go_wp2_with fail
              go_ret
              exact ⟨by rw [HF.out]; rfl, below_call H7.out x6.low⟩
        · have b3 : (r.a.idx == r.e.idx - 1) = false := by simpa using a3
          have HF := Lib.hid (fit_bad (p := p) (good_idx a3))
          clear a3
          go_wp2_with (go_at_call 66; (with_reducible refine (CG.out _ HB0.out).mono ?_); rintro e w7 ⟨rfl, hb⟩; have H7 := Lib.hid (below_call HB0.out hb); have HX7 := Lib.hid (HX.out.later hb); have HP7 := Lib.hid (HP.out.later hb); clear kx fx zx kp fp zp; obtain ⟨kx, fx, zx⟩ := HX7.out.facts; obtain ⟨kp, fp, zp⟩ := HP7.out.facts; clear hb)
          go_ret
          exact ⟨by rw [HF.out]; rfl, H7.out⟩
      · obtain rfl : c2 = false := by simpa using hb
        have HF := Lib.hid (fit_bad (p := p) (good_not hc2))
        clear hc2 hb k1
        go_wp2_with (go_at_call 66; (with_reducible refine (CG.out _ HB0.out).mono ?_); rintro e w7 ⟨rfl, hb⟩; have H7 := Lib.hid (below_call HB0.out hb); have HX7 := Lib.hid (HX.out.later hb); have HP7 := Lib.hid (HP.out.later hb); clear kx fx zx kp fp zp; obtain ⟨kx, fx, zx⟩ := HX7.out.facts; obtain ⟨kp, fp, zp⟩ := HP7.out.facts; clear hb)
        go_ret
        exact ⟨by rw [HF.out]; rfl, H7.out⟩
end Go.Proofs.YtglkgmijhdkhpaaGreatDoor
/-
  WHAT errors.errorType HOLDS, and the model's words on two interface values of one integer type.
-/
set_option linter.unusedVariables false
namespace Go.Proofs.YtglkgmijhdkhpaaGreatDoor
open Go.RowKit Go.Extern.Stop Go.Stop Go.Extern

theorem run_equalIn_iface_int {P : Program} (w : World) (d : Nat) {ti tn : TypeId} {ms : Array (String × TypeId)} {i : TypeInfo} {k : IntKind} (a b : Int)
    (hi : P.underlying ti = some (.interface ms)) (hn : P.underlying tn = some (.int k)) (hinfo : P.info? tn = some i) (hcomp : i.comparable = true) :
    (Op.equalIn (d + 2) ti (.iface tn (.int k a)) (.iface tn (.int k b))).run P w = .ok (a == b) w := by
  simp [Op.equalIn, run_underlying hi, run_underlying hn, typeInfo, hinfo, hcomp]
/-- 'x == y', both interface values of ONE integer type: as the numbers are. -/
theorem run_eql_iface_int {P : Program} (w : World) {ti tn : TypeId} {ms : Array (String × TypeId)} {i : TypeInfo} {k : IntKind} (a b : Int)
    (hi : P.underlying ti = some (.interface ms)) (hn : P.underlying tn = some (.int k)) (hinfo : P.info? tn = some i) (hcomp : i.comparable = true) :
    (binOp .eql ti (.iface tn (.int k a)) (.iface tn (.int k b))).run P w = .ok (.bool (a == b)) w := by
  simp only [binOp]
  simp [Op.equal, Op.maxDepth, run_equalIn_iface_int w 9998 a b hi hn hinfo hcomp]

/-- What errors.errorType holds (laid by the row). -/
def errTypeIs (w : World) : Prop := w.cell? ⟨0, 0, none⟩ = some (.iface 148 (.agg #[.pointer (some ⟨1, 62, none⟩)]))
theorem errType_later {w w' : World} (h : errTypeIs w) (hb : Below w.heap.size w w') : errTypeIs w' := (hb.cell (p := ⟨0, 0, none⟩) (World.block_lt_of_cell? _ _ h)).trans h
theorem errType_but {w w' : World} {g : Nat} (h : errTypeIs w) (hb : But g w w') (hg : 0 < g) : errTypeIs w' := by
  have hz := World.block_lt_of_cell? _ _ h
  unfold errTypeIs at h ⊢
  rw [World.cell?_of_block (a := ⟨0, 0, none⟩) (w := w) (hb.2.2.2.2 0 hz (by omega))]; exact h
end Go.Proofs.YtglkgmijhdkhpaaGreatDoor
