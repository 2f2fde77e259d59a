/-
  THE PACKAGE entry, 3: members of bytes, what is good: contracts.
-/
import Derived.Test.YtglkgmijhdkhpaaDoorHa10
set_option linter.unusedVariables false
set_option linter.unusedSimpArgs false
namespace Go.Proofs.YtglkgmijhdkhpaaDoor
open Go.RowKit

theorem flat_zeros : ∀ n : Nat, (List.replicate n (0 : Int)).flatMap i64Row = List.replicate n (Value.int .i64 0)
  | 0 => rfl
  | n + 1 => by rw [List.replicate_succ, List.flatMap_cons, flat_zeros n, List.replicate_succ]; rfl
/-- 'make([]int, n)': n zeros are owned. -/
theorem wpList_make_ints {P : Program} (w : World) {ops : Array Oper} {rest : List Oper} {o : Oper} {a : Act} {Q : Exit → Act → World → Prop}
    (hg : o.guard = none) (l c : Operand) (t : TypeId) (hop : o.op = Op.makeSlice t l c)
    (base : Nat) (e : TypeId) (h1 : P.underlying t = some (.slice e)) (hinfo : (P.info? e).map (fun i => (i.zero, i.size, i.bytes)) = some (some (.int .i64 0), 1, 8))
    (L C : Int) (n : Nat) (hl : a.eval l = .int .i64 L) (hc : a.eval c = .int .i64 C) (hL : L = (n : Int)) (hC : C = (n : Int)) (b2 : n ≤ 4294967296) (b4 : base ≤ w.heap.size)
    (hK : ∀ w', Own 1 i64Row e base w' (.slice (some ⟨w.heap.size, 0, none⟩) n n) (List.replicate n 0) → Below base w w' → w.heap.size < w'.heap.size → wpList P ops Q rest (a.put o.dst (.slice (some ⟨w.heap.size, 0, none⟩) n n)) w') :
    wpList P ops Q (o :: rest) a w := by
  obtain ⟨i, hi, hz, hsz, hby⟩ := info_parts hinfo
  refine wpList_make_full w hg l c t hop base e i _ 1 h1 hi hz hsz .i64 .i64 L C n hl hc hL hC (by rw [hby]; omega) (by unfold maxLen; omega) b4 fun w' r1 r2 => ?_
  have ho : Own 1 i64Row e base w' (.slice (some ⟨w.heap.size, 0, none⟩) n n) (List.replicate n 0) := by
    unfold Own
    have e1 : (List.replicate n (0 : Int)).flatMap i64Row = (madeCells (Value.int .i64 0).cells (n * 1)).toList := by
      rw [Nat.mul_one, show (Value.int .i64 0).cells = #[Value.int .i64 0] from rfl, toList_madeCells_one]
      exact flat_zeros n
    rw [List.length_replicate, e1]; exact r1
  refine hK w' ho (grown_below r2 b4 (by simp)) ?_
  rcases r1.2 with ⟨hv, _⟩ | ⟨g, cap, cur, hv, _, hh, _⟩
  · simp at hv
  · simp only [Value.slice.injEq, Option.some.injEq, Addr.mk.injEq, and_true] at hv
    obtain ⟨rfl, -⟩ := hv
    exact (Array.getElem?_eq_some_iff.1 hh).1

theorem set_zero {b : List Int} {k : Nat} {x : Int} (hx : b[k]? = some x) : (b.take k ++ List.replicate (b.length - k) 0).set k x = b.take (k + 1) ++ List.replicate (b.length - (k + 1)) 0 := by
  have hk := (List.getElem?_eq_some_iff.1 hx).1
  have e : b.length - k = (b.length - (k + 1)) + 1 := by omega
  have hl : (b.take k).length = k := by rw [List.length_take]; omega
  rw [e, List.replicate_succ, List.set_append_right _ _ (by omega), hl, Nat.sub_self, List.set_cons_zero, take_at hx, List.append_assoc]
  rfl

/-- What Members tells: the members, or error 4. -/
def MemPost (b : List Int) (w : World) (e : Ending) (w' : World) : Prop :=
  ∃ v', e = .returned (.tuple #[v', .int .i64 (if memOk b then 0 else 4)]) ∧ (if memOk b then Own 1 i64Row 3 w.heap.size w' v' b else v' = .slice none 0 0) ∧ Below w.heap.size w w'
theorem memPost_yes {b : List Int} {w w' : World} {v' : Value} (h : memOk b = true) (ho : Own 1 i64Row 3 w.heap.size w' v' b) (hb : Below w.heap.size w w') : MemPost b w (.returned (.tuple #[v', .int .i64 0])) w' :=
  ⟨v', by rw [h]; rfl, by rw [h]; exact ho, hb⟩
theorem memPost_no {b : List Int} {w w' : World} (h : memOk b = false) (hb : Below w.heap.size w w') : MemPost b w (.returned (.tuple #[.slice none 0 0, .int .i64 4])) w' :=
  ⟨_, by rw [h]; rfl, by rw [h]; rfl, hb⟩

set_option maxHeartbeats 1000000 in
theorem entMembers (b : List Int) (hbb : ∀ x ∈ b, 0 ≤ x ∧ x ≤ 255) (v : Value) (w : World) (h : Sl 1 u8Row w.heap.size w v b) :
    Calls Tryd.prog 30 #[v] w (MemPost b w) := by
  obtain ⟨A, cap, rfl, hlc, hcm, -, hA⟩ := h
  have hn : b.length ≤ 9223372036854775807 := by unfold maxLen at hcm; omega
  clear hcm
  by_cases h7 : 7 < b.length
  · have d7 : decide (7 < b.length) = true := decide_eq_true h7
    have HM := Lib.hid (show memOk b = false by unfold memOk; rw [decide_eq_false (by omega)]; rfl)
    clear hA
    go_enter Tryd.func30, Tryd.ntmps30
    go_wp2_with fail
    go_ret2
    exact memPost_no HM.out (Below.refl _ _)
  · have h7' : b.length ≤ 7 := by omega
    have HA := Lib.hid hA
    have HBB := Lib.hid hbb
    clear hA hbb
    go_enter Tryd.func30, Tryd.ntmps30
    go_wp2_with (at_make; refine wpList_make_ints _ rfl _ _ 68 rfl w.heap.size 3 Tryd.underlying68 intInfo _ _ b.length rfl rfl rfl rfl (by omega) (Nat.le_refl _) ?_; intro w0 hown0 hb0 hz0)
    go_loopw [15] (fun i wr => ∃ k : Nat, k ≤ b.length ∧ i = .int .i64 k ∧ Own 1 i64Row 3 w.heap.size wr (.slice (some ⟨w.heap.size, 0, none⟩) b.length b.length) (b.take k ++ List.replicate (b.length - k) 0) ∧ Below w.heap.size w wr) (fun i _ => b.length - (intOf i).toNat)
    case atStart => exact ⟨0, by omega, rfl, by simpa using hown0, hb0⟩
    case round =>
      clear hown0 hb0
      obtain ⟨k, hk, rfl, hown, hB⟩ := hrel
      by_cases hlt : k < b.length
      · obtain ⟨bb, off, rfl, hbl, hcell⟩ := HA.out (by intro h; subst h; simp at hlt)
        obtain ⟨x, hx⟩ : ∃ x, b[k]? = some x := ⟨_, List.getElem?_eq_getElem hlt⟩
        have c0 : wr.cell? ⟨bb, off + k, none⟩ = some (.int .u8 x) := by
          have := (hB.cell (p := ⟨bb, off + k * 1 + 0, none⟩) hbl).trans (hcell k x hx 0 _ rfl)
          simpa using this
        obtain ⟨x0, x1⟩ := HBB.out x (List.mem_of_getElem? hx)
        have hwx : IntKind.i64.wrap x = x := IntWalk.i64_in _ (by omega)
        obtain ⟨g, cp, e0, hg1, hg2, hfr⟩ := hown.place (by intro h; have := congrArg List.length h; simp at this; omega)
        have hl0 : (b.take k ++ List.replicate (b.length - k) 0)[k]? = some 0 := by
          rw [List.getElem?_append_right (by rw [List.length_take]; omega), List.length_take]
          rw [show k - min k b.length = 0 by omega]
          rw [List.getElem?_replicate]; simp; omega
        have hw1 := hown.write i64Row_length (i := k) (j := 0) (x := 0) (y := x) (u := .int .i64 x) hl0 rfl (by omega)
        rw [set_zero hx] at hw1
        have HW := Lib.hid hw1
        have cz : wr.cell? ⟨w.heap.size, k, none⟩ = some (.int .i64 0) := by
          obtain ⟨b2, off2, cap2, e2, -, -, -, hc2⟩ := (hown.sl i64Row_length).cellAt (by intro h; have := congrArg List.length h; simp at this; omega)
          simp only [Value.slice.injEq, Option.some.injEq, Addr.mk.injEq, and_true] at e2
          obtain ⟨⟨rfl, rfl⟩, -⟩ := e2
          simpa using hc2 k 0 hl0 0 _ rfl
        have fz : ∀ o, wr.frozen? ⟨w.heap.size, o, none⟩ = false := by
          simp only [Value.slice.injEq, Option.some.injEq, Addr.mk.injEq, and_true] at e0
          obtain ⟨rfl, -⟩ := e0; exact hfr
        have HB := Lib.hid (below_set (n := w.heap.size) (i := k) (u := .int .i64 x) hB (Nat.le_refl _))
        have i0 : (0 : Int) ≤ (k : Int) := by omega
        have i1 : (k : Int) < (b.length : Int) := by omega
        clear hcell hx hown hw1 hl0 hfr e0 hB
        go_wp2_with fail
        go_roundw
        case rel => exact ⟨k + 1, by omega, by go_num, by simpa using HW.out, by simpa using HB.out⟩
        case measure => simp [intOf]; omega
      · have hk' : k = b.length := by omega
        have ho : Own 1 i64Row 3 w.heap.size wr (.slice (some ⟨w.heap.size, 0, none⟩) b.length b.length) b := by
          rw [hk', List.take_length] at hown; simpa using hown
        have HO := Lib.hid ho
        have HS := Lib.hid (ho.sl i64Row_length)
        have HB := Lib.hid hB
        clear hk' hown hB ho
        cases hm : memRight b with
        | true =>
          have HM := Lib.hid (show memOk b = true by unfold memOk; rw [hm, decide_eq_true h7']; rfl)
          have HR := Lib.hid hm
          clear hm
          go_wp2_with (go_at_call 53; refine (entryRight b _ _ HS.out).mono ?_; rintro e w' ⟨rfl, rfl⟩; rw [HR.out])
          go_ret2
          exact memPost_yes HM.out HO.out HB.out
        | false =>
          have HM := Lib.hid (show memOk b = false by unfold memOk; rw [hm]; simp)
          have HR := Lib.hid hm
          clear hm
          go_wp2_with (go_at_call 53; refine (entryRight b _ _ HS.out).mono ?_; rintro e w' ⟨rfl, rfl⟩; rw [HR.out])
          go_ret2
          exact memPost_no HM.out HB.out
end Go.Proofs.YtglkgmijhdkhpaaDoor
