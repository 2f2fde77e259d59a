/-
  match's At: contract.
-/
import Derived.Test.YtnhodaconlodbaaDoorMatchMath
import Derived.Test.YtnhodaconlodbaaDoorKitInts
import Derived.Test.YtnhodaconlodbaaDoorExt
import Derived.Test.YtnhodaconlodbaaDoorAbMath
set_option linter.unusedVariables false
set_option linter.unusedSimpArgs false
namespace Go.Proofs.YtnhodaconlodbaaDoor
open Go.RowKit

def AtPost (b : Idt) (l : List Idt) (i : Int) (w : World) (e : Ending) (w' : World) : Prop :=
  e = .returned (.tuple #[.agg #[.int .i64 (atP (atV b l i)).idx, .int .i64 (atP (atV b l i)).trm, .int .i64 (atP (atV b l i)).knd], .bool (atV b l i).isSome]) ∧ Below w.heap.size w w'
theorem atPost_some {b p : Idt} {l : List Idt} {i : Int} {w w' : World} (h : atV b l i = some p) (hb : Below w.heap.size w w') : AtPost b l i w (.returned (.tuple #[.agg #[.int .i64 p.idx, .int .i64 p.trm, .int .i64 p.knd], .bool true])) w' := by
  unfold AtPost; rw [h]; exact ⟨rfl, hb⟩
theorem atPost_none {b : Idt} {l : List Idt} {i : Int} {w w' : World} (h : atV b l i = none) (hb : Below w.heap.size w w') : AtPost b l i w (.returned (.tuple #[.agg #[.int .i64 0, .int .i64 0, .int .i64 0], .bool false])) w' := by
  unfold AtPost; rw [h]; exact ⟨rfl, hb⟩

set_option maxRecDepth 100000 in
set_option maxHeartbeats 2000000 in
theorem matchAt (b : Idt) (l : List Idt) (A : Option Addr) (c : Nat) (i : Int) (w : World) (h : Sl 3 idRow w.heap.size w (.slice A l.length c) l) (hb : I64 b.idx) (hi : I64 i) :
    Calls Tryd.prog 18 #[.agg #[.int .i64 b.idx, .int .i64 b.trm, .int .i64 b.knd, .slice A l.length c], .int .i64 i] w (AtPost b l i w) := by
  obtain ⟨A', cap, hv, hlc, hcm, -, hA⟩ := h
  simp only [Value.slice.injEq] at hv
  obtain ⟨rfl, -, rfl⟩ := hv
  have hn : l.length ≤ 9223372036854775807 := by unfold maxLen at hcm; omega
  have HA := Lib.hid hA
  obtain ⟨b0, b1⟩ := hb
  obtain ⟨i0, i1⟩ := hi
  have HX := Lib.hid (Box.new w #[.int .i64 b.idx, .int .i64 b.trm, .int .i64 b.knd, .slice A l.length c] 32)
  clear hcm hA
  by_cases g1 : i = b.idx
  · have e1 : (i == b.idx) = true := by simpa using g1
    have HF := Lib.hid (atV_base (l := l) g1)
    clear g1
    go_enter Tryd.func18, Tryd.ntmps18
    go_wp2_with fail
    refine bodyPost_ret (v := .tuple #[.agg #[.int .i64 b.idx, .int .i64 b.trm, .int .i64 b.knd], .bool true]) (by simp [results, Tryd.results18, go_sem]) rfl (atPost_some HF.out ?_)
    first | exact below_call (below_new _ _) (below_new _ _) | (repeat (first | exact Below.refl _ _ | exact HB.out | refine Below.alloc ?_ (by simp) _ | refine below_set ?_ (by simp)))
  have e1 : (i == b.idx) = false := by simpa using g1
  by_cases g2 : b.idx < i
  · have d2 : decide (b.idx < i) = true := decide_eq_true g2
    by_cases g3 : i - b.idx ≤ 9223372036854775807
    · obtain ⟨j, hj⟩ : ∃ j : Nat, i - b.idx - 1 = (j : Int) := ⟨(i - b.idx - 1).toNat, by omega⟩
      have j0 : (0 : Int) ≤ (j : Int) := by omega
      by_cases hlt : j < l.length
      · obtain ⟨bb, off, rfl, hbl, hcell⟩ := HA.out (by intro h; subst h; simp at hlt)
        obtain ⟨x, hx⟩ : ∃ x, l[j]? = some x := ⟨_, List.getElem?_eq_getElem hlt⟩
        have c0 : w.cell? ⟨bb, off + j * 3, none⟩ = _ := hcell j x hx 0 _ rfl
        have c1 := hcell j x hx 1 _ rfl
        have c2 := hcell j x hx 2 _ rfl
        have j1 : (j : Int) < (l.length : Int) := by omega
        by_cases hk : x.knd = 0
        · have ek : (x.knd != 0) = false := by simpa using hk
          have HF := Lib.hid (show atV b l i = none by rw [atV_in hj hx, if_pos hk])
          clear hcell hx hk
          go_enter Tryd.func18, Tryd.ntmps18
          go_wp2_with fail
          refine bodyPost_ret (v := .tuple #[.agg #[.int .i64 0, .int .i64 0, .int .i64 0], .bool false]) (by simp [results, Tryd.results18, go_sem]) rfl (atPost_none HF.out ?_)
          first | exact below_call (below_new _ _) (below_new _ _) | (repeat (first | exact Below.refl _ _ | exact HB.out | refine Below.alloc ?_ (by simp) _ | refine below_set ?_ (by simp)))
        · have ek : (x.knd != 0) = true := by simpa using hk
          have HF := Lib.hid (show atV b l i = some x by rw [atV_in hj hx, if_neg hk])
          clear hcell hx hk
          go_enter Tryd.func18, Tryd.ntmps18
          go_wp2_with fail
          refine bodyPost_ret (v := .tuple #[.agg #[.int .i64 x.idx, .int .i64 x.trm, .int .i64 x.knd], .bool true]) (by simp [results, Tryd.results18, go_sem]) rfl (atPost_some HF.out ?_)
          first | exact below_call (below_new _ _) (below_new _ _) | (repeat (first | exact Below.refl _ _ | exact HB.out | refine Below.alloc ?_ (by simp) _ | refine below_set ?_ (by simp)))
      · have j1 : (l.length : Int) ≤ (j : Int) := by omega
        have HF := Lib.hid (atV_out (b := b) (l := l) (i := i) (by omega))
        clear hlt
        go_enter Tryd.func18, Tryd.ntmps18
        go_wp2_with fail
        refine bodyPost_ret (v := .tuple #[.agg #[.int .i64 0, .int .i64 0, .int .i64 0], .bool false]) (by simp [results, Tryd.results18, go_sem]) rfl (atPost_none HF.out ?_)
        first | exact below_call (below_new _ _) (below_new _ _) | (repeat (first | exact Below.refl _ _ | exact HB.out | refine Below.alloc ?_ (by simp) _ | refine below_set ?_ (by simp)))
    · have HF := Lib.hid (atV_out (b := b) (l := l) (i := i) (by omega))
      by_cases g4 : i - b.idx = 9223372036854775808
      · have ew : wrap64 (wrap64 (i - b.idx) - 1) = 9223372036854775807 := by unfold wrap64; omega
        have j1 : (l.length : Int) ≤ 9223372036854775807 := by omega
        have d5 : decide ((9223372036854775807 : Int) < (l.length : Int)) = false := decide_eq_false (by omega)
        clear g4
        go_enter Tryd.func18, Tryd.ntmps18
        go_wp2_with fail
        refine bodyPost_ret (v := .tuple #[.agg #[.int .i64 0, .int .i64 0, .int .i64 0], .bool false]) (by simp [results, Tryd.results18, go_sem]) rfl (atPost_none HF.out ?_)
        first | exact below_call (below_new _ _) (below_new _ _) | (repeat (first | exact Below.refl _ _ | exact HB.out | refine Below.alloc ?_ (by simp) _ | refine below_set ?_ (by simp)))
      · have ew : decide (0 ≤ wrap64 (wrap64 (i - b.idx) - 1)) = false := decide_eq_false (by unfold wrap64; omega)
        have ew2 : wrap64 (wrap64 (i - b.idx) - 1) < 0 := by unfold wrap64; omega
        go_enter Tryd.func18, Tryd.ntmps18
        go_wp2_with fail
        refine bodyPost_ret (v := .tuple #[.agg #[.int .i64 0, .int .i64 0, .int .i64 0], .bool false]) (by simp [results, Tryd.results18, go_sem]) rfl (atPost_none HF.out ?_)
        first | exact below_call (below_new _ _) (below_new _ _) | (repeat (first | exact Below.refl _ _ | exact HB.out | refine Below.alloc ?_ (by simp) _ | refine below_set ?_ (by simp)))
  · have d2 : decide (b.idx < i) = false := decide_eq_false g2
    have HF := Lib.hid (atV_low (b := b) (l := l) (i := i) (by omega))
    go_enter Tryd.func18, Tryd.ntmps18
    go_wp2_with fail
    refine bodyPost_ret (v := .tuple #[.agg #[.int .i64 0, .int .i64 0, .int .i64 0], .bool false]) (by simp [results, Tryd.results18, go_sem]) rfl (atPost_none HF.out ?_)
    first | exact below_call (below_new _ _) (below_new _ _) | (repeat (first | exact Below.refl _ _ | exact HB.out | refine Below.alloc ?_ (by simp) _ | refine below_set ?_ (by simp)))

end Go.Proofs.YtnhodaconlodbaaDoor
