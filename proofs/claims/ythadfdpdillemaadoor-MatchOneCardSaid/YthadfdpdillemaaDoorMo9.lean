/-
  Merged: MatchAt, LeadSent, ErrType.
-/
import Derived.Test.YthadfdpdillemaaDoorMo3
import Derived.Test.YthadfdpdillemaaDoorMo6
import Derived.Test.YthadfdpdillemaaDoorMo7
import Derived.Test.YthadfdpdillemaaDoorMo2
import Derived.Test.YthadfdpdillemaaDoorMo4
import Derived.Test.YthadfdpdillemaaDoorMo8
import Derived.Deep.RegionHeld3
import Derived.Deep.DeepCutAuto
import Derived.StillTailTactics
import Derived.Test.YthadfdpdillemaaDoorProg
import Derived.Test.YthadfdpdillemaaDoorMo5
import Derived.WalkLawsBesides
import Derived.LaidEql
import Derived.Stop.Asserts
import Derived.RowKitTokens
/-
  match's At: contract.
-/
set_option linter.unusedVariables false
set_option linter.unusedSimpArgs false
namespace Go.Proofs.YthadfdpdillemaaDoor
open Go.RowKit

def AtPost (b : Idt) (l : List Idt) (i : Int) (w : World) (e : Ending) (w' : World) : Prop :=
  e = .returned (.tuple #[.agg #[.int .i64 (atP (atV b l i)).idx, .int .i64 (atP (atV b l i)).trm, .int .i64 (atP (atV b l i)).knd], .bool (atV b l i).isSome]) ∧ Below w.heap.size w w'
theorem atPost_some {b p : Idt} {l : List Idt} {i : Int} {w w' : World} (h : atV b l i = some p) (hb : Below w.heap.size w w') : AtPost b l i w (.returned (.tuple #[.agg #[.int .i64 p.idx, .int .i64 p.trm, .int .i64 p.knd], .bool true])) w' := by
  unfold AtPost; rw [h]; exact ⟨rfl, hb⟩
theorem atPost_none {b : Idt} {l : List Idt} {i : Int} {w w' : World} (h : atV b l i = none) (hb : Below w.heap.size w w') : AtPost b l i w (.returned (.tuple #[.agg #[.int .i64 0, .int .i64 0, .int .i64 0], .bool false])) w' := by
  unfold AtPost; rw [h]; exact ⟨rfl, hb⟩

set_option maxRecDepth 100000 in
set_option maxHeartbeats 2000000 in
theorem matchAt (b : Idt) (l : List Idt) (A : Option Addr) (c : Nat) (i : Int) (w : World) (h : Sl 3 idRow w.heap.size w (.slice A l.length c) l) (hb : I64 b.idx) (hi : I64 i) :
    Calls Tryd.prog 14 #[.agg #[.int .i64 b.idx, .int .i64 b.trm, .int .i64 b.knd, .slice A l.length c], .int .i64 i] w (AtPost b l i w) := by
  obtain ⟨A', cap, hv, hlc, hcm, -, hA⟩ := h
  simp only [Value.slice.injEq] at hv
  obtain ⟨rfl, -, rfl⟩ := hv
  have hn : l.length ≤ 9223372036854775807 := by unfold maxLen at hcm; omega
  have HA := Lib.hid hA
  obtain ⟨b0, b1⟩ := hb
  obtain ⟨i0, i1⟩ := hi
  have HX := Lib.hid (Box.new w #[.int .i64 b.idx, .int .i64 b.trm, .int .i64 b.knd, .slice A l.length c] 29)
  clear hcm hA
  by_cases g1 : i = b.idx
  · have e1 : (i == b.idx) = true := by simpa using g1
    have HF := Lib.hid (atV_base (l := l) g1)
    clear g1
    go_enter Tryd.func14, Tryd.ntmps14
    go_wp2_with fail
    refine bodyPost_ret (v := .tuple #[.agg #[.int .i64 b.idx, .int .i64 b.trm, .int .i64 b.knd], .bool true]) (by simp [results, Tryd.results14, go_sem]) rfl (atPost_some HF.out ?_)
    first | exact below_call (below_new _ _) (below_new _ _) | (repeat (first | exact Below.refl _ _ | exact HB.out | refine Below.alloc ?_ (by simp) _ | refine below_set ?_ (by simp)))
  have e1 : (i == b.idx) = false := by simpa using g1
  by_cases g2 : b.idx < i
  · have d2 : decide (b.idx < i) = true := decide_eq_true g2
    by_cases g3 : i - b.idx ≤ 9223372036854775807
    · obtain ⟨j, hj⟩ : ∃ j : Nat, i - b.idx - 1 = (j : Int) := ⟨(i - b.idx - 1).toNat, by omega⟩
      have j0 : (0 : Int) ≤ (j : Int) := by omega
      by_cases hlt : j < l.length
      · obtain ⟨bb, off, rfl, hbl, hcell⟩ := HA.out (by intro h; subst h; simp at hlt)
        obtain ⟨x, hx⟩ : ∃ x, l[j]? = some x := ⟨_, List.getElem?_eq_getElem hlt⟩
        have c0 : w.cell? ⟨bb, off + j * 3, none⟩ = _ := hcell j x hx 0 _ rfl
        have c1 := hcell j x hx 1 _ rfl
        have c2 := hcell j x hx 2 _ rfl
        have j1 : (j : Int) < (l.length : Int) := by omega
        by_cases hk : x.knd = 0
        · have ek : (x.knd != 0) = false := by simpa using hk
          have HF := Lib.hid (show atV b l i = none by rw [atV_in hj hx, if_pos hk])
          clear hcell hx hk
          go_enter Tryd.func14, Tryd.ntmps14
          go_wp2_with fail
          refine bodyPost_ret (v := .tuple #[.agg #[.int .i64 0, .int .i64 0, .int .i64 0], .bool false]) (by simp [results, Tryd.results14, go_sem]) rfl (atPost_none HF.out ?_)
          first | exact below_call (below_new _ _) (below_new _ _) | (repeat (first | exact Below.refl _ _ | exact HB.out | refine Below.alloc ?_ (by simp) _ | refine below_set ?_ (by simp)))
        · have ek : (x.knd != 0) = true := by simpa using hk
          have HF := Lib.hid (show atV b l i = some x by rw [atV_in hj hx, if_neg hk])
          clear hcell hx hk
          go_enter Tryd.func14, Tryd.ntmps14
          go_wp2_with fail
          refine bodyPost_ret (v := .tuple #[.agg #[.int .i64 x.idx, .int .i64 x.trm, .int .i64 x.knd], .bool true]) (by simp [results, Tryd.results14, go_sem]) rfl (atPost_some HF.out ?_)
          first | exact below_call (below_new _ _) (below_new _ _) | (repeat (first | exact Below.refl _ _ | exact HB.out | refine Below.alloc ?_ (by simp) _ | refine below_set ?_ (by simp)))
      · have j1 : (l.length : Int) ≤ (j : Int) := by omega
        have HF := Lib.hid (atV_out (b := b) (l := l) (i := i) (by omega))
        clear hlt
        go_enter Tryd.func14, Tryd.ntmps14
        go_wp2_with fail
        refine bodyPost_ret (v := .tuple #[.agg #[.int .i64 0, .int .i64 0, .int .i64 0], .bool false]) (by simp [results, Tryd.results14, go_sem]) rfl (atPost_none HF.out ?_)
        first | exact below_call (below_new _ _) (below_new _ _) | (repeat (first | exact Below.refl _ _ | exact HB.out | refine Below.alloc ?_ (by simp) _ | refine below_set ?_ (by simp)))
    · have HF := Lib.hid (atV_out (b := b) (l := l) (i := i) (by omega))
      by_cases g4 : i - b.idx = 9223372036854775808
      · have ew : wrap64 (wrap64 (i - b.idx) - 1) = 9223372036854775807 := by unfold wrap64; omega
        have j1 : (l.length : Int) ≤ 9223372036854775807 := by omega
        have d5 : decide ((9223372036854775807 : Int) < (l.length : Int)) = false := decide_eq_false (by omega)
        clear g4
        go_enter Tryd.func14, Tryd.ntmps14
        go_wp2_with fail
        refine bodyPost_ret (v := .tuple #[.agg #[.int .i64 0, .int .i64 0, .int .i64 0], .bool false]) (by simp [results, Tryd.results14, go_sem]) rfl (atPost_none HF.out ?_)
        first | exact below_call (below_new _ _) (below_new _ _) | (repeat (first | exact Below.refl _ _ | exact HB.out | refine Below.alloc ?_ (by simp) _ | refine below_set ?_ (by simp)))
      · have ew : decide (0 ≤ wrap64 (wrap64 (i - b.idx) - 1)) = false := decide_eq_false (by unfold wrap64; omega)
        have ew2 : wrap64 (wrap64 (i - b.idx) - 1) < 0 := by unfold wrap64; omega
        go_enter Tryd.func14, Tryd.ntmps14
        go_wp2_with fail
        refine bodyPost_ret (v := .tuple #[.agg #[.int .i64 0, .int .i64 0, .int .i64 0], .bool false]) (by simp [results, Tryd.results14, go_sem]) rfl (atPost_none HF.out ?_)
        first | exact below_call (below_new _ _) (below_new _ _) | (repeat (first | exact Below.refl _ _ | exact HB.out | refine Below.alloc ?_ (by simp) _ | refine below_set ?_ (by simp)))
  · have d2 : decide (b.idx < i) = false := decide_eq_false g2
    have HF := Lib.hid (atV_low (b := b) (l := l) (i := i) (by omega))
    go_enter Tryd.func14, Tryd.ntmps14
    go_wp2_with fail
    refine bodyPost_ret (v := .tuple #[.agg #[.int .i64 0, .int .i64 0, .int .i64 0], .bool false]) (by simp [results, Tryd.results14, go_sem]) rfl (atPost_none HF.out ?_)
    first | exact below_call (below_new _ _) (below_new _ _) | (repeat (first | exact Below.refl _ _ | exact HB.out | refine Below.alloc ?_ (by simp) _ | refine below_set ?_ (by simp)))

end Go.Proofs.YthadfdpdillemaaDoor
/-
  lead's sent: contract.
-/
set_option linter.unusedVariables false
set_option linter.unusedSimpArgs false
namespace Go.Proofs.YthadfdpdillemaaDoor
open Go.RowKit
theorem at_none {P : Program} {f : FuncId} {args : Array Value} {b : Idt} {l : List Idt} {i : Int} {w : World} (h : Calls P f args w (AtPost b l i w)) (ha : atV b l i = none) : Calls P f args w fun e w' => e = .returned (.tuple #[.agg #[.int .i64 0, .int .i64 0, .int .i64 0], .bool false]) ∧ Below w.heap.size w w' := by
  unfold AtPost at h; rw [ha] at h; exact h
theorem at_some {P : Program} {f : FuncId} {args : Array Value} {b p : Idt} {l : List Idt} {i : Int} {w : World} (h : Calls P f args w (AtPost b l i w)) (ha : atV b l i = some p) : Calls P f args w fun e w' => e = .returned (.tuple #[.agg #[.int .i64 p.idx, .int .i64 p.trm, .int .i64 p.knd], .bool true]) ∧ Below w.heap.size w w' := by
  unfold AtPost at h; rw [ha] at h; exact h
theorem bodyPost_box {P : Program} {f : Func} {Q : Ending → World → Prop} {x : Exit} {a : Act} {W w : World} {g B : Nat} {cs : Array Value} {t : TypeId} (hb : Box W g cs t) (hB : Below B w W) (k : ∀ W', Box W' g cs t → Below B w W' → bodyPost P f Q x a W') : bodyPost P f Q x a W := k W hb hB
theorem box_drew {w : World} {n : Nat} {cs : Array Value} {t : TypeId} (h : Box w n cs t) : Box w.drew n cs t := h
theorem Box.set6 {w : World} {n : Nat} {a b c d e f : Value} {t : TypeId} (h : Box w n #[a, b, c, d, e, f] t) (x y z u v s : Value) :
    Box ((((((w.setCell ⟨n, 0, none⟩ x).setCell ⟨n, 1, none⟩ y).setCell ⟨n, 2, none⟩ z).setCell ⟨n, 3, none⟩ u).setCell ⟨n, 4, none⟩ v).setCell ⟨n, 5, none⟩ s) n #[x, y, z, u, v, s] t := (((((h.set_ 0 x).set_ 1 y).set_ 2 z).set_ 3 u).set_ 4 v).set_ 5 s
theorem below_set6 {B : Nat} {a w : World} {n : Nat} (h : Below B a w) (hn : B ≤ n) (x y z u v s : Value) :
    Below B a ((((((w.setCell ⟨n, 0, none⟩ x).setCell ⟨n, 1, none⟩ y).setCell ⟨n, 2, none⟩ z).setCell ⟨n, 3, none⟩ u).setCell ⟨n, 4, none⟩ v).setCell ⟨n, 5, none⟩ s) :=
  below_set (below_set (below_set (below_set (below_set (below_set h hn) hn) hn) hn) hn) hn
theorem Box.far6 {w : World} {n g : Nat} {cs : Array Value} {t : TypeId} (h : Box w n cs t) (hg : n ≠ g) (x y z u v s : Value) :
    Box ((((((w.setCell ⟨g, 0, none⟩ x).setCell ⟨g, 1, none⟩ y).setCell ⟨g, 2, none⟩ z).setCell ⟨g, 3, none⟩ u).setCell ⟨g, 4, none⟩ v).setCell ⟨g, 5, none⟩ s) n cs t :=
  (((((h.far (p := ⟨g, 0, none⟩) hg x).far (p := ⟨g, 1, none⟩) hg y).far (p := ⟨g, 2, none⟩) hg z).far (p := ⟨g, 3, none⟩) hg u).far (p := ⟨g, 4, none⟩) hg v).far (p := ⟨g, 5, none⟩) hg s
end Go.Proofs.YthadfdpdillemaaDoor
/-
  WHAT errors.errorType HOLDS, and the model's words on two interface values of one integer type.
-/
set_option linter.unusedVariables false
namespace Go.Proofs.YthadfdpdillemaaDoor
open Go.RowKit Go.Extern.Stop Go.Stop Go.Extern

theorem run_equalIn_iface_int {P : Program} (w : World) (d : Nat) {ti tn : TypeId} {ms : Array (String × TypeId)} {i : TypeInfo} {k : IntKind} (a b : Int)
    (hi : P.underlying ti = some (.interface ms)) (hn : P.underlying tn = some (.int k)) (hinfo : P.info? tn = some i) (hcomp : i.comparable = true) :
    (Op.equalIn (d + 2) ti (.iface tn (.int k a)) (.iface tn (.int k b))).run P w = .ok (a == b) w := by
  simp [Op.equalIn, run_underlying hi, run_underlying hn, typeInfo, hinfo, hcomp]
/-- 'x == y', both interface values of ONE integer type: as the numbers are. -/
theorem run_eql_iface_int {P : Program} (w : World) {ti tn : TypeId} {ms : Array (String × TypeId)} {i : TypeInfo} {k : IntKind} (a b : Int)
    (hi : P.underlying ti = some (.interface ms)) (hn : P.underlying tn = some (.int k)) (hinfo : P.info? tn = some i) (hcomp : i.comparable = true) :
    (binOp .eql ti (.iface tn (.int k a)) (.iface tn (.int k b))).run P w = .ok (.bool (a == b)) w := by
  simp only [binOp]
  simp [Op.equal, Op.maxDepth, run_equalIn_iface_int w 9998 a b hi hn hinfo hcomp]

/-- What errors.errorType holds (laid by the row). -/
def errTypeIs (w : World) : Prop := w.cell? ⟨0, 0, none⟩ = some (.iface 164 (.agg #[.pointer (some ⟨1, 83, none⟩)]))
theorem errType_later {w w' : World} (h : errTypeIs w) (hb : Below w.heap.size w w') : errTypeIs w' := (hb.cell (p := ⟨0, 0, none⟩) (World.block_lt_of_cell? _ _ h)).trans h
theorem errType_but {w w' : World} {g : Nat} (h : errTypeIs w) (hb : But g w w') (hg : 0 < g) : errTypeIs w' := by
  have hz := World.block_lt_of_cell? _ _ h
  unfold errTypeIs at h ⊢
  rw [World.cell?_of_block (a := ⟨0, 0, none⟩) (w := w) (hb.2.2.2.2 0 hz (by omega))]; exact h
end Go.Proofs.YthadfdpdillemaaDoor
