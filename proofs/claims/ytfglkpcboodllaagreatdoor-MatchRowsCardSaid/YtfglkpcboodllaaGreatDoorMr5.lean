/-
  Merged: MatchAt, LeadSent, ErrType, ErrLead, ErrLead2, ErrLead3, Ent, Append, Ent2.
-/
import Derived.Test.YtfglkpcboodllaaGreatDoorMr1
import Derived.Test.YtfglkpcboodllaaGreatDoorMr4
import Derived.Test.YtfglkpcboodllaaGreatDoorMr2
import Derived.Deep.RegionHeld3
import Derived.Deep.DeepCutAuto
import Derived.StillTailTactics
import Derived.Test.YtfglkpcboodllaaGreatDoorProg
import Derived.Test.YtfglkpcboodllaaGreatDoorMr3
import Derived.WalkLawsBesides
import Derived.LaidEql
import Derived.Stop.Asserts
import Derived.RowKitTokens
import Derived.Lib.Hide
import Derived.OwnWalk
/-
  match's At: contract.
-/
set_option linter.unusedVariables false
set_option linter.unusedSimpArgs false
namespace Go.Proofs.YtfglkpcboodllaaGreatDoor
open Go.RowKit

def AtPost (b : Idt) (l : List Idt) (i : Int) (w : World) (e : Ending) (w' : World) : Prop :=
  e = .returned (.tuple #[.agg #[.int .i64 (atP (atV b l i)).idx, .int .i64 (atP (atV b l i)).trm, .int .i64 (atP (atV b l i)).knd], .bool (atV b l i).isSome]) ∧ Below w.heap.size w w'
theorem atPost_some {b p : Idt} {l : List Idt} {i : Int} {w w' : World} (h : atV b l i = some p) (hb : Below w.heap.size w w') : AtPost b l i w (.returned (.tuple #[.agg #[.int .i64 p.idx, .int .i64 p.trm, .int .i64 p.knd], .bool true])) w' := by
  unfold AtPost; rw [h]; exact ⟨rfl, hb⟩
theorem atPost_none {b : Idt} {l : List Idt} {i : Int} {w w' : World} (h : atV b l i = none) (hb : Below w.heap.size w w') : AtPost b l i w (.returned (.tuple #[.agg #[.int .i64 0, .int .i64 0, .int .i64 0], .bool false])) w' := by
  unfold AtPost; rw [h]; exact ⟨rfl, hb⟩

set_option maxRecDepth 100000 in
set_option maxHeartbeats 2000000 in
theorem matchAt (b : Idt) (l : List Idt) (A : Option Addr) (c : Nat) (i : Int) (w : World) (h : Sl 3 idRow w.heap.size w (.slice A l.length c) l) (hb : I64 b.idx) (hi : I64 i) :
    Calls Tryz.prog 19 #[.agg #[.int .i64 b.idx, .int .i64 b.trm, .int .i64 b.knd, .slice A l.length c], .int .i64 i] w (AtPost b l i w) := by
  obtain ⟨A', cap, hv, hlc, hcm, -, hA⟩ := h
  simp only [Value.slice.injEq] at hv
  obtain ⟨rfl, -, rfl⟩ := hv
  have hn : l.length ≤ 9223372036854775807 := by unfold maxLen at hcm; omega
  have HA := Lib.hid hA
  obtain ⟨b0, b1⟩ := hb
  obtain ⟨i0, i1⟩ := hi
  have HX := Lib.hid (Box.new w #[.int .i64 b.idx, .int .i64 b.trm, .int .i64 b.knd, .slice A l.length c] 36)
  clear hcm hA
  by_cases g1 : i = b.idx
  · have e1 : (i == b.idx) = true := by simpa using g1
    have HF := Lib.hid (atV_base (l := l) g1)
    clear g1
    go_enter Tryz.func19, Tryz.ntmps19
    go_wp2_with fail
    refine bodyPost_ret (v := .tuple #[.agg #[.int .i64 b.idx, .int .i64 b.trm, .int .i64 b.knd], .bool true]) (by simp [results, Tryz.results19, go_sem]) rfl (atPost_some HF.out ?_)
    first | exact below_call (below_new _ _) (below_new _ _) | (repeat (first | exact Below.refl _ _ | exact HB.out | refine Below.alloc ?_ (by simp) _ | refine below_set ?_ (by simp)))
  have e1 : (i == b.idx) = false := by simpa using g1
  by_cases g2 : b.idx < i
  · have d2 : decide (b.idx < i) = true := decide_eq_true g2
    by_cases g3 : i - b.idx ≤ 9223372036854775807
    · obtain ⟨j, hj⟩ : ∃ j : Nat, i - b.idx - 1 = (j : Int) := ⟨(i - b.idx - 1).toNat, by omega⟩
      have j0 : (0 : Int) ≤ (j : Int) := by omega
      by_cases hlt : j < l.length
      · obtain ⟨bb, off, rfl, hbl, hcell⟩ := HA.out (by intro h; subst h; simp at hlt)
        obtain ⟨x, hx⟩ : ∃ x, l[j]? = some x := ⟨_, List.getElem?_eq_getElem hlt⟩
        have c0 : w.cell? ⟨bb, off + j * 3, none⟩ = _ := hcell j x hx 0 _ rfl
        have c1 := hcell j x hx 1 _ rfl
        have c2 := hcell j x hx 2 _ rfl
        have j1 : (j : Int) < (l.length : Int) := by omega
        by_cases hk : x.knd = 0
        · have ek : (x.knd != 0) = false := by simpa using hk
          have HF := Lib.hid (show atV b l i = none by rw [atV_in hj hx, if_pos hk])
          clear hcell hx hk
          go_enter Tryz.func19, Tryz.ntmps19
          go_wp2_with fail
          refine bodyPost_ret (v := .tuple #[.agg #[.int .i64 0, .int .i64 0, .int .i64 0], .bool false]) (by simp [results, Tryz.results19, go_sem]) rfl (atPost_none HF.out ?_)
          first | exact below_call (below_new _ _) (below_new _ _) | (repeat (first | exact Below.refl _ _ | exact HB.out | refine Below.alloc ?_ (by simp) _ | refine below_set ?_ (by simp)))
        · have ek : (x.knd != 0) = true := by simpa using hk
          have HF := Lib.hid (show atV b l i = some x by rw [atV_in hj hx, if_neg hk])
          clear hcell hx hk
          go_enter Tryz.func19, Tryz.ntmps19
          go_wp2_with fail
          refine bodyPost_ret (v := .tuple #[.agg #[.int .i64 x.idx, .int .i64 x.trm, .int .i64 x.knd], .bool true]) (by simp [results, Tryz.results19, go_sem]) rfl (atPost_some HF.out ?_)
          first | exact below_call (below_new _ _) (below_new _ _) | (repeat (first | exact Below.refl _ _ | exact HB.out | refine Below.alloc ?_ (by simp) _ | refine below_set ?_ (by simp)))
      · have j1 : (l.length : Int) ≤ (j : Int) := by omega
        have HF := Lib.hid (atV_out (b := b) (l := l) (i := i) (by omega))
        clear hlt
        go_enter Tryz.func19, Tryz.ntmps19
        go_wp2_with fail
        refine bodyPost_ret (v := .tuple #[.agg #[.int .i64 0, .int .i64 0, .int .i64 0], .bool false]) (by simp [results, Tryz.results19, go_sem]) rfl (atPost_none HF.out ?_)
        first | exact below_call (below_new _ _) (below_new _ _) | (repeat (first | exact Below.refl _ _ | exact HB.out | refine Below.alloc ?_ (by simp) _ | refine below_set ?_ (by simp)))
    · have HF := Lib.hid (atV_out (b := b) (l := l) (i := i) (by omega))
      by_cases g4 : i - b.idx = 9223372036854775808
      · have ew : wrap64 (wrap64 (i - b.idx) - 1) = 9223372036854775807 := by unfold wrap64; omega
        have j1 : (l.length : Int) ≤ 9223372036854775807 := by omega
        have d5 : decide ((9223372036854775807 : Int) < (l.length : Int)) = false := decide_eq_false (by omega)
        clear g4
        go_enter Tryz.func19, Tryz.ntmps19
        go_wp2_with fail
        refine bodyPost_ret (v := .tuple #[.agg #[.int .i64 0, .int .i64 0, .int .i64 0], .bool false]) (by simp [results, Tryz.results19, go_sem]) rfl (atPost_none HF.out ?_)
        first | exact below_call (below_new _ _) (below_new _ _) | (repeat (first | exact Below.refl _ _ | exact HB.out | refine Below.alloc ?_ (by simp) _ | refine below_set ?_ (by simp)))
      · have ew : decide (0 ≤ wrap64 (wrap64 (i - b.idx) - 1)) = false := decide_eq_false (by unfold wrap64; omega)
        have ew2 : wrap64 (wrap64 (i - b.idx) - 1) < 0 := by unfold wrap64; omega
        go_enter Tryz.func19, Tryz.ntmps19
        go_wp2_with fail
        refine bodyPost_ret (v := .tuple #[.agg #[.int .i64 0, .int .i64 0, .int .i64 0], .bool false]) (by simp [results, Tryz.results19, go_sem]) rfl (atPost_none HF.out ?_)
        first | exact below_call (below_new _ _) (below_new _ _) | (repeat (first | exact Below.refl _ _ | exact HB.out | refine Below.alloc ?_ (by simp) _ | refine below_set ?_ (by simp)))
  · have d2 : decide (b.idx < i) = false := decide_eq_false g2
    have HF := Lib.hid (atV_low (b := b) (l := l) (i := i) (by omega))
    go_enter Tryz.func19, Tryz.ntmps19
    go_wp2_with fail
    refine bodyPost_ret (v := .tuple #[.agg #[.int .i64 0, .int .i64 0, .int .i64 0], .bool false]) (by simp [results, Tryz.results19, go_sem]) rfl (atPost_none HF.out ?_)
    first | exact below_call (below_new _ _) (below_new _ _) | (repeat (first | exact Below.refl _ _ | exact HB.out | refine Below.alloc ?_ (by simp) _ | refine below_set ?_ (by simp)))

end Go.Proofs.YtfglkpcboodllaaGreatDoor
/-
  lead's sent: contract.
-/
set_option linter.unusedVariables false
set_option linter.unusedSimpArgs false
namespace Go.Proofs.YtfglkpcboodllaaGreatDoor
open Go.RowKit
theorem at_none {P : Program} {f : FuncId} {args : Array Value} {b : Idt} {l : List Idt} {i : Int} {w : World} (h : Calls P f args w (AtPost b l i w)) (ha : atV b l i = none) : Calls P f args w fun e w' => e = .returned (.tuple #[.agg #[.int .i64 0, .int .i64 0, .int .i64 0], .bool false]) ∧ Below w.heap.size w w' := by
  unfold AtPost at h; rw [ha] at h; exact h
theorem at_some {P : Program} {f : FuncId} {args : Array Value} {b p : Idt} {l : List Idt} {i : Int} {w : World} (h : Calls P f args w (AtPost b l i w)) (ha : atV b l i = some p) : Calls P f args w fun e w' => e = .returned (.tuple #[.agg #[.int .i64 p.idx, .int .i64 p.trm, .int .i64 p.knd], .bool true]) ∧ Below w.heap.size w w' := by
  unfold AtPost at h; rw [ha] at h; exact h
theorem bodyPost_box {P : Program} {f : Func} {Q : Ending → World → Prop} {x : Exit} {a : Act} {W w : World} {g B : Nat} {cs : Array Value} {t : TypeId} (hb : Box W g cs t) (hB : Below B w W) (k : ∀ W', Box W' g cs t → Below B w W' → bodyPost P f Q x a W') : bodyPost P f Q x a W := k W hb hB
theorem box_drew {w : World} {n : Nat} {cs : Array Value} {t : TypeId} (h : Box w n cs t) : Box w.drew n cs t := h
theorem Box.set6 {w : World} {n : Nat} {a b c d e f : Value} {t : TypeId} (h : Box w n #[a, b, c, d, e, f] t) (x y z u v s : Value) :
    Box ((((((w.setCell ⟨n, 0, none⟩ x).setCell ⟨n, 1, none⟩ y).setCell ⟨n, 2, none⟩ z).setCell ⟨n, 3, none⟩ u).setCell ⟨n, 4, none⟩ v).setCell ⟨n, 5, none⟩ s) n #[x, y, z, u, v, s] t := (((((h.set_ 0 x).set_ 1 y).set_ 2 z).set_ 3 u).set_ 4 v).set_ 5 s
theorem below_set6 {B : Nat} {a w : World} {n : Nat} (h : Below B a w) (hn : B ≤ n) (x y z u v s : Value) :
    Below B a ((((((w.setCell ⟨n, 0, none⟩ x).setCell ⟨n, 1, none⟩ y).setCell ⟨n, 2, none⟩ z).setCell ⟨n, 3, none⟩ u).setCell ⟨n, 4, none⟩ v).setCell ⟨n, 5, none⟩ s) :=
  below_set (below_set (below_set (below_set (below_set (below_set h hn) hn) hn) hn) hn) hn
theorem Box.far6 {w : World} {n g : Nat} {cs : Array Value} {t : TypeId} (h : Box w n cs t) (hg : n ≠ g) (x y z u v s : Value) :
    Box ((((((w.setCell ⟨g, 0, none⟩ x).setCell ⟨g, 1, none⟩ y).setCell ⟨g, 2, none⟩ z).setCell ⟨g, 3, none⟩ u).setCell ⟨g, 4, none⟩ v).setCell ⟨g, 5, none⟩ s) n cs t :=
  (((((h.far (p := ⟨g, 0, none⟩) hg x).far (p := ⟨g, 1, none⟩) hg y).far (p := ⟨g, 2, none⟩) hg z).far (p := ⟨g, 3, none⟩) hg u).far (p := ⟨g, 4, none⟩) hg v).far (p := ⟨g, 5, none⟩) hg s
end Go.Proofs.YtfglkpcboodllaaGreatDoor
/-
  WHAT errors.errorType HOLDS, and the model's words on two interface values of one integer type.
-/
set_option linter.unusedVariables false
namespace Go.Proofs.YtfglkpcboodllaaGreatDoor
open Go.RowKit Go.Extern.Stop Go.Stop Go.Extern

theorem run_equalIn_iface_int {P : Program} (w : World) (d : Nat) {ti tn : TypeId} {ms : Array (String × TypeId)} {i : TypeInfo} {k : IntKind} (a b : Int)
    (hi : P.underlying ti = some (.interface ms)) (hn : P.underlying tn = some (.int k)) (hinfo : P.info? tn = some i) (hcomp : i.comparable = true) :
    (Op.equalIn (d + 2) ti (.iface tn (.int k a)) (.iface tn (.int k b))).run P w = .ok (a == b) w := by
  simp [Op.equalIn, run_underlying hi, run_underlying hn, typeInfo, hinfo, hcomp]
/-- 'x == y', both interface values of ONE integer type: as the numbers are. -/
theorem run_eql_iface_int {P : Program} (w : World) {ti tn : TypeId} {ms : Array (String × TypeId)} {i : TypeInfo} {k : IntKind} (a b : Int)
    (hi : P.underlying ti = some (.interface ms)) (hn : P.underlying tn = some (.int k)) (hinfo : P.info? tn = some i) (hcomp : i.comparable = true) :
    (binOp .eql ti (.iface tn (.int k a)) (.iface tn (.int k b))).run P w = .ok (.bool (a == b)) w := by
  simp only [binOp]
  simp [Op.equal, Op.maxDepth, run_equalIn_iface_int w 9998 a b hi hn hinfo hcomp]

/-- What errors.errorType holds (laid by the row). -/
def errTypeIs (w : World) : Prop := w.cell? ⟨0, 0, none⟩ = some (.iface 214 (.agg #[.pointer (some ⟨1, 113, none⟩)]))
theorem errType_later {w w' : World} (h : errTypeIs w) (hb : Below w.heap.size w w') : errTypeIs w' := (hb.cell (p := ⟨0, 0, none⟩) (World.block_lt_of_cell? _ _ h)).trans h
theorem errType_but {w w' : World} {g : Nat} (h : errTypeIs w) (hb : But g w w') (hg : 0 < g) : errTypeIs w' := by
  have hz := World.block_lt_of_cell? _ _ h
  unfold errTypeIs at h ⊢
  rw [World.cell?_of_block (a := ⟨0, 0, none⟩) (w := w) (hb.2.2.2.2 0 hz (by omega))]; exact h
end Go.Proofs.YtfglkpcboodllaaGreatDoor
/-
  errors.Is, errors.As at ErrLead's errors: contracts. Go's own text of them is walked.
-/
set_option linter.unusedVariables false
namespace Go.Proofs.YtfglkpcboodllaaGreatDoor.LeadE
open Go.RowKit Go.Extern.Stop Go.Stop Go.Extern
theorem eMethodComparable (v : Value) (w : World) : (Go.method 398 214 v "Comparable").run Tryz.prog w = .ok (208, v) w := by kernel_rfl
end Go.Proofs.YtfglkpcboodllaaGreatDoor.LeadE
/-
  errors.As at ErrLead's errors.
-/
set_option linter.unusedVariables false
set_option linter.unusedSimpArgs false
namespace Go.Proofs.YtfglkpcboodllaaGreatDoor.LeadE
open Go.RowKit Go.Extern.Stop Go.Stop Go.Extern

theorem parts150 (h : Value) (a : Addr) : ReflectliteValue.partsAny (.agg #[h, .pointer (some a), .int .u64 150]) = (do pure (some (← Rtype.ofHandle h, a, 150))) := rfl
theorem parts130 (h : Value) (a : Addr) : ReflectliteValue.partsAny (.agg #[h, .pointer (some a), .int .u64 130]) = (do pure (some (← Rtype.ofHandle h, a, 130))) := rfl
theorem parts386 (h : Value) (a : Addr) : ReflectliteValue.partsAny (.agg #[h, .pointer (some a), .int .u64 386]) = (do pure (some (← Rtype.ofHandle h, a, 386))) := rfl
section
variable (w : World)
end
end Go.Proofs.YtfglkpcboodllaaGreatDoor.LeadE
/-
  errors.As at ErrLead's errors: the contracts.
-/
set_option linter.unusedVariables false
namespace Go.Proofs.YtfglkpcboodllaaGreatDoor.LeadE
open Go.RowKit Go.Extern.Stop Go.Stop Go.Extern
set_option maxHeartbeats 400000 in
theorem as_nil (v : Value) (w : World) : Calls Tryz.prog 80 #[.nilIface, v] w fun e w' => e = .returned (.bool false) ∧ w = w' := by
  go_enter Tryz.func80, Tryz.ntmps80
  go_wp2
  go_ret
  exact ⟨rfl, rfl⟩

end Go.Proofs.YtfglkpcboodllaaGreatDoor.LeadE
/-
  THE PACKAGE entry, 1: members: contracts.
-/
set_option linter.unusedVariables false
namespace Go.Proofs.YtfglkpcboodllaaGreatDoor
open Go.RowKit

set_option maxHeartbeats 400000 in
theorem entryRight (l : List Int) (v : Value) (w : World) (h : Sl 1 i64Row w.heap.size w v l) :
    Calls Tryz.prog 67 #[v] w fun e w' => e = .returned (.bool (memRight l)) ∧ w = w' := by
  obtain ⟨A, cap, rfl, hlc, hcm, -, hA⟩ := h
  have hn : l.length ≤ 9223372036854775807 := by unfold maxLen at hcm; omega
  clear hcm
  go_enter Tryz.func67, Tryz.ntmps67
  go_wp2_with fail
  go_loop [3, 4, 7] (fun _ _ j => ∃ (k : Nat) (p : Int), k ≤ l.length ∧ j = .int .i64 k ∧ memFrom 0 l = memFrom p (l.drop k) ∧ (0 < k → l[k - 1]? = some p) ∧ (k = 0 → p = 0)) (fun _ _ j => l.length - (intOf j).toNat)
  case atStart => exact ⟨0, 0, by omega, rfl, by simp, by simp, by simp⟩
  case round =>
    obtain ⟨k, p, hk, rfl, hm, hp, h0⟩ := hrel
    by_cases hlt : k < l.length
    · obtain ⟨b, off, rfl, hb, hcell⟩ := hA (by intro h; subst h; simp at hlt)
      obtain ⟨x, hx⟩ : ∃ x, l[k]? = some x := ⟨_, List.getElem?_eq_getElem hlt⟩
      have c0 : w.cell? ⟨b, off + k, none⟩ = some (.int .i64 x) := by simpa using hcell k x hx 0 _ rfl
      have cp : 0 < k → w.cell? ⟨b, off + (k - 1), none⟩ = some (.int .i64 p) := fun h => by simpa using hcell (k - 1) p (hp h) 0 _ rfl
      have HM : Hid (memFrom 0 l = (decide (1 ≤ x ∧ x ≤ 7 ∧ p < x) && memFrom x (l.drop (k + 1)))) := by rw [hm, drop_at hx]; rfl
      have HX := Lib.hid hx
      have HE : Hid (l.isEmpty = false) := by cases l <;> first | rfl | simp at hlt
      have H0 := Lib.hid h0
      clear hcell hx hm hp h0
      go_wp2
      all_goals first
        | (go_roundw
           case rel => exact ⟨k + 1, x, by omega, by go_num, by rw [HM.out, show decide (1 ≤ x ∧ x ≤ 7 ∧ p < x) = true from decide_eq_true (by first | omega | (have := H0.out (by omega); omega))]; rfl, fun _ => HX.out, by omega⟩
           case measure => simp [intOf]; omega)
        | (go_ret
           exact ⟨ret_bool (by rw [memRight, HM.out, show decide (1 ≤ x ∧ x ≤ 7 ∧ p < x) = false from decide_eq_false (by omega)]; rfl), rfl⟩)
    · have : k = l.length := by omega
      subst this
      have HM := Lib.hid (show memFrom 0 l = true by rw [hm]; simp [memFrom])
      clear hm hp h0
      go_wp2
      go_ret
      exact ⟨ret_bool (by rw [memRight, HM.out]; cases l <;> simp), rfl⟩


end Go.Proofs.YtfglkpcboodllaaGreatDoor
/-
  'append(out, l...)' at a step of a region that draws: laws that name no program.
-/
set_option linter.unusedVariables false
namespace Go.Proofs.YtfglkpcboodllaaGreatDoor
open Go.RowKit

section
variable {α : Type} {P : Program}
/-- l a slice that reads as a list: nil, empty or not. -/
theorem wp_append_all {w : World} {o : Oper} {a : Act} {K : Act → World → Prop} {Q : Exit → Act → World → Prop} (s y : Operand) (t : TypeId)
    (ho : o.op = .call { callee := .builtin .append, args := #[s, y], argTypes := #[t, t] })
    (base : Nat) (e : TypeId) (z : Value) (k bytes : Nat) (ht : P.underlying t = some (.slice e)) (hinfo : (P.info? e).map (fun i => (i.zero, i.size, i.bytes)) = some (some z, k, bytes)) (hzs : z.cells.size = k) (hk0 : 0 < k)
    (row : α → List Value) (hrow : ∀ x, (row x).length = k) (hone : ∀ x, ∀ u ∈ row x, u.oneCell' = true)
    (l0 : List α) (v : Value) (hs : a.eval s = v) (hown : Own k row e base w v l0) (l : List α) (B : Nat) (vs : Value) (hsl : Sl k row B w vs l) (hy : a.eval y = vs)
    (h63 : l0.length + l.length ≤ 4294967296) (hbytes : bytes ≤ 4096) (hbase : base ≤ w.heap.size)
    (h : ∀ v' w', Own k row e base w' v' (l0 ++ l) → Below base w w' → w.heap.size ≤ w'.heap.size → (∀ g, g < w.heap.size → some g ≠ v.ownBlock → w'.heap[g]? = w.heap[g]?) → (v' = .slice none 0 0 → v = .slice none 0 0 ∧ l = []) → K (a.put o.dst v') w') : o.wp P a w K Q := by
  obtain ⟨i, hi, hz, hsz, hby⟩ := info_parts hinfo
  obtain ⟨A, cap, rfl, h1, h2, hN, hA⟩ := hsl
  cases A with
  | none =>
    have hc0 := hN rfl
    have hl : l = [] := List.eq_nil_of_length_eq_zero (by omega)
    subst hl; subst hc0
    have hrun := run_append_owned_none (P := P) (w := w) base t o.type e i k ht hi v l0.length (l0.flatMap row) hown
    unfold Oper.wp
    have hy' : a.eval y = .slice none 0 0 := hy
    simp [execOp, ho, resolve, invoke, builtin, hs, hy', hrun, Result.andThen]
    exact h v w (by simpa using hown) (Below.refl _ _) (Nat.le_refl _) (fun _ _ _ => rfl) (fun h => ⟨h, rfl⟩)
  | some ad =>
    refine wp_append_own w s y t ho base e i z k bytes ht hi hz hsz hby hzs hk0 v l0.length (l0.flatMap row) hs hown ad l.length cap (l.flatMap row) hy (flat_length hrow l) ?_ ?_ (by unfold maxLen; omega) ?_ hbase ?_
    · intro j u hu
      obtain ⟨i', x, j', e1, e2, rfl⟩ := flat_inv hrow l j u hu
      obtain ⟨b, off, hb, _, hc⟩ := hA (by rintro rfl; simp at e1)
      injection hb with hb
      subst hb
      rw [Addr.add_lit, ← Nat.add_assoc]
      exact hc i' x e1 j' u e2
    · intro u hu
      obtain ⟨x, _, hx⟩ := List.mem_flatMap.1 hu
      exact hone x u hx
    · calc (l0.length + l.length) * bytes ≤ 4294967296 * 4096 := Nat.mul_le_mul h63 hbytes
        _ ≤ 140737488355328 := by omega
    · intro v' w' h1 h2 h3
      have hb : ∀ g, v.ownBlock = some g → base ≤ g := fun g hg => (World.ownsRow.lt hown g hg).1
      refine h v' w' ?_ ((Below.refl base w).grown h2 hbase hb) h2.size (fun g hg hne => h2.block g hg hne) (fun hv => ?_)
      · unfold Own; rw [List.flatMap_append, List.length_append]; exact h1
      · obtain ⟨e1, e2⟩ := h3.1 hv
        exact ⟨e1, List.eq_nil_of_length_eq_zero e2⟩
theorem step_append_all {w : World} {ops : Array Oper} {o : Oper} {a : Act} {K : Act → World → Prop} {Q : Exit → Act → World → Prop} {E : Prop} (hgd : o.guard = none) (s y : Operand) (t : TypeId)
    (ho : o.op = .call { callee := .builtin .append, args := #[s, y], argTypes := #[t, t] })
    (base : Nat) (e : TypeId) (z : Value) (k bytes : Nat) (ht : P.underlying t = some (.slice e)) (hinfo : (P.info? e).map (fun i => (i.zero, i.size, i.bytes)) = some (some z, k, bytes)) (hzs : z.cells.size = k) (hk0 : 0 < k)
    (row : α → List Value) (hrow : ∀ x, (row x).length = k) (hone : ∀ x, ∀ u ∈ row x, u.oneCell' = true)
    (l0 : List α) (v : Value) (hs : a.eval s = v) (hown : Own k row e base w v l0) (l : List α) (B : Nat) (vs : Value) (hsl : Sl k row B w vs l) (hy : a.eval y = vs)
    (h63 : l0.length + l.length ≤ 4294967296) (hbytes : bytes ≤ 4096) (hbase : base ≤ w.heap.size)
    (h : ∀ v' w', Own k row e base w' v' (l0 ++ l) → Below base w w' → w.heap.size ≤ w'.heap.size → (∀ g, g < w.heap.size → some g ≠ v.ownBlock → w'.heap[g]? = w.heap[g]?) → (v' = .slice none 0 0 → v = .slice none 0 0 ∧ l = []) → K (a.put o.dst v') w') :
    if Region.wanted o (yielded ops a.tmps) = true then Oper.wp P o a w K Q else E := by
  have hw : Region.wanted o (yielded ops a.tmps) = true := by simp [Region.wanted, hgd]
  rw [if_pos hw]
  exact wp_append_all s y t ho base e z k bytes ht hinfo hzs hk0 row hrow hone l0 v hs hown l B vs hsl hy h63 hbytes hbase h
theorem step_append_any {w : World} {ops : Array Oper} {o : Oper} {a : Act} {K : Act → World → Prop} {Q : Exit → Act → World → Prop} {E : Prop} (hgd : o.guard = none) (s y : Operand) (t : TypeId)
    (ho : o.op = .call { callee := .builtin .append, args := #[s, y], argTypes := #[t, t] })
    (base : Nat) (e : TypeId) (z : Value) (k bytes : Nat) (ht : P.underlying t = some (.slice e)) (hinfo : (P.info? e).map (fun i => (i.zero, i.size, i.bytes)) = some (some z, k, bytes)) (hzs : z.cells.size = k) (hk0 : 0 < k)
    (row : α → List Value) (hrow : ∀ x, (row x).length = k) (hone : ∀ x, ∀ u ∈ row x, u.oneCell' = true)
    (l0 : List α) (v : Value) (hs : a.eval s = v) (hown : Own k row e base w v l0) (l : List α) (vs : Value) (hsl : ∃ B, Sl k row B w vs l) (hy : a.eval y = vs)
    (h63 : l0.length + l.length ≤ 4294967296) (hbytes : bytes ≤ 4096) (hbase : base ≤ w.heap.size)
    (h : ∀ v' w', Own k row e base w' v' (l0 ++ l) → Below base w w' → w.heap.size ≤ w'.heap.size → (∀ g, g < w.heap.size → some g ≠ v.ownBlock → w'.heap[g]? = w.heap[g]?) → (v' = .slice none 0 0 → v = .slice none 0 0 ∧ l = []) → K (a.put o.dst v') w') :
    if Region.wanted o (yielded ops a.tmps) = true then Oper.wp P o a w K Q else E := by
  obtain ⟨B, hsl⟩ := hsl
  exact step_append_all hgd s y t ho base e z k bytes ht hinfo hzs hk0 row hrow hone l0 v hs hown l B vs hsl hy h63 hbytes hbase h
end
/-- A block that is known whole, as a list of rows. -/
theorem Box.sl {α : Type} {row : α → List Value} {k : Nat} (hrow : ∀ x, (row x).length = k) {w : World} {n : Nat} {t : TypeId} (l : List α) {cs : Array Value} (h : Box w n cs t) (hcs : cs = (l.flatMap row).toArray) (hl : l.length ≤ maxLen) :
    Sl k row w.heap.size w (.slice (some ⟨n, 0, none⟩) l.length l.length) l := by
  refine ⟨_, _, rfl, Nat.le_refl _, hl, fun h => by simp at h, fun _ => ⟨n, 0, rfl, h.lt, fun i x hx j u hu => ?_⟩⟩
  rw [Nat.zero_add, h.cell, hcs]
  simpa using flat_at hrow l i x hx j u hu
end Go.Proofs.YtfglkpcboodllaaGreatDoor
/-
  THE PACKAGE entry, 2: what is right, members of bytes: contracts.
-/
set_option linter.unusedVariables false
set_option linter.unusedSimpArgs false
namespace Go.Proofs.YtfglkpcboodllaaGreatDoor
open Go.RowKit

set_option maxHeartbeats 400000 in
theorem within (n least : Int) (b : Bool) (hb : (decide (least ≤ n) && decide (n ≤ 1099511627776)) = b) (w : World) :
    Calls Tryz.prog 155 #[.int .i64 n, .int .i64 least] w fun e w' => e = .returned (.bool b) ∧ w = w' := by
  by_cases h1 : least ≤ n
  · have d1 : decide (least ≤ n) = true := decide_eq_true h1
    by_cases h2 : n ≤ 1099511627776
    · have d2 : decide (n ≤ 1099511627776) = true := decide_eq_true h2
      have HB := Lib.hid (show true = b by rw [← hb, d1, d2]; rfl)
      clear hb
      go_enter Tryz.func155, Tryz.ntmps155
      go_wp2
      go_ret
      exact ⟨ret_bool HB.out, rfl⟩
    · have d2 : decide (n ≤ 1099511627776) = false := decide_eq_false h2
      have HB := Lib.hid (show false = b by rw [← hb, d1, d2]; rfl)
      clear hb
      go_enter Tryz.func155, Tryz.ntmps155
      go_wp2
      go_ret
      exact ⟨ret_bool HB.out, rfl⟩
  · have d1 : decide (least ≤ n) = false := decide_eq_false h1
    have HB := Lib.hid (show false = b by rw [← hb, d1]; rfl)
    clear hb
    go_enter Tryz.func155, Tryz.ntmps155
    go_wp2
    go_ret
    exact ⟨ret_bool HB.out, rfl⟩

set_option maxHeartbeats 2000000 in
theorem codeRight (x : Ent) (w : World) :
    Calls Tryz.prog 112 #[.agg #[.int .i64 x.idx, .int .i64 x.trm, .int .i64 x.knd, .slice x.ba x.bd.length x.bc]] w fun e w' => e = .returned (.bool (rangeE x)) ∧ Below w.heap.size w w' := by
  have hbx : Box (w.alloc (.cells #[.int .i64 x.idx, .int .i64 x.trm, .int .i64 x.knd, .slice x.ba x.bd.length x.bc] 28)) w.heap.size #[.int .i64 x.idx, .int .i64 x.trm, .int .i64 x.knd, .slice x.ba x.bd.length x.bc] 28 := Box.new _ _ _
  have hB : Below w.heap.size w (w.alloc (.cells #[.int .i64 x.idx, .int .i64 x.trm, .int .i64 x.knd, .slice x.ba x.bd.length x.bc] 28)) := below_new _ _
  obtain ⟨b1, h1⟩ : ∃ b, (decide (1 ≤ x.idx) && decide (x.idx ≤ 1099511627776)) = b := ⟨_, rfl⟩
  obtain ⟨b2, h2⟩ : ∃ b, (decide (0 ≤ x.trm) && decide (x.trm ≤ 1099511627776)) = b := ⟨_, rfl⟩
  obtain ⟨b3, h3⟩ : ∃ b, decide (1 ≤ x.knd) = b := ⟨_, rfl⟩
  obtain ⟨b4, h4⟩ : ∃ b, decide (x.knd ≤ 3) = b := ⟨_, rfl⟩
  obtain ⟨b5, h5⟩ : ∃ b, decide ((x.bd.length : Int) ≤ 200) = b := ⟨_, rfl⟩
  have h5' : decide (x.bd.length ≤ 200) = b5 := by rw [← h5]; simp only [decide_eq_decide]; omega
  have HR := Lib.hid (show rangeE x = (b1 && b2 && b3 && b4 && b5) by unfold rangeE; rw [← h1, ← h2, h3, h4, h5']; simp only [Bool.and_assoc])
  have C1 := Lib.hid (fun w => within x.idx 1 b1 h1 w)
  have C2 := Lib.hid (fun w => within x.trm 0 b2 h2 w)
  clear h1 h2
  obtain ⟨W, hW⟩ : ∃ W : World, W = w.alloc (.cells #[.int .i64 x.idx, .int .i64 x.trm, .int .i64 x.knd, .slice x.ba x.bd.length x.bc] 28) := ⟨_, rfl⟩
  rw [← hW] at hbx hB
  have HB := Lib.hid hB
  have k0 : ∀ zw : Ext W, zw.wd.cell? ⟨w.heap.size, 0, none⟩ = some (.int .i64 x.idx) := hbx.ext 0
  have k1 : ∀ zw : Ext W, zw.wd.cell? ⟨w.heap.size, 1, none⟩ = some (.int .i64 x.trm) := hbx.ext 1
  have k2 : ∀ zw : Ext W, zw.wd.cell? ⟨w.heap.size, 2, none⟩ = some (.int .i64 x.knd) := hbx.ext 2
  have k3 : ∀ zw : Ext W, zw.wd.cell? ⟨w.heap.size, 3, none⟩ = some (.slice x.ba x.bd.length x.bc) := hbx.ext 3
  clear hbx hB
  go_enter Tryz.func112, Tryz.ntmps112
  go_upto_region 2 with fail
  rw [← hW]
  clear hW
  have FIN : ∀ x5 : Ext W, Below w.heap.size w x5.wd := fun x5 => HB.out.trans (x5.low.mono HB.out.size)
  have FIN := Lib.hid FIN
  cases b1 with
  | false =>
    refine wp_region_ext_plain ?_
    repeat (go_big_quiet_step ((rename_i x5; have h5 := x5.low; first
      | (go_at_call 155; first | (with_reducible exact ext_of_same x5 (C1.out x5.wd)) | (with_reducible exact ext_of_same x5 (C2.out x5.wd))))))
    refine wpQuiet_nil ?_
    intro _ hw'
    obtain ⟨x5, hw''⟩ := hw'
    subst hw''
    go_wp2_with fail
    go_ret
    exact ⟨ret_bool (by rw [HR.out]; first | rfl | simp), FIN.out x5⟩
  | true =>
    cases b2 with
    | false =>
      refine wp_region_ext_plain ?_
      repeat (go_big_quiet_step ((rename_i x5; have h5 := x5.low; first
        | (go_at_call 155; first | (with_reducible exact ext_of_same x5 (C1.out x5.wd)) | (with_reducible exact ext_of_same x5 (C2.out x5.wd))))))
      refine wpQuiet_nil ?_
      intro _ hw'
      obtain ⟨x5, hw''⟩ := hw'
      subst hw''
      go_wp2_with fail
      go_ret
      exact ⟨ret_bool (by rw [HR.out]; first | rfl | simp), FIN.out x5⟩
    | true =>
      cases b3 with
      | false =>
        refine wp_region_ext_plain ?_
        repeat (go_big_quiet_step ((rename_i x5; have h5 := x5.low; first
          | (go_at_call 155; first | (with_reducible exact ext_of_same x5 (C1.out x5.wd)) | (with_reducible exact ext_of_same x5 (C2.out x5.wd))))))
        refine wpQuiet_nil ?_
        intro _ hw'
        obtain ⟨x5, hw''⟩ := hw'
        subst hw''
        go_wp2_with fail
        go_ret
        exact ⟨ret_bool (by rw [HR.out]; first | rfl | simp), FIN.out x5⟩
      | true =>
        cases b4 with
        | false =>
          refine wp_region_ext_plain ?_
          repeat (go_big_quiet_step ((rename_i x5; have h5 := x5.low; first
            | (go_at_call 155; first | (with_reducible exact ext_of_same x5 (C1.out x5.wd)) | (with_reducible exact ext_of_same x5 (C2.out x5.wd))))))
          refine wpQuiet_nil ?_
          intro _ hw'
          obtain ⟨x5, hw''⟩ := hw'
          subst hw''
          go_wp2_with fail
          go_ret
          exact ⟨ret_bool (by rw [HR.out]; first | rfl | simp), FIN.out x5⟩
        | true =>
          cases b5 with
          | false =>
            refine wp_region_ext_plain ?_
            repeat (go_big_quiet_step ((rename_i x5; have h5 := x5.low; first
              | (go_at_call 155; first | (with_reducible exact ext_of_same x5 (C1.out x5.wd)) | (with_reducible exact ext_of_same x5 (C2.out x5.wd))))))
            refine wpQuiet_nil ?_
            intro _ hw'
            obtain ⟨x5, hw''⟩ := hw'
            subst hw''
            go_wp2_with fail
            go_ret
            exact ⟨ret_bool (by rw [HR.out]; first | rfl | simp), FIN.out x5⟩
          | true =>
            refine wp_region_ext_plain ?_
            repeat (go_big_quiet_step ((rename_i x5; have h5 := x5.low; first
              | (go_at_call 155; first | (with_reducible exact ext_of_same x5 (C1.out x5.wd)) | (with_reducible exact ext_of_same x5 (C2.out x5.wd))))))
            refine wpQuiet_nil ?_
            intro _ hw'
            obtain ⟨x5, hw''⟩ := hw'
            subst hw''
            go_wp2_with fail
            go_ret
            exact ⟨ret_bool (by rw [HR.out]; first | rfl | simp), FIN.out x5⟩
end Go.Proofs.YtfglkpcboodllaaGreatDoor
