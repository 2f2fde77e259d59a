/-
  Merged: ErrEntry2, ErrEntry3, Ent5.
-/
import Derived.Test.YtfglkpcboodllaaGreatDoorMr6
/-
  errors.As at ErrEntry's errors.
-/
set_option linter.unusedVariables false
set_option linter.unusedSimpArgs false
namespace Go.Proofs.YtfglkpcboodllaaGreatDoor.EntE
open Go.RowKit Go.Extern.Stop Go.Stop Go.Extern

theorem parts150 (h : Value) (a : Addr) : ReflectliteValue.partsAny (.agg #[h, .pointer (some a), .int .u64 150]) = (do pure (some (← Rtype.ofHandle h, a, 150))) := rfl
theorem parts130 (h : Value) (a : Addr) : ReflectliteValue.partsAny (.agg #[h, .pointer (some a), .int .u64 130]) = (do pure (some (← Rtype.ofHandle h, a, 130))) := rfl
theorem parts386 (h : Value) (a : Addr) : ReflectliteValue.partsAny (.agg #[h, .pointer (some a), .int .u64 386]) = (do pure (some (← Rtype.ofHandle h, a, 386))) := rfl
section
variable (w : World)
theorem kP : (Rtype.kind 210).run Tryz.prog w = .ok 22 w := by kernel_rfl
theorem kT : (Rtype.kind 165).run Tryz.prog w = .ok 2 w := by kernel_rfl
theorem hdP : (Rtype.handle 210).run Tryz.prog w = .ok (.pointer (some ⟨1, 210, none⟩)) w := by kernel_rfl
theorem hdT : (Rtype.handle 165).run Tryz.prog w = .ok (.pointer (some ⟨1, 165, none⟩)) w := by kernel_rfl
theorem ofP : (Rtype.ofHandle (.pointer (some ⟨1, 210, none⟩))).run Tryz.prog w = .ok 210 w := by kernel_rfl
theorem ofT : (Rtype.ofHandle (.pointer (some ⟨1, 165, none⟩))).run Tryz.prog w = .ok 165 w := by kernel_rfl
theorem npP (s : String) : (Rtype.noPack s 210).run Tryz.prog w = .ok () w := by kernel_rfl
theorem npT (s : String) : (Rtype.noPack s 165).run Tryz.prog w = .ok () w := by kernel_rfl
theorem toTP : (ReflectliteType.toType 210).run Tryz.prog w = .ok (.iface 214 (.agg #[.pointer (some ⟨1, 210, none⟩)])) w := by kernel_rfl
theorem elP : (Rtype.elem? 210).run Tryz.prog w = .ok (some 165) w := by kernel_rfl
theorem agP : (isAgg 210).run Tryz.prog w = .ok false w := by kernel_rfl
theorem agT : (isAgg 165).run Tryz.prog w = .ok false w := by kernel_rfl
theorem szT : (sizeOf 165).run Tryz.prog w = .ok 1 w := by kernel_rfl
theorem daT : (Rtype.directlyAssignable 165 165).run Tryz.prog w = .ok true w := by kernel_rfl
end

theorem aValueOf (x : Option Addr) (w : World) : (callFunc 119 #[.iface 210 (.pointer x)]).run Tryz.prog w = .ok (.value (.agg #[.pointer (some ⟨1, 210, none⟩), .pointer (some ⟨w.heap.size, 0, none⟩), .int .u64 150])) (w.alloc (.cells #[.pointer x] 210)) := by
  rw [@run_callFunc_extern Tryz.prog 119 _ (fun args => ReflectliteValue.unpack (args.getD 0 (.tuple #[]))) Tryz.func119 (by kernel_rfl) (by kernel_rfl) (by kernel_rfl) (by kernel_rfl)]
  simp [ReflectliteValue.unpack, ReflectliteValue.mk, ReflectliteValue.flagIndir, hdP, kP, newVar, newRow, go_sem]
theorem aValueOfT (n : Int) (w : World) : (callFunc 119 #[.iface 165 (.int .i64 n)]).run Tryz.prog w = .ok (.value (.agg #[.pointer (some ⟨1, 165, none⟩), .pointer (some ⟨w.heap.size, 0, none⟩), .int .u64 130])) (w.alloc (.cells #[.int .i64 n] 165)) := by
  rw [@run_callFunc_extern Tryz.prog 119 _ (fun args => ReflectliteValue.unpack (args.getD 0 (.tuple #[]))) Tryz.func119 (by kernel_rfl) (by kernel_rfl) (by kernel_rfl) (by kernel_rfl)]
  simp [ReflectliteValue.unpack, ReflectliteValue.mk, ReflectliteValue.flagIndir, hdT, kT, newVar, newRow, go_sem, Value.cells]
theorem aType (x : Addr) (w : World) : (callFunc 120 #[.agg #[.pointer (some ⟨1, 210, none⟩), .pointer (some x), .int .u64 150]]).run Tryz.prog w = .ok (.value (.iface 214 (.agg #[.pointer (some ⟨1, 210, none⟩)]))) w := by
  rw [@run_callFunc_extern Tryz.prog 120 _ (ReflectliteValue.methodAny (ReflectliteValue.valueError "reflectlite.Value.Type" 0) fun t _ _ _ => ReflectliteType.toType t) Tryz.func120 (by kernel_rfl) (by kernel_rfl) (by kernel_rfl) (by kernel_rfl)]
  change (Sem.run _ (ReflectliteValue.partsAny (.agg #[.pointer (some ⟨1, 210, none⟩), .pointer (some x), .int .u64 150]) >>= _) w).andThen _ = _
  simp [parts150, ofP, toTP]
theorem aKind (w : World) : (callFunc 191 #[.pointer (some ⟨1, 210, none⟩)]).run Tryz.prog w = .ok (.value (.int .u8 22)) w := by
  rw [@run_callFunc_extern Tryz.prog 191 _ (ReflectliteType.abiMethod fun t => do pure (.int .u8 (← Rtype.kind t))) Tryz.func191 (by kernel_rfl) (by kernel_rfl) (by kernel_rfl) (by kernel_rfl)]
  change (Sem.run _ (Rtype.ofHandle (.pointer (some ⟨1, 210, none⟩)) >>= _) w).andThen _ = _
  simp [ofP, npP, kP]
theorem aKindT (w : World) : (callFunc 191 #[.pointer (some ⟨1, 165, none⟩)]).run Tryz.prog w = .ok (.value (.int .u8 2)) w := by
  rw [@run_callFunc_extern Tryz.prog 191 _ (ReflectliteType.abiMethod fun t => do pure (.int .u8 (← Rtype.kind t))) Tryz.func191 (by kernel_rfl) (by kernel_rfl) (by kernel_rfl) (by kernel_rfl)]
  change (Sem.run _ (Rtype.ofHandle (.pointer (some ⟨1, 165, none⟩)) >>= _) w).andThen _ = _
  simp [ofT, npT, kT]
theorem aIsNil (x p : Addr) (w : World) (h : w.cell? x = some (.pointer (some p))) : (callFunc 121 #[.agg #[.pointer (some ⟨1, 210, none⟩), .pointer (some x), .int .u64 150]]).run Tryz.prog w = .ok (.value (.bool false)) w := by
  rw [@run_callFunc_extern Tryz.prog 121 _ (ReflectliteValue.method (ReflectliteValue.valueError "reflectlite.Value.IsNil" 0) ReflectliteValue.isNil) Tryz.func121 (by kernel_rfl) (by kernel_rfl) (by kernel_rfl) (by kernel_rfl)]
  change (Sem.run _ (ReflectliteValue.parts (.agg #[.pointer (some ⟨1, 210, none⟩), .pointer (some x), .int .u64 150]) >>= _) w).andThen _ = _
  simp [ReflectliteValue.parts, parts150, ReflectliteValue.isNil, ofP, npP, loadVar, go_sem, h]
theorem aElem (w : World) : (callFunc 209 #[.agg #[.pointer (some ⟨1, 210, none⟩)]]).run Tryz.prog w = .ok (.value (.iface 214 (.agg #[.pointer (some ⟨1, 165, none⟩)]))) w := by
  rw [@run_callFunc_extern Tryz.prog 209 _ (ReflectliteType.method ReflectliteType.elem) Tryz.func209 (by kernel_rfl) (by kernel_rfl) (by kernel_rfl) (by kernel_rfl)]
  rw [show (ReflectliteType.method ReflectliteType.elem #[.agg #[.pointer (some ⟨1, 210, none⟩)]]).run Tryz.prog w = .ok (.iface 214 (.agg #[.pointer (some ⟨1, 165, none⟩)])) w by kernel_rfl]
  rfl
theorem aImpl (w : World) : (callFunc 210 #[.agg #[.pointer (some ⟨1, 165, none⟩)], .iface 214 (.agg #[.pointer (some ⟨1, 113, none⟩)])]).run Tryz.prog w = .ok (.value (.bool true)) w := by
  rw [@run_callFunc_extern Tryz.prog 210 _ (ReflectliteType.relation "Implements" ReflectliteType.implements_) Tryz.func210 (by kernel_rfl) (by kernel_rfl) (by kernel_rfl) (by kernel_rfl)]
  rw [show (ReflectliteType.relation "Implements" ReflectliteType.implements_ #[.agg #[.pointer (some ⟨1, 165, none⟩)], .iface 214 (.agg #[.pointer (some ⟨1, 113, none⟩)])]).run Tryz.prog w = .ok (.bool true) w by kernel_rfl]
  rfl
theorem aAss (w : World) : (callFunc 207 #[.agg #[.pointer (some ⟨1, 165, none⟩)], .iface 214 (.agg #[.pointer (some ⟨1, 165, none⟩)])]).run Tryz.prog w = .ok (.value (.bool true)) w := by
  rw [@run_callFunc_extern Tryz.prog 207 _ (ReflectliteType.relation "AssignableTo" ReflectliteType.assignableTo) Tryz.func207 (by kernel_rfl) (by kernel_rfl) (by kernel_rfl) (by kernel_rfl)]
  rw [show (ReflectliteType.relation "AssignableTo" ReflectliteType.assignableTo #[.agg #[.pointer (some ⟨1, 165, none⟩)], .iface 214 (.agg #[.pointer (some ⟨1, 165, none⟩)])]).run Tryz.prog w = .ok (.bool true) w by kernel_rfl]
  rfl
theorem aAssR (w : World) : (callFunc 207 #[.agg #[.pointer (some ⟨1, 209, none⟩)], .iface 214 (.agg #[.pointer (some ⟨1, 165, none⟩)])]).run Tryz.prog w = .ok (.value (.bool false)) w := by
  rw [@run_callFunc_extern Tryz.prog 207 _ (ReflectliteType.relation "AssignableTo" ReflectliteType.assignableTo) Tryz.func207 (by kernel_rfl) (by kernel_rfl) (by kernel_rfl) (by kernel_rfl)]
  rw [show (ReflectliteType.relation "AssignableTo" ReflectliteType.assignableTo #[.agg #[.pointer (some ⟨1, 209, none⟩)], .iface 214 (.agg #[.pointer (some ⟨1, 165, none⟩)])]).run Tryz.prog w = .ok (.bool false) w by kernel_rfl]
  rfl
theorem aVElem (x : Addr) (g : Nat) (w : World) (h : w.cell? x = some (.pointer (some ⟨g, 0, none⟩))) : (callFunc 157 #[.agg #[.pointer (some ⟨1, 210, none⟩), .pointer (some x), .int .u64 150]]).run Tryz.prog w = .ok (.value (.agg #[.pointer (some ⟨1, 165, none⟩), .pointer (some ⟨g, 0, none⟩), .int .u64 386])) w := by
  rw [@run_callFunc_extern Tryz.prog 157 _ (ReflectliteValue.method (ReflectliteValue.valueError "reflectlite.Value.Elem" 0) ReflectliteValue.elem) Tryz.func157 (by kernel_rfl) (by kernel_rfl) (by kernel_rfl) (by kernel_rfl)]
  change (Sem.run _ (ReflectliteValue.parts (.agg #[.pointer (some ⟨1, 210, none⟩), .pointer (some x), .int .u64 150]) >>= _) w).andThen _ = _
  simp [ReflectliteValue.parts, parts150, ReflectliteValue.elem, ReflectliteValue.mk, ReflectliteValue.flagIndir, ReflectliteValue.flagAddr, ofP, npP, loadVar, elP, hdT, kT, go_sem, h]
theorem aSet (g b : Nat) (n : Int) (p : Value) (w : World) (h0 : w.cell? ⟨b, 0, none⟩ = some (.int .i64 n)) (hg0 : w.cell? ⟨g, 0, none⟩ = some p) (f0 : ∀ i, w.frozen? ⟨g, i, none⟩ = false) :
    (callFunc 158 #[.agg #[.pointer (some ⟨1, 165, none⟩), .pointer (some ⟨g, 0, none⟩), .int .u64 386], .agg #[.pointer (some ⟨1, 165, none⟩), .pointer (some ⟨b, 0, none⟩), .int .u64 130]]).run Tryz.prog w = .ok (.value (.tuple #[])) (w.setCell ⟨g, 0, none⟩ (.int .i64 n)) := by
  rw [@run_callFunc_extern Tryz.prog 158 _ ReflectliteValue.set Tryz.func158 (by kernel_rfl) (by kernel_rfl) (by kernel_rfl) (by kernel_rfl)]
  change (Sem.run _ (ReflectliteValue.parts (.agg #[.pointer (some ⟨1, 165, none⟩), .pointer (some ⟨g, 0, none⟩), .int .u64 386]) >>= _) w).andThen _ = _
  simp [Array.getLit, ReflectliteValue.parts, parts130, parts386, ReflectliteValue.flagAddr, ofT, npT, daT, go_sem, h0, hg0, f0]
end Go.Proofs.YtfglkpcboodllaaGreatDoor.EntE
/-
  errors.As at ErrEntry's errors: the contracts.
-/
set_option linter.unusedVariables false
namespace Go.Proofs.YtfglkpcboodllaaGreatDoor.EntE
open Go.RowKit Go.Extern.Stop Go.Stop Go.Extern

theorem eTypeOfW (v : Value) (w : World) : (callFunc 151 #[.iface 209 v]).run Tryz.prog w = .ok (.value (.iface 214 (.agg #[.pointer (some ⟨1, 209, none⟩)]))) w := by
  rw [@run_callFunc_extern Tryz.prog 151 _ ReflectliteType.typeOf Tryz.func151 (by kernel_rfl) (by kernel_rfl) (by kernel_rfl) (by kernel_rfl)]
  rw [show (ReflectliteType.typeOf #[.iface 209 v]).run Tryz.prog w = .ok (.iface 214 (.agg #[.pointer (some ⟨1, 209, none⟩)])) w by kernel_rfl]
  rfl
theorem aKindTM (w : World) : (Go.method 398 214 (.agg #[.pointer (some ⟨1, 165, none⟩)]) "Kind").run Tryz.prog w = .ok (191, .pointer (some ⟨1, 165, none⟩)) w := by kernel_rfl
theorem aKindM (w : World) : (Go.method 398 214 (.agg #[.pointer (some ⟨1, 210, none⟩)]) "Kind").run Tryz.prog w = .ok (191, .pointer (some ⟨1, 210, none⟩)) w := by kernel_rfl
theorem aElemM (w : World) : (Go.method 398 214 (.agg #[.pointer (some ⟨1, 210, none⟩)]) "Elem").run Tryz.prog w = .ok (209, .agg #[.pointer (some ⟨1, 210, none⟩)]) w := by kernel_rfl
theorem aImplM (w : World) : (Go.method 398 214 (.agg #[.pointer (some ⟨1, 165, none⟩)]) "Implements").run Tryz.prog w = .ok (210, .agg #[.pointer (some ⟨1, 165, none⟩)]) w := by kernel_rfl
theorem aAssM (w : World) : (Go.method 398 214 (.agg #[.pointer (some ⟨1, 165, none⟩)]) "AssignableTo").run Tryz.prog w = .ok (207, .agg #[.pointer (some ⟨1, 165, none⟩)]) w := by kernel_rfl
theorem aAssRM (w : World) : (Go.method 398 214 (.agg #[.pointer (some ⟨1, 209, none⟩)]) "AssignableTo").run Tryz.prog w = .ok (207, .agg #[.pointer (some ⟨1, 209, none⟩)]) w := by kernel_rfl
theorem noAsW (v : Value) (xT : TypeId) (w : World) : (Instr.typeAssert (.iface 209 v) xT 218 true).run Tryz.prog w = .ok (.tuple #[.nilIface, .bool false]) w := run_typeAssert_lacksB Tryz.underlying218 (by kernel_rfl) (by kernel_rfl) v xT w

set_option maxHeartbeats 400000 in
theorem as_nil (v : Value) (w : World) : Calls Tryz.prog 80 #[.nilIface, v] w fun e w' => e = .returned (.bool false) ∧ w = w' := by
  go_enter Tryz.func80, Tryz.ntmps80
  go_wp2
  go_ret
  exact ⟨rfl, rfl⟩

set_option maxRecDepth 100000 in
set_option maxHeartbeats 1000000 in
theorem as_num (g : Nat) (n : Int) (p : Value) (w : World) (hG : errTypeIs w) (hb : Box w g #[p] 165) :
    Calls Tryz.prog 80 #[.iface 165 (.int .i64 n), .iface 210 (.pointer (some ⟨g, 0, none⟩))] w fun e w' =>
      e = .returned (.bool true) ∧ Box w' g #[.int .i64 n] 165 ∧ But g w w' := by
  have hG' : w.cell? ⟨0, 0, none⟩ = some (.iface 214 (.agg #[.pointer (some ⟨1, 113, none⟩)])) := hG
  have z0 : 0 < w.heap.size := World.block_lt_of_cell? _ _ hG'
  obtain ⟨kb, fb, zb⟩ := hb.facts
  have HB := Lib.hid hb
  have r1 := aValueOf
  have r2 := aType
  have r3 := aKind
  have r4 := aKindT
  have r5 := fun x W => aIsNil x ⟨g, 0, none⟩ W
  have r6 := aElem
  have r7 := aImpl
  have r8 := aAss
  have r9 := fun x W => aVElem x g W
  have r10 := fun b W => aSet g b n p W
  have r11 := aValueOfT
  have r12 := eTypeOf
  have m1 := aKindM
  have m2 := aKindTM
  have m3 := aElemM
  have m4 := aImplM
  have m5 := aAssM
  clear hb hG
  go_enter Tryz.func80, Tryz.ntmps80
  go_wp2
  refine wp_loop_rounds 1 ?_
  rw [rounds_succ]
  go_wp2
  rw [r9 _ _ (by simp [go_sem])]
  go_wp2
  rw [r10 _ _ (by simp [go_sem]) (by exact ((((HB.out.alloc _).alloc _).alloc _).alloc _).cell 0) (by exact ((((HB.out.alloc _).alloc _).alloc _).alloc _).free)]
  go_wp2
  go_ret
  refine ⟨rfl, ?_, ?_⟩
  · exact ((((HB.out.alloc _).alloc _).alloc _).alloc _).set_ 0 _
  · refine But.trans (But.of_below ?_) (But.set_ _)
    exact below_call (below_call (below_call (below_new _ _) (below_new _ _)) (below_new _ _)) (below_new _ _)

set_option maxRecDepth 100000 in
set_option maxHeartbeats 2000000 in
theorem as_rot (g : Nat) (a n : Int) (p : Value) (w : World) (hG : errTypeIs w) (hb : Box w g #[p] 165) :
    Calls Tryz.prog 80 #[.iface 209 (.agg #[.int .i64 a, .iface 165 (.int .i64 n)]), .iface 210 (.pointer (some ⟨g, 0, none⟩))] w fun e w' =>
      e = .returned (.bool true) ∧ Box w' g #[.int .i64 n] 165 ∧ But g w w' := by
  have hG' : w.cell? ⟨0, 0, none⟩ = some (.iface 214 (.agg #[.pointer (some ⟨1, 113, none⟩)])) := hG
  have z0 : 0 < w.heap.size := World.block_lt_of_cell? _ _ hG'
  obtain ⟨kb, fb, zb⟩ := hb.facts
  have HB := Lib.hid hb
  have r1 := aValueOf
  have r2 := aType
  have r3 := aKind
  have r4 := aKindT
  have r5 := fun x W => aIsNil x ⟨g, 0, none⟩ W
  have r6 := aElem
  have r7 := aImpl
  have r8 := aAss
  have r8' := aAssR
  have r9 := fun x W => aVElem x g W
  have r10 := fun b W => aSet g b n p W
  have r11 := aValueOfT
  have r12 := eTypeOf
  have r13 := eTypeOfW
  have m1 := aKindM
  have m2 := aKindTM
  have m3 := aElemM
  have m4 := aImplM
  have m5 := aAssM
  have m6 := aAssRM
  have m7 := noAsW
  have uW := hasUnwrapW
  have mU := methodUnwrap
  clear hb hG
  go_enter Tryz.func80, Tryz.ntmps80
  go_wp2
  refine wp_loop_rounds 2 ?_
  rw [rounds_succ]
  go_wp2
  rw [rounds_succ]
  go_wp2
  rw [r9 _ _ (by simp [go_sem])]
  go_wp2
  rw [r10 _ _ (by simp [go_sem]) (by exact (((((HB.out.alloc _).alloc _).alloc _).alloc _).alloc _).cell 0) (by exact (((((HB.out.alloc _).alloc _).alloc _).alloc _).alloc _).free)]
  go_wp2
  go_ret
  refine ⟨rfl, ?_, ?_⟩
  · exact (((((HB.out.alloc _).alloc _).alloc _).alloc _).alloc _).set_ 0 _
  · refine But.trans (But.of_below ?_) (But.set_ _)
    exact below_call (below_call (below_call (below_call (below_new _ _) (below_new _ _)) (below_new _ _)) (below_new _ _)) (below_new _ _)
end Go.Proofs.YtfglkpcboodllaaGreatDoor.EntE
/-
  THE PACKAGE entry, 5: whether a row follows, its last one: contracts.
-/
set_option linter.unusedVariables false
set_option linter.unusedSimpArgs false
namespace Go.Proofs.YtfglkpcboodllaaGreatDoor
open Go.RowKit

/-- The error of a row: none, or its place and number. -/
def brkV (k : Nat) (n : Int) : Value := .iface 209 (.agg #[.int .i64 k, .iface 165 (.int .i64 n)])
def RowPost (p : Idt) (l : List Ent) (gc : Nat) (w : World) (e : Ending) (w' : World) : Prop :=
  ((e = .returned .nilIface ∧ folE p l = 0) ∨ ∃ (k : Nat) (n : Int), e = .returned (brkV k n) ∧ folE p l = n ∧ n ≠ 0) ∧ Below gc w w'
theorem rowPost_nil {p : Idt} {l : List Ent} {gc : Nat} {w w' : World} (h : folE p l = 0) (hb : Below gc w w') : RowPost p l gc w (.returned .nilIface) w' := ⟨.inl ⟨rfl, h⟩, hb⟩
theorem rowPost_err {p : Idt} {l : List Ent} {gc k : Nat} {n : Int} {w w' : World} (h : folE p l = n) (hn : n ≠ 0) (hb : Below gc w w') : RowPost p l gc w (.returned (.iface 209 (.agg #[.int .i64 k, .iface 165 (.int .i64 n)]))) w' := ⟨.inr ⟨k, n, rfl, h, hn⟩, hb⟩
theorem Box.set3 {w : World} {n : Nat} {a b c : Value} {t : TypeId} (h : Box w n #[a, b, c] t) (x y z : Value) :
    Box (((w.setCell ⟨n, 0, none⟩ x).setCell ⟨n, 1, none⟩ y).setCell ⟨n, 2, none⟩ z) n #[x, y, z] t := ((h.set_ 0 x).set_ 1 y).set_ 2 z

set_option maxRecDepth 100000 in
set_option maxHeartbeats 2000000 in
theorem entRowOf (gc : Nat) (p : Idt) (l : List Ent) (v : Value) (w : World) (hbx : Box w gc #[.int .i64 p.idx, .int .i64 p.trm, .int .i64 p.knd] 163) (h : Sl 4 entRow gc w v l) (hin : ∀ x ∈ l, EntIn gc w x) :
    Calls Tryz.prog 113 #[.pointer (some ⟨gc, 0, none⟩), v] w (RowPost p l gc w) := by
  obtain ⟨A, cap, rfl, hlc, hcm, -, hA⟩ := h
  have hn : l.length ≤ 9223372036854775807 := by unfold maxLen at hcm; omega
  have hgc := hbx.lt
  have HIN := Lib.hid hin
  have HA := Lib.hid hA
  have HBX0 := Lib.hid hbx
  clear hcm hA hin hbx
  go_enter Tryz.func113, Tryz.ntmps113
  go_wp2_with fail
  go_loopw [10] (fun i wr => ∃ k : Nat, k ≤ l.length ∧ i = .int .i64 k ∧ FolTo p l k ∧ Box wr gc #[.int .i64 (lastE p (l.take k)).idx, .int .i64 (lastE p (l.take k)).trm, .int .i64 (lastE p (l.take k)).knd] 163 ∧ Below gc w wr) (fun i _ => l.length - (intOf i).toNat)
  case atStart => exact ⟨0, by omega, rfl, folTo_zero, HBX0.out, Below.refl _ _⟩
  case round =>
    obtain ⟨k, hk, rfl, hno, hbx, hB⟩ := hrel
    by_cases hlt : k < l.length
    · obtain ⟨b, off, rfl, hb, hcell⟩ := HA.out (by intro h; subst h; simp at hlt)
      obtain ⟨x, hx⟩ : ∃ x, l[k]? = some x := ⟨_, List.getElem?_eq_getElem hlt⟩
      have c0 := (hB.cell (p := ⟨b, off + k * 4, none⟩) hb).trans (hcell k x hx 0 _ rfl)
      have c1 := (hB.cell (p := ⟨b, off + k * 4 + 1, none⟩) hb).trans (hcell k x hx 1 _ rfl)
      have c2 := (hB.cell (p := ⟨b, off + k * 4 + 2, none⟩) hb).trans (hcell k x hx 2 _ rfl)
      have c3 := (hB.cell (p := ⟨b, off + k * 4 + 3, none⟩) hb).trans (hcell k x hx 3 _ rfl)
      obtain ⟨q, hq⟩ : ∃ q, lastE p (l.take k) = q := ⟨_, rfl⟩
      rw [hq] at hbx
      have HQ := Lib.hid hq
      have HX := Lib.hid hx
      have HNO := Lib.hid hno
      have hz := hB.size
      have hgr := hbx.lt
      have hbr : b < wr.heap.size := by omega
      have i0 : (0 : Int) ≤ (k : Int) := by omega
      have i1 : (k : Int) < (l.length : Int) := by omega
      have d0 : decide ((k : Int) < (l.length : Int)) = true := decide_eq_true i1
      have HB := Lib.hid (hB.alloc (show gc ≤ wr.heap.size by omega) (.cells #[.int .i64 x.idx, .int .i64 x.trm, .int .i64 x.knd, .slice x.ba x.bd.length x.bc] 28))
      have HE := Lib.hid (((HIN.out x (List.mem_of_getElem? hx)).below hB).more (show gc ≤ wr.heap.size by omega) |>.later (below_new wr (.cells #[.int .i64 x.idx, .int .i64 x.trm, .int .i64 x.knd, .slice x.ba x.bd.length x.bc] 28)))
      have PC1 := Lib.hid (hbx.alloc (.cells #[.int .i64 x.idx, .int .i64 x.trm, .int .i64 x.knd, .slice x.ba x.bd.length x.bc] 28))
      have PE := Lib.hid (Box.new wr #[.int .i64 x.idx, .int .i64 x.trm, .int .i64 x.knd, .slice x.ba x.bd.length x.bc] 28)
      clear hcell hx hbx hB hno hq
      go_upto_region 4 with fail
      obtain ⟨ge, hge⟩ : ∃ g, g = wr.heap.size := ⟨_, rfl⟩
      obtain ⟨W, hW⟩ : ∃ W : World, W = wr.alloc (.cells #[.int .i64 x.idx, .int .i64 x.trm, .int .i64 x.knd, .slice x.ba x.bd.length x.bc] 28) := ⟨_, rfl⟩
      rw [← hW] at HB HE PC1
      rw [← hW, ← hge] at PE
      rw [← hW, ← hge]
      have hgl : gc < ge := by omega
      clear hW hge c0 c1 c2 c3
      have kc0 : ∀ zw : Ext W, zw.wd.cell? ⟨gc, 0, none⟩ = some (.int .i64 q.idx) := PC1.out.ext 0
      have kc1 : ∀ zw : Ext W, zw.wd.cell? ⟨gc, 1, none⟩ = some (.int .i64 q.trm) := PC1.out.ext 1
      have kc2 : ∀ zw : Ext W, zw.wd.cell? ⟨gc, 2, none⟩ = some (.int .i64 q.knd) := PC1.out.ext 2
      have ke0 : ∀ zw : Ext W, zw.wd.cell? ⟨ge, 0, none⟩ = some (.int .i64 x.idx) := PE.out.ext 0
      have ke1 : ∀ zw : Ext W, zw.wd.cell? ⟨ge, 1, none⟩ = some (.int .i64 x.trm) := PE.out.ext 1
      have ke2 : ∀ zw : Ext W, zw.wd.cell? ⟨ge, 2, none⟩ = some (.int .i64 x.knd) := PE.out.ext 2
      have ke3 : ∀ zw : Ext W, zw.wd.cell? ⟨ge, 3, none⟩ = some (.slice x.ba x.bd.length x.bc) := PE.out.ext 3
      by_cases hs : stepE q x = 0
      · have HS := Lib.hid hs
        have CM := Lib.hid (show ∀ x5 : Ext W, Calls Tryz.prog 156 #[.agg #[.int .i64 q.idx, .int .i64 q.trm, .int .i64 q.knd], .agg #[.int .i64 x.idx, .int .i64 x.trm, .int .i64 x.knd, .slice x.ba x.bd.length x.bc]] x5.wd (fun e w' => e = .returned .nilIface ∧ Below x5.wd.heap.size x5.wd w') from fun x5 => by have h := entMeets q x x5.wd (HE.out.later x5.low); rw [hs] at h; exact h)
        clear hs
        refine wp_region_ext (by kernel_rfl) (by kernel_rfl) ?_
        repeat (go_big_quiet_step ((rename_i x5; have h5 := x5.low; first
          | (go_at_call 156; exact ext_of x5 (CM.out x5)))))
        refine wpQuiet_nil ?_
        intro _ hw'
        obtain ⟨x5, hw''⟩ := hw'
        subst hw''
        have P5 := Lib.hid (PC1.out.later x5.low)
        have E5 := Lib.hid (PE.out.later x5.low)
        have B5 := Lib.hid (HB.out.trans (x5.low.mono (show gc ≤ W.heap.size by have := PC1.out.lt; omega)))
        clear kc0 kc1 kc2 ke0 ke1 ke2 ke3
        obtain ⟨me, -, ze⟩ := E5.out.facts
        go_wp2_with (go_at_call 51; refine (entOf x _).mono ?_; rintro e w6 ⟨rfl, b6⟩; obtain ⟨mc, fc, zc⟩ := (P5.out.later b6).facts)
        have R1 := Lib.hid (show FolTo p l (k + 1) from folTo_succ HX.out HNO.out (by rw [HQ.out]; exact HS.out))
        have R2 := Lib.hid ((P5.out.later b6).set3 (.int .i64 x.idx) (.int .i64 x.trm) (.int .i64 x.knd))
        have R3 := Lib.hid (B5.out.trans (b6.mono (show gc ≤ x5.wd.heap.size by have := P5.out.lt; omega)))
        clear mc fc b6 me
        go_roundw
        case rel => exact ⟨k + 1, by omega, by go_num, R1.out, by rw [last_take HX.out]; exact R2.out, below_set (below_set (below_set R3.out (Nat.le_refl _)) (Nat.le_refl _)) (Nat.le_refl _)⟩
        case measure => simp [intOf]; omega
      · obtain ⟨n, hne⟩ : ∃ n, stepE q x = n := ⟨_, rfl⟩
        have n0 : n ≠ 0 := by rw [← hne]; exact hs
        have HF := Lib.hid (show folE p l = n by rw [folE_stop HX.out HNO.out (by rw [HQ.out]; exact hs), HQ.out]; exact hne)
        have CM := Lib.hid (show ∀ x5 : Ext W, Calls Tryz.prog 156 #[.agg #[.int .i64 q.idx, .int .i64 q.trm, .int .i64 q.knd], .agg #[.int .i64 x.idx, .int .i64 x.trm, .int .i64 x.knd, .slice x.ba x.bd.length x.bc]] x5.wd (fun e w' => e = .returned (.iface 165 (.int .i64 n)) ∧ Below x5.wd.heap.size x5.wd w') from fun x5 => by have h := entMeets q x x5.wd (HE.out.later x5.low); unfold numV at h; rw [if_neg hs, hne] at h; exact h)
        have N0 := Lib.hid n0
        clear hs hne n0
        refine wp_region_ext (by kernel_rfl) (by kernel_rfl) ?_
        repeat (go_big_quiet_step ((rename_i x5; have h5 := x5.low; first
          | (go_at_call 156; exact ext_of x5 (CM.out x5)))))
        refine wpQuiet_nil ?_
        intro _ hw'
        obtain ⟨x5, hw''⟩ := hw'
        subst hw''
        have B5 := Lib.hid (HB.out.trans (x5.low.mono (show gc ≤ W.heap.size by have := PC1.out.lt; omega)))
        clear kc0 kc1 kc2 ke0 ke1 ke2 ke3
        go_wp2_with fail
        go_ret
        exact rowPost_err HF.out N0.out B5.out
    · have hk' : k = l.length := by omega
      have HF := Lib.hid (show folE p l = 0 from folE_all (by rw [← hk']; exact hno))
      have d0 : decide ((k : Int) < (l.length : Int)) = false := decide_eq_false (by omega)
      have HB := Lib.hid hB
      clear hk' hno hbx hB
      go_wp2_with fail
      go_ret
      exact rowPost_nil HF.out HB.out
end Go.Proofs.YtfglkpcboodllaaGreatDoor
