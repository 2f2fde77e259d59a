/-
  Merged: ErrMatch, ErrMatch2, ErrMatch3.
-/
import Derived.Test.YtfglkpcboodllaaGreatDoorMr5
/-
  errors.Is, errors.As at ErrMatch's errors: contracts. Go's own text of them is walked.
-/
set_option linter.unusedVariables false
namespace Go.Proofs.YtfglkpcboodllaaGreatDoor.MatE
open Go.RowKit Go.Extern.Stop Go.Stop Go.Extern

theorem eTypeOf (v : Value) (w : World) : (callFunc 151 #[.iface 184 v]).run Tryz.prog w = .ok (.value (.iface 214 (.agg #[.pointer (some ⟨1, 184, none⟩)]))) w := by
  rw [@run_callFunc_extern Tryz.prog 151 _ ReflectliteType.typeOf Tryz.func151 (by kernel_rfl) (by kernel_rfl) (by kernel_rfl) (by kernel_rfl)]
  rw [show (ReflectliteType.typeOf #[.iface 184 v]).run Tryz.prog w = .ok (.iface 214 (.agg #[.pointer (some ⟨1, 184, none⟩)])) w by kernel_rfl]
  rfl
theorem eMethodComparable (v : Value) (w : World) : (Go.method 398 214 v "Comparable").run Tryz.prog w = .ok (208, v) w := by kernel_rfl
theorem eComparable (w : World) : (callFunc 208 #[.agg #[.pointer (some ⟨1, 184, none⟩)]]).run Tryz.prog w = .ok (.value (.bool true)) w := by
  rw [@run_callFunc_extern Tryz.prog 208 _ (ReflectliteType.method fun t => do Rtype.noPackHeld "Comparable" t; pure (.bool (← typeInfo t).comparable)) Tryz.func208 (by kernel_rfl) (by kernel_rfl) (by kernel_rfl) (by kernel_rfl)]
  rw [show ((ReflectliteType.method fun t => do Rtype.noPackHeld "Comparable" t; pure (.bool (← typeInfo t).comparable)) #[.agg #[.pointer (some ⟨1, 184, none⟩)]]).run Tryz.prog w = .ok (.bool true) w by kernel_rfl]
  rfl
theorem eComp : (Tryz.prog.info? 184).map (·.comparable) = some true := by kernel_rfl
theorem noIsE (v : Value) (xT : TypeId) (w : World) : (Instr.typeAssert (.iface 184 v) xT 264 true).run Tryz.prog w = .ok (.tuple #[.nilIface, .bool false]) w := run_typeAssert_lacksB Tryz.underlying264 (by kernel_rfl) (by kernel_rfl) v xT w
theorem noUnwrapE (v : Value) (xT : TypeId) (w : World) : (Instr.typeAssert (.iface 184 v) xT 221 true).run Tryz.prog w = .ok (.tuple #[.nilIface, .bool false]) w := run_typeAssert_lacksB Tryz.underlying221 (by kernel_rfl) (by kernel_rfl) v xT w
theorem noUnwrapsE (v : Value) (xT : TypeId) (w : World) : (Instr.typeAssert (.iface 184 v) xT 223 true).run Tryz.prog w = .ok (.tuple #[.nilIface, .bool false]) w := run_typeAssert_lacksB Tryz.underlying223 (by kernel_rfl) (by kernel_rfl) v xT w
theorem noIsW (v : Value) (xT : TypeId) (w : World) : (Instr.typeAssert (.iface 115 v) xT 264 true).run Tryz.prog w = .ok (.tuple #[.nilIface, .bool false]) w := run_typeAssert_lacksB Tryz.underlying264 (by kernel_rfl) (by kernel_rfl) v xT w
theorem hasUnwrapW (v : Value) (xT : TypeId) (w : World) : (Instr.typeAssert (.iface 115 v) xT 221 true).run Tryz.prog w = .ok (.tuple #[.iface 115 v, .bool true]) w := run_typeAssert_hasB Tryz.underlying221 (by kernel_rfl) v xT w
theorem methodUnwrap (v : Value) (w : World) : (Go.method 398 115 v "Unwrap").run Tryz.prog w = .ok (195, v) w := by kernel_rfl

set_option maxHeartbeats 400000 in
theorem is_nil (m : Int) (w : World) : Calls Tryz.prog 99 #[.nilIface, .iface 184 (.int .i64 m)] w fun e w' => e = .returned (.bool false) ∧ w = w' := by
  have hn := run_eql_iface_nil_left (P := Tryz.prog) w 184 (.int .i64 m) Tryz.underlying113
  go_enter Tryz.func99, Tryz.ntmps99
  go_wp2
  go_ret
  exact ⟨rfl, rfl⟩

set_option maxHeartbeats 400000 in
theorem is_wrap (n0 n1 n m : Int) (w : World) : Calls Tryz.prog 99 #[.iface 115 (.agg #[.int .i64 n0, .int .i64 n1, .iface 184 (.int .i64 n)]), .iface 184 (.int .i64 m)] w fun e w' => e = .returned (.bool (n == m)) ∧ Below w.heap.size w w' := by
  obtain ⟨i, hi, hcmp⟩ := Option.map_eq_some_iff.1 eComp
  have tT := eTypeOf
  have cT := eComparable
  have mR := eMethodComparable
  have nE := noIsE
  have uE := noUnwrapE
  have vE := noUnwrapsE
  have nW := noIsW
  have uW := hasUnwrapW
  have mU := methodUnwrap
  have heq := fun w => run_eql_iface_int (P := Tryz.prog) w n m Tryz.underlying113 Tryz.underlying184 hi hcmp
  have hty := run_eql_iface_types (P := Tryz.prog) 115 184 (.agg #[.int .i64 n0, .int .i64 n1, .iface 184 (.int .i64 n)]) (.int .i64 m) Tryz.underlying113 (by decide)
  clear hi hcmp
  go_enter Tryz.func99, Tryz.ntmps99
  go_wp2
  refine wp_loop_rounds 2 ?_
  rw [rounds_succ]
  go_wp2
  rw [rounds_succ]
  go_wp2
  all_goals go_ret
  · have h : (n == m) = true := by assumption
    exact ⟨ret_bool h.symm, below_new _ _⟩
  · have h : (n == m) = false := by assumption
    exact ⟨ret_bool h.symm, below_new _ _⟩
end Go.Proofs.YtfglkpcboodllaaGreatDoor.MatE
/-
  errors.As at ErrMatch's errors.
-/
set_option linter.unusedVariables false
namespace Go.Proofs.YtfglkpcboodllaaGreatDoor.MatE
open Go.RowKit Go.Extern.Stop Go.Stop Go.Extern

theorem parts150 (h : Value) (a : Addr) : ReflectliteValue.partsAny (.agg #[h, .pointer (some a), .int .u64 150]) = (do pure (some (← Rtype.ofHandle h, a, 150))) := rfl
theorem parts153 (h : Value) (a : Addr) : ReflectliteValue.partsAny (.agg #[h, .pointer (some a), .int .u64 153]) = (do pure (some (← Rtype.ofHandle h, a, 153))) := rfl
theorem parts409 (h : Value) (a : Addr) : ReflectliteValue.partsAny (.agg #[h, .pointer (some a), .int .u64 409]) = (do pure (some (← Rtype.ofHandle h, a, 409))) := rfl
section
variable (w : World)
theorem kP : (Rtype.kind 118).run Tryz.prog w = .ok 22 w := by kernel_rfl
theorem kT : (Rtype.kind 115).run Tryz.prog w = .ok 25 w := by kernel_rfl
theorem hdP : (Rtype.handle 118).run Tryz.prog w = .ok (.pointer (some ⟨1, 118, none⟩)) w := by kernel_rfl
theorem hdT : (Rtype.handle 115).run Tryz.prog w = .ok (.pointer (some ⟨1, 115, none⟩)) w := by kernel_rfl
theorem ofP : (Rtype.ofHandle (.pointer (some ⟨1, 118, none⟩))).run Tryz.prog w = .ok 118 w := by kernel_rfl
theorem ofT : (Rtype.ofHandle (.pointer (some ⟨1, 115, none⟩))).run Tryz.prog w = .ok 115 w := by kernel_rfl
theorem npP (s : String) : (Rtype.noPack s 118).run Tryz.prog w = .ok () w := by kernel_rfl
theorem npT (s : String) : (Rtype.noPack s 115).run Tryz.prog w = .ok () w := by kernel_rfl
theorem toTP : (ReflectliteType.toType 118).run Tryz.prog w = .ok (.iface 214 (.agg #[.pointer (some ⟨1, 118, none⟩)])) w := by kernel_rfl
theorem elP : (Rtype.elem? 118).run Tryz.prog w = .ok (some 115) w := by kernel_rfl
theorem agP : (isAgg 118).run Tryz.prog w = .ok false w := by kernel_rfl
theorem agT : (isAgg 115).run Tryz.prog w = .ok true w := by kernel_rfl
theorem szT : (sizeOf 115).run Tryz.prog w = .ok 3 w := by kernel_rfl
theorem daT : (Rtype.directlyAssignable 115 115).run Tryz.prog w = .ok true w := by kernel_rfl
end

theorem aValueOf (x : Option Addr) (w : World) : (callFunc 119 #[.iface 118 (.pointer x)]).run Tryz.prog w = .ok (.value (.agg #[.pointer (some ⟨1, 118, none⟩), .pointer (some ⟨w.heap.size, 0, none⟩), .int .u64 150])) (w.alloc (.cells #[.pointer x] 118)) := by
  rw [@run_callFunc_extern Tryz.prog 119 _ (fun args => ReflectliteValue.unpack (args.getD 0 (.tuple #[]))) Tryz.func119 (by kernel_rfl) (by kernel_rfl) (by kernel_rfl) (by kernel_rfl)]
  simp [ReflectliteValue.unpack, ReflectliteValue.mk, ReflectliteValue.flagIndir, hdP, kP, newVar, newRow, go_sem]
theorem aValueOfT (a0 a1 a2 : Value) (w : World) : (callFunc 119 #[.iface 115 (.agg #[a0, a1, a2])]).run Tryz.prog w = .ok (.value (.agg #[.pointer (some ⟨1, 115, none⟩), .pointer (some ⟨w.heap.size, 0, none⟩), .int .u64 153])) (w.alloc (.cells #[a0, a1, a2] 115)) := by
  rw [@run_callFunc_extern Tryz.prog 119 _ (fun args => ReflectliteValue.unpack (args.getD 0 (.tuple #[]))) Tryz.func119 (by kernel_rfl) (by kernel_rfl) (by kernel_rfl) (by kernel_rfl)]
  simp [ReflectliteValue.unpack, ReflectliteValue.mk, ReflectliteValue.flagIndir, hdT, kT, newVar, newRow, go_sem, Value.cells]
theorem aType (x : Addr) (w : World) : (callFunc 120 #[.agg #[.pointer (some ⟨1, 118, none⟩), .pointer (some x), .int .u64 150]]).run Tryz.prog w = .ok (.value (.iface 214 (.agg #[.pointer (some ⟨1, 118, none⟩)]))) w := by
  rw [@run_callFunc_extern Tryz.prog 120 _ (ReflectliteValue.methodAny (ReflectliteValue.valueError "reflectlite.Value.Type" 0) fun t _ _ _ => ReflectliteType.toType t) Tryz.func120 (by kernel_rfl) (by kernel_rfl) (by kernel_rfl) (by kernel_rfl)]
  change (Sem.run _ (ReflectliteValue.partsAny (.agg #[.pointer (some ⟨1, 118, none⟩), .pointer (some x), .int .u64 150]) >>= _) w).andThen _ = _
  simp [parts150, ofP, toTP]
theorem aKind (w : World) : (callFunc 191 #[.pointer (some ⟨1, 118, none⟩)]).run Tryz.prog w = .ok (.value (.int .u8 22)) w := by
  rw [@run_callFunc_extern Tryz.prog 191 _ (ReflectliteType.abiMethod fun t => do pure (.int .u8 (← Rtype.kind t))) Tryz.func191 (by kernel_rfl) (by kernel_rfl) (by kernel_rfl) (by kernel_rfl)]
  change (Sem.run _ (Rtype.ofHandle (.pointer (some ⟨1, 118, none⟩)) >>= _) w).andThen _ = _
  simp [ofP, npP, kP]
theorem aKindT (w : World) : (callFunc 191 #[.pointer (some ⟨1, 115, none⟩)]).run Tryz.prog w = .ok (.value (.int .u8 25)) w := by
  rw [@run_callFunc_extern Tryz.prog 191 _ (ReflectliteType.abiMethod fun t => do pure (.int .u8 (← Rtype.kind t))) Tryz.func191 (by kernel_rfl) (by kernel_rfl) (by kernel_rfl) (by kernel_rfl)]
  change (Sem.run _ (Rtype.ofHandle (.pointer (some ⟨1, 115, none⟩)) >>= _) w).andThen _ = _
  simp [ofT, npT, kT]
theorem aIsNil (x p : Addr) (w : World) (h : w.cell? x = some (.pointer (some p))) : (callFunc 121 #[.agg #[.pointer (some ⟨1, 118, none⟩), .pointer (some x), .int .u64 150]]).run Tryz.prog w = .ok (.value (.bool false)) w := by
  rw [@run_callFunc_extern Tryz.prog 121 _ (ReflectliteValue.method (ReflectliteValue.valueError "reflectlite.Value.IsNil" 0) ReflectliteValue.isNil) Tryz.func121 (by kernel_rfl) (by kernel_rfl) (by kernel_rfl) (by kernel_rfl)]
  change (Sem.run _ (ReflectliteValue.parts (.agg #[.pointer (some ⟨1, 118, none⟩), .pointer (some x), .int .u64 150]) >>= _) w).andThen _ = _
  simp [ReflectliteValue.parts, parts150, ReflectliteValue.isNil, ofP, npP, loadVar, go_sem, h]
theorem aElem (w : World) : (callFunc 209 #[.agg #[.pointer (some ⟨1, 118, none⟩)]]).run Tryz.prog w = .ok (.value (.iface 214 (.agg #[.pointer (some ⟨1, 115, none⟩)]))) w := by
  rw [@run_callFunc_extern Tryz.prog 209 _ (ReflectliteType.method ReflectliteType.elem) Tryz.func209 (by kernel_rfl) (by kernel_rfl) (by kernel_rfl) (by kernel_rfl)]
  rw [show (ReflectliteType.method ReflectliteType.elem #[.agg #[.pointer (some ⟨1, 118, none⟩)]]).run Tryz.prog w = .ok (.iface 214 (.agg #[.pointer (some ⟨1, 115, none⟩)])) w by kernel_rfl]
  rfl
theorem aImpl (w : World) : (callFunc 210 #[.agg #[.pointer (some ⟨1, 115, none⟩)], .iface 214 (.agg #[.pointer (some ⟨1, 113, none⟩)])]).run Tryz.prog w = .ok (.value (.bool true)) w := by
  rw [@run_callFunc_extern Tryz.prog 210 _ (ReflectliteType.relation "Implements" ReflectliteType.implements_) Tryz.func210 (by kernel_rfl) (by kernel_rfl) (by kernel_rfl) (by kernel_rfl)]
  rw [show (ReflectliteType.relation "Implements" ReflectliteType.implements_ #[.agg #[.pointer (some ⟨1, 115, none⟩)], .iface 214 (.agg #[.pointer (some ⟨1, 113, none⟩)])]).run Tryz.prog w = .ok (.bool true) w by kernel_rfl]
  rfl
theorem aAss (w : World) : (callFunc 207 #[.agg #[.pointer (some ⟨1, 115, none⟩)], .iface 214 (.agg #[.pointer (some ⟨1, 115, none⟩)])]).run Tryz.prog w = .ok (.value (.bool true)) w := by
  rw [@run_callFunc_extern Tryz.prog 207 _ (ReflectliteType.relation "AssignableTo" ReflectliteType.assignableTo) Tryz.func207 (by kernel_rfl) (by kernel_rfl) (by kernel_rfl) (by kernel_rfl)]
  rw [show (ReflectliteType.relation "AssignableTo" ReflectliteType.assignableTo #[.agg #[.pointer (some ⟨1, 115, none⟩)], .iface 214 (.agg #[.pointer (some ⟨1, 115, none⟩)])]).run Tryz.prog w = .ok (.bool true) w by kernel_rfl]
  rfl
theorem aVElem (x : Addr) (g : Nat) (w : World) (h : w.cell? x = some (.pointer (some ⟨g, 0, none⟩))) : (callFunc 157 #[.agg #[.pointer (some ⟨1, 118, none⟩), .pointer (some x), .int .u64 150]]).run Tryz.prog w = .ok (.value (.agg #[.pointer (some ⟨1, 115, none⟩), .pointer (some ⟨g, 0, none⟩), .int .u64 409])) w := by
  rw [@run_callFunc_extern Tryz.prog 157 _ (ReflectliteValue.method (ReflectliteValue.valueError "reflectlite.Value.Elem" 0) ReflectliteValue.elem) Tryz.func157 (by kernel_rfl) (by kernel_rfl) (by kernel_rfl) (by kernel_rfl)]
  change (Sem.run _ (ReflectliteValue.parts (.agg #[.pointer (some ⟨1, 118, none⟩), .pointer (some x), .int .u64 150]) >>= _) w).andThen _ = _
  simp [ReflectliteValue.parts, parts150, ReflectliteValue.elem, ReflectliteValue.mk, ReflectliteValue.flagIndir, ReflectliteValue.flagAddr, ofP, npP, loadVar, elP, hdT, kT, go_sem, h]
theorem aSet (g b : Nat) (n0 n1 n : Int) (p0 p1 p2 : Value) (w : World) (h0 : w.cell? ⟨b, 0, none⟩ = some (.int .i64 n0)) (h1 : w.cell? ⟨b, 1, none⟩ = some (.int .i64 n1)) (h2 : w.cell? ⟨b, 2, none⟩ = some (.iface 184 (.int .i64 n))) (hg0 : w.cell? ⟨g, 0, none⟩ = some p0) (hg1 : w.cell? ⟨g, 1, none⟩ = some p1) (hg2 : w.cell? ⟨g, 2, none⟩ = some p2) (f0 : ∀ i, w.frozen? ⟨g, i, none⟩ = false) :
    (callFunc 158 #[.agg #[.pointer (some ⟨1, 115, none⟩), .pointer (some ⟨g, 0, none⟩), .int .u64 409], .agg #[.pointer (some ⟨1, 115, none⟩), .pointer (some ⟨b, 0, none⟩), .int .u64 153]]).run Tryz.prog w = .ok (.value (.tuple #[])) (((w.setCell ⟨g, 0, none⟩ (.int .i64 n0)).setCell ⟨g, 1, none⟩ (.int .i64 n1)).setCell ⟨g, 2, none⟩ (.iface 184 (.int .i64 n))) := by
  rw [@run_callFunc_extern Tryz.prog 158 _ ReflectliteValue.set Tryz.func158 (by kernel_rfl) (by kernel_rfl) (by kernel_rfl) (by kernel_rfl)]
  change (Sem.run _ (ReflectliteValue.parts (.agg #[.pointer (some ⟨1, 115, none⟩), .pointer (some ⟨g, 0, none⟩), .int .u64 409]) >>= _) w).andThen _ = _
  simp [Array.getLit, ReflectliteValue.parts, parts153, parts409, ReflectliteValue.flagAddr, ofT, npT, daT, go_sem, h0, h1, h2, hg0, hg1, hg2, f0]
end Go.Proofs.YtfglkpcboodllaaGreatDoor.MatE
/-
  errors.As at ErrMatch's errors: the contracts.
-/
set_option linter.unusedVariables false
namespace Go.Proofs.YtfglkpcboodllaaGreatDoor.MatE
open Go.RowKit Go.Extern.Stop Go.Stop Go.Extern

theorem eTypeOfW (v : Value) (w : World) : (callFunc 151 #[.iface 115 v]).run Tryz.prog w = .ok (.value (.iface 214 (.agg #[.pointer (some ⟨1, 115, none⟩)]))) w := by
  rw [@run_callFunc_extern Tryz.prog 151 _ ReflectliteType.typeOf Tryz.func151 (by kernel_rfl) (by kernel_rfl) (by kernel_rfl) (by kernel_rfl)]
  rw [show (ReflectliteType.typeOf #[.iface 115 v]).run Tryz.prog w = .ok (.iface 214 (.agg #[.pointer (some ⟨1, 115, none⟩)])) w by kernel_rfl]
  rfl
theorem aKindTM (w : World) : (Go.method 398 214 (.agg #[.pointer (some ⟨1, 115, none⟩)]) "Kind").run Tryz.prog w = .ok (191, .pointer (some ⟨1, 115, none⟩)) w := by kernel_rfl
theorem aKindM (w : World) : (Go.method 398 214 (.agg #[.pointer (some ⟨1, 118, none⟩)]) "Kind").run Tryz.prog w = .ok (191, .pointer (some ⟨1, 118, none⟩)) w := by kernel_rfl
theorem aElemM (w : World) : (Go.method 398 214 (.agg #[.pointer (some ⟨1, 118, none⟩)]) "Elem").run Tryz.prog w = .ok (209, .agg #[.pointer (some ⟨1, 118, none⟩)]) w := by kernel_rfl
theorem aImplM (w : World) : (Go.method 398 214 (.agg #[.pointer (some ⟨1, 115, none⟩)]) "Implements").run Tryz.prog w = .ok (210, .agg #[.pointer (some ⟨1, 115, none⟩)]) w := by kernel_rfl
theorem aAssM (w : World) : (Go.method 398 214 (.agg #[.pointer (some ⟨1, 115, none⟩)]) "AssignableTo").run Tryz.prog w = .ok (207, .agg #[.pointer (some ⟨1, 115, none⟩)]) w := by kernel_rfl

set_option maxHeartbeats 400000 in
theorem as_nil (v : Value) (w : World) : Calls Tryz.prog 80 #[.nilIface, v] w fun e w' => e = .returned (.bool false) ∧ w = w' := by
  go_enter Tryz.func80, Tryz.ntmps80
  go_wp2
  go_ret
  exact ⟨rfl, rfl⟩

set_option maxRecDepth 100000 in
set_option maxHeartbeats 1000000 in
theorem as_direct (g : Nat) (n0 n1 n : Int) (p0 p1 p2 : Value) (w : World) (hG : errTypeIs w) (hb : Box w g #[p0, p1, p2] 115) :
    Calls Tryz.prog 80 #[.iface 115 (.agg #[.int .i64 n0, .int .i64 n1, .iface 184 (.int .i64 n)]), .iface 118 (.pointer (some ⟨g, 0, none⟩))] w fun e w' =>
      e = .returned (.bool true) ∧ Box w' g #[.int .i64 n0, .int .i64 n1, .iface 184 (.int .i64 n)] 115 ∧ But g w w' := by
  have hG' : w.cell? ⟨0, 0, none⟩ = some (.iface 214 (.agg #[.pointer (some ⟨1, 113, none⟩)])) := hG
  have z0 : 0 < w.heap.size := World.block_lt_of_cell? _ _ hG'
  obtain ⟨kb, fb, zb⟩ := hb.facts
  have HB := Lib.hid hb
  have r1 := aValueOf
  have r2 := aType
  have r3 := aKind
  have r4 := aKindT
  have r5 := fun x W => aIsNil x ⟨g, 0, none⟩ W
  have r6 := aElem
  have r7 := aImpl
  have r8 := aAss
  have r9 := fun x W => aVElem x g W
  have r10 := fun b W => aSet g b n0 n1 n p0 p1 p2 W
  have r11 := aValueOfT
  have r12 := eTypeOfW
  have m1 := aKindM
  have m2 := aKindTM
  have m3 := aElemM
  have m4 := aImplM
  have m5 := aAssM
  clear hb hG
  go_enter Tryz.func80, Tryz.ntmps80
  go_wp2
  refine wp_loop_rounds 1 ?_
  rw [rounds_succ]
  go_wp2
  rw [r9 _ _ (by simp [go_sem])]
  go_wp2
  rw [r10 _ _ (by simp [go_sem]) (by simp [go_sem]) (by simp [go_sem]) (by exact ((((HB.out.alloc _).alloc _).alloc _).alloc _).cell 0) (by exact ((((HB.out.alloc _).alloc _).alloc _).alloc _).cell 1) (by exact ((((HB.out.alloc _).alloc _).alloc _).alloc _).cell 2) (by exact ((((HB.out.alloc _).alloc _).alloc _).alloc _).free)]
  go_wp2
  go_ret
  refine ⟨rfl, ?_, ?_⟩
  · exact (((((((HB.out.alloc _).alloc _).alloc _).alloc _).set_ 0 _).set_ 1 _).set_ 2 _)
  · refine But.trans (But.of_below ?_) (But.trans (But.trans (But.set_ _) (But.set_ _)) (But.set_ _))
    exact below_call (below_call (below_call (below_new _ _) (below_new _ _)) (below_new _ _)) (below_new _ _)
end Go.Proofs.YtfglkpcboodllaaGreatDoor.MatE
