/-
  Merged: ErrHeal, ErrHeal2, ErrHeal3, IdxMath.
-/
import Derived.Test.YtglkgmijhdkhpaaGreatDoorHt5
import Derived.WalkKit
/-
  errors.Is, errors.As at ErrHeal's errors: contracts. Go's own text of them is walked.
-/
set_option linter.unusedVariables false
namespace Go.Proofs.YtglkgmijhdkhpaaGreatDoor.HeaE
open Go.RowKit Go.Extern.Stop Go.Stop Go.Extern

theorem eTypeOf (v : Value) (w : World) : (callFunc 68 #[.iface 70 v]).run Tryz.prog w = .ok (.value (.iface 148 (.agg #[.pointer (some ⟨1, 70, none⟩)]))) w := by
  rw [@run_callFunc_extern Tryz.prog 68 _ ReflectliteType.typeOf Tryz.func68 (by kernel_rfl) (by kernel_rfl) (by kernel_rfl) (by kernel_rfl)]
  rw [show (ReflectliteType.typeOf #[.iface 70 v]).run Tryz.prog w = .ok (.iface 148 (.agg #[.pointer (some ⟨1, 70, none⟩)])) w by kernel_rfl]
  rfl
theorem eMethodComparable (v : Value) (w : World) : (Go.method 339 148 v "Comparable").run Tryz.prog w = .ok (151, v) w := by kernel_rfl
theorem eComparable (w : World) : (callFunc 151 #[.agg #[.pointer (some ⟨1, 70, none⟩)]]).run Tryz.prog w = .ok (.value (.bool true)) w := by
  rw [@run_callFunc_extern Tryz.prog 151 _ (ReflectliteType.method fun t => do Rtype.noPackHeld "Comparable" t; pure (.bool (← typeInfo t).comparable)) Tryz.func151 (by kernel_rfl) (by kernel_rfl) (by kernel_rfl) (by kernel_rfl)]
  rw [show ((ReflectliteType.method fun t => do Rtype.noPackHeld "Comparable" t; pure (.bool (← typeInfo t).comparable)) #[.agg #[.pointer (some ⟨1, 70, none⟩)]]).run Tryz.prog w = .ok (.bool true) w by kernel_rfl]
  rfl
theorem eComp : (Tryz.prog.info? 70).map (·.comparable) = some true := by kernel_rfl
theorem noIsE (v : Value) (xT : TypeId) (w : World) : (Instr.typeAssert (.iface 70 v) xT 150 true).run Tryz.prog w = .ok (.tuple #[.nilIface, .bool false]) w := run_typeAssert_lacksB Tryz.underlying150 (by kernel_rfl) (by kernel_rfl) v xT w
theorem noUnwrapE (v : Value) (xT : TypeId) (w : World) : (Instr.typeAssert (.iface 70 v) xT 153 true).run Tryz.prog w = .ok (.tuple #[.nilIface, .bool false]) w := run_typeAssert_lacksB Tryz.underlying153 (by kernel_rfl) (by kernel_rfl) v xT w
theorem noUnwrapsE (v : Value) (xT : TypeId) (w : World) : (Instr.typeAssert (.iface 70 v) xT 155 true).run Tryz.prog w = .ok (.tuple #[.nilIface, .bool false]) w := run_typeAssert_lacksB Tryz.underlying155 (by kernel_rfl) (by kernel_rfl) v xT w
theorem noIsW (v : Value) (xT : TypeId) (w : World) : (Instr.typeAssert (.iface 64 v) xT 150 true).run Tryz.prog w = .ok (.tuple #[.nilIface, .bool false]) w := run_typeAssert_lacksB Tryz.underlying150 (by kernel_rfl) (by kernel_rfl) v xT w
theorem hasUnwrapW (v : Value) (xT : TypeId) (w : World) : (Instr.typeAssert (.iface 64 v) xT 153 true).run Tryz.prog w = .ok (.tuple #[.iface 64 v, .bool true]) w := run_typeAssert_hasB Tryz.underlying153 (by kernel_rfl) v xT w
theorem methodUnwrap (v : Value) (w : World) : (Go.method 339 64 v "Unwrap").run Tryz.prog w = .ok (144, v) w := by kernel_rfl

set_option maxHeartbeats 400000 in
theorem is_nil (m : Int) (w : World) : Calls Tryz.prog 36 #[.nilIface, .iface 70 (.int .i64 m)] w fun e w' => e = .returned (.bool false) ∧ w = w' := by
  have hn := run_eql_iface_nil_left (P := Tryz.prog) w 70 (.int .i64 m) Tryz.underlying62
  go_enter Tryz.func36, Tryz.ntmps36
  go_wp2
  go_ret
  exact ⟨rfl, rfl⟩

set_option maxHeartbeats 400000 in
theorem is_wrap (n0 n m : Int) (w : World) : Calls Tryz.prog 36 #[.iface 64 (.agg #[.int .i64 n0, .iface 70 (.int .i64 n)]), .iface 70 (.int .i64 m)] w fun e w' => e = .returned (.bool (n == m)) ∧ Below w.heap.size w w' := by
  obtain ⟨i, hi, hcmp⟩ := Option.map_eq_some_iff.1 eComp
  have tT := eTypeOf
  have cT := eComparable
  have mR := eMethodComparable
  have nE := noIsE
  have uE := noUnwrapE
  have vE := noUnwrapsE
  have nW := noIsW
  have uW := hasUnwrapW
  have mU := methodUnwrap
  have heq := fun w => run_eql_iface_int (P := Tryz.prog) w n m Tryz.underlying62 Tryz.underlying70 hi hcmp
  have hty := run_eql_iface_types (P := Tryz.prog) 64 70 (.agg #[.int .i64 n0, .iface 70 (.int .i64 n)]) (.int .i64 m) Tryz.underlying62 (by decide)
  clear hi hcmp
  go_enter Tryz.func36, Tryz.ntmps36
  go_wp2
  refine wp_loop_rounds 2 ?_
  rw [rounds_succ]
  go_wp2
  rw [rounds_succ]
  go_wp2
  all_goals go_ret
  · have h : (n == m) = true := by assumption
    exact ⟨ret_bool h.symm, below_new _ _⟩
  · have h : (n == m) = false := by assumption
    exact ⟨ret_bool h.symm, below_new _ _⟩
end Go.Proofs.YtglkgmijhdkhpaaGreatDoor.HeaE
/-
  errors.As at ErrHeal's errors.
-/
set_option linter.unusedVariables false
namespace Go.Proofs.YtglkgmijhdkhpaaGreatDoor.HeaE
open Go.RowKit Go.Extern.Stop Go.Stop Go.Extern

theorem parts150 (h : Value) (a : Addr) : ReflectliteValue.partsAny (.agg #[h, .pointer (some a), .int .u64 150]) = (do pure (some (← Rtype.ofHandle h, a, 150))) := rfl
theorem parts153 (h : Value) (a : Addr) : ReflectliteValue.partsAny (.agg #[h, .pointer (some a), .int .u64 153]) = (do pure (some (← Rtype.ofHandle h, a, 153))) := rfl
theorem parts409 (h : Value) (a : Addr) : ReflectliteValue.partsAny (.agg #[h, .pointer (some a), .int .u64 409]) = (do pure (some (← Rtype.ofHandle h, a, 409))) := rfl
section
variable (w : World)
theorem kP : (Rtype.kind 72).run Tryz.prog w = .ok 22 w := by kernel_rfl
theorem kT : (Rtype.kind 64).run Tryz.prog w = .ok 25 w := by kernel_rfl
theorem hdP : (Rtype.handle 72).run Tryz.prog w = .ok (.pointer (some ⟨1, 72, none⟩)) w := by kernel_rfl
theorem hdT : (Rtype.handle 64).run Tryz.prog w = .ok (.pointer (some ⟨1, 64, none⟩)) w := by kernel_rfl
theorem ofP : (Rtype.ofHandle (.pointer (some ⟨1, 72, none⟩))).run Tryz.prog w = .ok 72 w := by kernel_rfl
theorem ofT : (Rtype.ofHandle (.pointer (some ⟨1, 64, none⟩))).run Tryz.prog w = .ok 64 w := by kernel_rfl
theorem npP (s : String) : (Rtype.noPack s 72).run Tryz.prog w = .ok () w := by kernel_rfl
theorem npT (s : String) : (Rtype.noPack s 64).run Tryz.prog w = .ok () w := by kernel_rfl
theorem toTP : (ReflectliteType.toType 72).run Tryz.prog w = .ok (.iface 148 (.agg #[.pointer (some ⟨1, 72, none⟩)])) w := by kernel_rfl
theorem elP : (Rtype.elem? 72).run Tryz.prog w = .ok (some 64) w := by kernel_rfl
theorem agP : (isAgg 72).run Tryz.prog w = .ok false w := by kernel_rfl
theorem agT : (isAgg 64).run Tryz.prog w = .ok true w := by kernel_rfl
theorem szT : (sizeOf 64).run Tryz.prog w = .ok 2 w := by kernel_rfl
theorem daT : (Rtype.directlyAssignable 64 64).run Tryz.prog w = .ok true w := by kernel_rfl
end

theorem aValueOf (x : Option Addr) (w : World) : (callFunc 70 #[.iface 72 (.pointer x)]).run Tryz.prog w = .ok (.value (.agg #[.pointer (some ⟨1, 72, none⟩), .pointer (some ⟨w.heap.size, 0, none⟩), .int .u64 150])) (w.alloc (.cells #[.pointer x] 72)) := by
  rw [@run_callFunc_extern Tryz.prog 70 _ (fun args => ReflectliteValue.unpack (args.getD 0 (.tuple #[]))) Tryz.func70 (by kernel_rfl) (by kernel_rfl) (by kernel_rfl) (by kernel_rfl)]
  simp [ReflectliteValue.unpack, ReflectliteValue.mk, ReflectliteValue.flagIndir, hdP, kP, newVar, newRow, go_sem]
theorem aValueOfT (a0 a1 : Value) (w : World) : (callFunc 70 #[.iface 64 (.agg #[a0, a1])]).run Tryz.prog w = .ok (.value (.agg #[.pointer (some ⟨1, 64, none⟩), .pointer (some ⟨w.heap.size, 0, none⟩), .int .u64 153])) (w.alloc (.cells #[a0, a1] 64)) := by
  rw [@run_callFunc_extern Tryz.prog 70 _ (fun args => ReflectliteValue.unpack (args.getD 0 (.tuple #[]))) Tryz.func70 (by kernel_rfl) (by kernel_rfl) (by kernel_rfl) (by kernel_rfl)]
  simp [ReflectliteValue.unpack, ReflectliteValue.mk, ReflectliteValue.flagIndir, hdT, kT, newVar, newRow, go_sem, Value.cells]
theorem aType (x : Addr) (w : World) : (callFunc 71 #[.agg #[.pointer (some ⟨1, 72, none⟩), .pointer (some x), .int .u64 150]]).run Tryz.prog w = .ok (.value (.iface 148 (.agg #[.pointer (some ⟨1, 72, none⟩)]))) w := by
  rw [@run_callFunc_extern Tryz.prog 71 _ (ReflectliteValue.methodAny (ReflectliteValue.valueError "reflectlite.Value.Type" 0) fun t _ _ _ => ReflectliteType.toType t) Tryz.func71 (by kernel_rfl) (by kernel_rfl) (by kernel_rfl) (by kernel_rfl)]
  change (Sem.run _ (ReflectliteValue.partsAny (.agg #[.pointer (some ⟨1, 72, none⟩), .pointer (some x), .int .u64 150]) >>= _) w).andThen _ = _
  simp [parts150, ofP, toTP]
theorem aKind (w : World) : (callFunc 140 #[.pointer (some ⟨1, 72, none⟩)]).run Tryz.prog w = .ok (.value (.int .u8 22)) w := by
  rw [@run_callFunc_extern Tryz.prog 140 _ (ReflectliteType.abiMethod fun t => do pure (.int .u8 (← Rtype.kind t))) Tryz.func140 (by kernel_rfl) (by kernel_rfl) (by kernel_rfl) (by kernel_rfl)]
  change (Sem.run _ (Rtype.ofHandle (.pointer (some ⟨1, 72, none⟩)) >>= _) w).andThen _ = _
  simp [ofP, npP, kP]
theorem aKindT (w : World) : (callFunc 140 #[.pointer (some ⟨1, 64, none⟩)]).run Tryz.prog w = .ok (.value (.int .u8 25)) w := by
  rw [@run_callFunc_extern Tryz.prog 140 _ (ReflectliteType.abiMethod fun t => do pure (.int .u8 (← Rtype.kind t))) Tryz.func140 (by kernel_rfl) (by kernel_rfl) (by kernel_rfl) (by kernel_rfl)]
  change (Sem.run _ (Rtype.ofHandle (.pointer (some ⟨1, 64, none⟩)) >>= _) w).andThen _ = _
  simp [ofT, npT, kT]
theorem aIsNil (x p : Addr) (w : World) (h : w.cell? x = some (.pointer (some p))) : (callFunc 72 #[.agg #[.pointer (some ⟨1, 72, none⟩), .pointer (some x), .int .u64 150]]).run Tryz.prog w = .ok (.value (.bool false)) w := by
  rw [@run_callFunc_extern Tryz.prog 72 _ (ReflectliteValue.method (ReflectliteValue.valueError "reflectlite.Value.IsNil" 0) ReflectliteValue.isNil) Tryz.func72 (by kernel_rfl) (by kernel_rfl) (by kernel_rfl) (by kernel_rfl)]
  change (Sem.run _ (ReflectliteValue.parts (.agg #[.pointer (some ⟨1, 72, none⟩), .pointer (some x), .int .u64 150]) >>= _) w).andThen _ = _
  simp [ReflectliteValue.parts, parts150, ReflectliteValue.isNil, ofP, npP, loadVar, go_sem, h]
theorem aElem (w : World) : (callFunc 152 #[.agg #[.pointer (some ⟨1, 72, none⟩)]]).run Tryz.prog w = .ok (.value (.iface 148 (.agg #[.pointer (some ⟨1, 64, none⟩)]))) w := by
  rw [@run_callFunc_extern Tryz.prog 152 _ (ReflectliteType.method ReflectliteType.elem) Tryz.func152 (by kernel_rfl) (by kernel_rfl) (by kernel_rfl) (by kernel_rfl)]
  rw [show (ReflectliteType.method ReflectliteType.elem #[.agg #[.pointer (some ⟨1, 72, none⟩)]]).run Tryz.prog w = .ok (.iface 148 (.agg #[.pointer (some ⟨1, 64, none⟩)])) w by kernel_rfl]
  rfl
theorem aImpl (w : World) : (callFunc 153 #[.agg #[.pointer (some ⟨1, 64, none⟩)], .iface 148 (.agg #[.pointer (some ⟨1, 62, none⟩)])]).run Tryz.prog w = .ok (.value (.bool true)) w := by
  rw [@run_callFunc_extern Tryz.prog 153 _ (ReflectliteType.relation "Implements" ReflectliteType.implements_) Tryz.func153 (by kernel_rfl) (by kernel_rfl) (by kernel_rfl) (by kernel_rfl)]
  rw [show (ReflectliteType.relation "Implements" ReflectliteType.implements_ #[.agg #[.pointer (some ⟨1, 64, none⟩)], .iface 148 (.agg #[.pointer (some ⟨1, 62, none⟩)])]).run Tryz.prog w = .ok (.bool true) w by kernel_rfl]
  rfl
theorem aAss (w : World) : (callFunc 150 #[.agg #[.pointer (some ⟨1, 64, none⟩)], .iface 148 (.agg #[.pointer (some ⟨1, 64, none⟩)])]).run Tryz.prog w = .ok (.value (.bool true)) w := by
  rw [@run_callFunc_extern Tryz.prog 150 _ (ReflectliteType.relation "AssignableTo" ReflectliteType.assignableTo) Tryz.func150 (by kernel_rfl) (by kernel_rfl) (by kernel_rfl) (by kernel_rfl)]
  rw [show (ReflectliteType.relation "AssignableTo" ReflectliteType.assignableTo #[.agg #[.pointer (some ⟨1, 64, none⟩)], .iface 148 (.agg #[.pointer (some ⟨1, 64, none⟩)])]).run Tryz.prog w = .ok (.bool true) w by kernel_rfl]
  rfl
theorem aVElem (x : Addr) (g : Nat) (w : World) (h : w.cell? x = some (.pointer (some ⟨g, 0, none⟩))) : (callFunc 101 #[.agg #[.pointer (some ⟨1, 72, none⟩), .pointer (some x), .int .u64 150]]).run Tryz.prog w = .ok (.value (.agg #[.pointer (some ⟨1, 64, none⟩), .pointer (some ⟨g, 0, none⟩), .int .u64 409])) w := by
  rw [@run_callFunc_extern Tryz.prog 101 _ (ReflectliteValue.method (ReflectliteValue.valueError "reflectlite.Value.Elem" 0) ReflectliteValue.elem) Tryz.func101 (by kernel_rfl) (by kernel_rfl) (by kernel_rfl) (by kernel_rfl)]
  change (Sem.run _ (ReflectliteValue.parts (.agg #[.pointer (some ⟨1, 72, none⟩), .pointer (some x), .int .u64 150]) >>= _) w).andThen _ = _
  simp [ReflectliteValue.parts, parts150, ReflectliteValue.elem, ReflectliteValue.mk, ReflectliteValue.flagIndir, ReflectliteValue.flagAddr, ofP, npP, loadVar, elP, hdT, kT, go_sem, h]
theorem aSet (g b : Nat) (n0 n : Int) (p0 p1 : Value) (w : World) (h0 : w.cell? ⟨b, 0, none⟩ = some (.int .i64 n0)) (h1 : w.cell? ⟨b, 1, none⟩ = some (.iface 70 (.int .i64 n))) (hg0 : w.cell? ⟨g, 0, none⟩ = some p0) (hg1 : w.cell? ⟨g, 1, none⟩ = some p1) (f0 : ∀ i, w.frozen? ⟨g, i, none⟩ = false) :
    (callFunc 102 #[.agg #[.pointer (some ⟨1, 64, none⟩), .pointer (some ⟨g, 0, none⟩), .int .u64 409], .agg #[.pointer (some ⟨1, 64, none⟩), .pointer (some ⟨b, 0, none⟩), .int .u64 153]]).run Tryz.prog w = .ok (.value (.tuple #[])) ((w.setCell ⟨g, 0, none⟩ (.int .i64 n0)).setCell ⟨g, 1, none⟩ (.iface 70 (.int .i64 n))) := by
  rw [@run_callFunc_extern Tryz.prog 102 _ ReflectliteValue.set Tryz.func102 (by kernel_rfl) (by kernel_rfl) (by kernel_rfl) (by kernel_rfl)]
  change (Sem.run _ (ReflectliteValue.parts (.agg #[.pointer (some ⟨1, 64, none⟩), .pointer (some ⟨g, 0, none⟩), .int .u64 409]) >>= _) w).andThen _ = _
  simp [Array.getLit, ReflectliteValue.parts, parts153, parts409, ReflectliteValue.flagAddr, ofT, npT, daT, go_sem, h0, h1, hg0, hg1, f0]
end Go.Proofs.YtglkgmijhdkhpaaGreatDoor.HeaE
/-
  errors.As at ErrHeal's errors: the contracts.
-/
set_option linter.unusedVariables false
namespace Go.Proofs.YtglkgmijhdkhpaaGreatDoor.HeaE
open Go.RowKit Go.Extern.Stop Go.Stop Go.Extern

theorem eTypeOfW (v : Value) (w : World) : (callFunc 68 #[.iface 64 v]).run Tryz.prog w = .ok (.value (.iface 148 (.agg #[.pointer (some ⟨1, 64, none⟩)]))) w := by
  rw [@run_callFunc_extern Tryz.prog 68 _ ReflectliteType.typeOf Tryz.func68 (by kernel_rfl) (by kernel_rfl) (by kernel_rfl) (by kernel_rfl)]
  rw [show (ReflectliteType.typeOf #[.iface 64 v]).run Tryz.prog w = .ok (.iface 148 (.agg #[.pointer (some ⟨1, 64, none⟩)])) w by kernel_rfl]
  rfl
theorem aKindTM (w : World) : (Go.method 339 148 (.agg #[.pointer (some ⟨1, 64, none⟩)]) "Kind").run Tryz.prog w = .ok (140, .pointer (some ⟨1, 64, none⟩)) w := by kernel_rfl
theorem aKindM (w : World) : (Go.method 339 148 (.agg #[.pointer (some ⟨1, 72, none⟩)]) "Kind").run Tryz.prog w = .ok (140, .pointer (some ⟨1, 72, none⟩)) w := by kernel_rfl
theorem aElemM (w : World) : (Go.method 339 148 (.agg #[.pointer (some ⟨1, 72, none⟩)]) "Elem").run Tryz.prog w = .ok (152, .agg #[.pointer (some ⟨1, 72, none⟩)]) w := by kernel_rfl
theorem aImplM (w : World) : (Go.method 339 148 (.agg #[.pointer (some ⟨1, 64, none⟩)]) "Implements").run Tryz.prog w = .ok (153, .agg #[.pointer (some ⟨1, 64, none⟩)]) w := by kernel_rfl
theorem aAssM (w : World) : (Go.method 339 148 (.agg #[.pointer (some ⟨1, 64, none⟩)]) "AssignableTo").run Tryz.prog w = .ok (150, .agg #[.pointer (some ⟨1, 64, none⟩)]) w := by kernel_rfl

set_option maxHeartbeats 400000 in
theorem as_nil (v : Value) (w : World) : Calls Tryz.prog 37 #[.nilIface, v] w fun e w' => e = .returned (.bool false) ∧ w = w' := by
  go_enter Tryz.func37, Tryz.ntmps37
  go_wp2
  go_ret
  exact ⟨rfl, rfl⟩

set_option maxRecDepth 100000 in
set_option maxHeartbeats 1000000 in
theorem as_direct (g : Nat) (n0 n : Int) (p0 p1 : Value) (w : World) (hG : errTypeIs w) (hb : Box w g #[p0, p1] 64) :
    Calls Tryz.prog 37 #[.iface 64 (.agg #[.int .i64 n0, .iface 70 (.int .i64 n)]), .iface 72 (.pointer (some ⟨g, 0, none⟩))] w fun e w' =>
      e = .returned (.bool true) ∧ Box w' g #[.int .i64 n0, .iface 70 (.int .i64 n)] 64 ∧ But g w w' := by
  have hG' : w.cell? ⟨0, 0, none⟩ = some (.iface 148 (.agg #[.pointer (some ⟨1, 62, none⟩)])) := hG
  have z0 : 0 < w.heap.size := World.block_lt_of_cell? _ _ hG'
  obtain ⟨kb, fb, zb⟩ := hb.facts
  have HB := Lib.hid hb
  have r1 := aValueOf
  have r2 := aType
  have r3 := aKind
  have r4 := aKindT
  have r5 := fun x W => aIsNil x ⟨g, 0, none⟩ W
  have r6 := aElem
  have r7 := aImpl
  have r8 := aAss
  have r9 := fun x W => aVElem x g W
  have r10 := fun b W => aSet g b n0 n p0 p1 W
  have r11 := aValueOfT
  have r12 := eTypeOfW
  have m1 := aKindM
  have m2 := aKindTM
  have m3 := aElemM
  have m4 := aImplM
  have m5 := aAssM
  clear hb hG
  go_enter Tryz.func37, Tryz.ntmps37
  go_wp2
  refine wp_loop_rounds 1 ?_
  rw [rounds_succ]
  go_wp2
  rw [r9 _ _ (by simp [go_sem])]
  go_wp2
  rw [r10 _ _ (by simp [go_sem]) (by simp [go_sem]) (by exact ((((HB.out.alloc _).alloc _).alloc _).alloc _).cell 0) (by exact ((((HB.out.alloc _).alloc _).alloc _).alloc _).cell 1) (by exact ((((HB.out.alloc _).alloc _).alloc _).alloc _).free)]
  go_wp2
  go_ret
  refine ⟨rfl, ?_, ?_⟩
  · exact ((((((HB.out.alloc _).alloc _).alloc _).alloc _).set_ 0 _).set_ 1 _)
  · refine But.trans (But.of_below ?_) (But.trans (But.set_ _) (But.set_ _))
    exact below_call (below_call (below_call (below_new _ _) (below_new _ _)) (below_new _ _)) (below_new _ _)
end Go.Proofs.YtglkgmijhdkhpaaGreatDoor.HeaE
/-
  What IndexFunc tells: plain Lean, no program.
-/
set_option linter.unusedVariables false
namespace Go.Proofs.YtglkgmijhdkhpaaGreatDoor

section
variable {α : Type} {p : α → Bool} {l : List α}
/-- None of the first k. -/
def NoP (p : α → Bool) (l : List α) (k : Nat) : Prop := ∀ x ∈ l.take k, p x = false
theorem noP_zero : NoP p l 0 := fun x hx => by simp at hx
theorem noP_step {k : Nat} {x : α} (h : NoP p l k) (hx : l[k]? = some x) (hp : p x = false) : NoP p l (k + 1) := by
  intro y hy
  rw [List.take_add_one, hx, List.mem_append] at hy
  rcases hy with hy | hy
  · exact h y hy
  · simp at hy; subst hy; exact hp
/-- The first one, or -1. -/
def FndPost (p : α → Bool) (l : List α) (r : Int) : Prop := (r = -1 ∧ l.find? p = none) ∨ ∃ (k : Nat) (x : α), r = (k : Int) ∧ l[k]? = some x ∧ p x = true ∧ l.find? p = some x ∧ NoP p l k
theorem fnd_no (h : NoP p l l.length) : FndPost p l (-1) := by
  unfold NoP at h
  rw [List.take_length] at h
  exact .inl ⟨rfl, List.find?_eq_none.2 fun x hx => by rw [h x hx]; simp⟩
theorem fnd_yes {k : Nat} {x : α} (h : NoP p l k) (hx : l[k]? = some x) (hp : p x = true) : FndPost p l (k : Int) := by
  refine .inr ⟨k, x, rfl, hx, hp, ?_, h⟩
  obtain ⟨hl, hg⟩ := List.getElem?_eq_some_iff.1 hx
  refine List.find?_eq_some_iff_append.2 ⟨hp, l.take k, l.drop (k + 1), ?_, fun a ha => by rw [h a ha]; rfl⟩
  rw [← hg, ← List.drop_eq_getElem_cons hl, List.take_append_drop]
theorem FndPost.any {r : Int} (h : FndPost p l r) : decide (0 ≤ r) = l.any p := by
  rcases h with ⟨rfl, h⟩ | ⟨k, x, rfl, hx, hp, h, -⟩
  · have : l.any p = false := by rw [List.any_eq_false]; exact List.find?_eq_none.1 h
    rw [this]; rfl
  · have : l.any p = true := by rw [List.any_eq_true]; exact ⟨x, List.mem_of_getElem? hx, hp⟩
    rw [this]; simp
end
end Go.Proofs.YtglkgmijhdkhpaaGreatDoor
