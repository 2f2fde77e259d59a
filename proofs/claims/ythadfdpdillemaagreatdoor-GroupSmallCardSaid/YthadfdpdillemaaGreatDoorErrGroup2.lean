/-
  errors.As at ErrGroup's errors.
-/
import Derived.Test.YthadfdpdillemaaGreatDoorErrGroup
set_option linter.unusedVariables false
namespace Go.Proofs.YthadfdpdillemaaGreatDoor.GrpE
open Go.RowKit Go.Extern.Stop Go.Stop Go.Extern

theorem parts150 (h : Value) (a : Addr) : ReflectliteValue.partsAny (.agg #[h, .pointer (some a), .int .u64 150]) = (do pure (some (← Rtype.ofHandle h, a, 150))) := rfl
theorem parts153 (h : Value) (a : Addr) : ReflectliteValue.partsAny (.agg #[h, .pointer (some a), .int .u64 153]) = (do pure (some (← Rtype.ofHandle h, a, 153))) := rfl
theorem parts409 (h : Value) (a : Addr) : ReflectliteValue.partsAny (.agg #[h, .pointer (some a), .int .u64 409]) = (do pure (some (← Rtype.ofHandle h, a, 409))) := rfl
section
variable (w : World)
theorem kP : (Rtype.kind 161).run Tryz.prog w = .ok 22 w := by kernel_rfl
theorem kT : (Rtype.kind 159).run Tryz.prog w = .ok 25 w := by kernel_rfl
theorem hdP : (Rtype.handle 161).run Tryz.prog w = .ok (.pointer (some ⟨1, 161, none⟩)) w := by kernel_rfl
theorem hdT : (Rtype.handle 159).run Tryz.prog w = .ok (.pointer (some ⟨1, 159, none⟩)) w := by kernel_rfl
theorem ofP : (Rtype.ofHandle (.pointer (some ⟨1, 161, none⟩))).run Tryz.prog w = .ok 161 w := by kernel_rfl
theorem ofT : (Rtype.ofHandle (.pointer (some ⟨1, 159, none⟩))).run Tryz.prog w = .ok 159 w := by kernel_rfl
theorem npP (s : String) : (Rtype.noPack s 161).run Tryz.prog w = .ok () w := by kernel_rfl
theorem npT (s : String) : (Rtype.noPack s 159).run Tryz.prog w = .ok () w := by kernel_rfl
theorem toTP : (ReflectliteType.toType 161).run Tryz.prog w = .ok (.iface 227 (.agg #[.pointer (some ⟨1, 161, none⟩)])) w := by kernel_rfl
theorem elP : (Rtype.elem? 161).run Tryz.prog w = .ok (some 159) w := by kernel_rfl
theorem agP : (isAgg 161).run Tryz.prog w = .ok false w := by kernel_rfl
theorem agT : (isAgg 159).run Tryz.prog w = .ok true w := by kernel_rfl
theorem szT : (sizeOf 159).run Tryz.prog w = .ok 2 w := by kernel_rfl
theorem daT : (Rtype.directlyAssignable 159 159).run Tryz.prog w = .ok true w := by kernel_rfl
end

theorem aValueOf (x : Option Addr) (w : World) : (callFunc 114 #[.iface 161 (.pointer x)]).run Tryz.prog w = .ok (.value (.agg #[.pointer (some ⟨1, 161, none⟩), .pointer (some ⟨w.heap.size, 0, none⟩), .int .u64 150])) (w.alloc (.cells #[.pointer x] 161)) := by
  rw [@run_callFunc_extern Tryz.prog 114 _ (fun args => ReflectliteValue.unpack (args.getD 0 (.tuple #[]))) Tryz.func114 (by kernel_rfl) (by kernel_rfl) (by kernel_rfl) (by kernel_rfl)]
  simp [ReflectliteValue.unpack, ReflectliteValue.mk, ReflectliteValue.flagIndir, hdP, kP, newVar, newRow, go_sem]
theorem aValueOfT (a0 a1 : Value) (w : World) : (callFunc 114 #[.iface 159 (.agg #[a0, a1])]).run Tryz.prog w = .ok (.value (.agg #[.pointer (some ⟨1, 159, none⟩), .pointer (some ⟨w.heap.size, 0, none⟩), .int .u64 153])) (w.alloc (.cells #[a0, a1] 159)) := by
  rw [@run_callFunc_extern Tryz.prog 114 _ (fun args => ReflectliteValue.unpack (args.getD 0 (.tuple #[]))) Tryz.func114 (by kernel_rfl) (by kernel_rfl) (by kernel_rfl) (by kernel_rfl)]
  simp [ReflectliteValue.unpack, ReflectliteValue.mk, ReflectliteValue.flagIndir, hdT, kT, newVar, newRow, go_sem, Value.cells]
theorem aType (x : Addr) (w : World) : (callFunc 115 #[.agg #[.pointer (some ⟨1, 161, none⟩), .pointer (some x), .int .u64 150]]).run Tryz.prog w = .ok (.value (.iface 227 (.agg #[.pointer (some ⟨1, 161, none⟩)]))) w := by
  rw [@run_callFunc_extern Tryz.prog 115 _ (ReflectliteValue.methodAny (ReflectliteValue.valueError "reflectlite.Value.Type" 0) fun t _ _ _ => ReflectliteType.toType t) Tryz.func115 (by kernel_rfl) (by kernel_rfl) (by kernel_rfl) (by kernel_rfl)]
  change (Sem.run _ (ReflectliteValue.partsAny (.agg #[.pointer (some ⟨1, 161, none⟩), .pointer (some x), .int .u64 150]) >>= _) w).andThen _ = _
  simp [parts150, ofP, toTP]
theorem aKind (w : World) : (callFunc 222 #[.pointer (some ⟨1, 161, none⟩)]).run Tryz.prog w = .ok (.value (.int .u8 22)) w := by
  rw [@run_callFunc_extern Tryz.prog 222 _ (ReflectliteType.abiMethod fun t => do pure (.int .u8 (← Rtype.kind t))) Tryz.func222 (by kernel_rfl) (by kernel_rfl) (by kernel_rfl) (by kernel_rfl)]
  change (Sem.run _ (Rtype.ofHandle (.pointer (some ⟨1, 161, none⟩)) >>= _) w).andThen _ = _
  simp [ofP, npP, kP]
theorem aKindT (w : World) : (callFunc 222 #[.pointer (some ⟨1, 159, none⟩)]).run Tryz.prog w = .ok (.value (.int .u8 25)) w := by
  rw [@run_callFunc_extern Tryz.prog 222 _ (ReflectliteType.abiMethod fun t => do pure (.int .u8 (← Rtype.kind t))) Tryz.func222 (by kernel_rfl) (by kernel_rfl) (by kernel_rfl) (by kernel_rfl)]
  change (Sem.run _ (Rtype.ofHandle (.pointer (some ⟨1, 159, none⟩)) >>= _) w).andThen _ = _
  simp [ofT, npT, kT]
theorem aIsNil (x p : Addr) (w : World) (h : w.cell? x = some (.pointer (some p))) : (callFunc 116 #[.agg #[.pointer (some ⟨1, 161, none⟩), .pointer (some x), .int .u64 150]]).run Tryz.prog w = .ok (.value (.bool false)) w := by
  rw [@run_callFunc_extern Tryz.prog 116 _ (ReflectliteValue.method (ReflectliteValue.valueError "reflectlite.Value.IsNil" 0) ReflectliteValue.isNil) Tryz.func116 (by kernel_rfl) (by kernel_rfl) (by kernel_rfl) (by kernel_rfl)]
  change (Sem.run _ (ReflectliteValue.parts (.agg #[.pointer (some ⟨1, 161, none⟩), .pointer (some x), .int .u64 150]) >>= _) w).andThen _ = _
  simp [ReflectliteValue.parts, parts150, ReflectliteValue.isNil, ofP, npP, loadVar, go_sem, h]
theorem aElem (w : World) : (callFunc 243 #[.agg #[.pointer (some ⟨1, 161, none⟩)]]).run Tryz.prog w = .ok (.value (.iface 227 (.agg #[.pointer (some ⟨1, 159, none⟩)]))) w := by
  rw [@run_callFunc_extern Tryz.prog 243 _ (ReflectliteType.method ReflectliteType.elem) Tryz.func243 (by kernel_rfl) (by kernel_rfl) (by kernel_rfl) (by kernel_rfl)]
  rw [show (ReflectliteType.method ReflectliteType.elem #[.agg #[.pointer (some ⟨1, 161, none⟩)]]).run Tryz.prog w = .ok (.iface 227 (.agg #[.pointer (some ⟨1, 159, none⟩)])) w by kernel_rfl]
  rfl
theorem aImpl (w : World) : (callFunc 244 #[.agg #[.pointer (some ⟨1, 159, none⟩)], .iface 227 (.agg #[.pointer (some ⟨1, 105, none⟩)])]).run Tryz.prog w = .ok (.value (.bool true)) w := by
  rw [@run_callFunc_extern Tryz.prog 244 _ (ReflectliteType.relation "Implements" ReflectliteType.implements_) Tryz.func244 (by kernel_rfl) (by kernel_rfl) (by kernel_rfl) (by kernel_rfl)]
  rw [show (ReflectliteType.relation "Implements" ReflectliteType.implements_ #[.agg #[.pointer (some ⟨1, 159, none⟩)], .iface 227 (.agg #[.pointer (some ⟨1, 105, none⟩)])]).run Tryz.prog w = .ok (.bool true) w by kernel_rfl]
  rfl
theorem aAss (w : World) : (callFunc 241 #[.agg #[.pointer (some ⟨1, 159, none⟩)], .iface 227 (.agg #[.pointer (some ⟨1, 159, none⟩)])]).run Tryz.prog w = .ok (.value (.bool true)) w := by
  rw [@run_callFunc_extern Tryz.prog 241 _ (ReflectliteType.relation "AssignableTo" ReflectliteType.assignableTo) Tryz.func241 (by kernel_rfl) (by kernel_rfl) (by kernel_rfl) (by kernel_rfl)]
  rw [show (ReflectliteType.relation "AssignableTo" ReflectliteType.assignableTo #[.agg #[.pointer (some ⟨1, 159, none⟩)], .iface 227 (.agg #[.pointer (some ⟨1, 159, none⟩)])]).run Tryz.prog w = .ok (.bool true) w by kernel_rfl]
  rfl
theorem aVElem (x : Addr) (g : Nat) (w : World) (h : w.cell? x = some (.pointer (some ⟨g, 0, none⟩))) : (callFunc 164 #[.agg #[.pointer (some ⟨1, 161, none⟩), .pointer (some x), .int .u64 150]]).run Tryz.prog w = .ok (.value (.agg #[.pointer (some ⟨1, 159, none⟩), .pointer (some ⟨g, 0, none⟩), .int .u64 409])) w := by
  rw [@run_callFunc_extern Tryz.prog 164 _ (ReflectliteValue.method (ReflectliteValue.valueError "reflectlite.Value.Elem" 0) ReflectliteValue.elem) Tryz.func164 (by kernel_rfl) (by kernel_rfl) (by kernel_rfl) (by kernel_rfl)]
  change (Sem.run _ (ReflectliteValue.parts (.agg #[.pointer (some ⟨1, 161, none⟩), .pointer (some x), .int .u64 150]) >>= _) w).andThen _ = _
  simp [ReflectliteValue.parts, parts150, ReflectliteValue.elem, ReflectliteValue.mk, ReflectliteValue.flagIndir, ReflectliteValue.flagAddr, ofP, npP, loadVar, elP, hdT, kT, go_sem, h]
theorem aSet (g b : Nat) (n0 n : Int) (p0 p1 : Value) (w : World) (h0 : w.cell? ⟨b, 0, none⟩ = some (.int .i64 n0)) (h1 : w.cell? ⟨b, 1, none⟩ = some (.iface 160 (.int .i64 n))) (hg0 : w.cell? ⟨g, 0, none⟩ = some p0) (hg1 : w.cell? ⟨g, 1, none⟩ = some p1) (f0 : ∀ i, w.frozen? ⟨g, i, none⟩ = false) :
    (callFunc 165 #[.agg #[.pointer (some ⟨1, 159, none⟩), .pointer (some ⟨g, 0, none⟩), .int .u64 409], .agg #[.pointer (some ⟨1, 159, none⟩), .pointer (some ⟨b, 0, none⟩), .int .u64 153]]).run Tryz.prog w = .ok (.value (.tuple #[])) ((w.setCell ⟨g, 0, none⟩ (.int .i64 n0)).setCell ⟨g, 1, none⟩ (.iface 160 (.int .i64 n))) := by
  rw [@run_callFunc_extern Tryz.prog 165 _ ReflectliteValue.set Tryz.func165 (by kernel_rfl) (by kernel_rfl) (by kernel_rfl) (by kernel_rfl)]
  change (Sem.run _ (ReflectliteValue.parts (.agg #[.pointer (some ⟨1, 159, none⟩), .pointer (some ⟨g, 0, none⟩), .int .u64 409]) >>= _) w).andThen _ = _
  simp [Array.getLit, ReflectliteValue.parts, parts153, parts409, ReflectliteValue.flagAddr, ofT, npT, daT, go_sem, h0, h1, hg0, hg1, f0]
end Go.Proofs.YthadfdpdillemaaGreatDoor.GrpE
