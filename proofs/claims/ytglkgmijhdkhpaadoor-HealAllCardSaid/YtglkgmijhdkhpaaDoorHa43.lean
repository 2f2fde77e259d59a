/-
  errors.As at ErrEntry's errors.
-/
import Derived.Test.YtglkgmijhdkhpaaDoorHa42
set_option linter.unusedVariables false
set_option linter.unusedSimpArgs false
namespace Go.Proofs.YtglkgmijhdkhpaaDoor.EntE
open Go.RowKit Go.Extern.Stop Go.Stop Go.Extern

theorem parts150 (h : Value) (a : Addr) : ReflectliteValue.partsAny (.agg #[h, .pointer (some a), .int .u64 150]) = (do pure (some (← Rtype.ofHandle h, a, 150))) := rfl
theorem parts130 (h : Value) (a : Addr) : ReflectliteValue.partsAny (.agg #[h, .pointer (some a), .int .u64 130]) = (do pure (some (← Rtype.ofHandle h, a, 130))) := rfl
theorem parts386 (h : Value) (a : Addr) : ReflectliteValue.partsAny (.agg #[h, .pointer (some a), .int .u64 386]) = (do pure (some (← Rtype.ofHandle h, a, 386))) := rfl
section
variable (w : World)
theorem kP : (Rtype.kind 107).run Tryd.prog w = .ok 22 w := by kernel_rfl
theorem kT : (Rtype.kind 78).run Tryd.prog w = .ok 2 w := by kernel_rfl
theorem hdP : (Rtype.handle 107).run Tryd.prog w = .ok (.pointer (some ⟨1, 107, none⟩)) w := by kernel_rfl
theorem hdT : (Rtype.handle 78).run Tryd.prog w = .ok (.pointer (some ⟨1, 78, none⟩)) w := by kernel_rfl
theorem ofP : (Rtype.ofHandle (.pointer (some ⟨1, 107, none⟩))).run Tryd.prog w = .ok 107 w := by kernel_rfl
theorem ofT : (Rtype.ofHandle (.pointer (some ⟨1, 78, none⟩))).run Tryd.prog w = .ok 78 w := by kernel_rfl
theorem npP (s : String) : (Rtype.noPack s 107).run Tryd.prog w = .ok () w := by kernel_rfl
theorem npT (s : String) : (Rtype.noPack s 78).run Tryd.prog w = .ok () w := by kernel_rfl
theorem toTP : (ReflectliteType.toType 107).run Tryd.prog w = .ok (.iface 112 (.agg #[.pointer (some ⟨1, 107, none⟩)])) w := by kernel_rfl
theorem elP : (Rtype.elem? 107).run Tryd.prog w = .ok (some 78) w := by kernel_rfl
theorem agP : (isAgg 107).run Tryd.prog w = .ok false w := by kernel_rfl
theorem agT : (isAgg 78).run Tryd.prog w = .ok false w := by kernel_rfl
theorem szT : (sizeOf 78).run Tryd.prog w = .ok 1 w := by kernel_rfl
theorem daT : (Rtype.directlyAssignable 78 78).run Tryd.prog w = .ok true w := by kernel_rfl
end

theorem aValueOf (x : Option Addr) (w : World) : (callFunc 48 #[.iface 107 (.pointer x)]).run Tryd.prog w = .ok (.value (.agg #[.pointer (some ⟨1, 107, none⟩), .pointer (some ⟨w.heap.size, 0, none⟩), .int .u64 150])) (w.alloc (.cells #[.pointer x] 107)) := by
  rw [@run_callFunc_extern Tryd.prog 48 _ (fun args => ReflectliteValue.unpack (args.getD 0 (.tuple #[]))) Tryd.func48 (by kernel_rfl) (by kernel_rfl) (by kernel_rfl) (by kernel_rfl)]
  simp [ReflectliteValue.unpack, ReflectliteValue.mk, ReflectliteValue.flagIndir, hdP, kP, newVar, newRow, go_sem]
theorem aValueOfT (n : Int) (w : World) : (callFunc 48 #[.iface 78 (.int .i64 n)]).run Tryd.prog w = .ok (.value (.agg #[.pointer (some ⟨1, 78, none⟩), .pointer (some ⟨w.heap.size, 0, none⟩), .int .u64 130])) (w.alloc (.cells #[.int .i64 n] 78)) := by
  rw [@run_callFunc_extern Tryd.prog 48 _ (fun args => ReflectliteValue.unpack (args.getD 0 (.tuple #[]))) Tryd.func48 (by kernel_rfl) (by kernel_rfl) (by kernel_rfl) (by kernel_rfl)]
  simp [ReflectliteValue.unpack, ReflectliteValue.mk, ReflectliteValue.flagIndir, hdT, kT, newVar, newRow, go_sem, Value.cells]
theorem aType (x : Addr) (w : World) : (callFunc 49 #[.agg #[.pointer (some ⟨1, 107, none⟩), .pointer (some x), .int .u64 150]]).run Tryd.prog w = .ok (.value (.iface 112 (.agg #[.pointer (some ⟨1, 107, none⟩)]))) w := by
  rw [@run_callFunc_extern Tryd.prog 49 _ (ReflectliteValue.methodAny (ReflectliteValue.valueError "reflectlite.Value.Type" 0) fun t _ _ _ => ReflectliteType.toType t) Tryd.func49 (by kernel_rfl) (by kernel_rfl) (by kernel_rfl) (by kernel_rfl)]
  change (Sem.run _ (ReflectliteValue.partsAny (.agg #[.pointer (some ⟨1, 107, none⟩), .pointer (some x), .int .u64 150]) >>= _) w).andThen _ = _
  simp [parts150, ofP, toTP]
theorem aKind (w : World) : (callFunc 78 #[.pointer (some ⟨1, 107, none⟩)]).run Tryd.prog w = .ok (.value (.int .u8 22)) w := by
  rw [@run_callFunc_extern Tryd.prog 78 _ (ReflectliteType.abiMethod fun t => do pure (.int .u8 (← Rtype.kind t))) Tryd.func78 (by kernel_rfl) (by kernel_rfl) (by kernel_rfl) (by kernel_rfl)]
  change (Sem.run _ (Rtype.ofHandle (.pointer (some ⟨1, 107, none⟩)) >>= _) w).andThen _ = _
  simp [ofP, npP, kP]
theorem aKindT (w : World) : (callFunc 78 #[.pointer (some ⟨1, 78, none⟩)]).run Tryd.prog w = .ok (.value (.int .u8 2)) w := by
  rw [@run_callFunc_extern Tryd.prog 78 _ (ReflectliteType.abiMethod fun t => do pure (.int .u8 (← Rtype.kind t))) Tryd.func78 (by kernel_rfl) (by kernel_rfl) (by kernel_rfl) (by kernel_rfl)]
  change (Sem.run _ (Rtype.ofHandle (.pointer (some ⟨1, 78, none⟩)) >>= _) w).andThen _ = _
  simp [ofT, npT, kT]
theorem aIsNil (x p : Addr) (w : World) (h : w.cell? x = some (.pointer (some p))) : (callFunc 50 #[.agg #[.pointer (some ⟨1, 107, none⟩), .pointer (some x), .int .u64 150]]).run Tryd.prog w = .ok (.value (.bool false)) w := by
  rw [@run_callFunc_extern Tryd.prog 50 _ (ReflectliteValue.method (ReflectliteValue.valueError "reflectlite.Value.IsNil" 0) ReflectliteValue.isNil) Tryd.func50 (by kernel_rfl) (by kernel_rfl) (by kernel_rfl) (by kernel_rfl)]
  change (Sem.run _ (ReflectliteValue.parts (.agg #[.pointer (some ⟨1, 107, none⟩), .pointer (some x), .int .u64 150]) >>= _) w).andThen _ = _
  simp [ReflectliteValue.parts, parts150, ReflectliteValue.isNil, ofP, npP, loadVar, go_sem, h]
theorem aElem (w : World) : (callFunc 93 #[.agg #[.pointer (some ⟨1, 107, none⟩)]]).run Tryd.prog w = .ok (.value (.iface 112 (.agg #[.pointer (some ⟨1, 78, none⟩)]))) w := by
  rw [@run_callFunc_extern Tryd.prog 93 _ (ReflectliteType.method ReflectliteType.elem) Tryd.func93 (by kernel_rfl) (by kernel_rfl) (by kernel_rfl) (by kernel_rfl)]
  rw [show (ReflectliteType.method ReflectliteType.elem #[.agg #[.pointer (some ⟨1, 107, none⟩)]]).run Tryd.prog w = .ok (.iface 112 (.agg #[.pointer (some ⟨1, 78, none⟩)])) w by kernel_rfl]
  rfl
theorem aImpl (w : World) : (callFunc 94 #[.agg #[.pointer (some ⟨1, 78, none⟩)], .iface 112 (.agg #[.pointer (some ⟨1, 55, none⟩)])]).run Tryd.prog w = .ok (.value (.bool true)) w := by
  rw [@run_callFunc_extern Tryd.prog 94 _ (ReflectliteType.relation "Implements" ReflectliteType.implements_) Tryd.func94 (by kernel_rfl) (by kernel_rfl) (by kernel_rfl) (by kernel_rfl)]
  rw [show (ReflectliteType.relation "Implements" ReflectliteType.implements_ #[.agg #[.pointer (some ⟨1, 78, none⟩)], .iface 112 (.agg #[.pointer (some ⟨1, 55, none⟩)])]).run Tryd.prog w = .ok (.bool true) w by kernel_rfl]
  rfl
theorem aAss (w : World) : (callFunc 91 #[.agg #[.pointer (some ⟨1, 78, none⟩)], .iface 112 (.agg #[.pointer (some ⟨1, 78, none⟩)])]).run Tryd.prog w = .ok (.value (.bool true)) w := by
  rw [@run_callFunc_extern Tryd.prog 91 _ (ReflectliteType.relation "AssignableTo" ReflectliteType.assignableTo) Tryd.func91 (by kernel_rfl) (by kernel_rfl) (by kernel_rfl) (by kernel_rfl)]
  rw [show (ReflectliteType.relation "AssignableTo" ReflectliteType.assignableTo #[.agg #[.pointer (some ⟨1, 78, none⟩)], .iface 112 (.agg #[.pointer (some ⟨1, 78, none⟩)])]).run Tryd.prog w = .ok (.bool true) w by kernel_rfl]
  rfl
theorem aAssR (w : World) : (callFunc 91 #[.agg #[.pointer (some ⟨1, 106, none⟩)], .iface 112 (.agg #[.pointer (some ⟨1, 78, none⟩)])]).run Tryd.prog w = .ok (.value (.bool false)) w := by
  rw [@run_callFunc_extern Tryd.prog 91 _ (ReflectliteType.relation "AssignableTo" ReflectliteType.assignableTo) Tryd.func91 (by kernel_rfl) (by kernel_rfl) (by kernel_rfl) (by kernel_rfl)]
  rw [show (ReflectliteType.relation "AssignableTo" ReflectliteType.assignableTo #[.agg #[.pointer (some ⟨1, 106, none⟩)], .iface 112 (.agg #[.pointer (some ⟨1, 78, none⟩)])]).run Tryd.prog w = .ok (.bool false) w by kernel_rfl]
  rfl
theorem aVElem (x : Addr) (g : Nat) (w : World) (h : w.cell? x = some (.pointer (some ⟨g, 0, none⟩))) : (callFunc 58 #[.agg #[.pointer (some ⟨1, 107, none⟩), .pointer (some x), .int .u64 150]]).run Tryd.prog w = .ok (.value (.agg #[.pointer (some ⟨1, 78, none⟩), .pointer (some ⟨g, 0, none⟩), .int .u64 386])) w := by
  rw [@run_callFunc_extern Tryd.prog 58 _ (ReflectliteValue.method (ReflectliteValue.valueError "reflectlite.Value.Elem" 0) ReflectliteValue.elem) Tryd.func58 (by kernel_rfl) (by kernel_rfl) (by kernel_rfl) (by kernel_rfl)]
  change (Sem.run _ (ReflectliteValue.parts (.agg #[.pointer (some ⟨1, 107, none⟩), .pointer (some x), .int .u64 150]) >>= _) w).andThen _ = _
  simp [ReflectliteValue.parts, parts150, ReflectliteValue.elem, ReflectliteValue.mk, ReflectliteValue.flagIndir, ReflectliteValue.flagAddr, ofP, npP, loadVar, elP, hdT, kT, go_sem, h]
theorem aSet (g b : Nat) (n : Int) (p : Value) (w : World) (h0 : w.cell? ⟨b, 0, none⟩ = some (.int .i64 n)) (hg0 : w.cell? ⟨g, 0, none⟩ = some p) (f0 : ∀ i, w.frozen? ⟨g, i, none⟩ = false) :
    (callFunc 59 #[.agg #[.pointer (some ⟨1, 78, none⟩), .pointer (some ⟨g, 0, none⟩), .int .u64 386], .agg #[.pointer (some ⟨1, 78, none⟩), .pointer (some ⟨b, 0, none⟩), .int .u64 130]]).run Tryd.prog w = .ok (.value (.tuple #[])) (w.setCell ⟨g, 0, none⟩ (.int .i64 n)) := by
  rw [@run_callFunc_extern Tryd.prog 59 _ ReflectliteValue.set Tryd.func59 (by kernel_rfl) (by kernel_rfl) (by kernel_rfl) (by kernel_rfl)]
  change (Sem.run _ (ReflectliteValue.parts (.agg #[.pointer (some ⟨1, 78, none⟩), .pointer (some ⟨g, 0, none⟩), .int .u64 386]) >>= _) w).andThen _ = _
  simp [Array.getLit, ReflectliteValue.parts, parts130, parts386, ReflectliteValue.flagAddr, ofT, npT, daT, go_sem, h0, hg0, f0]
end Go.Proofs.YtglkgmijhdkhpaaDoor.EntE
