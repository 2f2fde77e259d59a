/-
  errors.As at ErrEntry's errors.
-/
import Derived.Test.YtfglkpcboodllaaGreatDoorErrEntry
set_option linter.unusedVariables false
set_option linter.unusedSimpArgs false
namespace Go.Proofs.YtfglkpcboodllaaGreatDoor.EntE
open Go.RowKit Go.Extern.Stop Go.Stop Go.Extern

theorem parts150 (h : Value) (a : Addr) : ReflectliteValue.partsAny (.agg #[h, .pointer (some a), .int .u64 150]) = (do pure (some (← Rtype.ofHandle h, a, 150))) := rfl
theorem parts130 (h : Value) (a : Addr) : ReflectliteValue.partsAny (.agg #[h, .pointer (some a), .int .u64 130]) = (do pure (some (← Rtype.ofHandle h, a, 130))) := rfl
theorem parts386 (h : Value) (a : Addr) : ReflectliteValue.partsAny (.agg #[h, .pointer (some a), .int .u64 386]) = (do pure (some (← Rtype.ofHandle h, a, 386))) := rfl
section
variable (w : World)
theorem kP : (Rtype.kind 210).run Tryz.prog w = .ok 22 w := by kernel_rfl
theorem kT : (Rtype.kind 165).run Tryz.prog w = .ok 2 w := by kernel_rfl
theorem hdP : (Rtype.handle 210).run Tryz.prog w = .ok (.pointer (some ⟨1, 210, none⟩)) w := by kernel_rfl
theorem hdT : (Rtype.handle 165).run Tryz.prog w = .ok (.pointer (some ⟨1, 165, none⟩)) w := by kernel_rfl
theorem ofP : (Rtype.ofHandle (.pointer (some ⟨1, 210, none⟩))).run Tryz.prog w = .ok 210 w := by kernel_rfl
theorem ofT : (Rtype.ofHandle (.pointer (some ⟨1, 165, none⟩))).run Tryz.prog w = .ok 165 w := by kernel_rfl
theorem npP (s : String) : (Rtype.noPack s 210).run Tryz.prog w = .ok () w := by kernel_rfl
theorem npT (s : String) : (Rtype.noPack s 165).run Tryz.prog w = .ok () w := by kernel_rfl
theorem toTP : (ReflectliteType.toType 210).run Tryz.prog w = .ok (.iface 214 (.agg #[.pointer (some ⟨1, 210, none⟩)])) w := by kernel_rfl
theorem elP : (Rtype.elem? 210).run Tryz.prog w = .ok (some 165) w := by kernel_rfl
theorem agP : (isAgg 210).run Tryz.prog w = .ok false w := by kernel_rfl
theorem agT : (isAgg 165).run Tryz.prog w = .ok false w := by kernel_rfl
theorem szT : (sizeOf 165).run Tryz.prog w = .ok 1 w := by kernel_rfl
theorem daT : (Rtype.directlyAssignable 165 165).run Tryz.prog w = .ok true w := by kernel_rfl
end

theorem aValueOf (x : Option Addr) (w : World) : (callFunc 119 #[.iface 210 (.pointer x)]).run Tryz.prog w = .ok (.value (.agg #[.pointer (some ⟨1, 210, none⟩), .pointer (some ⟨w.heap.size, 0, none⟩), .int .u64 150])) (w.alloc (.cells #[.pointer x] 210)) := by
  rw [@run_callFunc_extern Tryz.prog 119 _ (fun args => ReflectliteValue.unpack (args.getD 0 (.tuple #[]))) Tryz.func119 (by kernel_rfl) (by kernel_rfl) (by kernel_rfl) (by kernel_rfl)]
  simp [ReflectliteValue.unpack, ReflectliteValue.mk, ReflectliteValue.flagIndir, hdP, kP, newVar, newRow, go_sem]
theorem aValueOfT (n : Int) (w : World) : (callFunc 119 #[.iface 165 (.int .i64 n)]).run Tryz.prog w = .ok (.value (.agg #[.pointer (some ⟨1, 165, none⟩), .pointer (some ⟨w.heap.size, 0, none⟩), .int .u64 130])) (w.alloc (.cells #[.int .i64 n] 165)) := by
  rw [@run_callFunc_extern Tryz.prog 119 _ (fun args => ReflectliteValue.unpack (args.getD 0 (.tuple #[]))) Tryz.func119 (by kernel_rfl) (by kernel_rfl) (by kernel_rfl) (by kernel_rfl)]
  simp [ReflectliteValue.unpack, ReflectliteValue.mk, ReflectliteValue.flagIndir, hdT, kT, newVar, newRow, go_sem, Value.cells]
theorem aType (x : Addr) (w : World) : (callFunc 120 #[.agg #[.pointer (some ⟨1, 210, none⟩), .pointer (some x), .int .u64 150]]).run Tryz.prog w = .ok (.value (.iface 214 (.agg #[.pointer (some ⟨1, 210, none⟩)]))) w := by
  rw [@run_callFunc_extern Tryz.prog 120 _ (ReflectliteValue.methodAny (ReflectliteValue.valueError "reflectlite.Value.Type" 0) fun t _ _ _ => ReflectliteType.toType t) Tryz.func120 (by kernel_rfl) (by kernel_rfl) (by kernel_rfl) (by kernel_rfl)]
  change (Sem.run _ (ReflectliteValue.partsAny (.agg #[.pointer (some ⟨1, 210, none⟩), .pointer (some x), .int .u64 150]) >>= _) w).andThen _ = _
  simp [parts150, ofP, toTP]
theorem aKind (w : World) : (callFunc 191 #[.pointer (some ⟨1, 210, none⟩)]).run Tryz.prog w = .ok (.value (.int .u8 22)) w := by
  rw [@run_callFunc_extern Tryz.prog 191 _ (ReflectliteType.abiMethod fun t => do pure (.int .u8 (← Rtype.kind t))) Tryz.func191 (by kernel_rfl) (by kernel_rfl) (by kernel_rfl) (by kernel_rfl)]
  change (Sem.run _ (Rtype.ofHandle (.pointer (some ⟨1, 210, none⟩)) >>= _) w).andThen _ = _
  simp [ofP, npP, kP]
theorem aKindT (w : World) : (callFunc 191 #[.pointer (some ⟨1, 165, none⟩)]).run Tryz.prog w = .ok (.value (.int .u8 2)) w := by
  rw [@run_callFunc_extern Tryz.prog 191 _ (ReflectliteType.abiMethod fun t => do pure (.int .u8 (← Rtype.kind t))) Tryz.func191 (by kernel_rfl) (by kernel_rfl) (by kernel_rfl) (by kernel_rfl)]
  change (Sem.run _ (Rtype.ofHandle (.pointer (some ⟨1, 165, none⟩)) >>= _) w).andThen _ = _
  simp [ofT, npT, kT]
theorem aIsNil (x p : Addr) (w : World) (h : w.cell? x = some (.pointer (some p))) : (callFunc 121 #[.agg #[.pointer (some ⟨1, 210, none⟩), .pointer (some x), .int .u64 150]]).run Tryz.prog w = .ok (.value (.bool false)) w := by
  rw [@run_callFunc_extern Tryz.prog 121 _ (ReflectliteValue.method (ReflectliteValue.valueError "reflectlite.Value.IsNil" 0) ReflectliteValue.isNil) Tryz.func121 (by kernel_rfl) (by kernel_rfl) (by kernel_rfl) (by kernel_rfl)]
  change (Sem.run _ (ReflectliteValue.parts (.agg #[.pointer (some ⟨1, 210, none⟩), .pointer (some x), .int .u64 150]) >>= _) w).andThen _ = _
  simp [ReflectliteValue.parts, parts150, ReflectliteValue.isNil, ofP, npP, loadVar, go_sem, h]
theorem aElem (w : World) : (callFunc 209 #[.agg #[.pointer (some ⟨1, 210, none⟩)]]).run Tryz.prog w = .ok (.value (.iface 214 (.agg #[.pointer (some ⟨1, 165, none⟩)]))) w := by
  rw [@run_callFunc_extern Tryz.prog 209 _ (ReflectliteType.method ReflectliteType.elem) Tryz.func209 (by kernel_rfl) (by kernel_rfl) (by kernel_rfl) (by kernel_rfl)]
  rw [show (ReflectliteType.method ReflectliteType.elem #[.agg #[.pointer (some ⟨1, 210, none⟩)]]).run Tryz.prog w = .ok (.iface 214 (.agg #[.pointer (some ⟨1, 165, none⟩)])) w by kernel_rfl]
  rfl
theorem aImpl (w : World) : (callFunc 210 #[.agg #[.pointer (some ⟨1, 165, none⟩)], .iface 214 (.agg #[.pointer (some ⟨1, 113, none⟩)])]).run Tryz.prog w = .ok (.value (.bool true)) w := by
  rw [@run_callFunc_extern Tryz.prog 210 _ (ReflectliteType.relation "Implements" ReflectliteType.implements_) Tryz.func210 (by kernel_rfl) (by kernel_rfl) (by kernel_rfl) (by kernel_rfl)]
  rw [show (ReflectliteType.relation "Implements" ReflectliteType.implements_ #[.agg #[.pointer (some ⟨1, 165, none⟩)], .iface 214 (.agg #[.pointer (some ⟨1, 113, none⟩)])]).run Tryz.prog w = .ok (.bool true) w by kernel_rfl]
  rfl
theorem aAss (w : World) : (callFunc 207 #[.agg #[.pointer (some ⟨1, 165, none⟩)], .iface 214 (.agg #[.pointer (some ⟨1, 165, none⟩)])]).run Tryz.prog w = .ok (.value (.bool true)) w := by
  rw [@run_callFunc_extern Tryz.prog 207 _ (ReflectliteType.relation "AssignableTo" ReflectliteType.assignableTo) Tryz.func207 (by kernel_rfl) (by kernel_rfl) (by kernel_rfl) (by kernel_rfl)]
  rw [show (ReflectliteType.relation "AssignableTo" ReflectliteType.assignableTo #[.agg #[.pointer (some ⟨1, 165, none⟩)], .iface 214 (.agg #[.pointer (some ⟨1, 165, none⟩)])]).run Tryz.prog w = .ok (.bool true) w by kernel_rfl]
  rfl
theorem aAssR (w : World) : (callFunc 207 #[.agg #[.pointer (some ⟨1, 209, none⟩)], .iface 214 (.agg #[.pointer (some ⟨1, 165, none⟩)])]).run Tryz.prog w = .ok (.value (.bool false)) w := by
  rw [@run_callFunc_extern Tryz.prog 207 _ (ReflectliteType.relation "AssignableTo" ReflectliteType.assignableTo) Tryz.func207 (by kernel_rfl) (by kernel_rfl) (by kernel_rfl) (by kernel_rfl)]
  rw [show (ReflectliteType.relation "AssignableTo" ReflectliteType.assignableTo #[.agg #[.pointer (some ⟨1, 209, none⟩)], .iface 214 (.agg #[.pointer (some ⟨1, 165, none⟩)])]).run Tryz.prog w = .ok (.bool false) w by kernel_rfl]
  rfl
theorem aVElem (x : Addr) (g : Nat) (w : World) (h : w.cell? x = some (.pointer (some ⟨g, 0, none⟩))) : (callFunc 157 #[.agg #[.pointer (some ⟨1, 210, none⟩), .pointer (some x), .int .u64 150]]).run Tryz.prog w = .ok (.value (.agg #[.pointer (some ⟨1, 165, none⟩), .pointer (some ⟨g, 0, none⟩), .int .u64 386])) w := by
  rw [@run_callFunc_extern Tryz.prog 157 _ (ReflectliteValue.method (ReflectliteValue.valueError "reflectlite.Value.Elem" 0) ReflectliteValue.elem) Tryz.func157 (by kernel_rfl) (by kernel_rfl) (by kernel_rfl) (by kernel_rfl)]
  change (Sem.run _ (ReflectliteValue.parts (.agg #[.pointer (some ⟨1, 210, none⟩), .pointer (some x), .int .u64 150]) >>= _) w).andThen _ = _
  simp [ReflectliteValue.parts, parts150, ReflectliteValue.elem, ReflectliteValue.mk, ReflectliteValue.flagIndir, ReflectliteValue.flagAddr, ofP, npP, loadVar, elP, hdT, kT, go_sem, h]
theorem aSet (g b : Nat) (n : Int) (p : Value) (w : World) (h0 : w.cell? ⟨b, 0, none⟩ = some (.int .i64 n)) (hg0 : w.cell? ⟨g, 0, none⟩ = some p) (f0 : ∀ i, w.frozen? ⟨g, i, none⟩ = false) :
    (callFunc 158 #[.agg #[.pointer (some ⟨1, 165, none⟩), .pointer (some ⟨g, 0, none⟩), .int .u64 386], .agg #[.pointer (some ⟨1, 165, none⟩), .pointer (some ⟨b, 0, none⟩), .int .u64 130]]).run Tryz.prog w = .ok (.value (.tuple #[])) (w.setCell ⟨g, 0, none⟩ (.int .i64 n)) := by
  rw [@run_callFunc_extern Tryz.prog 158 _ ReflectliteValue.set Tryz.func158 (by kernel_rfl) (by kernel_rfl) (by kernel_rfl) (by kernel_rfl)]
  change (Sem.run _ (ReflectliteValue.parts (.agg #[.pointer (some ⟨1, 165, none⟩), .pointer (some ⟨g, 0, none⟩), .int .u64 386]) >>= _) w).andThen _ = _
  simp [Array.getLit, ReflectliteValue.parts, parts130, parts386, ReflectliteValue.flagAddr, ofT, npT, daT, go_sem, h0, hg0, f0]
end Go.Proofs.YtfglkpcboodllaaGreatDoor.EntE
