/-
  errors.Is, errors.As at ErrBound's errors: contracts. Go's own text of them is walked.
-/
import Derived.Test.YtclphcbjdcdkfaaDoorErrType
set_option linter.unusedVariables false
namespace Go.Proofs.YtclphcbjdcdkfaaDoor.BndE
open Go.RowKit Go.Extern.Stop Go.Stop Go.Extern

theorem eTypeOf (v : Value) (w : World) : (callFunc 63 #[.iface 91 v]).run Tryd.prog w = .ok (.value (.iface 133 (.agg #[.pointer (some ⟨1, 91, none⟩)]))) w := by
  rw [@run_callFunc_extern Tryd.prog 63 _ ReflectliteType.typeOf Tryd.func63 (by kernel_rfl) (by kernel_rfl) (by kernel_rfl) (by kernel_rfl)]
  rw [show (ReflectliteType.typeOf #[.iface 91 v]).run Tryd.prog w = .ok (.iface 133 (.agg #[.pointer (some ⟨1, 91, none⟩)])) w by kernel_rfl]
  rfl
theorem eMethodComparable (v : Value) (w : World) : (Go.method 305 133 v "Comparable").run Tryd.prog w = .ok (138, v) w := by kernel_rfl
theorem eComparable (w : World) : (callFunc 138 #[.agg #[.pointer (some ⟨1, 91, none⟩)]]).run Tryd.prog w = .ok (.value (.bool true)) w := by
  rw [@run_callFunc_extern Tryd.prog 138 _ (ReflectliteType.method fun t => do Rtype.noPackHeld "Comparable" t; pure (.bool (← typeInfo t).comparable)) Tryd.func138 (by kernel_rfl) (by kernel_rfl) (by kernel_rfl) (by kernel_rfl)]
  rw [show ((ReflectliteType.method fun t => do Rtype.noPackHeld "Comparable" t; pure (.bool (← typeInfo t).comparable)) #[.agg #[.pointer (some ⟨1, 91, none⟩)]]).run Tryd.prog w = .ok (.bool true) w by kernel_rfl]
  rfl
theorem eComp : (Tryd.prog.info? 91).map (·.comparable) = some true := by kernel_rfl
theorem noIsE (v : Value) (xT : TypeId) (w : World) : (Instr.typeAssert (.iface 91 v) xT 145 true).run Tryd.prog w = .ok (.tuple #[.nilIface, .bool false]) w := run_typeAssert_lacksB Tryd.underlying145 (by kernel_rfl) (by kernel_rfl) v xT w
theorem noUnwrapE (v : Value) (xT : TypeId) (w : World) : (Instr.typeAssert (.iface 91 v) xT 140 true).run Tryd.prog w = .ok (.tuple #[.nilIface, .bool false]) w := run_typeAssert_lacksB Tryd.underlying140 (by kernel_rfl) (by kernel_rfl) v xT w
theorem noUnwrapsE (v : Value) (xT : TypeId) (w : World) : (Instr.typeAssert (.iface 91 v) xT 141 true).run Tryd.prog w = .ok (.tuple #[.nilIface, .bool false]) w := run_typeAssert_lacksB Tryd.underlying141 (by kernel_rfl) (by kernel_rfl) v xT w
theorem noIsW (v : Value) (xT : TypeId) (w : World) : (Instr.typeAssert (.iface 89 v) xT 145 true).run Tryd.prog w = .ok (.tuple #[.nilIface, .bool false]) w := run_typeAssert_lacksB Tryd.underlying145 (by kernel_rfl) (by kernel_rfl) v xT w
theorem hasUnwrapW (v : Value) (xT : TypeId) (w : World) : (Instr.typeAssert (.iface 89 v) xT 140 true).run Tryd.prog w = .ok (.tuple #[.iface 89 v, .bool true]) w := run_typeAssert_hasB Tryd.underlying140 (by kernel_rfl) v xT w
theorem methodUnwrap (v : Value) (w : World) : (Go.method 305 89 v "Unwrap").run Tryd.prog w = .ok (125, v) w := by kernel_rfl

set_option maxHeartbeats 400000 in
theorem is_nil (m : Int) (w : World) : Calls Tryd.prog 44 #[.nilIface, .iface 91 (.int .i64 m)] w fun e w' => e = .returned (.bool false) ∧ w = w' := by
  have hn := run_eql_iface_nil_left (P := Tryd.prog) w 91 (.int .i64 m) Tryd.underlying67
  go_enter Tryd.func44, Tryd.ntmps44
  go_wp2
  go_ret
  exact ⟨rfl, rfl⟩

set_option maxHeartbeats 400000 in
theorem is_wrap (n0 n m : Int) (w : World) : Calls Tryd.prog 44 #[.iface 89 (.agg #[.int .i64 n0, .iface 91 (.int .i64 n)]), .iface 91 (.int .i64 m)] w fun e w' => e = .returned (.bool (n == m)) ∧ Below w.heap.size w w' := by
  obtain ⟨i, hi, hcmp⟩ := Option.map_eq_some_iff.1 eComp
  have tT := eTypeOf
  have cT := eComparable
  have mR := eMethodComparable
  have nE := noIsE
  have uE := noUnwrapE
  have vE := noUnwrapsE
  have nW := noIsW
  have uW := hasUnwrapW
  have mU := methodUnwrap
  have heq := fun w => run_eql_iface_int (P := Tryd.prog) w n m Tryd.underlying67 Tryd.underlying91 hi hcmp
  have hty := run_eql_iface_types (P := Tryd.prog) 89 91 (.agg #[.int .i64 n0, .iface 91 (.int .i64 n)]) (.int .i64 m) Tryd.underlying67 (by decide)
  clear hi hcmp
  go_enter Tryd.func44, Tryd.ntmps44
  go_wp2
  refine wp_loop_rounds 2 ?_
  rw [rounds_succ]
  go_wp2
  rw [rounds_succ]
  go_wp2
  all_goals go_ret
  · have h : (n == m) = true := by assumption
    exact ⟨ret_bool h.symm, below_new _ _⟩
  · have h : (n == m) = false := by assumption
    exact ⟨ret_bool h.symm, below_new _ _⟩
end Go.Proofs.YtclphcbjdcdkfaaDoor.BndE
