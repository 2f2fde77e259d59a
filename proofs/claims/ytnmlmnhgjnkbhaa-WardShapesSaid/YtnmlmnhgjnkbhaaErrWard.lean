/-
  errors.Is, errors.As at ErrWard's errors: contracts. Go's own text of them is walked.
-/
import Derived.Test.YtnmlmnhgjnkbhaaErrType
set_option linter.unusedVariables false
namespace Go.Proofs.Ytnmlmnhgjnkbhaa.WarE
open Go.RowKit Go.Extern.Stop Go.Stop Go.Extern

theorem eTypeOf (v : Value) (w : World) : (callFunc 42 #[.iface 64 v]).run Try.prog w = .ok (.value (.iface 94 (.agg #[.pointer (some ⟨0, 64, none⟩)]))) w := by
  rw [@run_callFunc_extern Try.prog 42 _ ReflectliteType.typeOf Try.func42 (by kernel_rfl) (by kernel_rfl) (by kernel_rfl) (by kernel_rfl)]
  rw [show (ReflectliteType.typeOf #[.iface 64 v]).run Try.prog w = .ok (.iface 94 (.agg #[.pointer (some ⟨0, 64, none⟩)])) w by kernel_rfl]
  rfl
theorem eMethodComparable (v : Value) (w : World) : (Go.method 247 94 v "Comparable").run Try.prog w = .ok (85, v) w := by kernel_rfl
theorem eComparable (w : World) : (callFunc 85 #[.agg #[.pointer (some ⟨0, 64, none⟩)]]).run Try.prog w = .ok (.value (.bool true)) w := by
  rw [@run_callFunc_extern Try.prog 85 _ (ReflectliteType.method fun t => do Rtype.noPackHeld "Comparable" t; pure (.bool (← typeInfo t).comparable)) Try.func85 (by kernel_rfl) (by kernel_rfl) (by kernel_rfl) (by kernel_rfl)]
  rw [show ((ReflectliteType.method fun t => do Rtype.noPackHeld "Comparable" t; pure (.bool (← typeInfo t).comparable)) #[.agg #[.pointer (some ⟨0, 64, none⟩)]]).run Try.prog w = .ok (.bool true) w by kernel_rfl]
  rfl
theorem eComp : (Try.prog.info? 64).map (·.comparable) = some true := by kernel_rfl
theorem noIsE (v : Value) (xT : TypeId) (w : World) : (Instr.typeAssert (.iface 64 v) xT 96 true).run Try.prog w = .ok (.tuple #[.nilIface, .bool false]) w := run_typeAssert_lacksB Try.underlying96 (by kernel_rfl) (by kernel_rfl) v xT w
theorem noUnwrapE (v : Value) (xT : TypeId) (w : World) : (Instr.typeAssert (.iface 64 v) xT 99 true).run Try.prog w = .ok (.tuple #[.nilIface, .bool false]) w := run_typeAssert_lacksB Try.underlying99 (by kernel_rfl) (by kernel_rfl) v xT w
theorem noUnwrapsE (v : Value) (xT : TypeId) (w : World) : (Instr.typeAssert (.iface 64 v) xT 101 true).run Try.prog w = .ok (.tuple #[.nilIface, .bool false]) w := run_typeAssert_lacksB Try.underlying101 (by kernel_rfl) (by kernel_rfl) v xT w
theorem noIsW (v : Value) (xT : TypeId) (w : World) : (Instr.typeAssert (.iface 78 v) xT 96 true).run Try.prog w = .ok (.tuple #[.nilIface, .bool false]) w := run_typeAssert_lacksB Try.underlying96 (by kernel_rfl) (by kernel_rfl) v xT w
theorem hasUnwrapW (v : Value) (xT : TypeId) (w : World) : (Instr.typeAssert (.iface 78 v) xT 99 true).run Try.prog w = .ok (.tuple #[.iface 78 v, .bool true]) w := run_typeAssert_hasB Try.underlying99 (by kernel_rfl) v xT w
theorem methodUnwrap (v : Value) (w : World) : (Go.method 247 78 v "Unwrap").run Try.prog w = .ok (81, v) w := by kernel_rfl

set_option maxHeartbeats 400000 in
theorem is_nil (m : Int) (w : World) : Calls Try.prog 35 #[.nilIface, .iface 64 (.int .i64 m)] w fun e w' => e = .returned (.bool false) ∧ w = w' := by
  have hn := run_eql_iface_nil_left (P := Try.prog) w 64 (.int .i64 m) Try.underlying62
  go_enter Try.func35, Try.ntmps35
  go_wp2
  go_ret
  exact ⟨rfl, rfl⟩

set_option maxHeartbeats 400000 in
theorem is_num (n m : Int) (w : World) : Calls Try.prog 35 #[.iface 64 (.int .i64 n), .iface 64 (.int .i64 m)] w fun e w' => e = .returned (.bool (n == m)) ∧ Below w.heap.size w w' := by
  obtain ⟨i, hi, hcmp⟩ := Option.map_eq_some_iff.1 eComp
  have tT := eTypeOf
  have cT := eComparable
  have mR := eMethodComparable
  have nE := noIsE
  have uE := noUnwrapE
  have vE := noUnwrapsE
  have heq := fun w => run_eql_iface_int (P := Try.prog) w n m Try.underlying62 Try.underlying64 hi hcmp
  clear hi hcmp
  go_enter Try.func35, Try.ntmps35
  go_wp2
  refine wp_loop_rounds 1 ?_
  rw [rounds_succ]
  go_wp2
  all_goals go_ret
  · have h : (n == m) = true := by assumption
    exact ⟨ret_bool h.symm, Below.refl _ _⟩
  · have h : (n == m) = false := by assumption
    exact ⟨ret_bool h.symm, Below.refl _ _⟩

set_option maxHeartbeats 400000 in
theorem is_wrap (a b c n m : Int) (w : World) : Calls Try.prog 35 #[.iface 78 (.agg #[.int .i64 a, .int .i64 b, .int .i64 c, .int .i64 n]), .iface 64 (.int .i64 m)] w fun e w' => e = .returned (.bool (n == m)) ∧ Below w.heap.size w w' := by
  obtain ⟨i, hi, hcmp⟩ := Option.map_eq_some_iff.1 eComp
  have tT := eTypeOf
  have cT := eComparable
  have mR := eMethodComparable
  have nE := noIsE
  have uE := noUnwrapE
  have vE := noUnwrapsE
  have nW := noIsW
  have uW := hasUnwrapW
  have mU := methodUnwrap
  have heq := fun w => run_eql_iface_int (P := Try.prog) w n m Try.underlying62 Try.underlying64 hi hcmp
  have hty := run_eql_iface_types (P := Try.prog) 78 64 (.agg #[.int .i64 a, .int .i64 b, .int .i64 c, .int .i64 n]) (.int .i64 m) Try.underlying62 (by decide)
  clear hi hcmp
  go_enter Try.func35, Try.ntmps35
  go_wp2
  refine wp_loop_rounds 2 ?_
  rw [rounds_succ]
  go_wp2
  rw [rounds_succ]
  go_wp2
  all_goals go_ret
  · have h : (n == m) = true := by assumption
    exact ⟨ret_bool h.symm, below_new _ _⟩
  · have h : (n == m) = false := by assumption
    exact ⟨ret_bool h.symm, below_new _ _⟩
end Go.Proofs.Ytnmlmnhgjnkbhaa.WarE
