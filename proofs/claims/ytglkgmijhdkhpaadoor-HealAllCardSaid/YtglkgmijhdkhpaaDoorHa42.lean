/-
  errors.Is, errors.As at ErrEntry's errors: contracts. Go's own text of them is walked.
-/
import Derived.Test.YtglkgmijhdkhpaaDoorHa14
set_option linter.unusedVariables false
namespace Go.Proofs.YtglkgmijhdkhpaaDoor.EntE
open Go.RowKit Go.Extern.Stop Go.Stop Go.Extern

theorem eTypeOf (v : Value) (w : World) : (callFunc 46 #[.iface 78 v]).run Tryd.prog w = .ok (.value (.iface 112 (.agg #[.pointer (some ⟨1, 78, none⟩)]))) w := by
  rw [@run_callFunc_extern Tryd.prog 46 _ ReflectliteType.typeOf Tryd.func46 (by kernel_rfl) (by kernel_rfl) (by kernel_rfl) (by kernel_rfl)]
  rw [show (ReflectliteType.typeOf #[.iface 78 v]).run Tryd.prog w = .ok (.iface 112 (.agg #[.pointer (some ⟨1, 78, none⟩)])) w by kernel_rfl]
  rfl
theorem eMethodComparable (v : Value) (w : World) : (Go.method 260 112 v "Comparable").run Tryd.prog w = .ok (92, v) w := by kernel_rfl
theorem eComparable (w : World) : (callFunc 92 #[.agg #[.pointer (some ⟨1, 78, none⟩)]]).run Tryd.prog w = .ok (.value (.bool true)) w := by
  rw [@run_callFunc_extern Tryd.prog 92 _ (ReflectliteType.method fun t => do Rtype.noPackHeld "Comparable" t; pure (.bool (← typeInfo t).comparable)) Tryd.func92 (by kernel_rfl) (by kernel_rfl) (by kernel_rfl) (by kernel_rfl)]
  rw [show ((ReflectliteType.method fun t => do Rtype.noPackHeld "Comparable" t; pure (.bool (← typeInfo t).comparable)) #[.agg #[.pointer (some ⟨1, 78, none⟩)]]).run Tryd.prog w = .ok (.bool true) w by kernel_rfl]
  rfl
theorem eComp : (Tryd.prog.info? 78).map (·.comparable) = some true := by kernel_rfl
theorem noIsE (v : Value) (xT : TypeId) (w : World) : (Instr.typeAssert (.iface 78 v) xT 114 true).run Tryd.prog w = .ok (.tuple #[.nilIface, .bool false]) w := run_typeAssert_lacksB Tryd.underlying114 (by kernel_rfl) (by kernel_rfl) v xT w
theorem noUnwrapE (v : Value) (xT : TypeId) (w : World) : (Instr.typeAssert (.iface 78 v) xT 117 true).run Tryd.prog w = .ok (.tuple #[.nilIface, .bool false]) w := run_typeAssert_lacksB Tryd.underlying117 (by kernel_rfl) (by kernel_rfl) v xT w
theorem noUnwrapsE (v : Value) (xT : TypeId) (w : World) : (Instr.typeAssert (.iface 78 v) xT 119 true).run Tryd.prog w = .ok (.tuple #[.nilIface, .bool false]) w := run_typeAssert_lacksB Tryd.underlying119 (by kernel_rfl) (by kernel_rfl) v xT w
theorem noIsW (v : Value) (xT : TypeId) (w : World) : (Instr.typeAssert (.iface 106 v) xT 114 true).run Tryd.prog w = .ok (.tuple #[.nilIface, .bool false]) w := run_typeAssert_lacksB Tryd.underlying114 (by kernel_rfl) (by kernel_rfl) v xT w
theorem hasUnwrapW (v : Value) (xT : TypeId) (w : World) : (Instr.typeAssert (.iface 106 v) xT 117 true).run Tryd.prog w = .ok (.tuple #[.iface 106 v, .bool true]) w := run_typeAssert_hasB Tryd.underlying117 (by kernel_rfl) v xT w
theorem methodUnwrap (v : Value) (w : World) : (Go.method 260 106 v "Unwrap").run Tryd.prog w = .ok (89, v) w := by kernel_rfl

set_option maxHeartbeats 400000 in
theorem is_nil (m : Int) (w : World) : Calls Tryd.prog 25 #[.nilIface, .iface 78 (.int .i64 m)] w fun e w' => e = .returned (.bool false) ∧ w = w' := by
  have hn := run_eql_iface_nil_left (P := Tryd.prog) w 78 (.int .i64 m) Tryd.underlying55
  go_enter Tryd.func25, Tryd.ntmps25
  go_wp2
  go_ret
  exact ⟨rfl, rfl⟩

set_option maxHeartbeats 400000 in
theorem is_num (n m : Int) (w : World) : Calls Tryd.prog 25 #[.iface 78 (.int .i64 n), .iface 78 (.int .i64 m)] w fun e w' => e = .returned (.bool (n == m)) ∧ Below w.heap.size w w' := by
  obtain ⟨i, hi, hcmp⟩ := Option.map_eq_some_iff.1 eComp
  have tT := eTypeOf
  have cT := eComparable
  have mR := eMethodComparable
  have nE := noIsE
  have uE := noUnwrapE
  have vE := noUnwrapsE
  have heq := fun w => run_eql_iface_int (P := Tryd.prog) w n m Tryd.underlying55 Tryd.underlying78 hi hcmp
  clear hi hcmp
  go_enter Tryd.func25, Tryd.ntmps25
  go_wp2
  refine wp_loop_rounds 1 ?_
  rw [rounds_succ]
  go_wp2
  all_goals go_ret
  · have h : (n == m) = true := by assumption
    exact ⟨ret_bool h.symm, Below.refl _ _⟩
  · have h : (n == m) = false := by assumption
    exact ⟨ret_bool h.symm, Below.refl _ _⟩

set_option maxHeartbeats 400000 in
theorem is_wrap (a n m : Int) (w : World) : Calls Tryd.prog 25 #[.iface 106 (.agg #[.int .i64 a, .iface 78 (.int .i64 n)]), .iface 78 (.int .i64 m)] w fun e w' => e = .returned (.bool (n == m)) ∧ Below w.heap.size w w' := by
  obtain ⟨i, hi, hcmp⟩ := Option.map_eq_some_iff.1 eComp
  have tT := eTypeOf
  have cT := eComparable
  have mR := eMethodComparable
  have nE := noIsE
  have uE := noUnwrapE
  have vE := noUnwrapsE
  have nW := noIsW
  have uW := hasUnwrapW
  have mU := methodUnwrap
  have heq := fun w => run_eql_iface_int (P := Tryd.prog) w n m Tryd.underlying55 Tryd.underlying78 hi hcmp
  have hty := run_eql_iface_types (P := Tryd.prog) 106 78 (.agg #[.int .i64 a, .iface 78 (.int .i64 n)]) (.int .i64 m) Tryd.underlying55 (by decide)
  clear hi hcmp
  go_enter Tryd.func25, Tryd.ntmps25
  go_wp2
  refine wp_loop_rounds 2 ?_
  rw [rounds_succ]
  go_wp2
  rw [rounds_succ]
  go_wp2
  all_goals go_ret
  · have h : (n == m) = true := by assumption
    exact ⟨ret_bool h.symm, below_new _ _⟩
  · have h : (n == m) = false := by assumption
    exact ⟨ret_bool h.symm, below_new _ _⟩
end Go.Proofs.YtglkgmijhdkhpaaDoor.EntE
