/-
  Merged: ErrType, ErrHeal.
-/
import Derived.Test.YtglkgmijhdkhpaaDoorProg
import Derived.Test.YtglkgmijhdkhpaaDoorHa6
import Derived.WalkLawsBesides
import Derived.LaidEql
import Derived.Stop.Asserts
import Derived.RowKitTokens
/-
  WHAT errors.errorType HOLDS, and the model's words on two interface values of one integer type.
-/
set_option linter.unusedVariables false
namespace Go.Proofs.YtglkgmijhdkhpaaDoor
open Go.RowKit Go.Extern.Stop Go.Stop Go.Extern

theorem run_equalIn_iface_int {P : Program} (w : World) (d : Nat) {ti tn : TypeId} {ms : Array (String × TypeId)} {i : TypeInfo} {k : IntKind} (a b : Int)
    (hi : P.underlying ti = some (.interface ms)) (hn : P.underlying tn = some (.int k)) (hinfo : P.info? tn = some i) (hcomp : i.comparable = true) :
    (Op.equalIn (d + 2) ti (.iface tn (.int k a)) (.iface tn (.int k b))).run P w = .ok (a == b) w := by
  simp [Op.equalIn, run_underlying hi, run_underlying hn, typeInfo, hinfo, hcomp]
/-- 'x == y', both interface values of ONE integer type: as the numbers are. -/
theorem run_eql_iface_int {P : Program} (w : World) {ti tn : TypeId} {ms : Array (String × TypeId)} {i : TypeInfo} {k : IntKind} (a b : Int)
    (hi : P.underlying ti = some (.interface ms)) (hn : P.underlying tn = some (.int k)) (hinfo : P.info? tn = some i) (hcomp : i.comparable = true) :
    (binOp .eql ti (.iface tn (.int k a)) (.iface tn (.int k b))).run P w = .ok (.bool (a == b)) w := by
  simp only [binOp]
  simp [Op.equal, Op.maxDepth, run_equalIn_iface_int w 9998 a b hi hn hinfo hcomp]

/-- What errors.errorType holds (laid by the row). -/
def errTypeIs (w : World) : Prop := w.cell? ⟨0, 0, none⟩ = some (.iface 112 (.agg #[.pointer (some ⟨1, 55, none⟩)]))
theorem errType_later {w w' : World} (h : errTypeIs w) (hb : Below w.heap.size w w') : errTypeIs w' := (hb.cell (p := ⟨0, 0, none⟩) (World.block_lt_of_cell? _ _ h)).trans h
theorem errType_but {w w' : World} {g : Nat} (h : errTypeIs w) (hb : But g w w') (hg : 0 < g) : errTypeIs w' := by
  have hz := World.block_lt_of_cell? _ _ h
  unfold errTypeIs at h ⊢
  rw [World.cell?_of_block (a := ⟨0, 0, none⟩) (w := w) (hb.2.2.2.2 0 hz (by omega))]; exact h
end Go.Proofs.YtglkgmijhdkhpaaDoor
/-
  errors.Is, errors.As at ErrHeal's errors: contracts. Go's own text of them is walked.
-/
set_option linter.unusedVariables false
namespace Go.Proofs.YtglkgmijhdkhpaaDoor.HeaE
open Go.RowKit Go.Extern.Stop Go.Stop Go.Extern

theorem eTypeOf (v : Value) (w : World) : (callFunc 46 #[.iface 63 v]).run Tryd.prog w = .ok (.value (.iface 112 (.agg #[.pointer (some ⟨1, 63, none⟩)]))) w := by
  rw [@run_callFunc_extern Tryd.prog 46 _ ReflectliteType.typeOf Tryd.func46 (by kernel_rfl) (by kernel_rfl) (by kernel_rfl) (by kernel_rfl)]
  rw [show (ReflectliteType.typeOf #[.iface 63 v]).run Tryd.prog w = .ok (.iface 112 (.agg #[.pointer (some ⟨1, 63, none⟩)])) w by kernel_rfl]
  rfl
theorem eMethodComparable (v : Value) (w : World) : (Go.method 260 112 v "Comparable").run Tryd.prog w = .ok (92, v) w := by kernel_rfl
theorem eComparable (w : World) : (callFunc 92 #[.agg #[.pointer (some ⟨1, 63, none⟩)]]).run Tryd.prog w = .ok (.value (.bool true)) w := by
  rw [@run_callFunc_extern Tryd.prog 92 _ (ReflectliteType.method fun t => do Rtype.noPackHeld "Comparable" t; pure (.bool (← typeInfo t).comparable)) Tryd.func92 (by kernel_rfl) (by kernel_rfl) (by kernel_rfl) (by kernel_rfl)]
  rw [show ((ReflectliteType.method fun t => do Rtype.noPackHeld "Comparable" t; pure (.bool (← typeInfo t).comparable)) #[.agg #[.pointer (some ⟨1, 63, none⟩)]]).run Tryd.prog w = .ok (.bool true) w by kernel_rfl]
  rfl
theorem eComp : (Tryd.prog.info? 63).map (·.comparable) = some true := by kernel_rfl
theorem noIsE (v : Value) (xT : TypeId) (w : World) : (Instr.typeAssert (.iface 63 v) xT 114 true).run Tryd.prog w = .ok (.tuple #[.nilIface, .bool false]) w := run_typeAssert_lacksB Tryd.underlying114 (by kernel_rfl) (by kernel_rfl) v xT w
theorem noUnwrapE (v : Value) (xT : TypeId) (w : World) : (Instr.typeAssert (.iface 63 v) xT 117 true).run Tryd.prog w = .ok (.tuple #[.nilIface, .bool false]) w := run_typeAssert_lacksB Tryd.underlying117 (by kernel_rfl) (by kernel_rfl) v xT w
theorem noUnwrapsE (v : Value) (xT : TypeId) (w : World) : (Instr.typeAssert (.iface 63 v) xT 119 true).run Tryd.prog w = .ok (.tuple #[.nilIface, .bool false]) w := run_typeAssert_lacksB Tryd.underlying119 (by kernel_rfl) (by kernel_rfl) v xT w
theorem noIsW (v : Value) (xT : TypeId) (w : World) : (Instr.typeAssert (.iface 57 v) xT 114 true).run Tryd.prog w = .ok (.tuple #[.nilIface, .bool false]) w := run_typeAssert_lacksB Tryd.underlying114 (by kernel_rfl) (by kernel_rfl) v xT w
theorem hasUnwrapW (v : Value) (xT : TypeId) (w : World) : (Instr.typeAssert (.iface 57 v) xT 117 true).run Tryd.prog w = .ok (.tuple #[.iface 57 v, .bool true]) w := run_typeAssert_hasB Tryd.underlying117 (by kernel_rfl) v xT w
theorem methodUnwrap (v : Value) (w : World) : (Go.method 260 57 v "Unwrap").run Tryd.prog w = .ok (82, v) w := by kernel_rfl

set_option maxHeartbeats 400000 in
theorem is_nil (m : Int) (w : World) : Calls Tryd.prog 25 #[.nilIface, .iface 63 (.int .i64 m)] w fun e w' => e = .returned (.bool false) ∧ w = w' := by
  have hn := run_eql_iface_nil_left (P := Tryd.prog) w 63 (.int .i64 m) Tryd.underlying55
  go_enter Tryd.func25, Tryd.ntmps25
  go_wp2
  go_ret
  exact ⟨rfl, rfl⟩

set_option maxHeartbeats 400000 in
theorem is_wrap (n0 n m : Int) (w : World) : Calls Tryd.prog 25 #[.iface 57 (.agg #[.int .i64 n0, .iface 63 (.int .i64 n)]), .iface 63 (.int .i64 m)] w fun e w' => e = .returned (.bool (n == m)) ∧ Below w.heap.size w w' := by
  obtain ⟨i, hi, hcmp⟩ := Option.map_eq_some_iff.1 eComp
  have tT := eTypeOf
  have cT := eComparable
  have mR := eMethodComparable
  have nE := noIsE
  have uE := noUnwrapE
  have vE := noUnwrapsE
  have nW := noIsW
  have uW := hasUnwrapW
  have mU := methodUnwrap
  have heq := fun w => run_eql_iface_int (P := Tryd.prog) w n m Tryd.underlying55 Tryd.underlying63 hi hcmp
  have hty := run_eql_iface_types (P := Tryd.prog) 57 63 (.agg #[.int .i64 n0, .iface 63 (.int .i64 n)]) (.int .i64 m) Tryd.underlying55 (by decide)
  clear hi hcmp
  go_enter Tryd.func25, Tryd.ntmps25
  go_wp2
  refine wp_loop_rounds 2 ?_
  rw [rounds_succ]
  go_wp2
  rw [rounds_succ]
  go_wp2
  all_goals go_ret
  · have h : (n == m) = true := by assumption
    exact ⟨ret_bool h.symm, below_new _ _⟩
  · have h : (n == m) = false := by assumption
    exact ⟨ret_bool h.symm, below_new _ _⟩
end Go.Proofs.YtglkgmijhdkhpaaDoor.HeaE
