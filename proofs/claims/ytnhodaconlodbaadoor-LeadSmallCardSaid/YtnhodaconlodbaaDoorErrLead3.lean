/-
  errors.As at ErrLead's errors: the contracts.
-/
import Derived.Test.YtnhodaconlodbaaDoorErrLead2
set_option linter.unusedVariables false
namespace Go.Proofs.YtnhodaconlodbaaDoor.LeadE
open Go.RowKit Go.Extern.Stop Go.Stop Go.Extern

theorem eTypeOfW (v : Value) (w : World) : (callFunc 91 #[.iface 172 v]).run Tryd.prog w = .ok (.value (.iface 174 (.agg #[.pointer (some ⟨1, 172, none⟩)]))) w := by
  rw [@run_callFunc_extern Tryd.prog 91 _ ReflectliteType.typeOf Tryd.func91 (by kernel_rfl) (by kernel_rfl) (by kernel_rfl) (by kernel_rfl)]
  rw [show (ReflectliteType.typeOf #[.iface 172 v]).run Tryd.prog w = .ok (.iface 174 (.agg #[.pointer (some ⟨1, 172, none⟩)])) w by kernel_rfl]
  rfl
theorem aKindTM (w : World) : (Go.method 347 174 (.agg #[.pointer (some ⟨1, 139, none⟩)]) "Kind").run Tryd.prog w = .ok (143, .pointer (some ⟨1, 139, none⟩)) w := by kernel_rfl
theorem aKindM (w : World) : (Go.method 347 174 (.agg #[.pointer (some ⟨1, 140, none⟩)]) "Kind").run Tryd.prog w = .ok (143, .pointer (some ⟨1, 140, none⟩)) w := by kernel_rfl
theorem aElemM (w : World) : (Go.method 347 174 (.agg #[.pointer (some ⟨1, 140, none⟩)]) "Elem").run Tryd.prog w = .ok (164, .agg #[.pointer (some ⟨1, 140, none⟩)]) w := by kernel_rfl
theorem aImplM (w : World) : (Go.method 347 174 (.agg #[.pointer (some ⟨1, 139, none⟩)]) "Implements").run Tryd.prog w = .ok (165, .agg #[.pointer (some ⟨1, 139, none⟩)]) w := by kernel_rfl
theorem aAssM (w : World) : (Go.method 347 174 (.agg #[.pointer (some ⟨1, 139, none⟩)]) "AssignableTo").run Tryd.prog w = .ok (162, .agg #[.pointer (some ⟨1, 139, none⟩)]) w := by kernel_rfl
theorem aAssRM (w : World) : (Go.method 347 174 (.agg #[.pointer (some ⟨1, 172, none⟩)]) "AssignableTo").run Tryd.prog w = .ok (162, .agg #[.pointer (some ⟨1, 172, none⟩)]) w := by kernel_rfl
theorem noAsW (v : Value) (xT : TypeId) (w : World) : (Instr.typeAssert (.iface 172 v) xT 178 true).run Tryd.prog w = .ok (.tuple #[.nilIface, .bool false]) w := run_typeAssert_lacksB Tryd.underlying178 (by kernel_rfl) (by kernel_rfl) v xT w

set_option maxHeartbeats 400000 in
theorem as_nil (v : Value) (w : World) : Calls Tryd.prog 57 #[.nilIface, v] w fun e w' => e = .returned (.bool false) ∧ w = w' := by
  go_enter Tryd.func57, Tryd.ntmps57
  go_wp2
  go_ret
  exact ⟨rfl, rfl⟩

set_option maxRecDepth 100000 in
set_option maxHeartbeats 1000000 in
theorem as_num (g : Nat) (n : Int) (p : Value) (w : World) (hG : errTypeIs w) (hb : Box w g #[p] 139) :
    Calls Tryd.prog 57 #[.iface 139 (.int .i64 n), .iface 140 (.pointer (some ⟨g, 0, none⟩))] w fun e w' =>
      e = .returned (.bool true) ∧ Box w' g #[.int .i64 n] 139 ∧ But g w w' := by
  have hG' : w.cell? ⟨0, 0, none⟩ = some (.iface 174 (.agg #[.pointer (some ⟨1, 98, none⟩)])) := hG
  have z0 : 0 < w.heap.size := World.block_lt_of_cell? _ _ hG'
  obtain ⟨kb, fb, zb⟩ := hb.facts
  have HB := Lib.hid hb
  have r1 := aValueOf
  have r2 := aType
  have r3 := aKind
  have r4 := aKindT
  have r5 := fun x W => aIsNil x ⟨g, 0, none⟩ W
  have r6 := aElem
  have r7 := aImpl
  have r8 := aAss
  have r9 := fun x W => aVElem x g W
  have r10 := fun b W => aSet g b n p W
  have r11 := aValueOfT
  have r12 := eTypeOf
  have m1 := aKindM
  have m2 := aKindTM
  have m3 := aElemM
  have m4 := aImplM
  have m5 := aAssM
  clear hb hG
  go_enter Tryd.func57, Tryd.ntmps57
  go_wp2
  refine wp_loop_rounds 1 ?_
  rw [rounds_succ]
  go_wp2
  rw [r9 _ _ (by simp [go_sem])]
  go_wp2
  rw [r10 _ _ (by simp [go_sem]) (by exact ((((HB.out.alloc _).alloc _).alloc _).alloc _).cell 0) (by exact ((((HB.out.alloc _).alloc _).alloc _).alloc _).free)]
  go_wp2
  go_ret
  refine ⟨rfl, ?_, ?_⟩
  · exact ((((HB.out.alloc _).alloc _).alloc _).alloc _).set_ 0 _
  · refine But.trans (But.of_below ?_) (But.set_ _)
    exact below_call (below_call (below_call (below_new _ _) (below_new _ _)) (below_new _ _)) (below_new _ _)

set_option maxRecDepth 100000 in
set_option maxHeartbeats 2000000 in
theorem as_rot (g : Nat) (a n : Int) (p : Value) (w : World) (hG : errTypeIs w) (hb : Box w g #[p] 139) :
    Calls Tryd.prog 57 #[.iface 172 (.agg #[.int .i64 a, .iface 139 (.int .i64 n)]), .iface 140 (.pointer (some ⟨g, 0, none⟩))] w fun e w' =>
      e = .returned (.bool true) ∧ Box w' g #[.int .i64 n] 139 ∧ But g w w' := by
  have hG' : w.cell? ⟨0, 0, none⟩ = some (.iface 174 (.agg #[.pointer (some ⟨1, 98, none⟩)])) := hG
  have z0 : 0 < w.heap.size := World.block_lt_of_cell? _ _ hG'
  obtain ⟨kb, fb, zb⟩ := hb.facts
  have HB := Lib.hid hb
  have r1 := aValueOf
  have r2 := aType
  have r3 := aKind
  have r4 := aKindT
  have r5 := fun x W => aIsNil x ⟨g, 0, none⟩ W
  have r6 := aElem
  have r7 := aImpl
  have r8 := aAss
  have r8' := aAssR
  have r9 := fun x W => aVElem x g W
  have r10 := fun b W => aSet g b n p W
  have r11 := aValueOfT
  have r12 := eTypeOf
  have r13 := eTypeOfW
  have m1 := aKindM
  have m2 := aKindTM
  have m3 := aElemM
  have m4 := aImplM
  have m5 := aAssM
  have m6 := aAssRM
  have m7 := noAsW
  have uW := hasUnwrapW
  have mU := methodUnwrap
  clear hb hG
  go_enter Tryd.func57, Tryd.ntmps57
  go_wp2
  refine wp_loop_rounds 2 ?_
  rw [rounds_succ]
  go_wp2
  rw [rounds_succ]
  go_wp2
  rw [r9 _ _ (by simp [go_sem])]
  go_wp2
  rw [r10 _ _ (by simp [go_sem]) (by exact (((((HB.out.alloc _).alloc _).alloc _).alloc _).alloc _).cell 0) (by exact (((((HB.out.alloc _).alloc _).alloc _).alloc _).alloc _).free)]
  go_wp2
  go_ret
  refine ⟨rfl, ?_, ?_⟩
  · exact (((((HB.out.alloc _).alloc _).alloc _).alloc _).alloc _).set_ 0 _
  · refine But.trans (But.of_below ?_) (But.set_ _)
    exact below_call (below_call (below_call (below_call (below_new _ _) (below_new _ _)) (below_new _ _)) (below_new _ _)) (below_new _ _)
end Go.Proofs.YtnhodaconlodbaaDoor.LeadE
