/-
  errors.As at ErrEntry's errors: the contracts.
-/
import Derived.Test.YtglkgmijhdkhpaaDoorHa43
set_option linter.unusedVariables false
namespace Go.Proofs.YtglkgmijhdkhpaaDoor.EntE
open Go.RowKit Go.Extern.Stop Go.Stop Go.Extern

theorem eTypeOfW (v : Value) (w : World) : (callFunc 46 #[.iface 106 v]).run Tryd.prog w = .ok (.value (.iface 112 (.agg #[.pointer (some ⟨1, 106, none⟩)]))) w := by
  rw [@run_callFunc_extern Tryd.prog 46 _ ReflectliteType.typeOf Tryd.func46 (by kernel_rfl) (by kernel_rfl) (by kernel_rfl) (by kernel_rfl)]
  rw [show (ReflectliteType.typeOf #[.iface 106 v]).run Tryd.prog w = .ok (.iface 112 (.agg #[.pointer (some ⟨1, 106, none⟩)])) w by kernel_rfl]
  rfl
theorem aKindTM (w : World) : (Go.method 260 112 (.agg #[.pointer (some ⟨1, 78, none⟩)]) "Kind").run Tryd.prog w = .ok (78, .pointer (some ⟨1, 78, none⟩)) w := by kernel_rfl
theorem aKindM (w : World) : (Go.method 260 112 (.agg #[.pointer (some ⟨1, 107, none⟩)]) "Kind").run Tryd.prog w = .ok (78, .pointer (some ⟨1, 107, none⟩)) w := by kernel_rfl
theorem aElemM (w : World) : (Go.method 260 112 (.agg #[.pointer (some ⟨1, 107, none⟩)]) "Elem").run Tryd.prog w = .ok (93, .agg #[.pointer (some ⟨1, 107, none⟩)]) w := by kernel_rfl
theorem aImplM (w : World) : (Go.method 260 112 (.agg #[.pointer (some ⟨1, 78, none⟩)]) "Implements").run Tryd.prog w = .ok (94, .agg #[.pointer (some ⟨1, 78, none⟩)]) w := by kernel_rfl
theorem aAssM (w : World) : (Go.method 260 112 (.agg #[.pointer (some ⟨1, 78, none⟩)]) "AssignableTo").run Tryd.prog w = .ok (91, .agg #[.pointer (some ⟨1, 78, none⟩)]) w := by kernel_rfl
theorem aAssRM (w : World) : (Go.method 260 112 (.agg #[.pointer (some ⟨1, 106, none⟩)]) "AssignableTo").run Tryd.prog w = .ok (91, .agg #[.pointer (some ⟨1, 106, none⟩)]) w := by kernel_rfl
theorem noAsW (v : Value) (xT : TypeId) (w : World) : (Instr.typeAssert (.iface 106 v) xT 124 true).run Tryd.prog w = .ok (.tuple #[.nilIface, .bool false]) w := run_typeAssert_lacksB Tryd.underlying124 (by kernel_rfl) (by kernel_rfl) v xT w

set_option maxHeartbeats 400000 in
theorem as_nil (v : Value) (w : World) : Calls Tryd.prog 26 #[.nilIface, v] w fun e w' => e = .returned (.bool false) ∧ w = w' := by
  go_enter Tryd.func26, Tryd.ntmps26
  go_wp2
  go_ret
  exact ⟨rfl, rfl⟩

set_option maxRecDepth 100000 in
set_option maxHeartbeats 1000000 in
theorem as_num (g : Nat) (n : Int) (p : Value) (w : World) (hG : errTypeIs w) (hb : Box w g #[p] 78) :
    Calls Tryd.prog 26 #[.iface 78 (.int .i64 n), .iface 107 (.pointer (some ⟨g, 0, none⟩))] w fun e w' =>
      e = .returned (.bool true) ∧ Box w' g #[.int .i64 n] 78 ∧ But g w w' := by
  have hG' : w.cell? ⟨0, 0, none⟩ = some (.iface 112 (.agg #[.pointer (some ⟨1, 55, none⟩)])) := hG
  have z0 : 0 < w.heap.size := World.block_lt_of_cell? _ _ hG'
  obtain ⟨kb, fb, zb⟩ := hb.facts
  have HB := Lib.hid hb
  have r1 := aValueOf
  have r2 := aType
  have r3 := aKind
  have r4 := aKindT
  have r5 := fun x W => aIsNil x ⟨g, 0, none⟩ W
  have r6 := aElem
  have r7 := aImpl
  have r8 := aAss
  have r9 := fun x W => aVElem x g W
  have r10 := fun b W => aSet g b n p W
  have r11 := aValueOfT
  have r12 := eTypeOf
  have m1 := aKindM
  have m2 := aKindTM
  have m3 := aElemM
  have m4 := aImplM
  have m5 := aAssM
  clear hb hG
  go_enter Tryd.func26, Tryd.ntmps26
  go_wp2
  refine wp_loop_rounds 1 ?_
  rw [rounds_succ]
  go_wp2
  rw [r9 _ _ (by simp [go_sem])]
  go_wp2
  rw [r10 _ _ (by simp [go_sem]) (by exact ((((HB.out.alloc _).alloc _).alloc _).alloc _).cell 0) (by exact ((((HB.out.alloc _).alloc _).alloc _).alloc _).free)]
  go_wp2
  go_ret
  refine ⟨rfl, ?_, ?_⟩
  · exact ((((HB.out.alloc _).alloc _).alloc _).alloc _).set_ 0 _
  · refine But.trans (But.of_below ?_) (But.set_ _)
    exact below_call (below_call (below_call (below_new _ _) (below_new _ _)) (below_new _ _)) (below_new _ _)

set_option maxRecDepth 100000 in
set_option maxHeartbeats 2000000 in
theorem as_rot (g : Nat) (a n : Int) (p : Value) (w : World) (hG : errTypeIs w) (hb : Box w g #[p] 78) :
    Calls Tryd.prog 26 #[.iface 106 (.agg #[.int .i64 a, .iface 78 (.int .i64 n)]), .iface 107 (.pointer (some ⟨g, 0, none⟩))] w fun e w' =>
      e = .returned (.bool true) ∧ Box w' g #[.int .i64 n] 78 ∧ But g w w' := by
  have hG' : w.cell? ⟨0, 0, none⟩ = some (.iface 112 (.agg #[.pointer (some ⟨1, 55, none⟩)])) := hG
  have z0 : 0 < w.heap.size := World.block_lt_of_cell? _ _ hG'
  obtain ⟨kb, fb, zb⟩ := hb.facts
  have HB := Lib.hid hb
  have r1 := aValueOf
  have r2 := aType
  have r3 := aKind
  have r4 := aKindT
  have r5 := fun x W => aIsNil x ⟨g, 0, none⟩ W
  have r6 := aElem
  have r7 := aImpl
  have r8 := aAss
  have r8' := aAssR
  have r9 := fun x W => aVElem x g W
  have r10 := fun b W => aSet g b n p W
  have r11 := aValueOfT
  have r12 := eTypeOf
  have r13 := eTypeOfW
  have m1 := aKindM
  have m2 := aKindTM
  have m3 := aElemM
  have m4 := aImplM
  have m5 := aAssM
  have m6 := aAssRM
  have m7 := noAsW
  have uW := hasUnwrapW
  have mU := methodUnwrap
  clear hb hG
  go_enter Tryd.func26, Tryd.ntmps26
  go_wp2
  refine wp_loop_rounds 2 ?_
  rw [rounds_succ]
  go_wp2
  rw [rounds_succ]
  go_wp2
  rw [r9 _ _ (by simp [go_sem])]
  go_wp2
  rw [r10 _ _ (by simp [go_sem]) (by exact (((((HB.out.alloc _).alloc _).alloc _).alloc _).alloc _).cell 0) (by exact (((((HB.out.alloc _).alloc _).alloc _).alloc _).alloc _).free)]
  go_wp2
  go_ret
  refine ⟨rfl, ?_, ?_⟩
  · exact (((((HB.out.alloc _).alloc _).alloc _).alloc _).alloc _).set_ 0 _
  · refine But.trans (But.of_below ?_) (But.set_ _)
    exact below_call (below_call (below_call (below_call (below_new _ _) (below_new _ _)) (below_new _ _)) (below_new _ _)) (below_new _ _)
end Go.Proofs.YtglkgmijhdkhpaaDoor.EntE
