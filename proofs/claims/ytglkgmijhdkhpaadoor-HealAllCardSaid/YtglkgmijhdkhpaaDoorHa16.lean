/-
  Merged: ErrHeal3, IdxMath.
-/
import Derived.Test.YtglkgmijhdkhpaaDoorHa15
import Derived.WalkKit
/-
  errors.As at ErrHeal's errors: the contracts.
-/
set_option linter.unusedVariables false
namespace Go.Proofs.YtglkgmijhdkhpaaDoor.HeaE
open Go.RowKit Go.Extern.Stop Go.Stop Go.Extern

theorem eTypeOfW (v : Value) (w : World) : (callFunc 46 #[.iface 57 v]).run Tryd.prog w = .ok (.value (.iface 112 (.agg #[.pointer (some ⟨1, 57, none⟩)]))) w := by
  rw [@run_callFunc_extern Tryd.prog 46 _ ReflectliteType.typeOf Tryd.func46 (by kernel_rfl) (by kernel_rfl) (by kernel_rfl) (by kernel_rfl)]
  rw [show (ReflectliteType.typeOf #[.iface 57 v]).run Tryd.prog w = .ok (.iface 112 (.agg #[.pointer (some ⟨1, 57, none⟩)])) w by kernel_rfl]
  rfl
theorem aKindTM (w : World) : (Go.method 260 112 (.agg #[.pointer (some ⟨1, 57, none⟩)]) "Kind").run Tryd.prog w = .ok (78, .pointer (some ⟨1, 57, none⟩)) w := by kernel_rfl
theorem aKindM (w : World) : (Go.method 260 112 (.agg #[.pointer (some ⟨1, 65, none⟩)]) "Kind").run Tryd.prog w = .ok (78, .pointer (some ⟨1, 65, none⟩)) w := by kernel_rfl
theorem aElemM (w : World) : (Go.method 260 112 (.agg #[.pointer (some ⟨1, 65, none⟩)]) "Elem").run Tryd.prog w = .ok (93, .agg #[.pointer (some ⟨1, 65, none⟩)]) w := by kernel_rfl
theorem aImplM (w : World) : (Go.method 260 112 (.agg #[.pointer (some ⟨1, 57, none⟩)]) "Implements").run Tryd.prog w = .ok (94, .agg #[.pointer (some ⟨1, 57, none⟩)]) w := by kernel_rfl
theorem aAssM (w : World) : (Go.method 260 112 (.agg #[.pointer (some ⟨1, 57, none⟩)]) "AssignableTo").run Tryd.prog w = .ok (91, .agg #[.pointer (some ⟨1, 57, none⟩)]) w := by kernel_rfl

set_option maxHeartbeats 400000 in
theorem as_nil (v : Value) (w : World) : Calls Tryd.prog 26 #[.nilIface, v] w fun e w' => e = .returned (.bool false) ∧ w = w' := by
  go_enter Tryd.func26, Tryd.ntmps26
  go_wp2
  go_ret
  exact ⟨rfl, rfl⟩

set_option maxRecDepth 100000 in
set_option maxHeartbeats 1000000 in
theorem as_direct (g : Nat) (n0 n : Int) (p0 p1 : Value) (w : World) (hG : errTypeIs w) (hb : Box w g #[p0, p1] 57) :
    Calls Tryd.prog 26 #[.iface 57 (.agg #[.int .i64 n0, .iface 63 (.int .i64 n)]), .iface 65 (.pointer (some ⟨g, 0, none⟩))] w fun e w' =>
      e = .returned (.bool true) ∧ Box w' g #[.int .i64 n0, .iface 63 (.int .i64 n)] 57 ∧ But g w w' := by
  have hG' : w.cell? ⟨0, 0, none⟩ = some (.iface 112 (.agg #[.pointer (some ⟨1, 55, none⟩)])) := hG
  have z0 : 0 < w.heap.size := World.block_lt_of_cell? _ _ hG'
  obtain ⟨kb, fb, zb⟩ := hb.facts
  have HB := Lib.hid hb
  have r1 := aValueOf
  have r2 := aType
  have r3 := aKind
  have r4 := aKindT
  have r5 := fun x W => aIsNil x ⟨g, 0, none⟩ W
  have r6 := aElem
  have r7 := aImpl
  have r8 := aAss
  have r9 := fun x W => aVElem x g W
  have r10 := fun b W => aSet g b n0 n p0 p1 W
  have r11 := aValueOfT
  have r12 := eTypeOfW
  have m1 := aKindM
  have m2 := aKindTM
  have m3 := aElemM
  have m4 := aImplM
  have m5 := aAssM
  clear hb hG
  go_enter Tryd.func26, Tryd.ntmps26
  go_wp2
  refine wp_loop_rounds 1 ?_
  rw [rounds_succ]
  go_wp2
  rw [r9 _ _ (by simp [go_sem])]
  go_wp2
  rw [r10 _ _ (by simp [go_sem]) (by simp [go_sem]) (by exact ((((HB.out.alloc _).alloc _).alloc _).alloc _).cell 0) (by exact ((((HB.out.alloc _).alloc _).alloc _).alloc _).cell 1) (by exact ((((HB.out.alloc _).alloc _).alloc _).alloc _).free)]
  go_wp2
  go_ret
  refine ⟨rfl, ?_, ?_⟩
  · exact ((((((HB.out.alloc _).alloc _).alloc _).alloc _).set_ 0 _).set_ 1 _)
  · refine But.trans (But.of_below ?_) (But.trans (But.set_ _) (But.set_ _))
    exact below_call (below_call (below_call (below_new _ _) (below_new _ _)) (below_new _ _)) (below_new _ _)
end Go.Proofs.YtglkgmijhdkhpaaDoor.HeaE
/-
  What IndexFunc tells: plain Lean, no program.
-/
set_option linter.unusedVariables false
namespace Go.Proofs.YtglkgmijhdkhpaaDoor

section
variable {α : Type} {p : α → Bool} {l : List α}
/-- None of the first k. -/
def NoP (p : α → Bool) (l : List α) (k : Nat) : Prop := ∀ x ∈ l.take k, p x = false
theorem noP_zero : NoP p l 0 := fun x hx => by simp at hx
theorem noP_step {k : Nat} {x : α} (h : NoP p l k) (hx : l[k]? = some x) (hp : p x = false) : NoP p l (k + 1) := by
  intro y hy
  rw [List.take_add_one, hx, List.mem_append] at hy
  rcases hy with hy | hy
  · exact h y hy
  · simp at hy; subst hy; exact hp
/-- The first one, or -1. -/
def FndPost (p : α → Bool) (l : List α) (r : Int) : Prop := (r = -1 ∧ l.find? p = none) ∨ ∃ (k : Nat) (x : α), r = (k : Int) ∧ l[k]? = some x ∧ p x = true ∧ l.find? p = some x ∧ NoP p l k
theorem fnd_no (h : NoP p l l.length) : FndPost p l (-1) := by
  unfold NoP at h
  rw [List.take_length] at h
  exact .inl ⟨rfl, List.find?_eq_none.2 fun x hx => by rw [h x hx]; simp⟩
theorem fnd_yes {k : Nat} {x : α} (h : NoP p l k) (hx : l[k]? = some x) (hp : p x = true) : FndPost p l (k : Int) := by
  refine .inr ⟨k, x, rfl, hx, hp, ?_, h⟩
  obtain ⟨hl, hg⟩ := List.getElem?_eq_some_iff.1 hx
  refine List.find?_eq_some_iff_append.2 ⟨hp, l.take k, l.drop (k + 1), ?_, fun a ha => by rw [h a ha]; rfl⟩
  rw [← hg, ← List.drop_eq_getElem_cons hl, List.take_append_drop]
theorem FndPost.any {r : Int} (h : FndPost p l r) : decide (0 ≤ r) = l.any p := by
  rcases h with ⟨rfl, h⟩ | ⟨k, x, rfl, hx, hp, h, -⟩
  · have : l.any p = false := by rw [List.any_eq_false]; exact List.find?_eq_none.1 h
    rw [this]; rfl
  · have : l.any p = true := by rw [List.any_eq_true]; exact ⟨x, List.mem_of_getElem? hx, hp⟩
    rw [this]; simp
end
end Go.Proofs.YtglkgmijhdkhpaaDoor
