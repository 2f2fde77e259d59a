/-
  What IndexFunc tells: plain Lean, no program.
-/
import Derived.WalkKit
set_option linter.unusedVariables false
namespace Go.Proofs.YtglkgmijhdkhpaaDoor

section
variable {α : Type} {p : α → Bool} {l : List α}
/-- None of the first k. -/
def NoP (p : α → Bool) (l : List α) (k : Nat) : Prop := ∀ x ∈ l.take k, p x = false
theorem noP_zero : NoP p l 0 := fun x hx => by simp at hx
theorem noP_step {k : Nat} {x : α} (h : NoP p l k) (hx : l[k]? = some x) (hp : p x = false) : NoP p l (k + 1) := by
  intro y hy
  rw [List.take_add_one, hx, List.mem_append] at hy
  rcases hy with hy | hy
  · exact h y hy
  · simp at hy; subst hy; exact hp
/-- The first one, or -1. -/
def FndPost (p : α → Bool) (l : List α) (r : Int) : Prop := (r = -1 ∧ l.find? p = none) ∨ ∃ (k : Nat) (x : α), r = (k : Int) ∧ l[k]? = some x ∧ p x = true ∧ l.find? p = some x ∧ NoP p l k
theorem fnd_no (h : NoP p l l.length) : FndPost p l (-1) := by
  unfold NoP at h
  rw [List.take_length] at h
  exact .inl ⟨rfl, List.find?_eq_none.2 fun x hx => by rw [h x hx]; simp⟩
theorem fnd_yes {k : Nat} {x : α} (h : NoP p l k) (hx : l[k]? = some x) (hp : p x = true) : FndPost p l (k : Int) := by
  refine .inr ⟨k, x, rfl, hx, hp, ?_, h⟩
  obtain ⟨hl, hg⟩ := List.getElem?_eq_some_iff.1 hx
  refine List.find?_eq_some_iff_append.2 ⟨hp, l.take k, l.drop (k + 1), ?_, fun a ha => by rw [h a ha]; rfl⟩
  rw [← hg, ← List.drop_eq_getElem_cons hl, List.take_append_drop]
theorem FndPost.any {r : Int} (h : FndPost p l r) : decide (0 ≤ r) = l.any p := by
  rcases h with ⟨rfl, h⟩ | ⟨k, x, rfl, hx, hp, h, -⟩
  · have : l.any p = false := by rw [List.any_eq_false]; exact List.find?_eq_none.1 h
    rw [this]; rfl
  · have : l.any p = true := by rw [List.any_eq_true]; exact ⟨x, List.mem_of_getElem? hx, hp⟩
    rw [this]; simp
end
end Go.Proofs.YtglkgmijhdkhpaaDoor
