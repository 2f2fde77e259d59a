/-
  WHAT STANDS IN A VIEW BEHIND A PLAN, and the same append again: plain Lean, no program.
-/
import Derived.Test.YthadfdpdillemaaDoorMo25
import Derived.Test.YthadfdpdillemaaDoorMo40
set_option linter.unusedVariables false
namespace Go.Proofs.YthadfdpdillemaaDoor
open Go.RowKit

theorem plan_stops {b prev : Idt} {l : List Idt} {es : List Ent} {sh : Int} (hf : folE prev es = 0) : ∃ m, Stops b l sh prev es (planV b l sh es (max prev.idx b.idx) []) m := by
  obtain ⟨m, h⟩ := planV_stops (b := b) (l := l) (sh := sh) hf _ 0 rfl (Nat.zero_le _) (fun i x hi => absurd hi (by omega)) (max prev.idx b.idx) [] (by simp) (by simp)
  exact ⟨m, by rwa [List.drop_zero] at h⟩
theorem setsV_mem (b : Idt) (s : List Ent) : ∀ (l : List Idt) (x : Idt), x ∈ setsV b l s → x ∈ l ∨ ∃ e ∈ s, x = ofE e := by
  induction s with
  | nil => intro l x h; exact .inl h
  | cons e r ih =>
    intro l x h
    rcases ih _ x h with h1 | ⟨y, hy, h1⟩
    · rcases List.mem_or_eq_of_mem_set h1 with h2 | h2
      · exact .inl h2
      · exact .inr ⟨e, List.mem_cons_self .., h2⟩
    · exact .inr ⟨y, List.mem_cons_of_mem _ hy, h1⟩
theorem beh_mem {b : Idt} {l : List Idt} {p : Pln} {x : Idt} (h : x ∈ behV b l p) : x ∈ l ∨ (∃ e ∈ p.same, x = ofE e) ∨ ∃ e ∈ p.add, x = ofE e := by
  unfold behV at h
  rcases List.mem_append.1 h with h | h
  · rcases setsV_mem b p.same _ x h with h1 | h1
    · left
      unfold cutV at h1
      split at h1
      · exact List.mem_of_mem_take h1
      · exact h1
    · exact .inr (.inl h1)
  · obtain ⟨e, he, rfl⟩ := List.mem_map.1 h
    exact .inr (.inr ⟨e, he, rfl⟩)
theorem cutV_le (b : Idt) (l : List Idt) (p : Pln) : (cutV b l p).length ≤ l.length := by
  unfold cutV
  split
  · rw [List.length_take]; omega
  · exact Nat.le_refl _
theorem beh_len (b : Idt) (l : List Idt) (p : Pln) : (behV b l p).length ≤ l.length + p.add.length := by
  unfold behV
  rw [List.length_append, setsV_length, List.length_map]
  have := cutV_le b l p
  omega
/-- What a plan's copies make of a view is what the plan makes. -/
theorem beh_key {b : Idt} {l : List Idt} {p : Pln} {m1 m2 : List Ent} {ix : Int} (h1 : m1.map keyE = p.same.map keyE) (h2 : m2.map keyE = p.add.map keyE) : behV b l ⟨ix, p.cut, m1, m2⟩ = behV b l p := by
  unfold behV
  show setsV b (cutV b l ⟨ix, p.cut, m1, m2⟩) m1 ++ m2.map ofE = _
  have e : cutV b l ⟨ix, p.cut, m1, m2⟩ = cutV b l p := rfl
  rw [e, setsV_key (map_ofE_key h1), map_ofE_key h2]
end Go.Proofs.YthadfdpdillemaaDoor
