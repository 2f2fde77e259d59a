/-
  WHAT IS ADDED IS FOUND, WHAT IS TAKEN IS NOT: plain Lean, no program.
-/
import Derived.Test.YtnmlmnhgjnkbhaaWardMath
set_option linter.unusedVariables false
namespace Go.Proofs.Ytnmlmnhgjnkbhaa
open Go.RowKit

theorem putF_from : ∀ (more : List Wnt) {f : WMap} {n : Int} {x : Wnt}, putF f more n = some x → f n = some x ∨ (x ∈ more ∧ x.blk = n) := by
  intro more
  induction more with
  | nil => intro f n x h; exact .inl h
  | cons y more ih =>
    intro f n x h
    rcases ih (f := f.upd y) h with h1 | ⟨h1, h2⟩
    · unfold WMap.upd at h1
      split at h1
      · rename_i hn; injection h1 with h1; subst h1; exact .inr ⟨by simp, hn.symm⟩
      · exact .inl h1
    · exact .inr ⟨by simp [h1], h2⟩
theorem find_add {l more : List Wnt} (hl : rightW l = true) (n : Int) : findW (addL l more) n = putF (findW l) more n := (withs_ris more l (rightW_iff.1 hl).1).2 n
theorem right_add {l more : List Wnt} (hl : rightW l = true) (hm : lowW more = false) : rightW (addL l more) = true := by
  refine risW_low (withs_ris more l (rightW_iff.1 hl).1).1 fun n x h => ?_
  have h' : findW (addL l more) n = some x := h
  rw [find_add hl] at h'
  rcases putF_from more h' with h1 | ⟨h1, h2⟩
  · obtain ⟨g1, g2⟩ := findW_blk h1
    have := (rightW_iff.1 hl).2 x g2; omega
  · unfold lowW at hm
    rw [List.any_eq_false] at hm
    have := hm x h1; simp at this; omega
theorem add_len : ∀ (more l : List Wnt), (addL l more).length ≤ l.length + more.length := by
  intro more
  induction more with
  | nil => intro l; exact Nat.le_refl _
  | cons w more ih => intro l; have h := ih (withW l w); have := withW_len l w; unfold addL at h ⊢; rw [List.foldl_cons]; simp only [List.length_cons]; omega
theorem find_take {l : List Wnt} (hl : rightW l = true) (bs : List Int) (n : Int) : findW (takeWd l bs) n = if n ∈ bs then none else findW l n := by
  have hr := (rightW_iff.1 hl).1
  have h1 : RisW (takeWd l bs) := hr.filter _
  apply Option.ext
  intro x
  rw [findW_ris h1]
  unfold takeWd
  rw [List.mem_filter]
  by_cases hn : n ∈ bs
  · rw [if_pos hn]
    constructor
    · rintro ⟨⟨-, h2⟩, rfl⟩; simp [hn] at h2
    · intro h; cases h
  · rw [if_neg hn, findW_ris hr]
    constructor
    · rintro ⟨⟨h2, -⟩, h3⟩; exact ⟨h2, h3⟩
    · rintro ⟨h2, rfl⟩; exact ⟨⟨h2, by simpa using hn⟩, rfl⟩
theorem right_take {l : List Wnt} (hl : rightW l = true) (bs : List Int) : rightW (takeWd l bs) = true := by
  obtain ⟨h1, h2⟩ := rightW_iff.1 hl
  exact rightW_iff.2 ⟨h1.filter _, fun x hx => h2 x (List.mem_filter.1 hx).1⟩
theorem take_len (l : List Wnt) (bs : List Int) : (takeWd l bs).length ≤ l.length := List.length_filter_le _ _
theorem numsL_len (l : List Wnt) (k : Int) : (numsL l k).length ≤ l.length := by unfold numsL; rw [List.length_map]; exact List.length_filter_le _ _
theorem numsV_len (l : List Wnt) (k : Int) : (numsV l k).length = (numsL l k).length := List.length_mergeSort _
/-- In: the document's loop. -/
theorem in_step {bs : List Int} {k : Nat} {n x : Int} (hx : bs[k]? = some x) (h : x ≠ n) (hk : n ∉ bs.take k) : n ∉ bs.take (k + 1) := by
  rw [List.take_add_one, hx, List.mem_append]
  rintro (h1 | h1)
  · exact hk h1
  · simp at h1; exact h h1.symm
/-- The law's loops. -/
theorem low_step {more : List Wnt} {k : Nat} {x : Wnt} (hx : more[k]? = some x) : lowW (more.take (k + 1)) = (lowW (more.take k) || decide (x.blk < 0)) := by
  unfold lowW; rw [takeW_at hx, List.any_append]; simp
theorem put_step {f : WMap} {more : List Wnt} {k : Nat} {x : Wnt} (hx : more[k]? = some x) (b : Int) : putF f (more.take (k + 1)) b = if b = x.blk then some x else putF f (more.take k) b := by
  rw [putF_take hx]; rfl
theorem mem_step {bs : List Int} {k : Nat} {n x : Int} (hx : bs[k]? = some x) : decide (n ∈ bs.take (k + 1)) = (decide (n ∈ bs.take k) || decide (x = n)) := by
  rw [List.take_add_one, hx]
  by_cases h1 : n ∈ bs.take k
  · simp [h1]
  · by_cases h2 : x = n
    · simp [h2]
    · have : ¬ n = x := fun h => h2 h.symm
      simp [h1, h2, this]
end Go.Proofs.Ytnmlmnhgjnkbhaa
