/-
  WITH ONE ROTTEN ENTRY MORE a replica may do less at most: plain Lean, no program.
-/
import Derived.Test.YtaembglohjgkhaaDoorAbMath
import Derived.Test.YtaembglohjgkhaaDoorAb2
set_option linter.unusedVariables false
namespace Go.Proofs.YtaembglohjgkhaaDoor
open Go.RowKit

theorem firstBad_snoc (l : List Idt) (p : Idt) : firstBad (l ++ [p]) = (firstBad l).or (if badKind p then some p else none) := by
  unfold firstBad
  rw [List.find?_append]
  cases h : badKind p <;> simp [h]
theorem heal_leads {self : Int} {ms : List Int} {l : List Idt} {p : Idt} (h : leadsI false self ms (l ++ [p]) = 0) : leadsI false self ms l = 0 := by
  unfold leadsI at h ⊢
  simp only [Bool.false_eq_true, if_false] at h ⊢
  by_cases hi : inB ms self = false
  · rw [if_pos hi] at h; omega
  · rw [if_neg hi] at h ⊢
    rw [firstBad_snoc] at h
    cases hb : firstBad l with
    | none => simp
    | some y => rw [hb] at h; simp at h
theorem heal_bad {self : Int} {ms : List Int} {l : List Idt} {p : Idt} (hb : badKind p = true) : leadsI false self ms (l ++ [p]) ≠ 0 := by
  unfold leadsI
  simp only [Bool.false_eq_true, if_false]
  by_cases hi : inB ms self = false
  · rw [if_pos hi]; omega
  · rw [if_neg hi, firstBad_snoc, hb]
    cases hb : firstBad l <;> simp
theorem leads_lost {self : Int} {ms : List Int} {l : List Idt} : leadsI true self ms l = 10 := by simp [leadsI]
theorem acks_lost {l : List Idt} {upto : Int} : acksI true l upto = 0 := by simp [acksI]
theorem whole_lost {l : List Idt} {a b : Int} : wholeI true l a b = false := by simp [wholeI]
theorem firstFrom_le : ∀ (l : List Idt) (n : Int), firstFrom l n ≤ n ∧ ∀ x ∈ l, firstFrom l n ≤ x.idx := by
  intro l
  induction l with
  | nil => intro n; exact ⟨Int.le_refl _, fun x h => by cases h⟩
  | cons y l ih =>
    intro n
    simp only [firstFrom]
    obtain ⟨h1, h2⟩ := ih (if y.idx < n then y.idx else n)
    by_cases hy : y.idx < n
    · rw [if_pos hy] at h1 h2 ⊢
      exact ⟨by omega, fun x hx => by rcases List.mem_cons.1 hx with rfl | hx; exact h1; exact h2 x hx⟩
    · rw [if_neg hy] at h1 h2 ⊢
      exact ⟨h1, fun x hx => by rcases List.mem_cons.1 hx with rfl | hx; omega; exact h2 x hx⟩
theorem firstI_le {l : List Idt} {x : Idt} (hx : x ∈ l) : firstI l ≤ x.idx := by
  cases l with
  | nil => cases hx
  | cons y l =>
    simp only [firstI]
    rcases List.mem_cons.1 hx with rfl | hx
    · exact (firstFrom_le l _).1
    · exact (firstFrom_le l _).2 x hx
theorem wrap_small {x : Int} (h0 : -9223372036854775808 ≤ x) (h1 : x ≤ 9223372036854775807) : RowKit.wrap64 x = x := by
  unfold RowKit.wrap64; omega
theorem acks_false {l : List Idt} {upto : Int} (hall : ∀ x ∈ l, 1 ≤ x.idx) (hu : upto ≤ 9223372036854775807) :
    acksI false l upto = if l ≠ [] ∧ firstI l ≤ upto then firstI l - 1 else upto := by
  unfold acksI
  simp only [Bool.false_eq_true, if_false]
  by_cases h : l ≠ [] ∧ firstI l ≤ upto
  · rw [if_pos h, if_pos h]
    obtain ⟨x, hx, he⟩ := firstI_mem h.1
    have := hall x hx
    exact wrap_small (by omega) (by omega)
  · rw [if_neg h, if_neg h]
theorem acks_le {l : List Idt} {upto : Int} (hall : ∀ x ∈ l, 1 ≤ x.idx) (hu : upto ≤ 9223372036854775807) : acksI false l upto ≤ upto := by
  rw [acks_false hall hu]
  split
  · omega
  · exact Int.le_refl _
theorem firstI_snoc {l : List Idt} {p : Idt} (h : l ≠ []) : firstI (l ++ [p]) = if p.idx < firstI l then p.idx else firstI l := by
  cases l with
  | nil => exact absurd rfl h
  | cons y l => exact firstFrom_snoc l p _
theorem heal_acks {l : List Idt} {p : Idt} {upto : Int} (hall : ∀ x ∈ l, 1 ≤ x.idx) (hp : 1 ≤ p.idx) (hu : upto ≤ 9223372036854775807) : acksI false (l ++ [p]) upto ≤ acksI false l upto := by
  have hall' : ∀ x ∈ l ++ [p], 1 ≤ x.idx := by
    intro x hx
    rcases List.mem_append.1 hx with hx | hx
    · exact hall x hx
    · rw [List.mem_singleton.1 hx]; exact hp
  by_cases h0 : l = []
  · subst h0
    have e : acksI false [] upto = upto := by simp [acksI]
    rw [e]
    exact acks_le hall' hu
  · rw [acks_false hall' hu, acks_false hall hu, firstI_snoc h0]
    have hne : ¬ (l ++ [p] = []) := by simp
    simp only [ne_eq, hne, h0, not_false_eq_true, true_and]
    by_cases hlt : p.idx < firstI l
    · rw [if_pos hlt]
      split <;> split <;> omega
    · rw [if_neg hlt]
      split <;> omega
theorem heal_whole {l : List Idt} {p : Idt} {a b : Int} (h : wholeI false (l ++ [p]) a b = true) : wholeI false l a b = true := by
  rw [wholeI_eq] at h ⊢
  rw [List.any_append] at h
  cases hl : l.any (midB a b)
  · rfl
  · rw [hl] at h; simp at h
theorem acks_whole {l : List Idt} {upto : Int} (hall : ∀ x ∈ l, 1 ≤ x.idx) (hu : upto ≤ 9223372036854775807) : wholeI false l 1 (acksI false l upto) = true := by
  rw [wholeI_eq, acks_false hall hu]
  have : l.any (midB 1 (if l ≠ [] ∧ firstI l ≤ upto then firstI l - 1 else upto)) = false := by
    rw [List.any_eq_false]
    intro x hx
    have h1 := firstI_le hx
    have hne : l ≠ [] := by intro h; rw [h] at hx; cases hx
    unfold midB
    rw [decide_eq_true_eq]
    by_cases hc : l ≠ [] ∧ firstI l ≤ upto
    · rw [if_pos hc]; omega
    · rw [if_neg hc]
      have : ¬ firstI l ≤ upto := fun q => hc ⟨hne, q⟩
      omega
  rw [this]; rfl
theorem acks_nil {upto : Int} : acksI false [] upto = upto := by simp [acksI]
end Go.Proofs.YtaembglohjgkhaaDoor
