/-
  TERMS AND VOTES: one step of TermOnce: plain Lean, no program.
-/
import Derived.Test.YtgbdnkmfinoopaaDoorTermLaw
set_option linter.unusedVariables false
namespace Go.Proofs.YtgbdnkmfinoopaaDoor

/-- What a deed makes of a right meta m: n; yes: a vote for frm. -/
structure Step (m n : Met) (yes : Bool) (frm : Int) : Prop where
  right : metRight n = true
  up : m.trm ≤ n.trm
  same : n = m ∨ n.ver = m.ver + 1
  no : yes = false → n = m ∨ (n.trm ≠ m.trm ∧ n.vot = 0)
  vote : yes = true → n.vot = frm ∧ (n.trm ≠ m.trm ∨ m.vot = 0 ∨ m.vot = frm) ∧ frm ≠ 0

theorem step_see {m : Met} (hr : metRight m = true) (at_ frm : Int) : Step m (seeM m at_) false frm := by
  by_cases h : metTurns m = true ∧ m.trm < at_ ∧ at_ ≤ 1099511627776
  · have hm := metTurns_iff.1 h.1
    have hne : m.trm ≠ at_ ∨ m.vot ≠ 0 := by omega
    have e : seeM m at_ = ⟨m.ver + 1, at_, 0⟩ := by simp only [seeM, if_pos h, toM, if_pos hne]
    rw [e]
    exact ⟨metRight_iff.2 ⟨by simp only; omega, by simp only; omega, by simp only; omega, by simp only; omega, by simp only; omega, by simp only; omega⟩, by simp only; omega, .inr rfl, fun _ => .inr ⟨by simp only; omega, rfl⟩, fun h => by cases h⟩
  · have e : seeM m at_ = m := by simp only [seeM, if_neg h]
    rw [e]
    exact ⟨hr, Int.le_refl _, .inl rfl, fun _ => .inl rfl, fun h => by cases h⟩
theorem step_start {m : Met} (hr : metRight m = true) {self : Int} (h1 : 1 ≤ self) (h2 : self ≤ 7) : Step m (startM m self).1 ((startM m self).2 == 0) self := by
  have hm := metRight_iff.1 hr
  have g1 : ¬ (metRight m = false ∨ self < 1 ∨ 7 < self) := by rw [hr]; simp; omega
  by_cases h : m.trm = 1099511627776 ∨ metTurns m = false
  · have e : startM m self = (m, 3) := by simp only [startM, if_neg g1, if_pos h]
    rw [e]
    exact ⟨hr, Int.le_refl _, .inl rfl, fun _ => .inl rfl, fun h => by cases h⟩
  · have ht : metTurns m = true := by cases ht : metTurns m; exact absurd (.inr ht) h; rfl
    have hv := metTurns_iff.1 ht
    have hne : m.trm ≠ m.trm + 1 ∨ m.vot ≠ self := by omega
    have e : startM m self = (⟨m.ver + 1, m.trm + 1, self⟩, 0) := by simp only [startM, if_neg g1, if_neg h, toM, if_pos hne]
    rw [e]
    have h0 : m.trm ≠ 1099511627776 := fun q => h (.inl q)
    exact ⟨metRight_iff.2 ⟨by simp only; omega, by simp only; omega, by simp only; omega, by simp only; omega, by simp only; omega, by simp only; omega⟩, by simp only; omega, .inr rfl, (fun h => by cases h), fun _ => ⟨rfl, .inl (by simp only; omega), by omega⟩⟩
theorem step_grant {m : Met} (hr : metRight m = true) (own : Idt) (frm at_ : Int) (last : Idt) :
    Step m (grantM m own frm at_ last).1 (grantM m own frm at_ last).2 frm ∧ ((grantM m own frm at_ last).2 = true → olderB last own = false ∧ (grantM m own frm at_ last).1.trm = at_) := by
  cases h : askedR m own frm at_ last with
  | none =>
    have e : grantM m own frm at_ last = (toM m at_ frm, true) := by simp only [grantM, h]
    obtain ⟨r, t, v, f1, f2, f3, f4, ho⟩ := asked_yes h
    rw [e]
    have h2 : ¬ at_ < m.trm := by
      intro q
      unfold askedR at h
      split at h; · cases h
      cases h
    have h4 : m.trm < at_ ∨ m.vot = 0 ∨ m.vot = frm := by
      by_cases q : m.trm < at_ ∨ m.vot = 0
      · rcases q with q | q
        · exact .inl q
        · exact .inr (.inl q)
      · by_cases q2 : m.vot = frm
        · exact .inr (.inr q2)
        · unfold askedR at h
          split at h; · cases h
          split at h; · cases h
          split at h; · cases h
          rename_i h9; exact absurd ⟨q, q2⟩ h9
    refine ⟨⟨r, by show m.trm ≤ (toM m at_ frm).trm; omega, ?_, (fun h => by cases h), fun _ => ⟨v, ?_, by omega⟩⟩, fun _ => ⟨ho, t⟩⟩
    · unfold toM; split
      · exact .inr rfl
      · exact .inl rfl
    · rcases h4 with q | q | q
      · exact .inl (by show (toM m at_ frm).trm ≠ m.trm; omega)
      · exact .inr (.inl q)
      · exact .inr (.inr q)
  | some r =>
    by_cases h5 : r = 5
    · have e : grantM m own frm at_ last = (m, false) := by simp only [grantM, h, h5]; rfl
      rw [e]
      exact ⟨⟨hr, Int.le_refl _, .inl rfl, fun _ => .inl rfl, fun h => by cases h⟩, fun h => by cases h⟩
    · have e : grantM m own frm at_ last = (seeM m at_, false) := by simp only [grantM, h, if_neg h5]
      rw [e]
      exact ⟨step_see hr at_ frm, fun h => by cases h⟩
end Go.Proofs.YtgbdnkmfinoopaaDoor
