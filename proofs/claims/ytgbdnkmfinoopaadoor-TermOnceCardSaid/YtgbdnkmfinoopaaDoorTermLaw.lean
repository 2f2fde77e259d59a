/-
  TERMS AND VOTES: the plain laws (TermAgain).
-/
import Derived.Test.YtgbdnkmfinoopaaDoorTermMath
set_option linter.unusedVariables false
namespace Go.Proofs.YtgbdnkmfinoopaaDoor

theorem seeM_same {m : Met} {at_ : Int} (h : ¬ m.trm < at_) : seeM m at_ = m := by simp [seeM, h]
theorem see_again (m : Met) (at_ : Int) : seeM (seeM m at_) at_ = seeM m at_ := by
  by_cases h : metTurns m = true ∧ m.trm < at_ ∧ at_ ≤ 1099511627776
  · have e : seeM m at_ = toM m at_ 0 := by simp [seeM, h]
    have ht : (toM m at_ 0).trm = at_ := by unfold toM; split <;> first | rfl | omega
    rw [e, seeM_same (by omega)]
  · have e : seeM m at_ = m := by simp only [seeM, if_neg h]
    rw [e, e]

/-- A yes: what is known of the meta, and of what it is then. -/
theorem asked_yes {m : Met} {own last : Idt} {frm at_ : Int} (h : askedR m own frm at_ last = none) :
    metRight (toM m at_ frm) = true ∧ (toM m at_ frm).trm = at_ ∧ (toM m at_ frm).vot = frm ∧ 1 ≤ frm ∧ frm ≤ 7 ∧ 1 ≤ at_ ∧ at_ ≤ 1099511627776 ∧ olderB last own = false := by
  unfold askedR at h
  split at h; · cases h
  rename_i h1
  split at h; · cases h
  rename_i h2
  split at h; · cases h
  rename_i h3
  split at h; · cases h
  rename_i h4
  split at h; · cases h
  rename_i h5
  have hr : metRight m = true := by
    cases hr : metRight m
    · exact absurd (Or.inl hr) h1
    · rfl
  have hb := metRight_iff.1 hr
  have hfrm : 1 ≤ frm ∧ frm ≤ 7 ∧ 1 ≤ at_ ∧ at_ ≤ 1099511627776 := by
    refine ⟨?_, ?_, ?_, ?_⟩
    · by_cases q : frm < 1
      · exact absurd (Or.inr (Or.inl q)) h1
      · omega
    · by_cases q : 7 < frm
      · exact absurd (Or.inr (Or.inr (Or.inl q))) h1
      · omega
    · by_cases q : at_ < 1
      · exact absurd (Or.inr (Or.inr (Or.inr (Or.inl q)))) h1
      · omega
    · by_cases q : 1099511627776 < at_
      · exact absurd (Or.inr (Or.inr (Or.inr (Or.inr q)))) h1
      · omega
  obtain ⟨f1, f2, f3, f4⟩ := hfrm
  have ho : olderB last own = false := by
    cases ho : olderB last own
    · rfl
    · exact absurd ho h5
  have hto : ∀ (hv : m.trm < at_ ∨ m.vot = 0), metRight (⟨m.ver + 1, at_, frm⟩ : Met) = true := by
    intro hv
    have ht : metTurns m = true := by
      cases ht : metTurns m
      · exact absurd ⟨hv, ht⟩ h3
      · rfl
    have := metTurns_iff.1 ht
    exact metRight_iff.2 ⟨by simp only; omega, by simp only; omega, by simp only; omega, by simp only; omega, by simp only; omega, by simp only; omega⟩
  by_cases hv : m.trm < at_ ∨ m.vot = 0
  · have hne : m.trm ≠ at_ ∨ m.vot ≠ frm := by omega
    have e : toM m at_ frm = ⟨m.ver + 1, at_, frm⟩ := by simp only [toM, if_pos hne]
    rw [e]
    exact ⟨hto hv, rfl, rfl, f1, f2, f3, f4, ho⟩
  · have hvf : m.vot = frm := by
      by_cases q : m.vot = frm
      · exact q
      · exact absurd ⟨hv, q⟩ h4
    have e : toM m at_ frm = m := by
      have : ¬ (m.trm ≠ at_ ∨ m.vot ≠ frm) := by omega
      simp only [toM, if_neg this]
    rw [e]
    exact ⟨hr, by omega, hvf, f1, f2, f3, f4, ho⟩

/-- A meta that has given its vote for this term: asked by the same, yes, and nothing changes; by another one, no, and nothing changes. -/
theorem grant_given {a : Met} {own last : Idt} {frm at_ : Int} (hr : metRight a = true) (ht : a.trm = at_) (hv : a.vot = frm) (f1 : 1 ≤ frm) (f2 : frm ≤ 7) (f3 : 1 ≤ at_) (f4 : at_ ≤ 1099511627776) (ho : olderB last own = false) :
    grantM a own frm at_ last = (a, true) := by
  have h1 : ¬ (metRight a = false ∨ frm < 1 ∨ 7 < frm ∨ at_ < 1 ∨ 1099511627776 < at_) := by simp only [hr]; simp; omega
  have h2 : ¬ at_ < a.trm := by omega
  have h3 : ¬ ((a.trm < at_ ∨ a.vot = 0) ∧ metTurns a = false) := by omega
  have h4 : ¬ (¬ (a.trm < at_ ∨ a.vot = 0) ∧ a.vot ≠ frm) := by omega
  have e : askedR a own frm at_ last = none := by simp only [askedR, if_neg h1, if_neg h2, if_neg h3, if_neg h4, ho]; rfl
  have e2 : toM a at_ frm = a := by
    have : ¬ (a.trm ≠ at_ ∨ a.vot ≠ frm) := by omega
    simp only [toM, if_neg this]
  simp only [grantM, e, e2]
theorem grant_other {a : Met} {own last : Idt} {frm other at_ : Int} (hr : metRight a = true) (ht : a.trm = at_) (hv : a.vot = frm) (f1 : 1 ≤ frm) (hne : other ≠ frm) : grantM a own other at_ last = (a, false) := by
  have hs : seeM a at_ = a := seeM_same (by omega)
  by_cases h1 : metRight a = false ∨ other < 1 ∨ 7 < other ∨ at_ < 1 ∨ 1099511627776 < at_
  · have e : askedR a own other at_ last = some 4 := by simp only [askedR, if_pos h1]
    simp only [grantM, e, hs]; rfl
  · have h2 : ¬ at_ < a.trm := by omega
    have h3 : ¬ ((a.trm < at_ ∨ a.vot = 0) ∧ metTurns a = false) := by omega
    have h4 : ¬ (a.trm < at_ ∨ a.vot = 0) ∧ a.vot ≠ other := by omega
    have e : askedR a own other at_ last = some 2 := by simp only [askedR, if_neg h1, if_neg h2, if_neg h3, if_pos h4]
    simp only [grantM, e, hs]; rfl

/-- A meta of this term with no vote: where something is in the way, no, and nothing changes. -/
theorem grant_fresh {A : Met} {own last : Idt} {frm at_ : Int} (ht : A.trm = at_) (hv : A.vot = 0) (h : (metRight A = false ∨ frm < 1 ∨ 7 < frm ∨ at_ < 1 ∨ 1099511627776 < at_) ∨ metTurns A = false ∨ olderB last own = true) : grantM A own frm at_ last = (A, false) := by
  have hs : seeM A at_ = A := seeM_same (by omega)
  by_cases h1 : metRight A = false ∨ frm < 1 ∨ 7 < frm ∨ at_ < 1 ∨ 1099511627776 < at_
  · have q : askedR A own frm at_ last = some 4 := by simp only [askedR, if_pos h1]
    simp only [grantM, q, hs]; rfl
  · have h2 : ¬ at_ < A.trm := by omega
    by_cases h3 : metTurns A = false
    · have h3' : (A.trm < at_ ∨ A.vot = 0) ∧ metTurns A = false := ⟨.inr hv, h3⟩
      have q : askedR A own frm at_ last = some 5 := by simp only [askedR, if_neg h1, if_neg h2, if_pos h3']
      simp only [grantM, q]; rfl
    · have h3' : ¬ ((A.trm < at_ ∨ A.vot = 0) ∧ metTurns A = false) := fun hh => h3 hh.2
      have h4 : ¬ (¬ (A.trm < at_ ∨ A.vot = 0) ∧ A.vot ≠ frm) := fun hh => hh.1 (.inr hv)
      have ho : olderB last own = true := (h.resolve_left h1).resolve_left h3
      have q : askedR A own frm at_ last = some 3 := by simp only [askedR, if_neg h1, if_neg h2, if_neg h3', if_neg h4, ho, if_true]
      simp only [grantM, q, hs]; rfl

/-- Asked again: the same. -/
theorem grant_again (m : Met) (own last : Idt) (frm at_ : Int) : grantM (grantM m own frm at_ last).1 own frm at_ last = grantM m own frm at_ last := by
  cases h : askedR m own frm at_ last with
  | none =>
    have e : grantM m own frm at_ last = (toM m at_ frm, true) := by simp only [grantM, h]
    obtain ⟨r, t, v, f1, f2, f3, f4, ho⟩ := asked_yes h
    rw [e]; exact grant_given r t v f1 f2 f3 f4 ho
  | some r =>
    by_cases h5 : r = 5
    · have e : grantM m own frm at_ last = (m, false) := by simp only [grantM, h, h5]; rfl
      rw [e, e]
    · have e : grantM m own frm at_ last = (seeM m at_, false) := by simp only [grantM, h, if_neg h5]
      rw [e]
      by_cases hs : metTurns m = true ∧ m.trm < at_ ∧ at_ ≤ 1099511627776
      · have e1 : seeM m at_ = ⟨m.ver + 1, at_, 0⟩ := by
          have : m.trm ≠ at_ ∨ m.vot ≠ 0 := by omega
          simp only [seeM, if_pos hs, toM, if_pos this]
        have hm := metTurns_iff.1 hs.1
        rw [e1]
        refine grant_fresh rfl rfl ?_
        by_cases g1 : metRight m = false ∨ frm < 1 ∨ 7 < frm ∨ at_ < 1 ∨ 1099511627776 < at_
        · rcases g1 with g1 | g1
          · have : metRight m = true := metRight_iff.2 (by omega)
            rw [this] at g1; cases g1
          · exact .inl (.inr g1)
        · right; right
          cases ho : olderB last own
          · exfalso
            have g2 : ¬ at_ < m.trm := by omega
            have g3 : ¬ ((m.trm < at_ ∨ m.vot = 0) ∧ metTurns m = false) := by rw [hs.1]; simp
            have g4 : ¬ (¬ (m.trm < at_ ∨ m.vot = 0) ∧ m.vot ≠ frm) := fun hh => hh.1 (.inl hs.2.1)
            simp only [askedR, if_neg g1, if_neg g2, if_neg g3, if_neg g4, ho] at h
            cases h
          · rfl
      · have e1 : seeM m at_ = m := by simp only [seeM, if_neg hs]
        rw [e1, e, e1]

/-- What TermAgain asks, all of it. -/
theorem term_again (m : Met) (own last : Idt) (frm at_ other : Int) :
    grantM (grantM m own frm at_ last).1 own frm at_ last = grantM m own frm at_ last ∧ seeM (seeM m at_) at_ = seeM m at_ ∧
    ((grantM m own frm at_ last).2 = true → seeM (grantM m own frm at_ last).1 at_ = (grantM m own frm at_ last).1 ∧ (other ≠ frm → grantM (grantM m own frm at_ last).1 own other at_ last = ((grantM m own frm at_ last).1, false))) := by
  refine ⟨grant_again m own last frm at_, see_again m at_, fun hy => ?_⟩
  cases h : askedR m own frm at_ last with
  | none =>
    have e : grantM m own frm at_ last = (toM m at_ frm, true) := by simp only [grantM, h]
    obtain ⟨r, t, v, f1, f2, f3, f4, ho⟩ := asked_yes h
    rw [e]
    exact ⟨seeM_same (by show ¬ (toM m at_ frm).trm < at_; omega), fun hne => grant_other r t v f1 hne⟩
  | some r =>
    exfalso
    simp only [grantM, h] at hy
    split at hy <;> cases hy
end Go.Proofs.YtgbdnkmfinoopaaDoor
