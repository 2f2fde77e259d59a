/-
  The document's grant is the program's: plain Lean.
-/
import Derived.Test.YtgbdnkmfinoopaaDoorTermMath
set_option linter.unusedVariables false
namespace Go.Proofs.YtgbdnkmfinoopaaDoor

theorem turns_false {m : Met} (hr : metRight m = true) : metTurns m = false ↔ m.ver = 1099511627776 := by
  have hb := metRight_iff.1 hr
  simp [metTurns, hr]; omega
theorem turns_true {m : Met} (hr : metRight m = true) : metTurns m = true ↔ m.ver ≠ 1099511627776 := by
  have hb := metRight_iff.1 hr
  simp [metTurns, hr]; omega
theorem older_cases (a b : Idt) : olderB a b = true ∨ olderB a b = false := by cases olderB a b <;> simp

theorem see_up {m : Met} {term : Int} (hr : metRight m = true) (h1 : m.ver ≠ 1099511627776) (h2 : m.trm < term) (h3 : term ≤ 1099511627776) : seeM m term = ⟨m.ver + 1, term, 0⟩ := by
  unfold seeM toM
  rw [if_pos ⟨(turns_true hr).2 h1, h2, h3⟩, if_pos (Or.inl (by omega))]
theorem see_stay {m : Met} {term : Int} (hr : metRight m = true) (h : m.ver = 1099511627776 ∨ term ≤ m.trm ∨ 1099511627776 < term) : seeM m term = m := by
  unfold seeM
  rw [if_neg]
  rintro ⟨h1, h2, h3⟩
  have := (turns_true hr).1 h1
  omega

/-- A no by the first rules: what is seen. -/
theorem grant_no {m : Met} {own last : Idt} {frm term : Int} (hr : metRight m = true) (h : (seeM m term).trm ≠ term ∨ term < 1 ∨ frm < 1 ∨ 7 < frm) : grantM m own frm term last = (seeM m term, false) := by
  have hb := metRight_iff.1 hr
  unfold grantM askedR
  by_cases h0 : metRight m = false ∨ frm < 1 ∨ 7 < frm ∨ term < 1 ∨ 1099511627776 < term
  · rw [if_pos h0]; rfl
  · have hs : (seeM m term).trm ≠ term := by omega
    rw [if_neg h0]
    by_cases h1 : term < m.trm
    · rw [if_pos h1]; rfl
    · rw [if_neg h1]
      by_cases h2 : m.trm < term
      · by_cases h3 : m.ver = 1099511627776
        · rw [if_pos ⟨Or.inl h2, (turns_false hr).2 h3⟩, see_stay hr (Or.inl h3)]; rfl
        · exact absurd (by rw [see_up hr h3 h2 (by omega)]) hs
      · have e : m.trm = term := by omega
        exact absurd (by rw [see_stay hr (Or.inr (Or.inl (by omega)))]; exact e) hs
/-- The term is the one asked for: what is seen then. -/
theorem see_cases {m : Met} {term : Int} (hr : metRight m = true) (h : (seeM m term).trm = term) :
    (m.trm < term ∧ m.ver ≠ 1099511627776 ∧ term ≤ 1099511627776 ∧ seeM m term = ⟨m.ver + 1, term, 0⟩) ∨ (m.trm = term ∧ seeM m term = m) := by
  by_cases h1 : m.ver = 1099511627776 ∨ term ≤ m.trm ∨ 1099511627776 < term
  · have e := see_stay hr h1
    rw [e] at h
    exact Or.inr ⟨h, e⟩
  · have e := see_up (m := m) (term := term) hr (by omega) (by omega) (by omega)
    exact Or.inl ⟨by omega, by omega, by omega, e⟩

theorem grant_yes {m : Met} {own last : Idt} {frm term : Int} (hr : metRight m = true) (h : (seeM m term).trm = term) (h1 : 1 ≤ term) (h2 : 1 ≤ frm) (h3 : frm ≤ 7) :
    grantM m own frm term last =
      if (seeM m term).vot ≠ 0 ∧ (seeM m term).vot ≠ frm then (seeM m term, false)
      else if (seeM m term).vot = 0 ∧ m.ver = 1099511627776 then (m, false)
      else if olderB last own = true then (seeM m term, false)
      else if (seeM m term).vot = frm then (seeM m term, true)
      else (⟨m.ver + 1, term, frm⟩, true) := by
  have hb := metRight_iff.1 hr
  unfold grantM askedR
  rcases see_cases hr h with ⟨g1, g2, g3, e⟩ | ⟨g1, e⟩
  · have hv : (seeM m term).vot = 0 := by rw [e]
    rw [if_neg (by rw [hr]; simp; omega), if_neg (by omega), if_neg (by rw [(turns_true hr).2 g2]; simp), if_neg (by omega)]
    rcases older_cases last own with q | q
    · rw [if_pos q, if_neg (by omega), if_neg (by omega), if_pos q]
      simp only
      rw [if_neg (by omega)]
    · rw [if_neg (by rw [q]; simp), if_neg (by omega), if_neg (by omega), if_neg (by rw [q]; simp), if_neg (by omega)]
      simp only
      rw [show toM m term frm = ⟨m.ver + 1, term, frm⟩ from by unfold toM; rw [if_pos (Or.inl (by omega))]]
  · rw [e]
    subst g1
    rw [if_neg (by rw [hr]; simp; omega), if_neg (by omega)]
    by_cases v0 : m.vot = 0
    · by_cases v1 : m.ver = 1099511627776
      · rw [if_pos ⟨Or.inr v0, (turns_false hr).2 v1⟩, if_neg (by omega), if_pos ⟨v0, v1⟩]
        simp
      · rw [if_neg (by rw [(turns_true hr).2 v1]; simp), if_neg (by omega)]
        rcases older_cases last own with q | q
        · rw [if_pos q, if_neg (by omega), if_neg (by omega), if_pos q]
          simp only
          rw [if_neg (by omega)]
        · rw [if_neg (by rw [q]; simp), if_neg (by omega), if_neg (by omega), if_neg (by rw [q]; simp), if_neg (by omega)]
          simp only
          rw [show toM m m.trm frm = ⟨m.ver + 1, m.trm, frm⟩ from by unfold toM; rw [if_pos (Or.inr (by omega))]]
    · rw [if_neg (fun h => by rcases h.1 with h' | h' <;> omega)]
      by_cases v2 : m.vot = frm
      · rw [if_neg (by omega)]
        rcases older_cases last own with q | q
        · rw [if_pos q, if_neg (by omega), if_neg (by omega), if_pos q]
          simp only
          rw [if_neg (by omega)]
        · rw [if_neg (by rw [q]; simp), if_neg (by omega), if_neg (by omega), if_neg (by rw [q]; simp), if_pos v2]
          simp only
          rw [show toM m m.trm frm = m from by unfold toM; rw [if_neg (by omega)]]
      · rw [if_pos (by omega), if_pos (by omega)]
        simp only
        rw [if_neg (by omega)]
end Go.Proofs.YtgbdnkmfinoopaaDoor
