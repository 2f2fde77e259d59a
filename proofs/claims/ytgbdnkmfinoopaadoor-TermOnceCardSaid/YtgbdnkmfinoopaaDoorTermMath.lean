/-
  TERMS AND VOTES: plain Lean, no program.
-/
import Derived.WalkKit
set_option linter.unusedVariables false
namespace Go.Proofs.YtgbdnkmfinoopaaDoor

/-- A meta: version, term, vote. An end: index, term (and a kind that nothing here reads). -/
structure Met where
  ver : Int
  trm : Int
  vot : Int
structure Idt where
  idx : Int
  trm : Int
  knd : Int
def metVal (m : Met) : Value := .agg #[.int .i64 m.ver, .int .i64 m.trm, .int .i64 m.vot]

def metRight (m : Met) : Bool := decide (0 ≤ m.ver ∧ m.ver ≤ 1099511627776 ∧ 0 ≤ m.trm ∧ m.trm ≤ 1099511627776 ∧ 0 ≤ m.vot ∧ m.vot ≤ 7)
def metTurns (m : Met) : Bool := metRight m && decide (m.ver < 1099511627776)
theorem metRight_iff {m : Met} : metRight m = true ↔ (0 ≤ m.ver ∧ m.ver ≤ 1099511627776 ∧ 0 ≤ m.trm ∧ m.trm ≤ 1099511627776 ∧ 0 ≤ m.vot ∧ m.vot ≤ 7) := by simp [metRight]
theorem metTurns_iff {m : Met} : metTurns m = true ↔ (0 ≤ m.ver ∧ m.ver < 1099511627776 ∧ 0 ≤ m.trm ∧ m.trm ≤ 1099511627776 ∧ 0 ≤ m.vot ∧ m.vot ≤ 7) := by
  simp [metTurns, metRight]; omega
def toM (m : Met) (term vote : Int) : Met := if m.trm ≠ term ∨ m.vot ≠ vote then ⟨m.ver + 1, term, vote⟩ else m
def seeM (m : Met) (term : Int) : Met := if metTurns m = true ∧ m.trm < term ∧ term ≤ 1099511627776 then toM m term 0 else m
def olderB (a b : Idt) : Bool := if a.trm = b.trm then decide (a.idx < b.idx) else decide (a.trm < b.trm)

/-- Why there is no vote: the number of the rule; none: there is one. -/
def askedR (m : Met) (own : Idt) (frm term : Int) (last : Idt) : Option Int :=
  if metRight m = false ∨ frm < 1 ∨ 7 < frm ∨ term < 1 ∨ 1099511627776 < term then some 4
  else if term < m.trm then some 1
  else if (m.trm < term ∨ m.vot = 0) ∧ metTurns m = false then some 5
  else if ¬ (m.trm < term ∨ m.vot = 0) ∧ m.vot ≠ frm then some 2
  else if olderB last own = true then some 3
  else none
def grantM (m : Met) (own : Idt) (frm term : Int) (last : Idt) : Met × Bool :=
  match askedR m own frm term last with
  | none => (toM m term frm, true)
  | some r => if r = 5 then (m, false) else (seeM m term, false)
def startM (m : Met) (self : Int) : Met × Int :=
  if metRight m = false ∨ self < 1 ∨ 7 < self then (m, 2)
  else if m.trm = 1099511627776 ∨ metTurns m = false then (m, 3)
  else (toM m (m.trm + 1) self, 0)
end Go.Proofs.YtgbdnkmfinoopaaDoor
