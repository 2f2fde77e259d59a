/-
  Merged: EntJoinsMath, MatchMath.
-/
import Derived.Test.YthadfdpdillemaaDoorMo2
/-
  A ROW THAT FOLLOWS: what its entries are; a row in two parts. Plain Lean, no program.
-/
set_option linter.unusedVariables false
namespace Go.Proofs.YthadfdpdillemaaDoor
open Go.RowKit

theorem stepE_zero {p : Idt} {x : Ent} (h : stepE p x = 0) : goodE x = true ∧ x.idx - 1 = p.idx ∧ p.trm ≤ x.trm := by
  unfold stepE at h
  by_cases h1 : goodE x = false
  · rw [if_pos h1] at h; omega
  · rw [if_neg h1] at h
    by_cases h2 : x.idx - 1 ≠ p.idx ∨ x.trm < p.trm
    · rw [if_pos h2] at h; omega
    · exact ⟨by simpa using h1, by omega, by omega⟩
theorem goodE_range {x : Ent} (h : goodE x = true) : 1 ≤ x.idx ∧ x.idx ≤ 1099511627776 ∧ 0 ≤ x.trm ∧ x.trm ≤ 1099511627776 := by
  unfold goodE rangeE at h
  simp only [Bool.and_eq_true, decide_eq_true_eq] at h
  omega
/-- What the entries of a row that follows are. -/
theorem fol_each : ∀ (l : List Ent) (p : Idt), folE p l = 0 → ∀ (i : Nat) (x : Ent), l[i]? = some x → goodE x = true ∧ x.idx = p.idx + 1 + i ∧ p.trm ≤ x.trm ∧ ∀ y, 0 < i → l[i - 1]? = some y → y.trm ≤ x.trm := by
  intro l
  induction l with
  | nil => intro p _ i x hx; simp at hx
  | cons z l ih =>
    intro p h i x hx
    have e0 : folE p (z :: l) = if stepE p z = 0 then folE (ofE z) l else stepE p z := rfl
    rw [e0] at h
    by_cases hs : stepE p z = 0
    · rw [if_pos hs] at h
      obtain ⟨g1, g2, g3⟩ := stepE_zero hs
      cases i with
      | zero =>
        simp only [List.getElem?_cons_zero, Option.some.injEq] at hx
        subst hx
        exact ⟨g1, by simp; omega, g3, fun y h0 => absurd h0 (by omega)⟩
      | succ i =>
        simp only [List.getElem?_cons_succ] at hx
        obtain ⟨f1, f2, f3, f4⟩ := ih (ofE z) h i x hx
        have e1 : (ofE z).idx = z.idx := rfl
        have e2 : (ofE z).trm = z.trm := rfl
        refine ⟨f1, by rw [f2, e1]; omega, by rw [e2] at f3; omega, fun y _ hy => ?_⟩
        cases i with
        | zero =>
          simp only [Nat.zero_add, Nat.sub_self, List.getElem?_cons_zero, Option.some.injEq] at hy
          subst hy; exact f3
        | succ j => exact f4 y (by omega) (by simpa using hy)
    · rw [if_neg hs] at h; exact absurd h hs
theorem fol_two (p : Idt) (l : List Ent) (k : Nat) : folE p l = if folE p (l.take k) = 0 then folE (lastE p (l.take k)) (l.drop k) else folE p (l.take k) := by
  rw [← folE_append, List.take_append_drop]
theorem last_two (p : Idt) (l : List Ent) (k : Nat) : lastE (lastE p (l.take k)) (l.drop k) = lastE p l := by
  rw [← lastE_append, List.take_append_drop]
end Go.Proofs.YthadfdpdillemaaDoor
/-
  A VIEW of a log: whether it is right, what is at an index. Plain Lean, no program.
-/
set_option linter.unusedVariables false
namespace Go.Proofs.YthadfdpdillemaaDoor
open Go.RowKit

/-- From place k on the identities that are known have their indices, and terms that do not sink. -/
def vRun (bi : Int) : Int → Nat → List Idt → Bool
  | _, _, [] => true
  | t, k, p :: r => if p.knd = 0 then vRun bi t (k + 1) r else decide (p.idx = bi + 1 + (k : Int) ∧ t ≤ p.trm) && vRun bi p.trm (k + 1) r
/-- The last one is known. -/
def endOk (l : List Idt) : Bool := match l[l.length - 1]? with | none => true | some p => decide (p.knd ≠ 0)
def headOk (b : Idt) (l : List Idt) : Bool := decide (0 ≤ b.idx ∧ b.idx ≤ 1099511627776 ∧ (l.length : Int) ≤ 1099511627776 - b.idx)
def rightV (b : Idt) (l : List Idt) : Bool := headOk b l && vRun b.idx b.trm 0 l && endOk l
/-- What is at an index. -/
def atV (b : Idt) (l : List Idt) (i : Int) : Option Idt :=
  if i = b.idx then some b else if b.idx < i then (match l[(i - b.idx - 1).toNat]? with | some p => if p.knd = 0 then none else some p | none => none) else none
def atP (o : Option Idt) : Idt := o.getD ⟨0, 0, 0⟩
/-- A number of 64 bits. -/
def I64 (x : Int) : Prop := -9223372036854775808 ≤ x ∧ x ≤ 9223372036854775807
def IdtOk (p : Idt) : Prop := I64 p.idx ∧ I64 p.trm ∧ I64 p.knd

theorem vRun_zero {bi t : Int} {k : Nat} {l : List Idt} {p : Idt} (hx : l[k]? = some p) (h : p.knd = 0) : vRun bi t k (l.drop k) = vRun bi t (k + 1) (l.drop (k + 1)) := by
  rw [drop_at hx]
  show (if p.knd = 0 then _ else _) = _
  rw [if_pos h]
theorem vRun_known {bi t : Int} {k : Nat} {l : List Idt} {p : Idt} (hx : l[k]? = some p) (h : p.knd ≠ 0) : vRun bi t k (l.drop k) = (decide (p.idx = bi + 1 + (k : Int) ∧ t ≤ p.trm) && vRun bi p.trm (k + 1) (l.drop (k + 1))) := by
  rw [drop_at hx]
  show (if p.knd = 0 then _ else _) = _
  rw [if_neg h]
theorem vRun_end (bi t : Int) (k : Nat) (l : List Idt) (h : l.length ≤ k) : vRun bi t k (l.drop k) = true := by
  rw [List.drop_of_length_le h]; rfl
theorem endOk_at {l : List Idt} {p : Idt} (hx : l[l.length - 1]? = some p) : endOk l = decide (p.knd ≠ 0) := by unfold endOk; rw [hx]
theorem endOk_nil : endOk [] = true := rfl
theorem headOk_iff {b : Idt} {l : List Idt} : headOk b l = true ↔ 0 ≤ b.idx ∧ b.idx ≤ 1099511627776 ∧ (l.length : Int) ≤ 1099511627776 - b.idx := by unfold headOk; exact decide_eq_true_iff
theorem headOk_no {b : Idt} {l : List Idt} (h : ¬ (0 ≤ b.idx ∧ b.idx ≤ 1099511627776 ∧ (l.length : Int) ≤ 1099511627776 - b.idx)) : rightV b l = false := by unfold rightV headOk; rw [decide_eq_false h]; rfl
theorem rightV_head {b : Idt} {l : List Idt} (h : rightV b l = true) : 0 ≤ b.idx ∧ b.idx ≤ 1099511627776 ∧ (l.length : Int) ≤ 1099511627776 - b.idx := by
  unfold rightV at h; simp only [Bool.and_eq_true] at h; exact headOk_iff.1 h.1.1
theorem rightV_of {b : Idt} {l : List Idt} (h : 0 ≤ b.idx ∧ b.idx ≤ 1099511627776 ∧ (l.length : Int) ≤ 1099511627776 - b.idx) : rightV b l = (vRun b.idx b.trm 0 l && endOk l) := by
  unfold rightV; rw [headOk_iff.2 h]; rfl
theorem atV_base {b : Idt} {l : List Idt} {i : Int} (h : i = b.idx) : atV b l i = some b := by unfold atV; rw [if_pos h]
theorem atV_low {b : Idt} {l : List Idt} {i : Int} (h : i < b.idx) : atV b l i = none := by unfold atV; rw [if_neg (by omega), if_neg (by omega)]
theorem atV_in {b : Idt} {l : List Idt} {i : Int} {j : Nat} {p : Idt} (h : i - b.idx - 1 = (j : Int)) (hx : l[j]? = some p) : atV b l i = if p.knd = 0 then none else some p := by
  unfold atV
  rw [if_neg (by omega), if_pos (by omega), h, Int.toNat_natCast, hx]
theorem atV_out {b : Idt} {l : List Idt} {i : Int} (h : b.idx + (l.length : Int) < i) : atV b l i = none := by
  unfold atV
  rw [if_neg (by omega), if_pos (by omega), List.getElem?_eq_none (by omega)]
end Go.Proofs.YthadfdpdillemaaDoor
