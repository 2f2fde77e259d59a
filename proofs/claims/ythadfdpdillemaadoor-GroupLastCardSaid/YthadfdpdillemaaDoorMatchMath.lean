/-
  A VIEW of a log: whether it is right, what is at an index. Plain Lean, no program.
-/
import Derived.Test.YthadfdpdillemaaDoorEntJoinsMath
set_option linter.unusedVariables false
namespace Go.Proofs.YthadfdpdillemaaDoor
open Go.RowKit

/-- From place k on the identities that are known have their indices, and terms that do not sink. -/
def vRun (bi : Int) : Int → Nat → List Idt → Bool
  | _, _, [] => true
  | t, k, p :: r => if p.knd = 0 then vRun bi t (k + 1) r else decide (p.idx = bi + 1 + (k : Int) ∧ t ≤ p.trm) && vRun bi p.trm (k + 1) r
/-- The last one is known. -/
def endOk (l : List Idt) : Bool := match l[l.length - 1]? with | none => true | some p => decide (p.knd ≠ 0)
def headOk (b : Idt) (l : List Idt) : Bool := decide (0 ≤ b.idx ∧ b.idx ≤ 1099511627776 ∧ (l.length : Int) ≤ 1099511627776 - b.idx)
def rightV (b : Idt) (l : List Idt) : Bool := headOk b l && vRun b.idx b.trm 0 l && endOk l
/-- What is at an index. -/
def atV (b : Idt) (l : List Idt) (i : Int) : Option Idt :=
  if i = b.idx then some b else if b.idx < i then (match l[(i - b.idx - 1).toNat]? with | some p => if p.knd = 0 then none else some p | none => none) else none
def atP (o : Option Idt) : Idt := o.getD ⟨0, 0, 0⟩
/-- A number of 64 bits. -/
def I64 (x : Int) : Prop := -9223372036854775808 ≤ x ∧ x ≤ 9223372036854775807
def IdtOk (p : Idt) : Prop := I64 p.idx ∧ I64 p.trm ∧ I64 p.knd

theorem vRun_zero {bi t : Int} {k : Nat} {l : List Idt} {p : Idt} (hx : l[k]? = some p) (h : p.knd = 0) : vRun bi t k (l.drop k) = vRun bi t (k + 1) (l.drop (k + 1)) := by
  rw [drop_at hx]
  show (if p.knd = 0 then _ else _) = _
  rw [if_pos h]
theorem vRun_known {bi t : Int} {k : Nat} {l : List Idt} {p : Idt} (hx : l[k]? = some p) (h : p.knd ≠ 0) : vRun bi t k (l.drop k) = (decide (p.idx = bi + 1 + (k : Int) ∧ t ≤ p.trm) && vRun bi p.trm (k + 1) (l.drop (k + 1))) := by
  rw [drop_at hx]
  show (if p.knd = 0 then _ else _) = _
  rw [if_neg h]
theorem vRun_end (bi t : Int) (k : Nat) (l : List Idt) (h : l.length ≤ k) : vRun bi t k (l.drop k) = true := by
  rw [List.drop_of_length_le h]; rfl
theorem endOk_at {l : List Idt} {p : Idt} (hx : l[l.length - 1]? = some p) : endOk l = decide (p.knd ≠ 0) := by unfold endOk; rw [hx]
theorem endOk_nil : endOk [] = true := rfl
theorem headOk_iff {b : Idt} {l : List Idt} : headOk b l = true ↔ 0 ≤ b.idx ∧ b.idx ≤ 1099511627776 ∧ (l.length : Int) ≤ 1099511627776 - b.idx := by unfold headOk; exact decide_eq_true_iff
theorem headOk_no {b : Idt} {l : List Idt} (h : ¬ (0 ≤ b.idx ∧ b.idx ≤ 1099511627776 ∧ (l.length : Int) ≤ 1099511627776 - b.idx)) : rightV b l = false := by unfold rightV headOk; rw [decide_eq_false h]; rfl
theorem rightV_head {b : Idt} {l : List Idt} (h : rightV b l = true) : 0 ≤ b.idx ∧ b.idx ≤ 1099511627776 ∧ (l.length : Int) ≤ 1099511627776 - b.idx := by
  unfold rightV at h; simp only [Bool.and_eq_true] at h; exact headOk_iff.1 h.1.1
theorem rightV_of {b : Idt} {l : List Idt} (h : 0 ≤ b.idx ∧ b.idx ≤ 1099511627776 ∧ (l.length : Int) ≤ 1099511627776 - b.idx) : rightV b l = (vRun b.idx b.trm 0 l && endOk l) := by
  unfold rightV; rw [headOk_iff.2 h]; rfl
theorem atV_base {b : Idt} {l : List Idt} {i : Int} (h : i = b.idx) : atV b l i = some b := by unfold atV; rw [if_pos h]
theorem atV_low {b : Idt} {l : List Idt} {i : Int} (h : i < b.idx) : atV b l i = none := by unfold atV; rw [if_neg (by omega), if_neg (by omega)]
theorem atV_in {b : Idt} {l : List Idt} {i : Int} {j : Nat} {p : Idt} (h : i - b.idx - 1 = (j : Int)) (hx : l[j]? = some p) : atV b l i = if p.knd = 0 then none else some p := by
  unfold atV
  rw [if_neg (by omega), if_pos (by omega), h, Int.toNat_natCast, hx]
theorem atV_out {b : Idt} {l : List Idt} {i : Int} (h : b.idx + (l.length : Int) < i) : atV b l i = none := by
  unfold atV
  rw [if_neg (by omega), if_pos (by omega), List.getElem?_eq_none (by omega)]
end Go.Proofs.YthadfdpdillemaaDoor
