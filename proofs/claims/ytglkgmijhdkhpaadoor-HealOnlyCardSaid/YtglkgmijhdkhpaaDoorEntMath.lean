/-
  ENTRIES, what they are known by, whether they follow: plain Lean, no program.
-/
import Derived.Test.YtglkgmijhdkhpaaDoorAbMath
set_option linter.unusedVariables false
namespace Go.Proofs.YtglkgmijhdkhpaaDoor
open Go.RowKit

structure Ent where
  idx : Int
  trm : Int
  knd : Int
  ba : Option Addr
  bc : Nat
  bd : List Int
def Ent.bv (x : Ent) : Value := .slice x.ba x.bd.length x.bc
def u8Row (x : Int) : List Value := [.int .u8 x]
theorem u8Row_length (x : Int) : (u8Row x).length = 1 := rfl
theorem u8Row_one (x : Int) : ∀ u ∈ u8Row x, u.oneCell' = true := by
  intro u hu; simp [u8Row] at hu; rcases hu with rfl; rfl
def entRow (x : Ent) : List Value := [.int .i64 x.idx, .int .i64 x.trm, .int .i64 x.knd, .slice x.ba x.bd.length x.bc]
theorem entRow_length (x : Ent) : (entRow x).length = 4 := rfl
theorem entRow_one (x : Ent) : ∀ u ∈ entRow x, u.oneCell' = true := by
  intro u hu; simp [entRow] at hu; rcases hu with rfl | rfl | rfl | rfl <;> rfl

/-- Whether bytes are members. -/
def memOk (b : List Int) : Bool := decide (b.length ≤ 7) && memRight b
/-- Whether an entry has what its kind has. -/
def rangeE (x : Ent) : Bool := decide (1 ≤ x.idx) && decide (x.idx ≤ 1099511627776) && decide (0 ≤ x.trm) && decide (x.trm ≤ 1099511627776) && decide (1 ≤ x.knd) && decide (x.knd ≤ 3) && decide (x.bd.length ≤ 200)
def goodE (x : Ent) : Bool := rangeE x && (if x.knd = 1 then decide (x.bd.length = 0) else if x.knd = 2 then true else memOk x.bd)
def ofE (x : Ent) : Idt := ⟨x.idx, x.trm, x.knd⟩
def lastE : Idt → List Ent → Idt
  | p, [] => p
  | _, x :: l => lastE (ofE x) l
def stepE (p : Idt) (x : Ent) : Int := if goodE x = false then 4 else if x.idx - 1 ≠ p.idx ∨ x.trm < p.trm then 12 else 0
def folE : Idt → List Ent → Int
  | _, [] => 0
  | p, x :: l => if stepE p x = 0 then folE (ofE x) l else stepE p x
theorem stepE_cases (p : Idt) (x : Ent) : stepE p x = 0 ∨ stepE p x = 4 ∨ stepE p x = 12 := by
  unfold stepE
  by_cases h : goodE x = false
  · rw [if_pos h]; exact .inr (.inl rfl)
  · rw [if_neg h]
    by_cases h' : x.idx - 1 ≠ p.idx ∨ x.trm < p.trm
    · rw [if_pos h']; exact .inr (.inr rfl)
    · rw [if_neg h']; exact .inl rfl
theorem folE_cases : ∀ (l : List Ent) (p : Idt), folE p l = 0 ∨ folE p l = 4 ∨ folE p l = 12 := by
  intro l
  induction l with
  | nil => intro p; exact .inl rfl
  | cons x l ih =>
    intro p
    simp only [folE]
    by_cases h : stepE p x = 0
    · rw [if_pos h]; exact ih _
    · rw [if_neg h]; exact stepE_cases p x
theorem lastE_append (l : List Ent) (m : List Ent) : ∀ p, lastE p (l ++ m) = lastE (lastE p l) m := by
  induction l with
  | nil => intro p; rfl
  | cons x l ih => intro p; exact ih _
theorem lastE_snoc (l : List Ent) (x : Ent) (p : Idt) : lastE p (l ++ [x]) = ofE x := by rw [lastE_append]; rfl
theorem folE_append (l m : List Ent) : ∀ p, folE p (l ++ m) = if folE p l = 0 then folE (lastE p l) m else folE p l := by
  induction l with
  | nil => intro p; simp [folE, lastE]
  | cons x l ih =>
    intro p
    have e0 : ∀ r, folE p (x :: r) = if stepE p x = 0 then folE (ofE x) r else stepE p x := fun _ => rfl
    have e3 : lastE p (x :: l) = lastE (ofE x) l := rfl
    by_cases h : stepE p x = 0
    · have e1 : folE p (x :: (l ++ m)) = folE (ofE x) (l ++ m) := by rw [e0, if_pos h]
      have e2 : folE p (x :: l) = folE (ofE x) l := by rw [e0, if_pos h]
      rw [List.cons_append, e1, e2, e3]; exact ih _
    · have e1 : folE p (x :: (l ++ m)) = stepE p x := by rw [e0, if_neg h]
      have e2 : folE p (x :: l) = stepE p x := by rw [e0, if_neg h]
      rw [List.cons_append, e1, e2, if_neg h]
/-- Up to place k a row follows. -/
def FolTo (p : Idt) (l : List Ent) (k : Nat) : Prop := folE p (l.take k) = 0
theorem folTo_zero {p : Idt} {l : List Ent} : FolTo p l 0 := rfl
theorem folE_take {p : Idt} {l : List Ent} {k : Nat} {x : Ent} (hx : l[k]? = some x) (h : FolTo p l k) : folE p (l.take (k + 1)) = stepE (lastE p (l.take k)) x := by
  unfold FolTo at h
  rw [take_at hx, folE_append, if_pos h]
  have e0 : ∀ q : Idt, folE q [x] = if stepE q x = 0 then 0 else stepE q x := fun _ => rfl
  rw [e0]
  by_cases h' : stepE (lastE p (l.take k)) x = 0
  · rw [if_pos h', h']
  · rw [if_neg h']
theorem folTo_succ {p : Idt} {l : List Ent} {k : Nat} {x : Ent} (hx : l[k]? = some x) (h : FolTo p l k) (hs : stepE (lastE p (l.take k)) x = 0) : FolTo p l (k + 1) := (folE_take hx h).trans hs
theorem folE_stop {p : Idt} {l : List Ent} {k : Nat} {x : Ent} (hx : l[k]? = some x) (h : FolTo p l k) (hs : stepE (lastE p (l.take k)) x ≠ 0) : folE p l = stepE (lastE p (l.take k)) x := by
  have e := folE_append (l.take (k + 1)) (l.drop (k + 1)) p
  rw [List.take_append_drop] at e
  rw [e, folE_take hx h, if_neg hs]
theorem folE_all {p : Idt} {l : List Ent} (h : FolTo p l l.length) : folE p l = 0 := by
  unfold FolTo at h; rwa [List.take_length] at h
theorem last_take {p : Idt} {l : List Ent} {k : Nat} {x : Ent} (hx : l[k]? = some x) : lastE p (l.take (k + 1)) = ofE x := by rw [take_at hx, lastE_snoc]
def olderI (a b : Idt) : Bool := if a.trm = b.trm then decide (a.idx < b.idx) else decide (a.trm < b.trm)
end Go.Proofs.YtglkgmijhdkhpaaDoor
