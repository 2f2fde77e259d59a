/-
  BOOKS AS LISTS: plain Lean, no program.
-/
import Derived.WalkKit
set_option linter.unusedVariables false
namespace Go.Proofs.YtglkgmijhdkhpaaDoor

def i64Row (x : Int) : List Value := [.int .i64 x]

structure Bk where
  who : Int
  next : Int
  mat : Int
  piece : Int

def bkRow (b : Bk) : List Value := [.int .i64 b.who, .int .i64 b.next, .int .i64 b.mat, .int .i64 b.piece]
theorem bkRow_length (b : Bk) : (bkRow b).length = 4 := rfl
theorem bkRow_one (b : Bk) : ∀ u ∈ bkRow b, u.oneCell' = true := by
  intro u hu; simp [bkRow] at hu; rcases hu with rfl | rfl | rfl | rfl <;> rfl

/-- The first book of someone: its place, and it. -/
def idxNat (who : Int) : List Bk → Option Nat
  | [] => none
  | b :: l => if b.who = who then some 0 else (idxNat who l).map (· + 1)
def idxOf (l : List Bk) (who : Int) : Int := match idxNat who l with | some i => (i : Int) | none => -1
def findBk (l : List Bk) (who : Int) : Option Bk := l.find? fun b => decide (b.who = who)
def hasBk (l : List Bk) (who : Int) : Bool := (findBk l who).isSome

def NoneTo (l : List Bk) (who : Int) (k : Nat) : Prop := ∀ i x, i < k → l[i]? = some x → x.who ≠ who
theorem noneTo_zero {l : List Bk} {who : Int} : NoneTo l who 0 := fun i x h => absurd h (Nat.not_lt_zero _)
theorem noneTo_succ {l : List Bk} {who : Int} {k : Nat} {x : Bk} (h : NoneTo l who k) (hx : l[k]? = some x) (hne : x.who ≠ who) : NoneTo l who (k + 1) := by
  intro i y hi hy
  rcases Nat.lt_or_ge i k with h' | h'
  · exact h i y h' hy
  · have : i = k := by omega
    subst this; rw [hx] at hy; cases hy; exact hne
theorem idxNat_found : ∀ {l : List Bk} {who : Int} {k : Nat} {x : Bk}, NoneTo l who k → l[k]? = some x → x.who = who → idxNat who l = some k ∧ findBk l who = some x := by
  intro l
  induction l with
  | nil => intro who k x _ h; simp at h
  | cons b l ih =>
    intro who k x hno hx hw
    cases k with
    | zero => simp at hx; subst hx; simp [idxNat, findBk, hw]
    | succ k =>
      have hb : b.who ≠ who := hno 0 b (by omega) (by simp)
      have := ih (k := k) (fun i y hi hy => hno (i + 1) y (by omega) (by simpa using hy)) (by simpa using hx) hw
      simp only [findBk] at this
      simp [idxNat, findBk, hb, this.1, this.2]
theorem idxNat_none : ∀ {l : List Bk} {who : Int}, NoneTo l who l.length → idxNat who l = none ∧ findBk l who = none := by
  intro l
  induction l with
  | nil => intro who _; simp [idxNat, findBk]
  | cons b l ih =>
    intro who hno
    have hb : b.who ≠ who := hno 0 b (by simp) (by simp)
    have := ih (who := who) (fun i y hi hy => hno (i + 1) y (by simp; omega) (by simpa using hy))
    simp only [findBk] at this
    simp [idxNat, findBk, hb, this.1, this.2]
theorem idxOf_found {l : List Bk} {who : Int} {k : Nat} {x : Bk} (h : NoneTo l who k) (hx : l[k]? = some x) (hw : (x.who == who) = true) : idxOf l who = k := by
  simp [idxOf, (idxNat_found h hx (by simpa using hw)).1]
theorem idxOf_none {l : List Bk} {who : Int} (h : NoneTo l who l.length) : idxOf l who = -1 := by
  simp [idxOf, (idxNat_none h).1]
/-- One of two: there is one, at a place; there is none. -/
theorem idxOf_cases (l : List Bk) (who : Int) : (∃ (k : Nat) (x : Bk), k < l.length ∧ l[k]? = some x ∧ x.who = who ∧ idxOf l who = (k : Int) ∧ findBk l who = some x ∧ NoneTo l who k) ∨ (idxOf l who = -1 ∧ findBk l who = none) := by
  by_cases h : NoneTo l who l.length
  · exact .inr ⟨idxOf_none h, (idxNat_none h).2⟩
  · left
    suffices hs : ∀ n, n ≤ l.length → ¬ NoneTo l who n → ∃ k x, k < l.length ∧ l[k]? = some x ∧ x.who = who ∧ NoneTo l who k by
      obtain ⟨k, x, hk, hx, hw, hn⟩ := hs _ (Nat.le_refl _) h
      exact ⟨k, x, hk, hx, hw, idxOf_found hn hx (by simpa using hw), (idxNat_found hn hx hw).2, hn⟩
    intro n
    induction n with
    | zero => intro _ h; exact absurd noneTo_zero h
    | succ n ih =>
      intro hn h
      by_cases h' : NoneTo l who n
      · have hx : l[n]? = some l[n] := List.getElem?_eq_getElem (by omega)
        by_cases hw : (l[n]'(by omega)).who = who
        · exact ⟨n, _, by omega, hx, hw, h'⟩
        · exact absurd (noneTo_succ h' hx hw) h
      · exact ih (by omega) h'

theorem drop_at {α : Type} {l : List α} {k : Nat} {x : α} (h : l[k]? = some x) : l.drop k = x :: l.drop (k + 1) := by
  obtain ⟨hk, rfl⟩ := List.getElem?_eq_some_iff.1 h
  exact List.drop_eq_getElem_cons hk
theorem take_at {α : Type} {l : List α} {k : Nat} {x : α} (h : l[k]? = some x) : l.take (k + 1) = l.take k ++ [x] := by
  rw [List.take_add_one, h]; rfl

theorem List.set_eq_of_getElem? {α : Type} {l : List α} {k : Nat} {x : α} (h : l[k]? = some x) : l.set k x = l := by
  obtain ⟨hk, rfl⟩ := List.getElem?_eq_some_iff.1 h
  exact List.set_getElem_self hk
/-- Members that are right (entry.Right). -/
def memFrom (p : Int) : List Int → Bool
  | [] => true
  | m :: l => decide (1 ≤ m ∧ m ≤ 7 ∧ p < m) && memFrom m l
def memRight (l : List Int) : Bool := memFrom 0 l && !l.isEmpty

/-- Books that are right. -/
def okBk (p : Int) (b : Bk) : Bool := decide (p < b.who ∧ 1 ≤ b.who ∧ b.who ≤ 7 ∧ 0 ≤ b.mat ∧ b.mat ≤ 1099511627776 ∧ b.mat + 1 ≤ b.next ∧ b.next ≤ 1099511627777 ∧ 0 ≤ b.piece ∧ b.piece ≤ 48)
def bksFrom (p : Int) : List Bk → Bool
  | [] => true
  | b :: l => okBk p b && bksFrom b.who l
def bksRight (l : List Bk) : Bool := bksFrom 0 l

/-- Keep, Begin. -/
def keptBk (l : List Bk) (last who : Int) : Bk := (findBk l who).getD ⟨who, last + 1, 0, 0⟩
def keepBks (l : List Bk) (ms : List Int) (self last : Int) : List Bk := (ms.filter fun m => decide (m ≠ self)).map (keptBk l last)
theorem keepBks_skip {l : List Bk} {ms : List Int} {self last : Int} {k : Nat} {m : Int} (h : ms[k]? = some m) (hm : m = self) : keepBks l (ms.take (k + 1)) self last = keepBks l (ms.take k) self last := by
  rw [take_at h]; simp [keepBks, hm]
theorem keepBks_more {l : List Bk} {ms : List Int} {self last : Int} {k : Nat} {m : Int} (h : ms[k]? = some m) (hm : m ≠ self) : keepBks l (ms.take (k + 1)) self last = keepBks l (ms.take k) self last ++ [keptBk l last m] := by
  rw [take_at h]; simp [keepBks, hm]
theorem keepBks_le (l : List Bk) (ms : List Int) (self last : Int) : (keepBks l ms self last).length ≤ ms.length := by
  simp only [keepBks, List.length_map]; exact List.length_filter_le _ _

/-- What an ack, a got makes of a book. -/
def hasMatch (m index : Int) : Int := if index ≤ 1099511627776 then max m index else m
def yesBk (b : Bk) (index : Int) : Bk := ⟨b.who, max b.next (hasMatch b.mat index + 1), hasMatch b.mat index, b.piece⟩
def noBk (b : Bk) (index : Int) : Bk := ⟨b.who, max (if index < b.next - 1 then index + 1 else b.next) (b.mat + 1), b.mat, b.piece⟩
def ackBk (b : Bk) (index : Int) (yes : Bool) : Bk := if yes then yesBk b index else noBk b index
def gotBk (b : Bk) (index piece : Int) (yes : Bool) : Bk :=
  if yes then { yesBk b index with piece := 0 } else if 0 ≤ piece ∧ piece ≤ 48 then { b with piece := piece } else b
def turnBks (who : Int) (f : Bk → Bk) : List Bk → List Bk
  | [] => []
  | b :: l => if b.who = who then f b :: l else b :: turnBks who f l
def ackBks (l : List Bk) (who index : Int) (yes : Bool) : List Bk := turnBks who (ackBk · index yes) l
def gotBks (l : List Bk) (who index piece : Int) (yes : Bool) : List Bk := turnBks who (gotBk · index piece yes) l
theorem turnBks_set : ∀ {l : List Bk} {who : Int} {f : Bk → Bk} {k : Nat} {x : Bk}, NoneTo l who k → l[k]? = some x → x.who = who → turnBks who f l = l.set k (f x) := by
  intro l
  induction l with
  | nil => intro who f k x _ h; simp at h
  | cons b l ih =>
    intro who f k x hno hx hw
    cases k with
    | zero => simp at hx; subst hx; simp [turnBks, hw]
    | succ k =>
      have hb : b.who ≠ who := hno 0 b (by omega) (by simp)
      have := ih (f := f) (k := k) (fun i y hi hy => hno (i + 1) y (by omega) (by simpa using hy)) (by simpa using hx) hw
      simp [turnBks, hb, this]
theorem turnBks_none : ∀ {l : List Bk} {who : Int} {f : Bk → Bk}, findBk l who = none → turnBks who f l = l := by
  intro l
  induction l with
  | nil => intro who f _; rfl
  | cons b l ih =>
    intro who f h
    by_cases hb : b.who = who
    · simp [findBk, hb] at h
    · have : findBk l who = none := by simpa [findBk, hb] using h
      simp [turnBks, hb, ih this]
end Go.Proofs.YtglkgmijhdkhpaaDoor
