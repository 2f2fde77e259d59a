/-
  Merged: LeadMath, AbMath, EntMath, EntJoinsMath, MatchMath.
-/
import Derived.WalkKit
/-
  BOOKS AS LISTS: plain Lean, no program.
-/
set_option linter.unusedVariables false
namespace Go.Proofs.YtfglkpcboodllaaGreatDoor

def i64Row (x : Int) : List Value := [.int .i64 x]

structure Bk where
  who : Int
  next : Int
  mat : Int
  piece : Int

def bkRow (b : Bk) : List Value := [.int .i64 b.who, .int .i64 b.next, .int .i64 b.mat, .int .i64 b.piece]
theorem bkRow_length (b : Bk) : (bkRow b).length = 4 := rfl
theorem bkRow_one (b : Bk) : ∀ u ∈ bkRow b, u.oneCell' = true := by
  intro u hu; simp [bkRow] at hu; rcases hu with rfl | rfl | rfl | rfl <;> rfl

/-- The first book of someone: its place, and it. -/
def idxNat (who : Int) : List Bk → Option Nat
  | [] => none
  | b :: l => if b.who = who then some 0 else (idxNat who l).map (· + 1)
def idxOf (l : List Bk) (who : Int) : Int := match idxNat who l with | some i => (i : Int) | none => -1
def findBk (l : List Bk) (who : Int) : Option Bk := l.find? fun b => decide (b.who = who)
def hasBk (l : List Bk) (who : Int) : Bool := (findBk l who).isSome

def NoneTo (l : List Bk) (who : Int) (k : Nat) : Prop := ∀ i x, i < k → l[i]? = some x → x.who ≠ who
theorem noneTo_zero {l : List Bk} {who : Int} : NoneTo l who 0 := fun i x h => absurd h (Nat.not_lt_zero _)
theorem noneTo_succ {l : List Bk} {who : Int} {k : Nat} {x : Bk} (h : NoneTo l who k) (hx : l[k]? = some x) (hne : x.who ≠ who) : NoneTo l who (k + 1) := by
  intro i y hi hy
  rcases Nat.lt_or_ge i k with h' | h'
  · exact h i y h' hy
  · have : i = k := by omega
    subst this; rw [hx] at hy; cases hy; exact hne
theorem idxNat_found : ∀ {l : List Bk} {who : Int} {k : Nat} {x : Bk}, NoneTo l who k → l[k]? = some x → x.who = who → idxNat who l = some k ∧ findBk l who = some x := by
  intro l
  induction l with
  | nil => intro who k x _ h; simp at h
  | cons b l ih =>
    intro who k x hno hx hw
    cases k with
    | zero => simp at hx; subst hx; simp [idxNat, findBk, hw]
    | succ k =>
      have hb : b.who ≠ who := hno 0 b (by omega) (by simp)
      have := ih (k := k) (fun i y hi hy => hno (i + 1) y (by omega) (by simpa using hy)) (by simpa using hx) hw
      simp only [findBk] at this
      simp [idxNat, findBk, hb, this.1, this.2]
theorem idxNat_none : ∀ {l : List Bk} {who : Int}, NoneTo l who l.length → idxNat who l = none ∧ findBk l who = none := by
  intro l
  induction l with
  | nil => intro who _; simp [idxNat, findBk]
  | cons b l ih =>
    intro who hno
    have hb : b.who ≠ who := hno 0 b (by simp) (by simp)
    have := ih (who := who) (fun i y hi hy => hno (i + 1) y (by simp; omega) (by simpa using hy))
    simp only [findBk] at this
    simp [idxNat, findBk, hb, this.1, this.2]
theorem idxOf_found {l : List Bk} {who : Int} {k : Nat} {x : Bk} (h : NoneTo l who k) (hx : l[k]? = some x) (hw : (x.who == who) = true) : idxOf l who = k := by
  simp [idxOf, (idxNat_found h hx (by simpa using hw)).1]
theorem idxOf_none {l : List Bk} {who : Int} (h : NoneTo l who l.length) : idxOf l who = -1 := by
  simp [idxOf, (idxNat_none h).1]
/-- One of two: there is one, at a place; there is none. -/
theorem idxOf_cases (l : List Bk) (who : Int) : (∃ (k : Nat) (x : Bk), k < l.length ∧ l[k]? = some x ∧ x.who = who ∧ idxOf l who = (k : Int) ∧ findBk l who = some x ∧ NoneTo l who k) ∨ (idxOf l who = -1 ∧ findBk l who = none) := by
  by_cases h : NoneTo l who l.length
  · exact .inr ⟨idxOf_none h, (idxNat_none h).2⟩
  · left
    suffices hs : ∀ n, n ≤ l.length → ¬ NoneTo l who n → ∃ k x, k < l.length ∧ l[k]? = some x ∧ x.who = who ∧ NoneTo l who k by
      obtain ⟨k, x, hk, hx, hw, hn⟩ := hs _ (Nat.le_refl _) h
      exact ⟨k, x, hk, hx, hw, idxOf_found hn hx (by simpa using hw), (idxNat_found hn hx hw).2, hn⟩
    intro n
    induction n with
    | zero => intro _ h; exact absurd noneTo_zero h
    | succ n ih =>
      intro hn h
      by_cases h' : NoneTo l who n
      · have hx : l[n]? = some l[n] := List.getElem?_eq_getElem (by omega)
        by_cases hw : (l[n]'(by omega)).who = who
        · exact ⟨n, _, by omega, hx, hw, h'⟩
        · exact absurd (noneTo_succ h' hx hw) h
      · exact ih (by omega) h'

theorem drop_at {α : Type} {l : List α} {k : Nat} {x : α} (h : l[k]? = some x) : l.drop k = x :: l.drop (k + 1) := by
  obtain ⟨hk, rfl⟩ := List.getElem?_eq_some_iff.1 h
  exact List.drop_eq_getElem_cons hk
theorem take_at {α : Type} {l : List α} {k : Nat} {x : α} (h : l[k]? = some x) : l.take (k + 1) = l.take k ++ [x] := by
  rw [List.take_add_one, h]; rfl

theorem List.set_eq_of_getElem? {α : Type} {l : List α} {k : Nat} {x : α} (h : l[k]? = some x) : l.set k x = l := by
  obtain ⟨hk, rfl⟩ := List.getElem?_eq_some_iff.1 h
  exact List.set_getElem_self hk
/-- Members that are right (entry.Right). -/
def memFrom (p : Int) : List Int → Bool
  | [] => true
  | m :: l => decide (1 ≤ m ∧ m ≤ 7 ∧ p < m) && memFrom m l
def memRight (l : List Int) : Bool := memFrom 0 l && !l.isEmpty

/-- Books that are right. -/
def okBk (p : Int) (b : Bk) : Bool := decide (p < b.who ∧ 1 ≤ b.who ∧ b.who ≤ 7 ∧ 0 ≤ b.mat ∧ b.mat ≤ 1099511627776 ∧ b.mat + 1 ≤ b.next ∧ b.next ≤ 1099511627777 ∧ 0 ≤ b.piece ∧ b.piece ≤ 48)
def bksFrom (p : Int) : List Bk → Bool
  | [] => true
  | b :: l => okBk p b && bksFrom b.who l
def bksRight (l : List Bk) : Bool := bksFrom 0 l

/-- Keep, Begin. -/
def keptBk (l : List Bk) (last who : Int) : Bk := (findBk l who).getD ⟨who, last + 1, 0, 0⟩
def keepBks (l : List Bk) (ms : List Int) (self last : Int) : List Bk := (ms.filter fun m => decide (m ≠ self)).map (keptBk l last)
theorem keepBks_skip {l : List Bk} {ms : List Int} {self last : Int} {k : Nat} {m : Int} (h : ms[k]? = some m) (hm : m = self) : keepBks l (ms.take (k + 1)) self last = keepBks l (ms.take k) self last := by
  rw [take_at h]; simp [keepBks, hm]
theorem keepBks_more {l : List Bk} {ms : List Int} {self last : Int} {k : Nat} {m : Int} (h : ms[k]? = some m) (hm : m ≠ self) : keepBks l (ms.take (k + 1)) self last = keepBks l (ms.take k) self last ++ [keptBk l last m] := by
  rw [take_at h]; simp [keepBks, hm]
theorem keepBks_le (l : List Bk) (ms : List Int) (self last : Int) : (keepBks l ms self last).length ≤ ms.length := by
  simp only [keepBks, List.length_map]; exact List.length_filter_le _ _

/-- What an ack, a got makes of a book. -/
def hasMatch (m index : Int) : Int := if index ≤ 1099511627776 then max m index else m
def yesBk (b : Bk) (index : Int) : Bk := ⟨b.who, max b.next (hasMatch b.mat index + 1), hasMatch b.mat index, b.piece⟩
def noBk (b : Bk) (index : Int) : Bk := ⟨b.who, max (if index < b.next - 1 then index + 1 else b.next) (b.mat + 1), b.mat, b.piece⟩
def ackBk (b : Bk) (index : Int) (yes : Bool) : Bk := if yes then yesBk b index else noBk b index
def gotBk (b : Bk) (index piece : Int) (yes : Bool) : Bk :=
  if yes then { yesBk b index with piece := 0 } else if 0 ≤ piece ∧ piece ≤ 48 then { b with piece := piece } else b
def turnBks (who : Int) (f : Bk → Bk) : List Bk → List Bk
  | [] => []
  | b :: l => if b.who = who then f b :: l else b :: turnBks who f l
def ackBks (l : List Bk) (who index : Int) (yes : Bool) : List Bk := turnBks who (ackBk · index yes) l
def gotBks (l : List Bk) (who index piece : Int) (yes : Bool) : List Bk := turnBks who (gotBk · index piece yes) l
theorem turnBks_set : ∀ {l : List Bk} {who : Int} {f : Bk → Bk} {k : Nat} {x : Bk}, NoneTo l who k → l[k]? = some x → x.who = who → turnBks who f l = l.set k (f x) := by
  intro l
  induction l with
  | nil => intro who f k x _ h; simp at h
  | cons b l ih =>
    intro who f k x hno hx hw
    cases k with
    | zero => simp at hx; subst hx; simp [turnBks, hw]
    | succ k =>
      have hb : b.who ≠ who := hno 0 b (by omega) (by simp)
      have := ih (f := f) (k := k) (fun i y hi hy => hno (i + 1) y (by omega) (by simpa using hy)) (by simpa using hx) hw
      simp [turnBks, hb, this]
theorem turnBks_none : ∀ {l : List Bk} {who : Int} {f : Bk → Bk}, findBk l who = none → turnBks who f l = l := by
  intro l
  induction l with
  | nil => intro who f _; rfl
  | cons b l ih =>
    intro who f h
    by_cases hb : b.who = who
    · simp [findBk, hb] at h
    · have : findBk l who = none := by simpa [findBk, hb] using h
      simp [turnBks, hb, ih this]
end Go.Proofs.YtfglkpcboodllaaGreatDoor
/-
  WHAT A DAMAGED REPLICA MAY DO: plain Lean, no program.
-/
set_option linter.unusedVariables false
namespace Go.Proofs.YtfglkpcboodllaaGreatDoor

structure Idt where
  idx : Int
  trm : Int
  knd : Int
def idRow (x : Idt) : List Value := [.int .i64 x.idx, .int .i64 x.trm, .int .i64 x.knd]
theorem idRow_length (x : Idt) : (idRow x).length = 3 := rfl
theorem idRow_one (x : Idt) : ∀ u ∈ idRow x, u.oneCell' = true := by
  intro u hu; simp [idRow] at hu; rcases hu with rfl | rfl | rfl <;> rfl

def inB (l : List Int) (x : Int) : Bool := l.contains x
/-- The first entry that may be a group. -/
def badKind (p : Idt) : Bool := p.knd != 1 && p.knd != 2
def firstBad (l : List Idt) : Option Idt := l.find? badKind
/-- Up to place k none is bad. -/
def SoundTo (l : List Idt) (k : Nat) : Prop := ∀ i x, i < k → l[i]? = some x → badKind x = false
theorem soundTo_zero {l : List Idt} : SoundTo l 0 := fun i x h => absurd h (Nat.not_lt_zero _)
theorem soundTo_succ {l : List Idt} {k : Nat} {x : Idt} (h : SoundTo l k) (hx : l[k]? = some x) (hb : badKind x = false) : SoundTo l (k + 1) := by
  intro i y hi hy
  rcases Nat.lt_or_ge i k with h' | h'
  · exact h i y h' hy
  · have : i = k := by omega
    subst this; rw [hx] at hy; cases hy; exact hb
theorem firstBad_found : ∀ {l : List Idt} {k : Nat} {x : Idt}, SoundTo l k → l[k]? = some x → badKind x = true → firstBad l = some x := by
  intro l
  induction l with
  | nil => intro k x _ h; simp at h
  | cons b l ih =>
    intro k x hno hx hw
    cases k with
    | zero => simp at hx; subst hx; simp [firstBad, hw]
    | succ k =>
      have hb : badKind b = false := hno 0 b (by omega) (by simp)
      have := ih (k := k) (fun i y hi hy => hno (i + 1) y (by omega) (by simpa using hy)) (by simpa using hx) hw
      simpa [firstBad, hb] using this
theorem firstBad_none : ∀ {l : List Idt}, SoundTo l l.length → firstBad l = none := by
  intro l
  induction l with
  | nil => intro _; rfl
  | cons b l ih =>
    intro hno
    have hb : badKind b = false := hno 0 b (by simp) (by simp)
    have := ih (fun i y hi hy => hno (i + 1) y (by simp; omega) (by simpa using hy))
    simpa [firstBad, hb] using this

/-- Someone is not among the first k. -/
def OutTo (l : List Int) (x : Int) (k : Nat) : Prop := ∀ i y, i < k → l[i]? = some y → y ≠ x
theorem outTo_zero {l : List Int} {x : Int} : OutTo l x 0 := fun i y h => absurd h (Nat.not_lt_zero _)
theorem outTo_succ {l : List Int} {x y : Int} {k : Nat} (h : OutTo l x k) (hy : l[k]? = some y) (hne : y ≠ x) : OutTo l x (k + 1) := by
  intro i z hi hz
  rcases Nat.lt_or_ge i k with h' | h'
  · exact h i z h' hz
  · have : i = k := by omega
    subst this; rw [hy] at hz; cases hz; exact hne
theorem in_found {l : List Int} {x y : Int} {k : Nat} (hy : l[k]? = some y) (he : y = x) : inB l x = true := by
  subst he
  simp only [inB, List.contains_iff_mem]
  exact List.mem_of_getElem? hy
theorem in_none {l : List Int} {x : Int} (h : OutTo l x l.length) : inB l x = false := by
  cases hc : inB l x
  · rfl
  · exfalso
    simp only [inB, List.contains_iff_mem] at hc
    obtain ⟨i, hi⟩ := List.getElem?_of_mem hc
    exact h i x (List.getElem?_eq_some_iff.1 hi).1 hi rfl

/-- The index of the first entry that is rotten: the least one. -/
def firstFrom : List Idt → Int → Int
  | [], n => n
  | x :: l, n => firstFrom l (if x.idx < n then x.idx else n)
def firstI : List Idt → Int
  | [] => 0
  | x :: l => firstFrom l x.idx
def acksI (lost : Bool) (l : List Idt) (upto : Int) : Int := if lost then 0 else if l ≠ [] ∧ firstI l ≤ upto then RowKit.wrap64 (firstI l - 1) else upto
def wholeI (lost : Bool) (l : List Idt) (from_ to : Int) : Bool := !(l.any fun x => decide (from_ ≤ x.idx ∧ x.idx ≤ to)) && !lost
def leadsI (lost : Bool) (self : Int) (ms : List Int) (l : List Idt) : Int := if lost then 10 else if inB ms self = false then 15 else if (firstBad l).isSome then 15 else 0
theorem firstFrom_mem : ∀ (l : List Idt) (n : Int), firstFrom l n = n ∨ ∃ x ∈ l, x.idx = firstFrom l n := by
  intro l
  induction l with
  | nil => intro n; exact .inl rfl
  | cons y l ih =>
    intro n
    simp only [firstFrom]
    rcases ih (if y.idx < n then y.idx else n) with h | ⟨x, hx, he⟩
    · by_cases hy : y.idx < n
      · rw [if_pos hy] at h ⊢
        exact .inr ⟨y, by simp, h.symm⟩
      · rw [if_neg hy] at h ⊢
        exact .inl h
    · exact .inr ⟨x, by simp [hx], he⟩
theorem firstI_mem {l : List Idt} (h : l ≠ []) : ∃ x ∈ l, x.idx = firstI l := by
  cases l with
  | nil => exact absurd rfl h
  | cons y l =>
    simp only [firstI]
    rcases firstFrom_mem l y.idx with h | ⟨x, hx, he⟩
    · exact ⟨y, by simp, h.symm⟩
    · exact ⟨x, by simp [hx], he⟩
/-- Whether an entry lies between two. -/
def midB (from_ to : Int) (x : Idt) : Bool := decide (from_ ≤ x.idx ∧ x.idx ≤ to)
theorem wholeI_eq (lost : Bool) (l : List Idt) (from_ to : Int) : wholeI lost l from_ to = (!(l.any (midB from_ to)) && !lost) := rfl
theorem any_snoc {l : List Idt} {p : Idt → Bool} {k : Nat} {x : Idt} (hx : l[k]? = some x) : (l.take (k + 1)).any p = ((l.take k).any p || p x) := by
  rw [take_at hx]; simp
theorem any_found {l : List Idt} {p : Idt → Bool} {k : Nat} {x : Idt} (hx : l[k]? = some x) (hp : p x = true) : l.any p = true :=
  List.any_eq_true.2 ⟨x, List.mem_of_getElem? hx, hp⟩
end Go.Proofs.YtfglkpcboodllaaGreatDoor
/-
  ENTRIES, what they are known by, whether they follow: plain Lean, no program.
-/
set_option linter.unusedVariables false
namespace Go.Proofs.YtfglkpcboodllaaGreatDoor
open Go.RowKit

structure Ent where
  idx : Int
  trm : Int
  knd : Int
  ba : Option Addr
  bc : Nat
  bd : List Int
def Ent.bv (x : Ent) : Value := .slice x.ba x.bd.length x.bc
def u8Row (x : Int) : List Value := [.int .u8 x]
theorem u8Row_length (x : Int) : (u8Row x).length = 1 := rfl
theorem u8Row_one (x : Int) : ∀ u ∈ u8Row x, u.oneCell' = true := by
  intro u hu; simp [u8Row] at hu; rcases hu with rfl; rfl
def entRow (x : Ent) : List Value := [.int .i64 x.idx, .int .i64 x.trm, .int .i64 x.knd, .slice x.ba x.bd.length x.bc]
theorem entRow_length (x : Ent) : (entRow x).length = 4 := rfl
theorem entRow_one (x : Ent) : ∀ u ∈ entRow x, u.oneCell' = true := by
  intro u hu; simp [entRow] at hu; rcases hu with rfl | rfl | rfl | rfl <;> rfl

/-- Whether bytes are members. -/
def memOk (b : List Int) : Bool := decide (b.length ≤ 7) && memRight b
/-- Whether an entry has what its kind has. -/
def rangeE (x : Ent) : Bool := decide (1 ≤ x.idx) && decide (x.idx ≤ 1099511627776) && decide (0 ≤ x.trm) && decide (x.trm ≤ 1099511627776) && decide (1 ≤ x.knd) && decide (x.knd ≤ 3) && decide (x.bd.length ≤ 200)
def goodE (x : Ent) : Bool := rangeE x && (if x.knd = 1 then decide (x.bd.length = 0) else if x.knd = 2 then true else memOk x.bd)
def ofE (x : Ent) : Idt := ⟨x.idx, x.trm, x.knd⟩
def lastE : Idt → List Ent → Idt
  | p, [] => p
  | _, x :: l => lastE (ofE x) l
def stepE (p : Idt) (x : Ent) : Int := if goodE x = false then 4 else if x.idx - 1 ≠ p.idx ∨ x.trm < p.trm then 12 else 0
def folE : Idt → List Ent → Int
  | _, [] => 0
  | p, x :: l => if stepE p x = 0 then folE (ofE x) l else stepE p x
theorem stepE_cases (p : Idt) (x : Ent) : stepE p x = 0 ∨ stepE p x = 4 ∨ stepE p x = 12 := by
  unfold stepE
  by_cases h : goodE x = false
  · rw [if_pos h]; exact .inr (.inl rfl)
  · rw [if_neg h]
    by_cases h' : x.idx - 1 ≠ p.idx ∨ x.trm < p.trm
    · rw [if_pos h']; exact .inr (.inr rfl)
    · rw [if_neg h']; exact .inl rfl
theorem folE_cases : ∀ (l : List Ent) (p : Idt), folE p l = 0 ∨ folE p l = 4 ∨ folE p l = 12 := by
  intro l
  induction l with
  | nil => intro p; exact .inl rfl
  | cons x l ih =>
    intro p
    simp only [folE]
    by_cases h : stepE p x = 0
    · rw [if_pos h]; exact ih _
    · rw [if_neg h]; exact stepE_cases p x
theorem lastE_append (l : List Ent) (m : List Ent) : ∀ p, lastE p (l ++ m) = lastE (lastE p l) m := by
  induction l with
  | nil => intro p; rfl
  | cons x l ih => intro p; exact ih _
theorem lastE_snoc (l : List Ent) (x : Ent) (p : Idt) : lastE p (l ++ [x]) = ofE x := by rw [lastE_append]; rfl
theorem folE_append (l m : List Ent) : ∀ p, folE p (l ++ m) = if folE p l = 0 then folE (lastE p l) m else folE p l := by
  induction l with
  | nil => intro p; simp [folE, lastE]
  | cons x l ih =>
    intro p
    have e0 : ∀ r, folE p (x :: r) = if stepE p x = 0 then folE (ofE x) r else stepE p x := fun _ => rfl
    have e3 : lastE p (x :: l) = lastE (ofE x) l := rfl
    by_cases h : stepE p x = 0
    · have e1 : folE p (x :: (l ++ m)) = folE (ofE x) (l ++ m) := by rw [e0, if_pos h]
      have e2 : folE p (x :: l) = folE (ofE x) l := by rw [e0, if_pos h]
      rw [List.cons_append, e1, e2, e3]; exact ih _
    · have e1 : folE p (x :: (l ++ m)) = stepE p x := by rw [e0, if_neg h]
      have e2 : folE p (x :: l) = stepE p x := by rw [e0, if_neg h]
      rw [List.cons_append, e1, e2, if_neg h]
/-- Up to place k a row follows. -/
def FolTo (p : Idt) (l : List Ent) (k : Nat) : Prop := folE p (l.take k) = 0
theorem folTo_zero {p : Idt} {l : List Ent} : FolTo p l 0 := rfl
theorem folE_take {p : Idt} {l : List Ent} {k : Nat} {x : Ent} (hx : l[k]? = some x) (h : FolTo p l k) : folE p (l.take (k + 1)) = stepE (lastE p (l.take k)) x := by
  unfold FolTo at h
  rw [take_at hx, folE_append, if_pos h]
  have e0 : ∀ q : Idt, folE q [x] = if stepE q x = 0 then 0 else stepE q x := fun _ => rfl
  rw [e0]
  by_cases h' : stepE (lastE p (l.take k)) x = 0
  · rw [if_pos h', h']
  · rw [if_neg h']
theorem folTo_succ {p : Idt} {l : List Ent} {k : Nat} {x : Ent} (hx : l[k]? = some x) (h : FolTo p l k) (hs : stepE (lastE p (l.take k)) x = 0) : FolTo p l (k + 1) := (folE_take hx h).trans hs
theorem folE_stop {p : Idt} {l : List Ent} {k : Nat} {x : Ent} (hx : l[k]? = some x) (h : FolTo p l k) (hs : stepE (lastE p (l.take k)) x ≠ 0) : folE p l = stepE (lastE p (l.take k)) x := by
  have e := folE_append (l.take (k + 1)) (l.drop (k + 1)) p
  rw [List.take_append_drop] at e
  rw [e, folE_take hx h, if_neg hs]
theorem folE_all {p : Idt} {l : List Ent} (h : FolTo p l l.length) : folE p l = 0 := by
  unfold FolTo at h; rwa [List.take_length] at h
theorem last_take {p : Idt} {l : List Ent} {k : Nat} {x : Ent} (hx : l[k]? = some x) : lastE p (l.take (k + 1)) = ofE x := by rw [take_at hx, lastE_snoc]
def olderI (a b : Idt) : Bool := if a.trm = b.trm then decide (a.idx < b.idx) else decide (a.trm < b.trm)
end Go.Proofs.YtfglkpcboodllaaGreatDoor
/-
  A ROW THAT FOLLOWS: what its entries are; a row in two parts. Plain Lean, no program.
-/
set_option linter.unusedVariables false
namespace Go.Proofs.YtfglkpcboodllaaGreatDoor
open Go.RowKit

theorem stepE_zero {p : Idt} {x : Ent} (h : stepE p x = 0) : goodE x = true ∧ x.idx - 1 = p.idx ∧ p.trm ≤ x.trm := by
  unfold stepE at h
  by_cases h1 : goodE x = false
  · rw [if_pos h1] at h; omega
  · rw [if_neg h1] at h
    by_cases h2 : x.idx - 1 ≠ p.idx ∨ x.trm < p.trm
    · rw [if_pos h2] at h; omega
    · exact ⟨by simpa using h1, by omega, by omega⟩
theorem goodE_range {x : Ent} (h : goodE x = true) : 1 ≤ x.idx ∧ x.idx ≤ 1099511627776 ∧ 0 ≤ x.trm ∧ x.trm ≤ 1099511627776 := by
  unfold goodE rangeE at h
  simp only [Bool.and_eq_true, decide_eq_true_eq] at h
  omega
/-- What the entries of a row that follows are. -/
theorem fol_each : ∀ (l : List Ent) (p : Idt), folE p l = 0 → ∀ (i : Nat) (x : Ent), l[i]? = some x → goodE x = true ∧ x.idx = p.idx + 1 + i ∧ p.trm ≤ x.trm ∧ ∀ y, 0 < i → l[i - 1]? = some y → y.trm ≤ x.trm := by
  intro l
  induction l with
  | nil => intro p _ i x hx; simp at hx
  | cons z l ih =>
    intro p h i x hx
    have e0 : folE p (z :: l) = if stepE p z = 0 then folE (ofE z) l else stepE p z := rfl
    rw [e0] at h
    by_cases hs : stepE p z = 0
    · rw [if_pos hs] at h
      obtain ⟨g1, g2, g3⟩ := stepE_zero hs
      cases i with
      | zero =>
        simp only [List.getElem?_cons_zero, Option.some.injEq] at hx
        subst hx
        exact ⟨g1, by simp; omega, g3, fun y h0 => absurd h0 (by omega)⟩
      | succ i =>
        simp only [List.getElem?_cons_succ] at hx
        obtain ⟨f1, f2, f3, f4⟩ := ih (ofE z) h i x hx
        have e1 : (ofE z).idx = z.idx := rfl
        have e2 : (ofE z).trm = z.trm := rfl
        refine ⟨f1, by rw [f2, e1]; omega, by rw [e2] at f3; omega, fun y _ hy => ?_⟩
        cases i with
        | zero =>
          simp only [Nat.zero_add, Nat.sub_self, List.getElem?_cons_zero, Option.some.injEq] at hy
          subst hy; exact f3
        | succ j => exact f4 y (by omega) (by simpa using hy)
    · rw [if_neg hs] at h; exact absurd h hs
theorem fol_two (p : Idt) (l : List Ent) (k : Nat) : folE p l = if folE p (l.take k) = 0 then folE (lastE p (l.take k)) (l.drop k) else folE p (l.take k) := by
  rw [← folE_append, List.take_append_drop]
theorem last_two (p : Idt) (l : List Ent) (k : Nat) : lastE (lastE p (l.take k)) (l.drop k) = lastE p l := by
  rw [← lastE_append, List.take_append_drop]
end Go.Proofs.YtfglkpcboodllaaGreatDoor
/-
  A VIEW of a log: whether it is right, what is at an index. Plain Lean, no program.
-/
set_option linter.unusedVariables false
namespace Go.Proofs.YtfglkpcboodllaaGreatDoor
open Go.RowKit

/-- From place k on the identities that are known have their indices, and terms that do not sink. -/
def vRun (bi : Int) : Int → Nat → List Idt → Bool
  | _, _, [] => true
  | t, k, p :: r => if p.knd = 0 then vRun bi t (k + 1) r else decide (p.idx = bi + 1 + (k : Int) ∧ t ≤ p.trm) && vRun bi p.trm (k + 1) r
/-- The last one is known. -/
def endOk (l : List Idt) : Bool := match l[l.length - 1]? with | none => true | some p => decide (p.knd ≠ 0)
def headOk (b : Idt) (l : List Idt) : Bool := decide (0 ≤ b.idx ∧ b.idx ≤ 1099511627776 ∧ (l.length : Int) ≤ 1099511627776 - b.idx)
def rightV (b : Idt) (l : List Idt) : Bool := headOk b l && vRun b.idx b.trm 0 l && endOk l
/-- What is at an index. -/
def atV (b : Idt) (l : List Idt) (i : Int) : Option Idt :=
  if i = b.idx then some b else if b.idx < i then (match l[(i - b.idx - 1).toNat]? with | some p => if p.knd = 0 then none else some p | none => none) else none
def atP (o : Option Idt) : Idt := o.getD ⟨0, 0, 0⟩
/-- A number of 64 bits. -/
def I64 (x : Int) : Prop := -9223372036854775808 ≤ x ∧ x ≤ 9223372036854775807
def IdtOk (p : Idt) : Prop := I64 p.idx ∧ I64 p.trm ∧ I64 p.knd

theorem vRun_zero {bi t : Int} {k : Nat} {l : List Idt} {p : Idt} (hx : l[k]? = some p) (h : p.knd = 0) : vRun bi t k (l.drop k) = vRun bi t (k + 1) (l.drop (k + 1)) := by
  rw [drop_at hx]
  show (if p.knd = 0 then _ else _) = _
  rw [if_pos h]
theorem vRun_known {bi t : Int} {k : Nat} {l : List Idt} {p : Idt} (hx : l[k]? = some p) (h : p.knd ≠ 0) : vRun bi t k (l.drop k) = (decide (p.idx = bi + 1 + (k : Int) ∧ t ≤ p.trm) && vRun bi p.trm (k + 1) (l.drop (k + 1))) := by
  rw [drop_at hx]
  show (if p.knd = 0 then _ else _) = _
  rw [if_neg h]
theorem vRun_end (bi t : Int) (k : Nat) (l : List Idt) (h : l.length ≤ k) : vRun bi t k (l.drop k) = true := by
  rw [List.drop_of_length_le h]; rfl
theorem endOk_at {l : List Idt} {p : Idt} (hx : l[l.length - 1]? = some p) : endOk l = decide (p.knd ≠ 0) := by unfold endOk; rw [hx]
theorem endOk_nil : endOk [] = true := rfl
theorem headOk_iff {b : Idt} {l : List Idt} : headOk b l = true ↔ 0 ≤ b.idx ∧ b.idx ≤ 1099511627776 ∧ (l.length : Int) ≤ 1099511627776 - b.idx := by unfold headOk; exact decide_eq_true_iff
theorem headOk_no {b : Idt} {l : List Idt} (h : ¬ (0 ≤ b.idx ∧ b.idx ≤ 1099511627776 ∧ (l.length : Int) ≤ 1099511627776 - b.idx)) : rightV b l = false := by unfold rightV headOk; rw [decide_eq_false h]; rfl
theorem rightV_head {b : Idt} {l : List Idt} (h : rightV b l = true) : 0 ≤ b.idx ∧ b.idx ≤ 1099511627776 ∧ (l.length : Int) ≤ 1099511627776 - b.idx := by
  unfold rightV at h; simp only [Bool.and_eq_true] at h; exact headOk_iff.1 h.1.1
theorem rightV_of {b : Idt} {l : List Idt} (h : 0 ≤ b.idx ∧ b.idx ≤ 1099511627776 ∧ (l.length : Int) ≤ 1099511627776 - b.idx) : rightV b l = (vRun b.idx b.trm 0 l && endOk l) := by
  unfold rightV; rw [headOk_iff.2 h]; rfl
theorem atV_base {b : Idt} {l : List Idt} {i : Int} (h : i = b.idx) : atV b l i = some b := by unfold atV; rw [if_pos h]
theorem atV_low {b : Idt} {l : List Idt} {i : Int} (h : i < b.idx) : atV b l i = none := by unfold atV; rw [if_neg (by omega), if_neg (by omega)]
theorem atV_in {b : Idt} {l : List Idt} {i : Int} {j : Nat} {p : Idt} (h : i - b.idx - 1 = (j : Int)) (hx : l[j]? = some p) : atV b l i = if p.knd = 0 then none else some p := by
  unfold atV
  rw [if_neg (by omega), if_pos (by omega), h, Int.toNat_natCast, hx]
theorem atV_out {b : Idt} {l : List Idt} {i : Int} (h : b.idx + (l.length : Int) < i) : atV b l i = none := by
  unfold atV
  rw [if_neg (by omega), if_pos (by omega), List.getElem?_eq_none (by omega)]
end Go.Proofs.YtfglkpcboodllaaGreatDoor
