/-
  Merged: AbMath, EntMath.
-/
import Derived.Test.YtglkgmijhdkhpaaDoorHa3
/-
  WHAT A DAMAGED REPLICA MAY DO: plain Lean, no program.
-/
set_option linter.unusedVariables false
namespace Go.Proofs.YtglkgmijhdkhpaaDoor

structure Idt where
  idx : Int
  trm : Int
  knd : Int
def idRow (x : Idt) : List Value := [.int .i64 x.idx, .int .i64 x.trm, .int .i64 x.knd]
theorem idRow_length (x : Idt) : (idRow x).length = 3 := rfl
theorem idRow_one (x : Idt) : ∀ u ∈ idRow x, u.oneCell' = true := by
  intro u hu; simp [idRow] at hu; rcases hu with rfl | rfl | rfl <;> rfl

def inB (l : List Int) (x : Int) : Bool := l.contains x
/-- The first entry that may be a group. -/
def badKind (p : Idt) : Bool := p.knd != 1 && p.knd != 2
def firstBad (l : List Idt) : Option Idt := l.find? badKind
/-- Up to place k none is bad. -/
def SoundTo (l : List Idt) (k : Nat) : Prop := ∀ i x, i < k → l[i]? = some x → badKind x = false
theorem soundTo_zero {l : List Idt} : SoundTo l 0 := fun i x h => absurd h (Nat.not_lt_zero _)
theorem soundTo_succ {l : List Idt} {k : Nat} {x : Idt} (h : SoundTo l k) (hx : l[k]? = some x) (hb : badKind x = false) : SoundTo l (k + 1) := by
  intro i y hi hy
  rcases Nat.lt_or_ge i k with h' | h'
  · exact h i y h' hy
  · have : i = k := by omega
    subst this; rw [hx] at hy; cases hy; exact hb
theorem firstBad_found : ∀ {l : List Idt} {k : Nat} {x : Idt}, SoundTo l k → l[k]? = some x → badKind x = true → firstBad l = some x := by
  intro l
  induction l with
  | nil => intro k x _ h; simp at h
  | cons b l ih =>
    intro k x hno hx hw
    cases k with
    | zero => simp at hx; subst hx; simp [firstBad, hw]
    | succ k =>
      have hb : badKind b = false := hno 0 b (by omega) (by simp)
      have := ih (k := k) (fun i y hi hy => hno (i + 1) y (by omega) (by simpa using hy)) (by simpa using hx) hw
      simpa [firstBad, hb] using this
theorem firstBad_none : ∀ {l : List Idt}, SoundTo l l.length → firstBad l = none := by
  intro l
  induction l with
  | nil => intro _; rfl
  | cons b l ih =>
    intro hno
    have hb : badKind b = false := hno 0 b (by simp) (by simp)
    have := ih (fun i y hi hy => hno (i + 1) y (by simp; omega) (by simpa using hy))
    simpa [firstBad, hb] using this

/-- Someone is not among the first k. -/
def OutTo (l : List Int) (x : Int) (k : Nat) : Prop := ∀ i y, i < k → l[i]? = some y → y ≠ x
theorem outTo_zero {l : List Int} {x : Int} : OutTo l x 0 := fun i y h => absurd h (Nat.not_lt_zero _)
theorem outTo_succ {l : List Int} {x y : Int} {k : Nat} (h : OutTo l x k) (hy : l[k]? = some y) (hne : y ≠ x) : OutTo l x (k + 1) := by
  intro i z hi hz
  rcases Nat.lt_or_ge i k with h' | h'
  · exact h i z h' hz
  · have : i = k := by omega
    subst this; rw [hy] at hz; cases hz; exact hne
theorem in_found {l : List Int} {x y : Int} {k : Nat} (hy : l[k]? = some y) (he : y = x) : inB l x = true := by
  subst he
  simp only [inB, List.contains_iff_mem]
  exact List.mem_of_getElem? hy
theorem in_none {l : List Int} {x : Int} (h : OutTo l x l.length) : inB l x = false := by
  cases hc : inB l x
  · rfl
  · exfalso
    simp only [inB, List.contains_iff_mem] at hc
    obtain ⟨i, hi⟩ := List.getElem?_of_mem hc
    exact h i x (List.getElem?_eq_some_iff.1 hi).1 hi rfl

/-- The index of the first entry that is rotten: the least one. -/
def firstFrom : List Idt → Int → Int
  | [], n => n
  | x :: l, n => firstFrom l (if x.idx < n then x.idx else n)
def firstI : List Idt → Int
  | [] => 0
  | x :: l => firstFrom l x.idx
def acksI (lost : Bool) (l : List Idt) (upto : Int) : Int := if lost then 0 else if l ≠ [] ∧ firstI l ≤ upto then RowKit.wrap64 (firstI l - 1) else upto
def wholeI (lost : Bool) (l : List Idt) (from_ to : Int) : Bool := !(l.any fun x => decide (from_ ≤ x.idx ∧ x.idx ≤ to)) && !lost
def leadsI (lost : Bool) (self : Int) (ms : List Int) (l : List Idt) : Int := if lost then 10 else if inB ms self = false then 15 else if (firstBad l).isSome then 15 else 0
theorem firstFrom_mem : ∀ (l : List Idt) (n : Int), firstFrom l n = n ∨ ∃ x ∈ l, x.idx = firstFrom l n := by
  intro l
  induction l with
  | nil => intro n; exact .inl rfl
  | cons y l ih =>
    intro n
    simp only [firstFrom]
    rcases ih (if y.idx < n then y.idx else n) with h | ⟨x, hx, he⟩
    · by_cases hy : y.idx < n
      · rw [if_pos hy] at h ⊢
        exact .inr ⟨y, by simp, h.symm⟩
      · rw [if_neg hy] at h ⊢
        exact .inl h
    · exact .inr ⟨x, by simp [hx], he⟩
theorem firstI_mem {l : List Idt} (h : l ≠ []) : ∃ x ∈ l, x.idx = firstI l := by
  cases l with
  | nil => exact absurd rfl h
  | cons y l =>
    simp only [firstI]
    rcases firstFrom_mem l y.idx with h | ⟨x, hx, he⟩
    · exact ⟨y, by simp, h.symm⟩
    · exact ⟨x, by simp [hx], he⟩
/-- Whether an entry lies between two. -/
def midB (from_ to : Int) (x : Idt) : Bool := decide (from_ ≤ x.idx ∧ x.idx ≤ to)
theorem wholeI_eq (lost : Bool) (l : List Idt) (from_ to : Int) : wholeI lost l from_ to = (!(l.any (midB from_ to)) && !lost) := rfl
theorem any_snoc {l : List Idt} {p : Idt → Bool} {k : Nat} {x : Idt} (hx : l[k]? = some x) : (l.take (k + 1)).any p = ((l.take k).any p || p x) := by
  rw [take_at hx]; simp
theorem any_found {l : List Idt} {p : Idt → Bool} {k : Nat} {x : Idt} (hx : l[k]? = some x) (hp : p x = true) : l.any p = true :=
  List.any_eq_true.2 ⟨x, List.mem_of_getElem? hx, hp⟩
end Go.Proofs.YtglkgmijhdkhpaaDoor
/-
  ENTRIES, what they are known by, whether they follow: plain Lean, no program.
-/
set_option linter.unusedVariables false
namespace Go.Proofs.YtglkgmijhdkhpaaDoor
open Go.RowKit

structure Ent where
  idx : Int
  trm : Int
  knd : Int
  ba : Option Addr
  bc : Nat
  bd : List Int
def Ent.bv (x : Ent) : Value := .slice x.ba x.bd.length x.bc
def u8Row (x : Int) : List Value := [.int .u8 x]
theorem u8Row_length (x : Int) : (u8Row x).length = 1 := rfl
theorem u8Row_one (x : Int) : ∀ u ∈ u8Row x, u.oneCell' = true := by
  intro u hu; simp [u8Row] at hu; rcases hu with rfl; rfl
def entRow (x : Ent) : List Value := [.int .i64 x.idx, .int .i64 x.trm, .int .i64 x.knd, .slice x.ba x.bd.length x.bc]
theorem entRow_length (x : Ent) : (entRow x).length = 4 := rfl
theorem entRow_one (x : Ent) : ∀ u ∈ entRow x, u.oneCell' = true := by
  intro u hu; simp [entRow] at hu; rcases hu with rfl | rfl | rfl | rfl <;> rfl

/-- Whether bytes are members. -/
def memOk (b : List Int) : Bool := decide (b.length ≤ 7) && memRight b
/-- Whether an entry has what its kind has. -/
def rangeE (x : Ent) : Bool := decide (1 ≤ x.idx) && decide (x.idx ≤ 1099511627776) && decide (0 ≤ x.trm) && decide (x.trm ≤ 1099511627776) && decide (1 ≤ x.knd) && decide (x.knd ≤ 3) && decide (x.bd.length ≤ 200)
def goodE (x : Ent) : Bool := rangeE x && (if x.knd = 1 then decide (x.bd.length = 0) else if x.knd = 2 then true else memOk x.bd)
def ofE (x : Ent) : Idt := ⟨x.idx, x.trm, x.knd⟩
def lastE : Idt → List Ent → Idt
  | p, [] => p
  | _, x :: l => lastE (ofE x) l
def stepE (p : Idt) (x : Ent) : Int := if goodE x = false then 4 else if x.idx - 1 ≠ p.idx ∨ x.trm < p.trm then 12 else 0
def folE : Idt → List Ent → Int
  | _, [] => 0
  | p, x :: l => if stepE p x = 0 then folE (ofE x) l else stepE p x
theorem stepE_cases (p : Idt) (x : Ent) : stepE p x = 0 ∨ stepE p x = 4 ∨ stepE p x = 12 := by
  unfold stepE
  by_cases h : goodE x = false
  · rw [if_pos h]; exact .inr (.inl rfl)
  · rw [if_neg h]
    by_cases h' : x.idx - 1 ≠ p.idx ∨ x.trm < p.trm
    · rw [if_pos h']; exact .inr (.inr rfl)
    · rw [if_neg h']; exact .inl rfl
theorem folE_cases : ∀ (l : List Ent) (p : Idt), folE p l = 0 ∨ folE p l = 4 ∨ folE p l = 12 := by
  intro l
  induction l with
  | nil => intro p; exact .inl rfl
  | cons x l ih =>
    intro p
    simp only [folE]
    by_cases h : stepE p x = 0
    · rw [if_pos h]; exact ih _
    · rw [if_neg h]; exact stepE_cases p x
theorem lastE_append (l : List Ent) (m : List Ent) : ∀ p, lastE p (l ++ m) = lastE (lastE p l) m := by
  induction l with
  | nil => intro p; rfl
  | cons x l ih => intro p; exact ih _
theorem lastE_snoc (l : List Ent) (x : Ent) (p : Idt) : lastE p (l ++ [x]) = ofE x := by rw [lastE_append]; rfl
theorem folE_append (l m : List Ent) : ∀ p, folE p (l ++ m) = if folE p l = 0 then folE (lastE p l) m else folE p l := by
  induction l with
  | nil => intro p; simp [folE, lastE]
  | cons x l ih =>
    intro p
    have e0 : ∀ r, folE p (x :: r) = if stepE p x = 0 then folE (ofE x) r else stepE p x := fun _ => rfl
    have e3 : lastE p (x :: l) = lastE (ofE x) l := rfl
    by_cases h : stepE p x = 0
    · have e1 : folE p (x :: (l ++ m)) = folE (ofE x) (l ++ m) := by rw [e0, if_pos h]
      have e2 : folE p (x :: l) = folE (ofE x) l := by rw [e0, if_pos h]
      rw [List.cons_append, e1, e2, e3]; exact ih _
    · have e1 : folE p (x :: (l ++ m)) = stepE p x := by rw [e0, if_neg h]
      have e2 : folE p (x :: l) = stepE p x := by rw [e0, if_neg h]
      rw [List.cons_append, e1, e2, if_neg h]
/-- Up to place k a row follows. -/
def FolTo (p : Idt) (l : List Ent) (k : Nat) : Prop := folE p (l.take k) = 0
theorem folTo_zero {p : Idt} {l : List Ent} : FolTo p l 0 := rfl
theorem folE_take {p : Idt} {l : List Ent} {k : Nat} {x : Ent} (hx : l[k]? = some x) (h : FolTo p l k) : folE p (l.take (k + 1)) = stepE (lastE p (l.take k)) x := by
  unfold FolTo at h
  rw [take_at hx, folE_append, if_pos h]
  have e0 : ∀ q : Idt, folE q [x] = if stepE q x = 0 then 0 else stepE q x := fun _ => rfl
  rw [e0]
  by_cases h' : stepE (lastE p (l.take k)) x = 0
  · rw [if_pos h', h']
  · rw [if_neg h']
theorem folTo_succ {p : Idt} {l : List Ent} {k : Nat} {x : Ent} (hx : l[k]? = some x) (h : FolTo p l k) (hs : stepE (lastE p (l.take k)) x = 0) : FolTo p l (k + 1) := (folE_take hx h).trans hs
theorem folE_stop {p : Idt} {l : List Ent} {k : Nat} {x : Ent} (hx : l[k]? = some x) (h : FolTo p l k) (hs : stepE (lastE p (l.take k)) x ≠ 0) : folE p l = stepE (lastE p (l.take k)) x := by
  have e := folE_append (l.take (k + 1)) (l.drop (k + 1)) p
  rw [List.take_append_drop] at e
  rw [e, folE_take hx h, if_neg hs]
theorem folE_all {p : Idt} {l : List Ent} (h : FolTo p l l.length) : folE p l = 0 := by
  unfold FolTo at h; rwa [List.take_length] at h
theorem last_take {p : Idt} {l : List Ent} {k : Nat} {x : Ent} (hx : l[k]? = some x) : lastE p (l.take (k + 1)) = ofE x := by rw [take_at hx, lastE_snoc]
def olderI (a b : Idt) : Bool := if a.trm = b.trm then decide (a.idx < b.idx) else decide (a.trm < b.trm)
end Go.Proofs.YtglkgmijhdkhpaaDoor
