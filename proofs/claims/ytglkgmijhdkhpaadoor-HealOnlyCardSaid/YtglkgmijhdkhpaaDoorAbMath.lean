/-
  WHAT A DAMAGED REPLICA MAY DO: plain Lean, no program.
-/
import Derived.Test.YtglkgmijhdkhpaaDoorLeadMath
set_option linter.unusedVariables false
namespace Go.Proofs.YtglkgmijhdkhpaaDoor

structure Idt where
  idx : Int
  trm : Int
  knd : Int
def idRow (x : Idt) : List Value := [.int .i64 x.idx, .int .i64 x.trm, .int .i64 x.knd]
theorem idRow_length (x : Idt) : (idRow x).length = 3 := rfl
theorem idRow_one (x : Idt) : ∀ u ∈ idRow x, u.oneCell' = true := by
  intro u hu; simp [idRow] at hu; rcases hu with rfl | rfl | rfl <;> rfl

def inB (l : List Int) (x : Int) : Bool := l.contains x
/-- The first entry that may be a group. -/
def badKind (p : Idt) : Bool := p.knd != 1 && p.knd != 2
def firstBad (l : List Idt) : Option Idt := l.find? badKind
/-- Up to place k none is bad. -/
def SoundTo (l : List Idt) (k : Nat) : Prop := ∀ i x, i < k → l[i]? = some x → badKind x = false
theorem soundTo_zero {l : List Idt} : SoundTo l 0 := fun i x h => absurd h (Nat.not_lt_zero _)
theorem soundTo_succ {l : List Idt} {k : Nat} {x : Idt} (h : SoundTo l k) (hx : l[k]? = some x) (hb : badKind x = false) : SoundTo l (k + 1) := by
  intro i y hi hy
  rcases Nat.lt_or_ge i k with h' | h'
  · exact h i y h' hy
  · have : i = k := by omega
    subst this; rw [hx] at hy; cases hy; exact hb
theorem firstBad_found : ∀ {l : List Idt} {k : Nat} {x : Idt}, SoundTo l k → l[k]? = some x → badKind x = true → firstBad l = some x := by
  intro l
  induction l with
  | nil => intro k x _ h; simp at h
  | cons b l ih =>
    intro k x hno hx hw
    cases k with
    | zero => simp at hx; subst hx; simp [firstBad, hw]
    | succ k =>
      have hb : badKind b = false := hno 0 b (by omega) (by simp)
      have := ih (k := k) (fun i y hi hy => hno (i + 1) y (by omega) (by simpa using hy)) (by simpa using hx) hw
      simpa [firstBad, hb] using this
theorem firstBad_none : ∀ {l : List Idt}, SoundTo l l.length → firstBad l = none := by
  intro l
  induction l with
  | nil => intro _; rfl
  | cons b l ih =>
    intro hno
    have hb : badKind b = false := hno 0 b (by simp) (by simp)
    have := ih (fun i y hi hy => hno (i + 1) y (by simp; omega) (by simpa using hy))
    simpa [firstBad, hb] using this

/-- Someone is not among the first k. -/
def OutTo (l : List Int) (x : Int) (k : Nat) : Prop := ∀ i y, i < k → l[i]? = some y → y ≠ x
theorem outTo_zero {l : List Int} {x : Int} : OutTo l x 0 := fun i y h => absurd h (Nat.not_lt_zero _)
theorem outTo_succ {l : List Int} {x y : Int} {k : Nat} (h : OutTo l x k) (hy : l[k]? = some y) (hne : y ≠ x) : OutTo l x (k + 1) := by
  intro i z hi hz
  rcases Nat.lt_or_ge i k with h' | h'
  · exact h i z h' hz
  · have : i = k := by omega
    subst this; rw [hy] at hz; cases hz; exact hne
theorem in_found {l : List Int} {x y : Int} {k : Nat} (hy : l[k]? = some y) (he : y = x) : inB l x = true := by
  subst he
  simp only [inB, List.contains_iff_mem]
  exact List.mem_of_getElem? hy
theorem in_none {l : List Int} {x : Int} (h : OutTo l x l.length) : inB l x = false := by
  cases hc : inB l x
  · rfl
  · exfalso
    simp only [inB, List.contains_iff_mem] at hc
    obtain ⟨i, hi⟩ := List.getElem?_of_mem hc
    exact h i x (List.getElem?_eq_some_iff.1 hi).1 hi rfl

/-- The index of the first entry that is rotten: the least one. -/
def firstFrom : List Idt → Int → Int
  | [], n => n
  | x :: l, n => firstFrom l (if x.idx < n then x.idx else n)
def firstI : List Idt → Int
  | [] => 0
  | x :: l => firstFrom l x.idx
def acksI (lost : Bool) (l : List Idt) (upto : Int) : Int := if lost then 0 else if l ≠ [] ∧ firstI l ≤ upto then RowKit.wrap64 (firstI l - 1) else upto
def wholeI (lost : Bool) (l : List Idt) (from_ to : Int) : Bool := !(l.any fun x => decide (from_ ≤ x.idx ∧ x.idx ≤ to)) && !lost
def leadsI (lost : Bool) (self : Int) (ms : List Int) (l : List Idt) : Int := if lost then 10 else if inB ms self = false then 15 else if (firstBad l).isSome then 15 else 0
theorem firstFrom_mem : ∀ (l : List Idt) (n : Int), firstFrom l n = n ∨ ∃ x ∈ l, x.idx = firstFrom l n := by
  intro l
  induction l with
  | nil => intro n; exact .inl rfl
  | cons y l ih =>
    intro n
    simp only [firstFrom]
    rcases ih (if y.idx < n then y.idx else n) with h | ⟨x, hx, he⟩
    · by_cases hy : y.idx < n
      · rw [if_pos hy] at h ⊢
        exact .inr ⟨y, by simp, h.symm⟩
      · rw [if_neg hy] at h ⊢
        exact .inl h
    · exact .inr ⟨x, by simp [hx], he⟩
theorem firstI_mem {l : List Idt} (h : l ≠ []) : ∃ x ∈ l, x.idx = firstI l := by
  cases l with
  | nil => exact absurd rfl h
  | cons y l =>
    simp only [firstI]
    rcases firstFrom_mem l y.idx with h | ⟨x, hx, he⟩
    · exact ⟨y, by simp, h.symm⟩
    · exact ⟨x, by simp [hx], he⟩
/-- Whether an entry lies between two. -/
def midB (from_ to : Int) (x : Idt) : Bool := decide (from_ ≤ x.idx ∧ x.idx ≤ to)
theorem wholeI_eq (lost : Bool) (l : List Idt) (from_ to : Int) : wholeI lost l from_ to = (!(l.any (midB from_ to)) && !lost) := rfl
theorem any_snoc {l : List Idt} {p : Idt → Bool} {k : Nat} {x : Idt} (hx : l[k]? = some x) : (l.take (k + 1)).any p = ((l.take k).any p || p x) := by
  rw [take_at hx]; simp
theorem any_found {l : List Idt} {p : Idt → Bool} {k : Nat} {x : Idt} (hx : l[k]? = some x) (hp : p x = true) : l.any p = true :=
  List.any_eq_true.2 ⟨x, List.mem_of_getElem? hx, hp⟩
end Go.Proofs.YtglkgmijhdkhpaaDoor
