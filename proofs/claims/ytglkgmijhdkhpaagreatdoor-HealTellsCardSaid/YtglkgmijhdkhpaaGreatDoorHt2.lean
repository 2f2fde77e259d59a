/-
  Merged: AbMath, EntMath, HealMath.
-/
import Derived.Test.YtglkgmijhdkhpaaGreatDoorHt1
/-
  WHAT A DAMAGED REPLICA MAY DO: plain Lean, no program.
-/
set_option linter.unusedVariables false
namespace Go.Proofs.YtglkgmijhdkhpaaGreatDoor

structure Idt where
  idx : Int
  trm : Int
  knd : Int
def idRow (x : Idt) : List Value := [.int .i64 x.idx, .int .i64 x.trm, .int .i64 x.knd]
theorem idRow_length (x : Idt) : (idRow x).length = 3 := rfl
theorem idRow_one (x : Idt) : ∀ u ∈ idRow x, u.oneCell' = true := by
  intro u hu; simp [idRow] at hu; rcases hu with rfl | rfl | rfl <;> rfl

def inB (l : List Int) (x : Int) : Bool := l.contains x
/-- The first entry that may be a group. -/
def badKind (p : Idt) : Bool := p.knd != 1 && p.knd != 2
def firstBad (l : List Idt) : Option Idt := l.find? badKind
/-- Up to place k none is bad. -/
def SoundTo (l : List Idt) (k : Nat) : Prop := ∀ i x, i < k → l[i]? = some x → badKind x = false
theorem soundTo_zero {l : List Idt} : SoundTo l 0 := fun i x h => absurd h (Nat.not_lt_zero _)
theorem soundTo_succ {l : List Idt} {k : Nat} {x : Idt} (h : SoundTo l k) (hx : l[k]? = some x) (hb : badKind x = false) : SoundTo l (k + 1) := by
  intro i y hi hy
  rcases Nat.lt_or_ge i k with h' | h'
  · exact h i y h' hy
  · have : i = k := by omega
    subst this; rw [hx] at hy; cases hy; exact hb
theorem firstBad_found : ∀ {l : List Idt} {k : Nat} {x : Idt}, SoundTo l k → l[k]? = some x → badKind x = true → firstBad l = some x := by
  intro l
  induction l with
  | nil => intro k x _ h; simp at h
  | cons b l ih =>
    intro k x hno hx hw
    cases k with
    | zero => simp at hx; subst hx; simp [firstBad, hw]
    | succ k =>
      have hb : badKind b = false := hno 0 b (by omega) (by simp)
      have := ih (k := k) (fun i y hi hy => hno (i + 1) y (by omega) (by simpa using hy)) (by simpa using hx) hw
      simpa [firstBad, hb] using this
theorem firstBad_none : ∀ {l : List Idt}, SoundTo l l.length → firstBad l = none := by
  intro l
  induction l with
  | nil => intro _; rfl
  | cons b l ih =>
    intro hno
    have hb : badKind b = false := hno 0 b (by simp) (by simp)
    have := ih (fun i y hi hy => hno (i + 1) y (by simp; omega) (by simpa using hy))
    simpa [firstBad, hb] using this

/-- Someone is not among the first k. -/
def OutTo (l : List Int) (x : Int) (k : Nat) : Prop := ∀ i y, i < k → l[i]? = some y → y ≠ x
theorem outTo_zero {l : List Int} {x : Int} : OutTo l x 0 := fun i y h => absurd h (Nat.not_lt_zero _)
theorem outTo_succ {l : List Int} {x y : Int} {k : Nat} (h : OutTo l x k) (hy : l[k]? = some y) (hne : y ≠ x) : OutTo l x (k + 1) := by
  intro i z hi hz
  rcases Nat.lt_or_ge i k with h' | h'
  · exact h i z h' hz
  · have : i = k := by omega
    subst this; rw [hy] at hz; cases hz; exact hne
theorem in_found {l : List Int} {x y : Int} {k : Nat} (hy : l[k]? = some y) (he : y = x) : inB l x = true := by
  subst he
  simp only [inB, List.contains_iff_mem]
  exact List.mem_of_getElem? hy
theorem in_none {l : List Int} {x : Int} (h : OutTo l x l.length) : inB l x = false := by
  cases hc : inB l x
  · rfl
  · exfalso
    simp only [inB, List.contains_iff_mem] at hc
    obtain ⟨i, hi⟩ := List.getElem?_of_mem hc
    exact h i x (List.getElem?_eq_some_iff.1 hi).1 hi rfl

/-- The index of the first entry that is rotten: the least one. -/
def firstFrom : List Idt → Int → Int
  | [], n => n
  | x :: l, n => firstFrom l (if x.idx < n then x.idx else n)
def firstI : List Idt → Int
  | [] => 0
  | x :: l => firstFrom l x.idx
def acksI (lost : Bool) (l : List Idt) (upto : Int) : Int := if lost then 0 else if l ≠ [] ∧ firstI l ≤ upto then RowKit.wrap64 (firstI l - 1) else upto
def wholeI (lost : Bool) (l : List Idt) (from_ to : Int) : Bool := !(l.any fun x => decide (from_ ≤ x.idx ∧ x.idx ≤ to)) && !lost
def leadsI (lost : Bool) (self : Int) (ms : List Int) (l : List Idt) : Int := if lost then 10 else if inB ms self = false then 15 else if (firstBad l).isSome then 15 else 0
theorem firstFrom_mem : ∀ (l : List Idt) (n : Int), firstFrom l n = n ∨ ∃ x ∈ l, x.idx = firstFrom l n := by
  intro l
  induction l with
  | nil => intro n; exact .inl rfl
  | cons y l ih =>
    intro n
    simp only [firstFrom]
    rcases ih (if y.idx < n then y.idx else n) with h | ⟨x, hx, he⟩
    · by_cases hy : y.idx < n
      · rw [if_pos hy] at h ⊢
        exact .inr ⟨y, by simp, h.symm⟩
      · rw [if_neg hy] at h ⊢
        exact .inl h
    · exact .inr ⟨x, by simp [hx], he⟩
theorem firstI_mem {l : List Idt} (h : l ≠ []) : ∃ x ∈ l, x.idx = firstI l := by
  cases l with
  | nil => exact absurd rfl h
  | cons y l =>
    simp only [firstI]
    rcases firstFrom_mem l y.idx with h | ⟨x, hx, he⟩
    · exact ⟨y, by simp, h.symm⟩
    · exact ⟨x, by simp [hx], he⟩
/-- Whether an entry lies between two. -/
def midB (from_ to : Int) (x : Idt) : Bool := decide (from_ ≤ x.idx ∧ x.idx ≤ to)
theorem wholeI_eq (lost : Bool) (l : List Idt) (from_ to : Int) : wholeI lost l from_ to = (!(l.any (midB from_ to)) && !lost) := rfl
theorem any_snoc {l : List Idt} {p : Idt → Bool} {k : Nat} {x : Idt} (hx : l[k]? = some x) : (l.take (k + 1)).any p = ((l.take k).any p || p x) := by
  rw [take_at hx]; simp
theorem any_found {l : List Idt} {p : Idt → Bool} {k : Nat} {x : Idt} (hx : l[k]? = some x) (hp : p x = true) : l.any p = true :=
  List.any_eq_true.2 ⟨x, List.mem_of_getElem? hx, hp⟩
end Go.Proofs.YtglkgmijhdkhpaaGreatDoor
/-
  ENTRIES, what they are known by, whether they follow: plain Lean, no program.
-/
set_option linter.unusedVariables false
namespace Go.Proofs.YtglkgmijhdkhpaaGreatDoor
open Go.RowKit

structure Ent where
  idx : Int
  trm : Int
  knd : Int
  ba : Option Addr
  bc : Nat
  bd : List Int
def Ent.bv (x : Ent) : Value := .slice x.ba x.bd.length x.bc
def u8Row (x : Int) : List Value := [.int .u8 x]
theorem u8Row_length (x : Int) : (u8Row x).length = 1 := rfl
theorem u8Row_one (x : Int) : ∀ u ∈ u8Row x, u.oneCell' = true := by
  intro u hu; simp [u8Row] at hu; rcases hu with rfl; rfl
def entRow (x : Ent) : List Value := [.int .i64 x.idx, .int .i64 x.trm, .int .i64 x.knd, .slice x.ba x.bd.length x.bc]
theorem entRow_length (x : Ent) : (entRow x).length = 4 := rfl
theorem entRow_one (x : Ent) : ∀ u ∈ entRow x, u.oneCell' = true := by
  intro u hu; simp [entRow] at hu; rcases hu with rfl | rfl | rfl | rfl <;> rfl

/-- Whether bytes are members. -/
def memOk (b : List Int) : Bool := decide (b.length ≤ 7) && memRight b
/-- Whether an entry has what its kind has. -/
def rangeE (x : Ent) : Bool := decide (1 ≤ x.idx) && decide (x.idx ≤ 1099511627776) && decide (0 ≤ x.trm) && decide (x.trm ≤ 1099511627776) && decide (1 ≤ x.knd) && decide (x.knd ≤ 3) && decide (x.bd.length ≤ 200)
def goodE (x : Ent) : Bool := rangeE x && (if x.knd = 1 then decide (x.bd.length = 0) else if x.knd = 2 then true else memOk x.bd)
def ofE (x : Ent) : Idt := ⟨x.idx, x.trm, x.knd⟩
def lastE : Idt → List Ent → Idt
  | p, [] => p
  | _, x :: l => lastE (ofE x) l
def stepE (p : Idt) (x : Ent) : Int := if goodE x = false then 4 else if x.idx - 1 ≠ p.idx ∨ x.trm < p.trm then 12 else 0
def folE : Idt → List Ent → Int
  | _, [] => 0
  | p, x :: l => if stepE p x = 0 then folE (ofE x) l else stepE p x
theorem stepE_cases (p : Idt) (x : Ent) : stepE p x = 0 ∨ stepE p x = 4 ∨ stepE p x = 12 := by
  unfold stepE
  by_cases h : goodE x = false
  · rw [if_pos h]; exact .inr (.inl rfl)
  · rw [if_neg h]
    by_cases h' : x.idx - 1 ≠ p.idx ∨ x.trm < p.trm
    · rw [if_pos h']; exact .inr (.inr rfl)
    · rw [if_neg h']; exact .inl rfl
theorem folE_cases : ∀ (l : List Ent) (p : Idt), folE p l = 0 ∨ folE p l = 4 ∨ folE p l = 12 := by
  intro l
  induction l with
  | nil => intro p; exact .inl rfl
  | cons x l ih =>
    intro p
    simp only [folE]
    by_cases h : stepE p x = 0
    · rw [if_pos h]; exact ih _
    · rw [if_neg h]; exact stepE_cases p x
theorem lastE_append (l : List Ent) (m : List Ent) : ∀ p, lastE p (l ++ m) = lastE (lastE p l) m := by
  induction l with
  | nil => intro p; rfl
  | cons x l ih => intro p; exact ih _
theorem lastE_snoc (l : List Ent) (x : Ent) (p : Idt) : lastE p (l ++ [x]) = ofE x := by rw [lastE_append]; rfl
theorem folE_append (l m : List Ent) : ∀ p, folE p (l ++ m) = if folE p l = 0 then folE (lastE p l) m else folE p l := by
  induction l with
  | nil => intro p; simp [folE, lastE]
  | cons x l ih =>
    intro p
    have e0 : ∀ r, folE p (x :: r) = if stepE p x = 0 then folE (ofE x) r else stepE p x := fun _ => rfl
    have e3 : lastE p (x :: l) = lastE (ofE x) l := rfl
    by_cases h : stepE p x = 0
    · have e1 : folE p (x :: (l ++ m)) = folE (ofE x) (l ++ m) := by rw [e0, if_pos h]
      have e2 : folE p (x :: l) = folE (ofE x) l := by rw [e0, if_pos h]
      rw [List.cons_append, e1, e2, e3]; exact ih _
    · have e1 : folE p (x :: (l ++ m)) = stepE p x := by rw [e0, if_neg h]
      have e2 : folE p (x :: l) = stepE p x := by rw [e0, if_neg h]
      rw [List.cons_append, e1, e2, if_neg h]
/-- Up to place k a row follows. -/
def FolTo (p : Idt) (l : List Ent) (k : Nat) : Prop := folE p (l.take k) = 0
theorem folTo_zero {p : Idt} {l : List Ent} : FolTo p l 0 := rfl
theorem folE_take {p : Idt} {l : List Ent} {k : Nat} {x : Ent} (hx : l[k]? = some x) (h : FolTo p l k) : folE p (l.take (k + 1)) = stepE (lastE p (l.take k)) x := by
  unfold FolTo at h
  rw [take_at hx, folE_append, if_pos h]
  have e0 : ∀ q : Idt, folE q [x] = if stepE q x = 0 then 0 else stepE q x := fun _ => rfl
  rw [e0]
  by_cases h' : stepE (lastE p (l.take k)) x = 0
  · rw [if_pos h', h']
  · rw [if_neg h']
theorem folTo_succ {p : Idt} {l : List Ent} {k : Nat} {x : Ent} (hx : l[k]? = some x) (h : FolTo p l k) (hs : stepE (lastE p (l.take k)) x = 0) : FolTo p l (k + 1) := (folE_take hx h).trans hs
theorem folE_stop {p : Idt} {l : List Ent} {k : Nat} {x : Ent} (hx : l[k]? = some x) (h : FolTo p l k) (hs : stepE (lastE p (l.take k)) x ≠ 0) : folE p l = stepE (lastE p (l.take k)) x := by
  have e := folE_append (l.take (k + 1)) (l.drop (k + 1)) p
  rw [List.take_append_drop] at e
  rw [e, folE_take hx h, if_neg hs]
theorem folE_all {p : Idt} {l : List Ent} (h : FolTo p l l.length) : folE p l = 0 := by
  unfold FolTo at h; rwa [List.take_length] at h
theorem last_take {p : Idt} {l : List Ent} {k : Nat} {x : Ent} (hx : l[k]? = some x) : lastE p (l.take (k + 1)) = ofE x := by rw [take_at hx, lastE_snoc]
def olderI (a b : Idt) : Bool := if a.trm = b.trm then decide (a.idx < b.idx) else decide (a.trm < b.trm)
end Go.Proofs.YtglkgmijhdkhpaaGreatDoor
/-
  WHAT IS WANTED, RISING; RECORDS: plain Lean, no program.
-/
set_option linter.unusedVariables false
namespace Go.Proofs.YtglkgmijhdkhpaaGreatDoor

def knownI (p : Idt) : Bool := decide (0 < p.idx) && decide (1 ≤ p.knd) && decide (p.knd ≤ 3)
/-- The document's insertion. -/
def insI : List Idt → Idt → List Idt
  | [], p => [p]
  | q :: out, p => if q.idx < p.idx then q :: insI out p else if q.idx = p.idx then q :: out else p :: q :: out
def wantsV (rot : List Idt) : List Idt := (rot.filter knownI).foldl insI []
/-- Compacted. -/
def cmpFrom (p : Int) : List Idt → List Idt
  | [] => []
  | y :: l => if y.idx = p then cmpFrom y.idx l else y :: cmpFrom y.idx l
def cmpI : List Idt → List Idt
  | [] => []
  | x :: l => x :: cmpFrom x.idx l
def RisI (l : List Idt) : Prop := l.Pairwise fun x y => x.idx < y.idx

theorem risI_ext : ∀ {l m : List Idt}, RisI l → RisI m → (∀ x, x ∈ l ↔ x ∈ m) → l = m := by
  intro l
  induction l with
  | nil =>
    intro m _ _ h
    cases m with
    | nil => rfl
    | cons y m => exact absurd ((h y).2 (List.mem_cons_self ..)) (by simp)
  | cons x l ih =>
    intro m hl hm h
    cases m with
    | nil => exact absurd ((h x).1 (List.mem_cons_self ..)) (by simp)
    | cons y m =>
      unfold RisI at hl hm
      rw [List.pairwise_cons] at hl hm
      have hxy : x = y := by
        rcases List.mem_cons.1 ((h x).1 (List.mem_cons_self ..)) with h1 | h1
        · exact h1
        · rcases List.mem_cons.1 ((h y).2 (List.mem_cons_self ..)) with h2 | h2
          · exact h2.symm
          · have := hm.1 x h1; have := hl.1 y h2; omega
      subst hxy
      rw [ih hl.2 hm.2 fun z => ?_]
      constructor
      · intro hz
        rcases List.mem_cons.1 ((h z).1 (List.mem_cons_of_mem _ hz)) with h1 | h1
        · have := hl.1 z hz; subst h1; omega
        · exact h1
      · intro hz
        rcases List.mem_cons.1 ((h z).2 (List.mem_cons_of_mem _ hz)) with h1 | h1
        · have := hm.1 z hz; subst h1; omega
        · exact h1

/-- What the insertion makes. -/
theorem insI_ris : ∀ {out : List Idt} {p : Idt}, RisI out → RisI (insI out p) ∧ ∀ x, x ∈ insI out p ↔ x ∈ out ∨ (x = p ∧ ∀ q ∈ out, q.idx ≠ p.idx) := by
  intro out
  induction out with
  | nil => intro p _; simp [insI, RisI]
  | cons q out ih =>
    intro p h
    have h' := h
    unfold RisI at h'
    rw [List.pairwise_cons] at h'
    obtain ⟨i1, i2⟩ := ih (p := p) h'.2
    unfold insI
    split
    · rename_i hlt
      constructor
      · unfold RisI
        rw [List.pairwise_cons]
        refine ⟨fun y hy => ?_, i1⟩
        rcases (i2 y).1 hy with g | ⟨rfl, g⟩
        · exact h'.1 y g
        · exact hlt
      · intro x
        rw [List.mem_cons, i2, List.mem_cons]
        constructor
        · rintro (h1 | h1 | ⟨h1, h2⟩)
          · exact .inl (.inl h1)
          · exact .inl (.inr h1)
          · refine .inr ⟨h1, fun z hz => ?_⟩
            rcases List.mem_cons.1 hz with rfl | hz
            · omega
            · exact h2 z hz
        · rintro ((h1 | h1) | ⟨h1, h2⟩)
          · exact .inl h1
          · exact .inr (.inl h1)
          · exact .inr (.inr ⟨h1, fun z hz => h2 z (List.mem_cons_of_mem _ hz)⟩)
    · rename_i hge
      split
      · rename_i heq
        refine ⟨h, fun x => ⟨.inl, ?_⟩⟩
        rintro (h1 | ⟨h1, h2⟩)
        · exact h1
        · exact absurd heq (h2 q (by simp))
      · rename_i hne
        constructor
        · unfold RisI
          rw [List.pairwise_cons]
          refine ⟨fun y hy => ?_, h⟩
          rcases List.mem_cons.1 hy with rfl | hy
          · omega
          · have := h'.1 y hy; omega
        · intro x
          rw [List.mem_cons]
          constructor
          · rintro (h1 | h1)
            · refine .inr ⟨h1, fun z hz => ?_⟩
              rcases List.mem_cons.1 hz with rfl | hz
              · exact hne
              · have := h'.1 z hz; omega
            · exact .inl h1
          · rintro (h1 | ⟨h1, -⟩)
            · exact .inr h1
            · exact .inl h1
/-- Where it goes in. -/
theorem insI_at : ∀ {out : List Idt} {p : Idt} {k : Nat}, (∀ i q, i < k → out[i]? = some q → q.idx < p.idx) → (∀ q, out[k]? = some q → p.idx ≤ q.idx) → k ≤ out.length →
    insI out p = if (out[k]?.map (·.idx)) = some p.idx then out else out.take k ++ [p] ++ out.drop k := by
  intro out
  induction out with
  | nil => intro p k _ _ hk; simp at hk; subst hk; simp [insI]
  | cons q out ih =>
    intro p k h1 h2 hk
    cases k with
    | zero =>
      have := h2 q (by simp)
      unfold insI
      rw [if_neg (by omega)]
      simp
    | succ k =>
      have := h1 0 q (by omega) (by simp)
      unfold insI
      rw [if_pos this, ih (p := p) (k := k) (fun i z hi hz => h1 (i + 1) z (by omega) (by simpa using hz)) (fun z hz => h2 z (by simpa using hz)) (by simpa using hk)]
      simp only [List.getElem?_cons_succ]
      split <;> simp
def FstI (F : List Idt) (x : Idt) : Prop := F.find? (fun p => decide (p.idx = x.idx)) = some x
theorem find_snoc {F : List Idt} {p : Idt} {q : Idt → Bool} : (F ++ [p]).find? q = if (F.find? q).isSome then F.find? q else if q p then some p else none := by
  rw [List.find?_append]
  cases F.find? q with
  | some x => simp
  | none => simp [List.find?_cons]; cases q p <;> simp
theorem fold_ris : ∀ (m F : List Idt) (out : List Idt), RisI out → (∀ x, x ∈ out ↔ FstI F x) → RisI (m.foldl insI out) ∧ ∀ x, x ∈ m.foldl insI out ↔ FstI (F ++ m) x := by
  intro m
  induction m with
  | nil => intro F out h1 h2; simpa using ⟨h1, h2⟩
  | cons p m ih =>
    intro F out h1 h2
    obtain ⟨i1, i2⟩ := insI_ris (p := p) h1
    have := ih (F ++ [p]) (insI out p) i1 (fun x => ?_)
    · simpa using this
    · rw [i2, h2]
      unfold FstI
      rw [find_snoc]
      constructor
      · rintro (g | ⟨rfl, g⟩)
        · rw [g]; simp
        · cases hf : F.find? (fun q => decide (q.idx = x.idx)) with
          | none => simp
          | some z =>
            exfalso
            have hz := List.find?_some hf
            simp at hz
            have hzo : z ∈ out := (h2 z).2 (by unfold FstI; rw [hz]; exact hf)
            exact g z hzo hz
      · intro g
        split at g
        · exact .inl g
        · rename_i hns
          split at g
          · rename_i hpx
            simp at hpx
            injection g with g
            refine .inr ⟨g.symm, fun z hz hzx => ?_⟩
            have hF := (h2 z).1 hz
            unfold FstI at hF
            rw [hzx, hpx] at hF
            rw [hF] at hns
            simp at hns
          · cases g
theorem wants_ris (rot : List Idt) : RisI (wantsV rot) ∧ ∀ x, x ∈ wantsV rot ↔ FstI (rot.filter knownI) x := by
  have := fold_ris (rot.filter knownI) [] [] (by simp [RisI]) (fun x => by simp [FstI])
  simpa [wantsV] using this

/-- Compacted: what stands first of its index. -/
theorem cmpFrom_mem : ∀ {l : List Idt} {p : Int}, l.Pairwise (fun x y => x.idx ≤ y.idx) → (∀ y ∈ l, p ≤ y.idx) → ∀ y, y ∈ cmpFrom p l ↔ ∃ A B, l = A ++ y :: B ∧ (∀ a ∈ A, a.idx ≠ y.idx) ∧ y.idx ≠ p := by
  intro l
  induction l with
  | nil => intro p _ _ y; simp [cmpFrom]
  | cons z l ih =>
    intro p h hp y
    rw [List.pairwise_cons] at h
    have hi := ih (p := z.idx) h.2 h.1 y
    unfold cmpFrom
    split
    · rename_i hz
      rw [hi]
      constructor
      · rintro ⟨A, B, rfl, h1, h2⟩
        exact ⟨z :: A, B, by simp, fun a ha => by rcases List.mem_cons.1 ha with rfl | ha; (exact fun h => h2 h.symm); (exact h1 a ha), by omega⟩
      · rintro ⟨A, B, hl, h1, h2⟩
        cases A with
        | nil => simp at hl; rw [hl.1] at hz; exact absurd hz h2
        | cons a A =>
          simp at hl
          exact ⟨A, B, hl.2, fun x hx => h1 x (by simp [hx]), by omega⟩
    · rename_i hz
      rw [List.mem_cons, hi]
      constructor
      · rintro (rfl | ⟨A, B, rfl, h1, h2⟩)
        · exact ⟨[], l, by simp, by simp, hz⟩
        · refine ⟨z :: A, B, by simp, fun a ha => ?_, ?_⟩
          · rcases List.mem_cons.1 ha with rfl | ha
            · exact fun h => h2 h.symm
            · exact h1 a ha
          · have a1 := hp z (by simp)
            have a2 := h.1 y (by simp)
            omega
      · rintro ⟨A, B, hl, h1, h2⟩
        cases A with
        | nil => simp at hl; exact .inl hl.1.symm
        | cons a A =>
          simp at hl
          have := h1 a (by simp)
          rw [← hl.1] at this
          exact .inr ⟨A, B, hl.2, fun x hx => h1 x (by simp [hx]), fun h => this h.symm⟩
theorem cmpI_mem {l : List Idt} (h : l.Pairwise fun x y => x.idx ≤ y.idx) (y : Idt) : y ∈ cmpI l ↔ ∃ A B, l = A ++ y :: B ∧ ∀ a ∈ A, a.idx ≠ y.idx := by
  cases l with
  | nil => simp [cmpI]
  | cons x l =>
    rw [List.pairwise_cons] at h
    unfold cmpI
    rw [List.mem_cons, cmpFrom_mem h.2 h.1]
    constructor
    · rintro (rfl | ⟨A, B, rfl, h1, h2⟩)
      · exact ⟨[], l, by simp, by simp⟩
      · exact ⟨x :: A, B, by simp, fun a ha => by rcases List.mem_cons.1 ha with rfl | ha; (exact fun h => h2 h.symm); (exact h1 a ha)⟩
    · rintro ⟨A, B, hl, h1⟩
      cases A with
      | nil => simp at hl; exact .inl hl.1.symm
      | cons a A =>
        simp at hl
        have := h1 a (by simp)
        rw [← hl.1] at this
        exact .inr ⟨A, B, hl.2, fun z hz => h1 z (by simp [hz]), fun h => this h.symm⟩
theorem cmpFrom_ris : ∀ {l : List Idt} {p : Int}, l.Pairwise (fun x y => x.idx ≤ y.idx) → (∀ y ∈ l, p ≤ y.idx) → RisI (cmpFrom p l) ∧ ∀ y ∈ cmpFrom p l, p < y.idx := by
  intro l
  induction l with
  | nil => intro p _ _; simp [cmpFrom, RisI]
  | cons z l ih =>
    intro p h hp
    rw [List.pairwise_cons] at h
    obtain ⟨i1, i2⟩ := ih (p := z.idx) h.2 h.1
    have hz := hp z (by simp)
    unfold cmpFrom
    split
    · exact ⟨i1, fun y hy => by have := i2 y hy; omega⟩
    · refine ⟨?_, fun y hy => ?_⟩
      · unfold RisI; rw [List.pairwise_cons]; exact ⟨i2, i1⟩
      · rcases List.mem_cons.1 hy with rfl | hy
        · omega
        · have := i2 y hy; omega
theorem cmpI_ris {l : List Idt} (h : l.Pairwise fun x y => x.idx ≤ y.idx) : RisI (cmpI l) := by
  cases l with
  | nil => simp [cmpI, RisI]
  | cons x l =>
    rw [List.pairwise_cons] at h
    obtain ⟨i1, i2⟩ := cmpFrom_ris h.2 h.1
    unfold cmpI RisI
    rw [List.pairwise_cons]; exact ⟨i2, i1⟩
/-- The program's way is the document's. -/
theorem cmp_wants {F : List Idt} {T : List (Idt × Nat)} (hT : SL Idt.idx T) (hp : T.Perm F.zipIdx) : RisI (cmpI (T.map (·.1))) ∧ ∀ y, y ∈ cmpI (T.map (·.1)) ↔ FstI F y := by
  have hs : (T.map (·.1)).Pairwise fun x y => x.idx ≤ y.idx := by
    rw [List.pairwise_map]; exact hT.imp fun h => key_le h
  refine ⟨cmpI_ris hs, fun y => ?_⟩
  rw [cmpI_mem hs]
  have hz : ∀ z j, (z, j) ∈ T ↔ F[j]? = some z := fun z j => by rw [hp.mem_iff, List.mem_zipIdx_iff_getElem?]
  constructor
  · rintro ⟨A, B, hl, h1⟩
    obtain ⟨TA, R, rfl, hA, hR⟩ := List.map_eq_append_iff.1 hl
    obtain ⟨yi, TB, rfl, hy, hB⟩ := List.map_eq_cons_iff.1 hR
    obtain ⟨y', i⟩ := yi
    simp only at hy; subst hy
    have hi := (hz y' i).1 (by simp)
    obtain ⟨hil, hie⟩ := List.getElem?_eq_some_iff.1 hi
    unfold FstI
    rw [List.find?_eq_some_iff_getElem]
    refine ⟨by simp, i, hil, hie, fun j hj => ?_⟩
    have hjm : (F[j], j) ∈ TA ++ (y', i) :: TB := (hz _ _).2 (List.getElem?_eq_getElem _)
    obtain ⟨s1, s2, s3⟩ := sl_append.1 hT
    simp only [Bool.not_eq_true', decide_eq_false_iff_not]
    intro heq
    rcases List.mem_append.1 hjm with g | g
    · exact h1 F[j] (by rw [← hA]; exact List.mem_map_of_mem (f := fun x : Idt × Nat => x.1) g) heq
    · rcases List.mem_cons.1 g with g | g
      · simp at g; omega
      · have := (List.pairwise_cons.1 s2).1 _ g
        unfold tlt at this
        simp at this; omega
  · intro h
    unfold FstI at h
    rw [List.find?_eq_some_iff_getElem] at h
    obtain ⟨-, i, hil, hie, hj⟩ := h
    have hm := (hz y i).2 (by rw [List.getElem?_eq_getElem hil, hie])
    obtain ⟨TA, TB, rfl⟩ := List.append_of_mem hm
    refine ⟨TA.map (·.1), TB.map (·.1), by simp, fun a ha heq => ?_⟩
    obtain ⟨⟨z, j⟩, hzj, rfl⟩ := List.mem_map.1 ha
    have hzF := (hz z j).1 (by simp [hzj])
    have hlt := (sl_append.1 hT).2.2 _ hzj (y, i) (by simp)
    unfold tlt at hlt
    simp only at hlt heq
    have hji : j < i := by omega
    have := hj j hji
    obtain ⟨hjl, hje⟩ := List.getElem?_eq_some_iff.1 hzF
    rw [hje] at this
    simp [heq] at this
theorem cmp_eq {rot : List Idt} {T : List (Idt × Nat)} (hT : SL Idt.idx T) (hp : T.Perm (rot.filter knownI).zipIdx) : cmpI (T.map (·.1)) = wantsV rot := by
  obtain ⟨a1, a2⟩ := cmp_wants hT hp
  obtain ⟨b1, b2⟩ := wants_ris rot
  exact risI_ext a1 b1 fun x => (a2 x).trans (b2 x).symm
theorem wants_len (rot : List Idt) : (wantsV rot).length ≤ rot.length := by
  have h : ∀ (m out : List Idt), (m.foldl insI out).length ≤ out.length + m.length := by
    have h1 : ∀ (out : List Idt) (p : Idt), (insI out p).length ≤ out.length + 1 := by
      intro out p
      induction out with
      | nil => simp [insI]
      | cons q out ih => unfold insI; split; (simp; omega); split <;> simp
    intro m
    induction m with
    | nil => intro out; simp
    | cons p m ih => intro out; rw [List.foldl_cons]; have := ih (insI out p); have := h1 out p; simp; omega
  have := h (rot.filter knownI) []
  have h2 := List.length_filter_le knownI rot
  unfold wantsV
  simp at this; omega
end Go.Proofs.YtglkgmijhdkhpaaGreatDoor
