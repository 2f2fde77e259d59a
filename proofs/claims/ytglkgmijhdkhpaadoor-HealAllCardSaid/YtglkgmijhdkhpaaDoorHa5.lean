/-
  WHAT IS WANTED, RISING; RECORDS: plain Lean, no program.
-/
import Derived.Test.YtglkgmijhdkhpaaDoorHa2
import Derived.Test.YtglkgmijhdkhpaaDoorHa4
set_option linter.unusedVariables false
namespace Go.Proofs.YtglkgmijhdkhpaaDoor

def knownI (p : Idt) : Bool := decide (0 < p.idx) && decide (1 ≤ p.knd) && decide (p.knd ≤ 3)
/-- The document's insertion. -/
def insI : List Idt → Idt → List Idt
  | [], p => [p]
  | q :: out, p => if q.idx < p.idx then q :: insI out p else if q.idx = p.idx then q :: out else p :: q :: out
def wantsV (rot : List Idt) : List Idt := (rot.filter knownI).foldl insI []
/-- Compacted. -/
def cmpFrom (p : Int) : List Idt → List Idt
  | [] => []
  | y :: l => if y.idx = p then cmpFrom y.idx l else y :: cmpFrom y.idx l
def cmpI : List Idt → List Idt
  | [] => []
  | x :: l => x :: cmpFrom x.idx l
def RisI (l : List Idt) : Prop := l.Pairwise fun x y => x.idx < y.idx

theorem risI_ext : ∀ {l m : List Idt}, RisI l → RisI m → (∀ x, x ∈ l ↔ x ∈ m) → l = m := by
  intro l
  induction l with
  | nil =>
    intro m _ _ h
    cases m with
    | nil => rfl
    | cons y m => exact absurd ((h y).2 (List.mem_cons_self ..)) (by simp)
  | cons x l ih =>
    intro m hl hm h
    cases m with
    | nil => exact absurd ((h x).1 (List.mem_cons_self ..)) (by simp)
    | cons y m =>
      unfold RisI at hl hm
      rw [List.pairwise_cons] at hl hm
      have hxy : x = y := by
        rcases List.mem_cons.1 ((h x).1 (List.mem_cons_self ..)) with h1 | h1
        · exact h1
        · rcases List.mem_cons.1 ((h y).2 (List.mem_cons_self ..)) with h2 | h2
          · exact h2.symm
          · have := hm.1 x h1; have := hl.1 y h2; omega
      subst hxy
      rw [ih hl.2 hm.2 fun z => ?_]
      constructor
      · intro hz
        rcases List.mem_cons.1 ((h z).1 (List.mem_cons_of_mem _ hz)) with h1 | h1
        · have := hl.1 z hz; subst h1; omega
        · exact h1
      · intro hz
        rcases List.mem_cons.1 ((h z).2 (List.mem_cons_of_mem _ hz)) with h1 | h1
        · have := hm.1 z hz; subst h1; omega
        · exact h1

/-- What the insertion makes. -/
theorem insI_ris : ∀ {out : List Idt} {p : Idt}, RisI out → RisI (insI out p) ∧ ∀ x, x ∈ insI out p ↔ x ∈ out ∨ (x = p ∧ ∀ q ∈ out, q.idx ≠ p.idx) := by
  intro out
  induction out with
  | nil => intro p _; simp [insI, RisI]
  | cons q out ih =>
    intro p h
    have h' := h
    unfold RisI at h'
    rw [List.pairwise_cons] at h'
    obtain ⟨i1, i2⟩ := ih (p := p) h'.2
    unfold insI
    split
    · rename_i hlt
      constructor
      · unfold RisI
        rw [List.pairwise_cons]
        refine ⟨fun y hy => ?_, i1⟩
        rcases (i2 y).1 hy with g | ⟨rfl, g⟩
        · exact h'.1 y g
        · exact hlt
      · intro x
        rw [List.mem_cons, i2, List.mem_cons]
        constructor
        · rintro (h1 | h1 | ⟨h1, h2⟩)
          · exact .inl (.inl h1)
          · exact .inl (.inr h1)
          · refine .inr ⟨h1, fun z hz => ?_⟩
            rcases List.mem_cons.1 hz with rfl | hz
            · omega
            · exact h2 z hz
        · rintro ((h1 | h1) | ⟨h1, h2⟩)
          · exact .inl h1
          · exact .inr (.inl h1)
          · exact .inr (.inr ⟨h1, fun z hz => h2 z (List.mem_cons_of_mem _ hz)⟩)
    · rename_i hge
      split
      · rename_i heq
        refine ⟨h, fun x => ⟨.inl, ?_⟩⟩
        rintro (h1 | ⟨h1, h2⟩)
        · exact h1
        · exact absurd heq (h2 q (by simp))
      · rename_i hne
        constructor
        · unfold RisI
          rw [List.pairwise_cons]
          refine ⟨fun y hy => ?_, h⟩
          rcases List.mem_cons.1 hy with rfl | hy
          · omega
          · have := h'.1 y hy; omega
        · intro x
          rw [List.mem_cons]
          constructor
          · rintro (h1 | h1)
            · refine .inr ⟨h1, fun z hz => ?_⟩
              rcases List.mem_cons.1 hz with rfl | hz
              · exact hne
              · have := h'.1 z hz; omega
            · exact .inl h1
          · rintro (h1 | ⟨h1, -⟩)
            · exact .inr h1
            · exact .inl h1
/-- Where it goes in. -/
theorem insI_at : ∀ {out : List Idt} {p : Idt} {k : Nat}, (∀ i q, i < k → out[i]? = some q → q.idx < p.idx) → (∀ q, out[k]? = some q → p.idx ≤ q.idx) → k ≤ out.length →
    insI out p = if (out[k]?.map (·.idx)) = some p.idx then out else out.take k ++ [p] ++ out.drop k := by
  intro out
  induction out with
  | nil => intro p k _ _ hk; simp at hk; subst hk; simp [insI]
  | cons q out ih =>
    intro p k h1 h2 hk
    cases k with
    | zero =>
      have := h2 q (by simp)
      unfold insI
      rw [if_neg (by omega)]
      simp
    | succ k =>
      have := h1 0 q (by omega) (by simp)
      unfold insI
      rw [if_pos this, ih (p := p) (k := k) (fun i z hi hz => h1 (i + 1) z (by omega) (by simpa using hz)) (fun z hz => h2 z (by simpa using hz)) (by simpa using hk)]
      simp only [List.getElem?_cons_succ]
      split <;> simp
def FstI (F : List Idt) (x : Idt) : Prop := F.find? (fun p => decide (p.idx = x.idx)) = some x
theorem find_snoc {F : List Idt} {p : Idt} {q : Idt → Bool} : (F ++ [p]).find? q = if (F.find? q).isSome then F.find? q else if q p then some p else none := by
  rw [List.find?_append]
  cases F.find? q with
  | some x => simp
  | none => simp [List.find?_cons]; cases q p <;> simp
theorem fold_ris : ∀ (m F : List Idt) (out : List Idt), RisI out → (∀ x, x ∈ out ↔ FstI F x) → RisI (m.foldl insI out) ∧ ∀ x, x ∈ m.foldl insI out ↔ FstI (F ++ m) x := by
  intro m
  induction m with
  | nil => intro F out h1 h2; simpa using ⟨h1, h2⟩
  | cons p m ih =>
    intro F out h1 h2
    obtain ⟨i1, i2⟩ := insI_ris (p := p) h1
    have := ih (F ++ [p]) (insI out p) i1 (fun x => ?_)
    · simpa using this
    · rw [i2, h2]
      unfold FstI
      rw [find_snoc]
      constructor
      · rintro (g | ⟨rfl, g⟩)
        · rw [g]; simp
        · cases hf : F.find? (fun q => decide (q.idx = x.idx)) with
          | none => simp
          | some z =>
            exfalso
            have hz := List.find?_some hf
            simp at hz
            have hzo : z ∈ out := (h2 z).2 (by unfold FstI; rw [hz]; exact hf)
            exact g z hzo hz
      · intro g
        split at g
        · exact .inl g
        · rename_i hns
          split at g
          · rename_i hpx
            simp at hpx
            injection g with g
            refine .inr ⟨g.symm, fun z hz hzx => ?_⟩
            have hF := (h2 z).1 hz
            unfold FstI at hF
            rw [hzx, hpx] at hF
            rw [hF] at hns
            simp at hns
          · cases g
theorem wants_ris (rot : List Idt) : RisI (wantsV rot) ∧ ∀ x, x ∈ wantsV rot ↔ FstI (rot.filter knownI) x := by
  have := fold_ris (rot.filter knownI) [] [] (by simp [RisI]) (fun x => by simp [FstI])
  simpa [wantsV] using this

/-- Compacted: what stands first of its index. -/
theorem cmpFrom_mem : ∀ {l : List Idt} {p : Int}, l.Pairwise (fun x y => x.idx ≤ y.idx) → (∀ y ∈ l, p ≤ y.idx) → ∀ y, y ∈ cmpFrom p l ↔ ∃ A B, l = A ++ y :: B ∧ (∀ a ∈ A, a.idx ≠ y.idx) ∧ y.idx ≠ p := by
  intro l
  induction l with
  | nil => intro p _ _ y; simp [cmpFrom]
  | cons z l ih =>
    intro p h hp y
    rw [List.pairwise_cons] at h
    have hi := ih (p := z.idx) h.2 h.1 y
    unfold cmpFrom
    split
    · rename_i hz
      rw [hi]
      constructor
      · rintro ⟨A, B, rfl, h1, h2⟩
        exact ⟨z :: A, B, by simp, fun a ha => by rcases List.mem_cons.1 ha with rfl | ha; (exact fun h => h2 h.symm); (exact h1 a ha), by omega⟩
      · rintro ⟨A, B, hl, h1, h2⟩
        cases A with
        | nil => simp at hl; rw [hl.1] at hz; exact absurd hz h2
        | cons a A =>
          simp at hl
          exact ⟨A, B, hl.2, fun x hx => h1 x (by simp [hx]), by omega⟩
    · rename_i hz
      rw [List.mem_cons, hi]
      constructor
      · rintro (rfl | ⟨A, B, rfl, h1, h2⟩)
        · exact ⟨[], l, by simp, by simp, hz⟩
        · refine ⟨z :: A, B, by simp, fun a ha => ?_, ?_⟩
          · rcases List.mem_cons.1 ha with rfl | ha
            · exact fun h => h2 h.symm
            · exact h1 a ha
          · have a1 := hp z (by simp)
            have a2 := h.1 y (by simp)
            omega
      · rintro ⟨A, B, hl, h1, h2⟩
        cases A with
        | nil => simp at hl; exact .inl hl.1.symm
        | cons a A =>
          simp at hl
          have := h1 a (by simp)
          rw [← hl.1] at this
          exact .inr ⟨A, B, hl.2, fun x hx => h1 x (by simp [hx]), fun h => this h.symm⟩
theorem cmpI_mem {l : List Idt} (h : l.Pairwise fun x y => x.idx ≤ y.idx) (y : Idt) : y ∈ cmpI l ↔ ∃ A B, l = A ++ y :: B ∧ ∀ a ∈ A, a.idx ≠ y.idx := by
  cases l with
  | nil => simp [cmpI]
  | cons x l =>
    rw [List.pairwise_cons] at h
    unfold cmpI
    rw [List.mem_cons, cmpFrom_mem h.2 h.1]
    constructor
    · rintro (rfl | ⟨A, B, rfl, h1, h2⟩)
      · exact ⟨[], l, by simp, by simp⟩
      · exact ⟨x :: A, B, by simp, fun a ha => by rcases List.mem_cons.1 ha with rfl | ha; (exact fun h => h2 h.symm); (exact h1 a ha)⟩
    · rintro ⟨A, B, hl, h1⟩
      cases A with
      | nil => simp at hl; exact .inl hl.1.symm
      | cons a A =>
        simp at hl
        have := h1 a (by simp)
        rw [← hl.1] at this
        exact .inr ⟨A, B, hl.2, fun z hz => h1 z (by simp [hz]), fun h => this h.symm⟩
theorem cmpFrom_ris : ∀ {l : List Idt} {p : Int}, l.Pairwise (fun x y => x.idx ≤ y.idx) → (∀ y ∈ l, p ≤ y.idx) → RisI (cmpFrom p l) ∧ ∀ y ∈ cmpFrom p l, p < y.idx := by
  intro l
  induction l with
  | nil => intro p _ _; simp [cmpFrom, RisI]
  | cons z l ih =>
    intro p h hp
    rw [List.pairwise_cons] at h
    obtain ⟨i1, i2⟩ := ih (p := z.idx) h.2 h.1
    have hz := hp z (by simp)
    unfold cmpFrom
    split
    · exact ⟨i1, fun y hy => by have := i2 y hy; omega⟩
    · refine ⟨?_, fun y hy => ?_⟩
      · unfold RisI; rw [List.pairwise_cons]; exact ⟨i2, i1⟩
      · rcases List.mem_cons.1 hy with rfl | hy
        · omega
        · have := i2 y hy; omega
theorem cmpI_ris {l : List Idt} (h : l.Pairwise fun x y => x.idx ≤ y.idx) : RisI (cmpI l) := by
  cases l with
  | nil => simp [cmpI, RisI]
  | cons x l =>
    rw [List.pairwise_cons] at h
    obtain ⟨i1, i2⟩ := cmpFrom_ris h.2 h.1
    unfold cmpI RisI
    rw [List.pairwise_cons]; exact ⟨i2, i1⟩
/-- The program's way is the document's. -/
theorem cmp_wants {F : List Idt} {T : List (Idt × Nat)} (hT : SL Idt.idx T) (hp : T.Perm F.zipIdx) : RisI (cmpI (T.map (·.1))) ∧ ∀ y, y ∈ cmpI (T.map (·.1)) ↔ FstI F y := by
  have hs : (T.map (·.1)).Pairwise fun x y => x.idx ≤ y.idx := by
    rw [List.pairwise_map]; exact hT.imp fun h => key_le h
  refine ⟨cmpI_ris hs, fun y => ?_⟩
  rw [cmpI_mem hs]
  have hz : ∀ z j, (z, j) ∈ T ↔ F[j]? = some z := fun z j => by rw [hp.mem_iff, List.mem_zipIdx_iff_getElem?]
  constructor
  · rintro ⟨A, B, hl, h1⟩
    obtain ⟨TA, R, rfl, hA, hR⟩ := List.map_eq_append_iff.1 hl
    obtain ⟨yi, TB, rfl, hy, hB⟩ := List.map_eq_cons_iff.1 hR
    obtain ⟨y', i⟩ := yi
    simp only at hy; subst hy
    have hi := (hz y' i).1 (by simp)
    obtain ⟨hil, hie⟩ := List.getElem?_eq_some_iff.1 hi
    unfold FstI
    rw [List.find?_eq_some_iff_getElem]
    refine ⟨by simp, i, hil, hie, fun j hj => ?_⟩
    have hjm : (F[j], j) ∈ TA ++ (y', i) :: TB := (hz _ _).2 (List.getElem?_eq_getElem _)
    obtain ⟨s1, s2, s3⟩ := sl_append.1 hT
    simp only [Bool.not_eq_true', decide_eq_false_iff_not]
    intro heq
    rcases List.mem_append.1 hjm with g | g
    · exact h1 F[j] (by rw [← hA]; exact List.mem_map_of_mem (f := fun x : Idt × Nat => x.1) g) heq
    · rcases List.mem_cons.1 g with g | g
      · simp at g; omega
      · have := (List.pairwise_cons.1 s2).1 _ g
        unfold tlt at this
        simp at this; omega
  · intro h
    unfold FstI at h
    rw [List.find?_eq_some_iff_getElem] at h
    obtain ⟨-, i, hil, hie, hj⟩ := h
    have hm := (hz y i).2 (by rw [List.getElem?_eq_getElem hil, hie])
    obtain ⟨TA, TB, rfl⟩ := List.append_of_mem hm
    refine ⟨TA.map (·.1), TB.map (·.1), by simp, fun a ha heq => ?_⟩
    obtain ⟨⟨z, j⟩, hzj, rfl⟩ := List.mem_map.1 ha
    have hzF := (hz z j).1 (by simp [hzj])
    have hlt := (sl_append.1 hT).2.2 _ hzj (y, i) (by simp)
    unfold tlt at hlt
    simp only at hlt heq
    have hji : j < i := by omega
    have := hj j hji
    obtain ⟨hjl, hje⟩ := List.getElem?_eq_some_iff.1 hzF
    rw [hje] at this
    simp [heq] at this
theorem cmp_eq {rot : List Idt} {T : List (Idt × Nat)} (hT : SL Idt.idx T) (hp : T.Perm (rot.filter knownI).zipIdx) : cmpI (T.map (·.1)) = wantsV rot := by
  obtain ⟨a1, a2⟩ := cmp_wants hT hp
  obtain ⟨b1, b2⟩ := wants_ris rot
  exact risI_ext a1 b1 fun x => (a2 x).trans (b2 x).symm
theorem wants_len (rot : List Idt) : (wantsV rot).length ≤ rot.length := by
  have h : ∀ (m out : List Idt), (m.foldl insI out).length ≤ out.length + m.length := by
    have h1 : ∀ (out : List Idt) (p : Idt), (insI out p).length ≤ out.length + 1 := by
      intro out p
      induction out with
      | nil => simp [insI]
      | cons q out ih => unfold insI; split; (simp; omega); split <;> simp
    intro m
    induction m with
    | nil => intro out; simp
    | cons p m ih => intro out; rw [List.foldl_cons]; have := ih (insI out p); have := h1 out p; simp; omega
  have := h (rot.filter knownI) []
  have h2 := List.length_filter_le knownI rot
  unfold wantsV
  simp at this; omega
end Go.Proofs.YtglkgmijhdkhpaaDoor
