/-
  WANTS BY THEIR BLOCKS: plain Lean, no program.
-/
import Derived.WalkKit
set_option linter.unusedVariables false
namespace Go.Proofs.Ytnmlmnhgjnkbhaa
open Go.RowKit

structure Wnt where
  blk : Int
  knd : Int
  num : Int
def wntRow (x : Wnt) : List Value := [.int .i64 x.blk, .int .i64 x.knd, .int .i64 x.num]
theorem wntRow_length (x : Wnt) : (wntRow x).length = 3 := rfl
theorem wntRow_one (x : Wnt) : ∀ u ∈ wntRow x, u.oneCell' = true := by
  intro u hu; simp [wntRow] at hu; rcases hu with rfl | rfl | rfl <;> rfl
theorem wnt_ext {x y : Wnt} (h1 : x.blk = y.blk) (h2 : x.knd = y.knd) (h3 : x.num = y.num) : x = y := by cases x; cases y; simp_all

/-- Is it a ward, behind a block? -/
def rightF (p : Int) : List Wnt → Bool
  | [] => true
  | x :: l => decide (p < x.blk) && rightF x.blk l
def rightW (l : List Wnt) : Bool := rightF (-1) l
def RisW (l : List Wnt) : Prop := l.Pairwise fun x y => x.blk < y.blk
theorem rightF_iff : ∀ {l : List Wnt} {p : Int}, rightF p l = true ↔ RisW l ∧ ∀ x ∈ l, p < x.blk := by
  intro l
  induction l with
  | nil => intro p; simp [rightF, RisW]
  | cons x l ih =>
    intro p
    unfold rightF RisW
    rw [Bool.and_eq_true, decide_eq_true_eq, ih, List.pairwise_cons]
    constructor
    · rintro ⟨h1, h2, h3⟩
      refine ⟨⟨h3, h2⟩, fun y hy => ?_⟩
      rcases List.mem_cons.1 hy with rfl | hy
      · exact h1
      · have := h3 y hy; omega
    · rintro ⟨⟨h1, h2⟩, h3⟩
      exact ⟨h3 x (by simp), h2, h1⟩
theorem rightW_iff {l : List Wnt} : rightW l = true ↔ RisW l ∧ ∀ x ∈ l, 0 ≤ x.blk := by
  unfold rightW
  rw [rightF_iff]
  constructor
  · rintro ⟨h1, h2⟩; exact ⟨h1, fun x hx => by have := h2 x hx; omega⟩
  · rintro ⟨h1, h2⟩; exact ⟨h1, fun x hx => by have := h2 x hx; omega⟩
/-- The first k of them, with the last one's block: what a loop carries. -/
def lastB (p : Int) (l : List Wnt) : Int := (l.getLast?.map Wnt.blk).getD p
theorem rightF_snoc : ∀ {l : List Wnt} {p : Int} {x : Wnt}, rightF p (l ++ [x]) = (rightF p l && decide (lastB p l < x.blk)) := by
  intro l
  induction l with
  | nil => intro p x; show (decide (p < x.blk) && true) = (true && decide (p < x.blk)); rw [Bool.and_true, Bool.true_and]
  | cons y l ih =>
    intro p x
    have e : lastB p (y :: l) = lastB y.blk l := by
      unfold lastB
      cases l with
      | nil => rfl
      | cons z l => simp [List.getLast?_cons]
    rw [List.cons_append, rightF, ih, rightF, e, Bool.and_assoc]
theorem lastB_snoc {l : List Wnt} {p : Int} {x : Wnt} : lastB p (l ++ [x]) = x.blk := by simp [lastB]
theorem rightF_prefix : ∀ {l m : List Wnt} {p : Int}, rightF p l = false → rightF p (l ++ m) = false := by
  intro l
  induction l with
  | nil => intro m p h; simp [rightF] at h
  | cons x l ih =>
    intro m p h
    unfold rightF at h
    rw [List.cons_append]
    unfold rightF
    cases hd : decide (p < x.blk)
    · rfl
    · rw [hd] at h
      simp at h
      simpa using ih h
theorem takeW_at {l : List Wnt} {k : Nat} {x : Wnt} (hx : l[k]? = some x) : l.take (k + 1) = l.take k ++ [x] := by rw [List.take_add_one, hx]; rfl
theorem right_step {l : List Wnt} {k : Nat} {x : Wnt} (hx : l[k]? = some x) (h : rightF (-1) (l.take k) = true) (hlt : lastB (-1) (l.take k) < x.blk) : rightF (-1) (l.take (k + 1)) = true ∧ lastB (-1) (l.take (k + 1)) = x.blk := by
  rw [takeW_at hx, rightF_snoc, h, lastB_snoc]; simpa using hlt
theorem right_stop {l : List Wnt} {k : Nat} {x : Wnt} (hx : l[k]? = some x) (hlt : x.blk ≤ lastB (-1) (l.take k)) : rightW l = false := by
  have h : rightF (-1) (l.take (k + 1)) = false := by
    rw [takeW_at hx, rightF_snoc, decide_eq_false (by omega), Bool.and_false]
  have := rightF_prefix (m := l.drop (k + 1)) h
  rwa [List.take_append_drop] at this
theorem lastB_low {l : List Wnt} (h : rightF (-1) l = true) : -1 ≤ lastB (-1) l := by
  rcases List.eq_nil_or_concat l with rfl | ⟨m, x, rfl⟩
  · simp [lastB]
  · rw [List.concat_eq_append] at h ⊢
    rw [lastB_snoc]
    have := (rightF_iff.1 h).2 x (by simp)
    omega

theorem risW_ext : ∀ {l m : List Wnt}, RisW l → RisW m → (∀ x, x ∈ l ↔ x ∈ m) → l = m := by
  intro l
  induction l with
  | nil =>
    intro m _ _ h
    cases m with
    | nil => rfl
    | cons y m => exact absurd ((h y).2 (List.mem_cons_self ..)) (by simp)
  | cons x l ih =>
    intro m hl hm h
    cases m with
    | nil => exact absurd ((h x).1 (List.mem_cons_self ..)) (by simp)
    | cons y m =>
      unfold RisW at hl hm
      rw [List.pairwise_cons] at hl hm
      have hxy : x = y := by
        rcases List.mem_cons.1 ((h x).1 (List.mem_cons_self ..)) with h1 | h1
        · exact h1
        · rcases List.mem_cons.1 ((h y).2 (List.mem_cons_self ..)) with h2 | h2
          · exact h2.symm
          · have := hm.1 x h1; have := hl.1 y h2; omega
      subst hxy
      rw [ih hl.2 hm.2 fun z => ?_]
      constructor
      · intro hz
        rcases List.mem_cons.1 ((h z).1 (List.mem_cons_of_mem _ hz)) with h1 | h1
        · have := hl.1 z hz; subst h1; omega
        · exact h1
      · intro hz
        rcases List.mem_cons.1 ((h z).2 (List.mem_cons_of_mem _ hz)) with h1 | h1
        · have := hm.1 z hz; subst h1; omega
        · exact h1
/-- The want of a block. -/
def findW (l : List Wnt) (n : Int) : Option Wnt := l.find? fun x => decide (x.blk = n)
theorem findW_blk {l : List Wnt} {n : Int} {x : Wnt} (h : findW l n = some x) : x.blk = n ∧ x ∈ l := by
  have h1 := List.find?_some h
  exact ⟨by simpa using h1, List.mem_of_find?_eq_some h⟩
theorem findW_ris {l : List Wnt} (h : RisW l) {n : Int} {x : Wnt} : findW l n = some x ↔ x ∈ l ∧ x.blk = n := by
  constructor
  · intro h1; exact ⟨(findW_blk h1).2, (findW_blk h1).1⟩
  · rintro ⟨hx, rfl⟩
    induction l with
    | nil => simp at hx
    | cons y l ih =>
      unfold RisW at h
      rw [List.pairwise_cons] at h
      unfold findW
      rw [List.find?_cons]
      rcases List.mem_cons.1 hx with rfl | hx
      · simp
      · have := h.1 x hx
        rw [decide_eq_false (by omega)]
        exact ih h.2 hx
theorem risW_find {l m : List Wnt} (hl : RisW l) (hm : RisW m) (h : ∀ n, findW l n = findW m n) : l = m :=
  risW_ext hl hm fun x => by
    have h1 := findW_ris hl (n := x.blk) (x := x)
    have h2 := findW_ris hm (n := x.blk) (x := x)
    rw [h] at h1
    constructor
    · intro hx; exact (h2.1 (h1.2 ⟨hx, rfl⟩)).1
    · intro hx; exact (h1.1 (h2.2 ⟨hx, rfl⟩)).1

/-- A map of blocks. -/
abbrev WMap := Int → Option Wnt
def WMap.upd (f : WMap) (x : Wnt) : WMap := fun n => if n = x.blk then some x else f n
def WMap.del (f : WMap) (b : Int) : WMap := fun n => if n = b then none else f n
def putF (f : WMap) (l : List Wnt) : WMap := l.foldl WMap.upd f
def delF (f : WMap) (l : List Int) : WMap := l.foldl WMap.del f
/-- Each stands under its own block. -/
def OwnB (f : WMap) : Prop := ∀ n x, f n = some x → x.blk = n
theorem ownB_none : OwnB fun _ => none := fun n x h => by cases h
theorem OwnB.upd {f : WMap} (h : OwnB f) (x : Wnt) : OwnB (f.upd x) := fun n y hy => by
  unfold WMap.upd at hy
  split at hy
  · rename_i hn; injection hy with hy; rw [← hy, hn]
  · exact h n y hy
theorem OwnB.del {f : WMap} (h : OwnB f) (b : Int) : OwnB (f.del b) := fun n y hy => by
  unfold WMap.del at hy
  split at hy
  · cases hy
  · exact h n y hy
theorem OwnB.put : ∀ (l : List Wnt) {f : WMap}, OwnB f → OwnB (putF f l) := by
  intro l
  induction l with
  | nil => intro f h; exact h
  | cons x l ih => intro f h; exact ih (h.upd x)
theorem OwnB.dels : ∀ (l : List Int) {f : WMap}, OwnB f → OwnB (delF f l) := by
  intro l
  induction l with
  | nil => intro f h; exact h
  | cons x l ih => intro f h; exact ih (h.del x)
theorem putF_take {f : WMap} {l : List Wnt} {k : Nat} {x : Wnt} (hx : l[k]? = some x) : putF f (l.take (k + 1)) = (putF f (l.take k)).upd x := by
  unfold putF
  rw [takeW_at hx, List.foldl_append]; rfl
theorem delF_take {f : WMap} {l : List Int} {k : Nat} {x : Int} (hx : l[k]? = some x) : delF f (l.take (k + 1)) = (delF f (l.take k)).del x := by
  unfold delF
  rw [List.take_add_one, hx, List.foldl_append]; rfl
theorem delF_eq : ∀ (l : List Int) (f : WMap) (n : Int), delF f l n = if n ∈ l then none else f n := by
  intro l
  induction l with
  | nil => intro f n; simp [delF]
  | cons x l ih =>
    intro f n
    show delF (f.del x) l n = _
    rw [ih]
    by_cases h : n ∈ l
    · simp [h]
    · by_cases h2 : n = x
      · simp [h2, WMap.del]
      · simp [h, h2, WMap.del]
/-- The last one of a block. -/
theorem putF_snoc (f : WMap) (l : List Wnt) (x : Wnt) : putF f (l ++ [x]) = (putF f l).upd x := by
  unfold putF; rw [List.foldl_append]; rfl
theorem putF_ris {l : List Wnt} (h : RisW l) (n : Int) : putF (fun _ => none) l n = findW l n := by
  have : ∀ (l : List Wnt) (f : WMap), RisW l → ∀ n, putF f l n = if (findW l n).isSome then findW l n else f n := by
    intro l
    induction l with
    | nil => intro f _ n; simp [putF, findW]
    | cons x l ih =>
      intro f h n
      unfold RisW at h
      rw [List.pairwise_cons] at h
      show putF (f.upd x) l n = _
      rw [ih _ h.2 n]
      unfold findW
      rw [List.find?_cons]
      by_cases hn : x.blk = n
      · have hno : l.find? (fun x => decide (x.blk = n)) = none := by
          rw [List.find?_eq_none]
          intro y hy
          have := h.1 y hy
          simp; omega
        rw [decide_eq_true hn, hno]
        simp [WMap.upd, hn]
      · rw [decide_eq_false hn]
        have : ¬ n = x.blk := fun h => hn h.symm
        simp [WMap.upd, this]
  rw [this l _ h n]
  cases findW l n <;> rfl

/-- A map's wants by its keys, sorted. -/
def listF (f : WMap) (ks : List Int) : List Wnt := ks.filterMap f
theorem listF_at {f : WMap} {ks : List Int} {k : Nat} {n : Int} {x : Wnt} (hn : ks[k]? = some n) (hx : f n = some x) : listF f (ks.take (k + 1)) = listF f (ks.take k) ++ [x] := by
  unfold listF
  rw [List.take_add_one, hn, List.filterMap_append]
  simp [hx]
theorem listF_ris {f : WMap} (hf : OwnB f) : ∀ {ks : List Int}, ks.Pairwise (· < ·) → RisW (listF f ks) := by
  intro ks
  induction ks with
  | nil => intro _; simp [listF, RisW]
  | cons n ks ih =>
    intro h
    rw [List.pairwise_cons] at h
    unfold listF
    rw [List.filterMap_cons]
    cases hn : f n with
    | none => exact ih h.2
    | some x =>
      unfold RisW
      rw [List.pairwise_cons]
      refine ⟨fun y hy => ?_, ih h.2⟩
      obtain ⟨m, hm, hy⟩ := List.mem_filterMap.1 hy
      rw [hf n x hn, hf m y hy]
      exact h.1 m hm
theorem listF_find {f : WMap} (hf : OwnB f) {ks : List Int} (h : ks.Pairwise (· < ·)) (hk : ∀ n, n ∈ ks ↔ (f n).isSome = true) (n : Int) : findW (listF f ks) n = f n := by
  have hr := listF_ris hf h
  cases hn : f n with
  | some x =>
    rw [findW_ris hr]
    refine ⟨List.mem_filterMap.2 ⟨n, (hk n).2 (by rw [hn]; rfl), hn⟩, hf n x hn⟩
  | none =>
    cases hx : findW (listF f ks) n with
    | none => rfl
    | some x =>
      exfalso
      obtain ⟨h1, h2⟩ := (findW_ris hr).1 hx
      obtain ⟨m, hm, hy⟩ := List.mem_filterMap.1 h1
      have := hf m x hy
      rw [h2] at this
      subst this
      rw [hn] at hy; cases hy
theorem risW_low {l : List Wnt} (hr : RisW l) (h : ∀ n x, findW l n = some x → 0 ≤ n) : rightW l = true := by
  rw [rightW_iff]
  exact ⟨hr, fun x hx => h x.blk x ((findW_ris hr).2 ⟨hx, rfl⟩)⟩

/-- The document's: a want more, in its place. -/
def withS (w : Wnt) (s : List Wnt × Bool) (x : Wnt) : List Wnt × Bool :=
  let o := if !s.2 && decide (w.blk ≤ x.blk) then s.1 ++ [w] else s.1
  (if x.blk = w.blk then o else o ++ [x], s.2 || decide (w.blk ≤ x.blk))
def withR (l : List Wnt) (w : Wnt) : List Wnt × Bool := l.foldl (withS w) ([], false)
def withW (l : List Wnt) (w : Wnt) : List Wnt := if (withR l w).2 then (withR l w).1 else (withR l w).1 ++ [w]
theorem withR_take {l : List Wnt} {w : Wnt} {k : Nat} {x : Wnt} (hx : l[k]? = some x) : withR (l.take (k + 1)) w = withS w (withR (l.take k) w) x := by
  unfold withR; rw [takeW_at hx, List.foldl_append]; rfl
theorem withS_len {w : Wnt} {s : List Wnt × Bool} {x : Wnt} : (withS w s x).1.length ≤ s.1.length + 2 := by
  unfold withS; simp only []; split <;> split <;> simp
theorem withR_len (l : List Wnt) (w : Wnt) : (withR l w).1.length + (if (withR l w).2 then 0 else 1) ≤ l.length + 1 := by
  have : ∀ (l : List Wnt) (s : List Wnt × Bool), (l.foldl (withS w) s).1.length + (if (l.foldl (withS w) s).2 then 0 else 1) ≤ s.1.length + (if s.2 then 0 else 1) + l.length := by
    intro l
    induction l with
    | nil => intro s; exact Nat.le_refl _
    | cons x l ih =>
      intro s
      rw [List.foldl_cons]
      have h1 := ih (withS w s x)
      have h2 : (withS w s x).1.length + (if (withS w s x).2 then 0 else 1) ≤ s.1.length + (if s.2 then 0 else 1) + 1 := by
        obtain ⟨o, b⟩ := s
        unfold withS
        cases b <;> by_cases h3 : w.blk ≤ x.blk <;> by_cases h4 : x.blk = w.blk <;> simp [h3, h4] <;> omega
      simp only [List.length_cons]; omega
  have h := this l ([], false)
  have e : ([] : List Wnt).length + (if (false : Bool) then 0 else 1) + l.length = l.length + 1 := by simp; omega
  exact Nat.le_trans h (Nat.le_of_eq e)
theorem withW_len (l : List Wnt) (w : Wnt) : (withW l w).length ≤ l.length + 1 := by
  have := withR_len l w
  unfold withW
  cases h : (withR l w).2
  · rw [h] at this; simp at this ⊢; omega
  · rw [h] at this; simp at this ⊢; omega
theorem withR_form {w : Wnt} : ∀ (l : List Wnt), RisW l → ∀ (s : List Wnt × Bool), (s.2 = true → ∀ x ∈ l, w.blk < x.blk) →
    (l.foldl (withS w) s) = (s.1 ++ l.filter (fun x => decide (x.blk < w.blk)) ++ (if !s.2 && l.any (fun x => decide (w.blk ≤ x.blk)) then [w] else []) ++ l.filter (fun x => decide (w.blk < x.blk)), s.2 || l.any fun x => decide (w.blk ≤ x.blk)) := by
  intro l
  induction l with
  | nil => intro _ s _; simp
  | cons x l ih =>
    intro hr s hs
    unfold RisW at hr
    rw [List.pairwise_cons] at hr
    obtain ⟨o, b⟩ := s
    rw [List.foldl_cons]
    rcases Int.lt_trichotomy x.blk w.blk with h | h | h
    · have e : withS w (o, b) x = (o ++ [x], b) := by
        unfold withS
        simp [show ¬ w.blk ≤ x.blk by omega, show ¬ x.blk = w.blk by omega]
      rw [e, ih hr.2 (o ++ [x], b) (fun hb y hy => hs hb y (by simp [hy]))]
      simp [h, show ¬ w.blk ≤ x.blk by omega, show ¬ w.blk < x.blk by omega]
    · have hb : b = false := by
        cases hb : b
        · rfl
        · have := hs hb x (by simp); omega
      subst hb
      have e : withS w (o, false) x = (o ++ [w], true) := by
        unfold withS
        simp [h]
      have hno : l.filter (fun x => decide (x.blk < w.blk)) = [] := by
        rw [List.filter_eq_nil_iff]; intro y hy; have := hr.1 y hy; simp; omega
      rw [e, ih hr.2 (o ++ [w], true) (fun _ y hy => by have := hr.1 y hy; omega)]
      simp [h, hno]
    · have hno : l.filter (fun x => decide (x.blk < w.blk)) = [] := by
        rw [List.filter_eq_nil_iff]; intro y hy; have := hr.1 y hy; simp; omega
      have e : withS w (o, b) x = ((if b then o else o ++ [w]) ++ [x], true) := by
        unfold withS
        simp [show w.blk ≤ x.blk by omega, show ¬ x.blk = w.blk by omega]
        cases b <;> simp
      rw [e, ih hr.2 _ (fun _ y hy => by have := hr.1 y hy; omega)]
      have h1 : decide (x.blk < w.blk) = false := decide_eq_false (by omega)
      have h2 : decide (w.blk < x.blk) = true := decide_eq_true h
      have h3 : decide (w.blk ≤ x.blk) = true := decide_eq_true (by omega)
      cases b <;> simp [hno, h1, h2, h3]
theorem withW_form {l : List Wnt} (h : RisW l) (w : Wnt) : withW l w = l.filter (fun x => decide (x.blk < w.blk)) ++ [w] ++ l.filter (fun x => decide (w.blk < x.blk)) := by
  unfold withW withR
  rw [withR_form l h ([], false) (by simp)]
  cases ha : l.any fun x => decide (w.blk ≤ x.blk)
  · have : l.filter (fun x => decide (w.blk < x.blk)) = [] := by
      rw [List.filter_eq_nil_iff]; intro y hy
      rw [List.any_eq_false] at ha
      have := ha y hy; simp at this ⊢; omega
    simp [this]
  · simp
theorem withW_ris {l : List Wnt} (h : RisW l) (w : Wnt) : RisW (withW l w) ∧ ∀ n, findW (withW l w) n = (WMap.upd (findW l) w) n := by
  rw [withW_form h]
  have hr : RisW (l.filter (fun x => decide (x.blk < w.blk)) ++ [w] ++ l.filter (fun x => decide (w.blk < x.blk))) := by
    unfold RisW at h ⊢
    rw [List.append_assoc, List.pairwise_append, List.singleton_append, List.pairwise_cons]
    refine ⟨h.filter _, ⟨fun y hy => ?_, h.filter _⟩, fun x hx y hy => ?_⟩
    · have := (List.mem_filter.1 hy).2; simpa using this
    · have h1 := (List.mem_filter.1 hx).2
      simp at h1
      rcases List.mem_cons.1 hy with rfl | hy
      · exact h1
      · have h2 := (List.mem_filter.1 hy).2
        simp at h2; omega
  refine ⟨hr, fun n => ?_⟩
  apply Option.ext
  intro x
  rw [findW_ris hr]
  unfold WMap.upd
  by_cases hn : n = w.blk
  · rw [if_pos hn]
    constructor
    · rintro ⟨h1, h2⟩
      simp only [List.mem_append, List.mem_filter, List.mem_singleton, decide_eq_true_eq] at h1
      rcases h1 with (⟨-, h1⟩ | h1) | ⟨-, h1⟩
      · omega
      · rw [h1]
      · omega
    · intro h1; injection h1 with h1; subst h1; simp [hn]
  · rw [if_neg hn, findW_ris h]
    constructor
    · rintro ⟨h1, h2⟩
      simp only [List.mem_append, List.mem_filter, List.mem_singleton, decide_eq_true_eq] at h1
      rcases h1 with (⟨h1, -⟩ | h1) | ⟨h1, -⟩
      · exact ⟨h1, h2⟩
      · subst h1; exact absurd h2.symm hn
      · exact ⟨h1, h2⟩
    · rintro ⟨h1, h2⟩
      refine ⟨?_, h2⟩
      simp only [List.mem_append, List.mem_filter, List.mem_singleton, decide_eq_true_eq]
      rcases Int.lt_trichotomy x.blk w.blk with g | g | g
      · exact .inl (.inl ⟨h1, g⟩)
      · exact absurd (h2.symm.trans g) hn
      · exact .inr ⟨h1, g⟩
/-- All in turn. -/
theorem withs_ris : ∀ (more l : List Wnt), RisW l → RisW (more.foldl withW l) ∧ ∀ n, findW (more.foldl withW l) n = putF (findW l) more n := by
  intro more
  induction more with
  | nil => intro l h; exact ⟨h, fun n => rfl⟩
  | cons w more ih =>
    intro l h
    obtain ⟨h1, h2⟩ := withW_ris h w
    obtain ⟨h3, h4⟩ := ih _ h1
    refine ⟨h3, fun n => ?_⟩
    rw [List.foldl_cons, h4]
    have : findW (withW l w) = WMap.upd (findW l) w := funext h2
    rw [this]; rfl
def lowW (more : List Wnt) : Bool := more.any fun x => decide (x.blk < 0)
def addOk (l more : List Wnt) : Bool := rightW l && !lowW more
def addL (l more : List Wnt) : List Wnt := more.foldl withW l
def addV (l more : List Wnt) : List Wnt := if addOk l more then addL l more else []
/-- What the program makes of the two is the document's. -/
theorem add_eq {l more : List Wnt} {f : WMap} {ks : List Int} (hl : rightW l = true) (hf : f = putF (putF (fun _ => none) l) more) (h : ks.Pairwise (· < ·)) (hk : ∀ n, n ∈ ks ↔ (f n).isSome = true) : listF f ks = addL l more := by
  have hr := (rightW_iff.1 hl).1
  have hO : OwnB f := by rw [hf]; exact OwnB.put _ (OwnB.put _ ownB_none)
  obtain ⟨h1, h2⟩ := withs_ris more l hr
  refine risW_find (listF_ris hO h) h1 fun n => ?_
  unfold addL
  rw [listF_find hO h hk, h2, hf]
  have : putF (fun _ => none) l = findW l := funext (putF_ris hr)
  rw [this]
def takeWd (l : List Wnt) (bs : List Int) : List Wnt := l.filter fun x => !decide (x.blk ∈ bs)
def takeV_ (l : List Wnt) (bs : List Int) : List Wnt := if rightW l then takeWd l bs else []
theorem take_eq {l : List Wnt} {bs : List Int} {f : WMap} {ks : List Int} (hl : rightW l = true) (hf : f = delF (putF (fun _ => none) l) bs) (h : ks.Pairwise (· < ·)) (hk : ∀ n, n ∈ ks ↔ (f n).isSome = true) : listF f ks = takeWd l bs := by
  have hr := (rightW_iff.1 hl).1
  have hO : OwnB f := by rw [hf]; exact OwnB.dels _ (OwnB.put _ ownB_none)
  have h1 : RisW (takeWd l bs) := hr.filter _
  refine risW_find (listF_ris hO h) h1 fun n => ?_
  rw [listF_find hO h hk, hf, delF_eq, putF_ris hr]
  apply Option.ext
  intro x
  rw [findW_ris h1]
  unfold takeWd
  rw [List.mem_filter]
  by_cases hn : n ∈ bs
  · rw [if_pos hn]
    constructor
    · intro h; cases h
    · rintro ⟨⟨-, h2⟩, rfl⟩; simp [hn] at h2
  · rw [if_neg hn, findW_ris hr]
    constructor
    · rintro ⟨h2, rfl⟩; exact ⟨⟨h2, by simpa using hn⟩, rfl⟩
    · rintro ⟨⟨h2, -⟩, h3⟩; exact ⟨h2, h3⟩
theorem takeWd_take {l : List Wnt} {bs : List Int} {k : Nat} {x : Wnt} (hx : l[k]? = some x) : takeWd (l.take (k + 1)) bs = takeWd (l.take k) bs ++ (if x.blk ∈ bs then [] else [x]) := by
  unfold takeWd
  rw [takeW_at hx, List.filter_append]
  by_cases h : x.blk ∈ bs <;> simp [h]

/-- The numbers of a kind. -/
def numsL (l : List Wnt) (k : Int) : List Int := (l.filter fun x => decide (x.knd = k)).map Wnt.num
def numsV (l : List Wnt) (k : Int) : List Int := (numsL l k).mergeSort fun x y => decide (x ≤ y)
theorem numsL_take {l : List Wnt} {j : Nat} {x : Wnt} {k : Int} (hx : l[j]? = some x) : numsL (l.take (j + 1)) k = numsL (l.take j) k ++ (if x.knd = k then [x.num] else []) := by
  unfold numsL
  rw [takeW_at hx, List.filter_append, List.map_append]
  by_cases h : x.knd = k <;> simp [h]
/-- The document's insertion. -/
def insN (at_ : Nat) (out : List Int) (n : Int) : List Int := out.take at_ ++ [n] ++ out.drop at_
theorem insN_perm (a : Nat) (out : List Int) (n : Int) : (insN a out n).Perm (out ++ [n]) := by
  unfold insN
  have e : out = out.take a ++ out.drop a := (List.take_append_drop a out).symm
  conv => rhs; rw [e]
  rw [List.append_assoc, List.append_assoc, List.perm_append_left_iff]
  exact List.perm_append_comm
theorem insN_ris {a : Nat} {out : List Int} {n : Int} (h : out.Pairwise (· ≤ ·)) (h1 : ∀ i y, i < a → out[i]? = some y → y ≤ n) (h2 : ∀ y, out[a]? = some y → n < y) (ha : a ≤ out.length) : (insN a out n).Pairwise (· ≤ ·) := by
  unfold insN
  have e : out = out.take a ++ out.drop a := (List.take_append_drop a out).symm
  rw [e, List.pairwise_append] at h
  rw [List.append_assoc, List.pairwise_append, List.singleton_append, List.pairwise_cons]
  have hlow : ∀ x ∈ out.take a, x ≤ n := fun x hx => by
    obtain ⟨i, hi⟩ := List.getElem?_of_mem hx
    rw [List.getElem?_take] at hi
    split at hi
    · exact h1 i x (by omega) hi
    · cases hi
  have hhigh : ∀ y ∈ out.drop a, n ≤ y := fun y hy => by
    cases hd : out.drop a with
    | nil => rw [hd] at hy; simp at hy
    | cons z r =>
      have hz : out[a]? = some z := by
        have := congrArg (fun q => q[0]?) hd
        simpa using this
      have hnz := h2 z hz
      rw [hd] at hy h
      rcases List.mem_cons.1 hy with rfl | hy
      · omega
      · have := (List.pairwise_cons.1 h.2.1).1 y hy
        omega
  refine ⟨h.1, ⟨hhigh, h.2.1⟩, fun x hx y hy => ?_⟩
  rcases List.mem_cons.1 hy with rfl | hy
  · exact hlow x hx
  · exact Int.le_trans (hlow x hx) (hhigh y hy)
theorem nums_eq {l : List Wnt} {k : Int} {out : List Int} (h : out.Pairwise (· ≤ ·)) (hp : out.Perm (numsL l k)) : out = numsV l k := by
  have tr : ∀ a b c : Int, decide (a ≤ b) = true → decide (b ≤ c) = true → decide (a ≤ c) = true := fun a b c h1 h2 => by simp only [decide_eq_true_eq] at *; omega
  have to : ∀ a b : Int, (decide (a ≤ b) || decide (b ≤ a)) = true := fun a b => by simp only [Bool.or_eq_true, decide_eq_true_eq]; omega
  refine List.Perm.eq_of_pairwise (le := fun a b => decide (a ≤ b) = true) (fun a b _ _ h1 h2 => ?_) (h.imp (by simp)) (List.pairwise_mergeSort tr to _) (hp.trans (List.mergeSort_perm _ _).symm)
  simp only [decide_eq_true_eq] at h1 h2
  omega

/-- The worst kind. -/
def hasK (l : List Wnt) (k : Int) : Bool := l.any fun x => decide (x.knd = k)
def kindsW : List Int := [1, 2, 3, 8, 7, 5, 4, 6]
def worstV (l : List Wnt) : Int := (kindsW.find? (hasK l)).getD 0
end Go.Proofs.Ytnmlmnhgjnkbhaa
