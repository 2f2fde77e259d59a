/-
  THE WORST KIND, the document's loops, the law's: plain Lean, no program.
-/
import Derived.Test.YtnmlmnhgjnkbhaaWardMath2
set_option linter.unusedVariables false
namespace Go.Proofs.Ytnmlmnhgjnkbhaa
open Go.RowKit

theorem hasK_take {l : List Wnt} {k : Nat} {x : Wnt} {c : Int} (hx : l[k]? = some x) : hasK (l.take (k + 1)) c = (hasK (l.take k) c || decide (x.knd = c)) := by
  unfold hasK; rw [takeW_at hx, List.any_append]; simp
theorem hasK_yes {l : List Wnt} {k : Nat} {x : Wnt} {c : Int} (hx : l[k]? = some x) (h : x.knd = c) : hasK l c = true := by
  unfold hasK; rw [List.any_eq_true]; exact ⟨x, List.mem_of_getElem? hx, by simpa using h⟩
/-- One kind asked for. -/
def wstep (l : List Wnt) (u k : Int) : Int := if u = 0 then (if hasK l k = true then k else u) else u
theorem wstep_zero {l : List Wnt} {k : Int} (h : hasK l k = true) : wstep l 0 k = k := by unfold wstep; simp [h]
theorem wstep_no {l : List Wnt} {u k : Int} (h : hasK l k = false) : wstep l u k = u := by unfold wstep; simp [h]
theorem wstep_set {l : List Wnt} {u k : Int} (h : u ≠ 0) : wstep l u k = u := by unfold wstep; simp [h]
theorem wsteps (l : List Wnt) : ∀ (ks : List Int), (∀ k ∈ ks, k ≠ 0) → ∀ u, ks.foldl (wstep l) u = if u = 0 then (ks.find? (hasK l)).getD 0 else u := by
  intro ks
  induction ks with
  | nil => intro _ u; by_cases h : u = 0 <;> simp [h]
  | cons k ks ih =>
    intro hk u
    rw [List.foldl_cons, ih (fun x hx => hk x (by simp [hx]))]
    have hk0 := hk k (by simp)
    by_cases hu : u = 0
    · subst hu
      cases h : hasK l k with
      | true => rw [wstep_zero h]; simp [hk0, h]
      | false => rw [wstep_no h]; simp [h]
    · rw [wstep_set hu]; simp [hu]
theorem worst_fold (l : List Wnt) : kindsW.foldl (wstep l) 0 = worstV l := by
  rw [wsteps l kindsW (by decide) 0]; rfl
/-- The document's. -/
theorem worst_at {l : List Wnt} {i : Nat} {c : Int} (hi : kindsW[i]? = some c) (hno : ∀ x ∈ kindsW.take i, hasK l x = false) (h : hasK l c = true) : worstV l = c := by
  unfold worstV
  have hil := (List.getElem?_eq_some_iff.1 hi)
  obtain ⟨hl, he⟩ := hil
  have hf : kindsW.find? (hasK l) = some c := by
    refine List.find?_eq_some_iff_append.2 ⟨h, kindsW.take i, kindsW.drop (i + 1), ?_, fun a ha => by rw [hno a ha]; rfl⟩
    rw [← he, ← List.drop_eq_getElem_cons hl, List.take_append_drop]
  rw [hf]; rfl
theorem worst_none {l : List Wnt} (hno : ∀ x ∈ kindsW, hasK l x = false) : worstV l = 0 := by
  unfold worstV
  rw [List.find?_eq_none.2 (fun x hx => by rw [hno x hx]; simp)]; rfl
theorem noK_step {l : List Wnt} {i : Nat} {c : Int} (hi : kindsW[i]? = some c) (hno : ∀ x ∈ kindsW.take i, hasK l x = false) (h : hasK l c = false) : ∀ x ∈ kindsW.take (i + 1), hasK l x = false := by
  intro x hx
  rw [List.take_add_one, hi, List.mem_append] at hx
  rcases hx with hx | hx
  · exact hno x hx
  · simp at hx; subst hx; exact h
/-- Right: the document's loop. -/
theorem rightR_bad_low {l : List Wnt} {k : Nat} {x : Wnt} (hx : l[k]? = some x) (h : x.blk < 0) : rightW l = false := by
  cases hr : rightW l with
  | false => rfl
  | true => have := (rightW_iff.1 hr).2 x (List.mem_of_getElem? hx); omega
theorem rightR_bad_ris {l : List Wnt} {k : Nat} {x y : Wnt} (hx : l[k + 1]? = some x) (hy : l[k]? = some y) (h : x.blk ≤ y.blk) : rightW l = false := by
  cases hr : rightW l with
  | false => rfl
  | true =>
    have := List.pairwise_iff_getElem.1 (rightW_iff.1 hr).1 k (k + 1) (List.getElem?_eq_some_iff.1 hy).1 (List.getElem?_eq_some_iff.1 hx).1 (by omega)
    rw [(List.getElem?_eq_some_iff.1 hy).2, (List.getElem?_eq_some_iff.1 hx).2] at this
    omega
theorem rightR_zero {l : List Wnt} : rightW (l.take 0) = true := rfl
theorem lastB_at {l : List Wnt} {k : Nat} {y : Wnt} (hy : l[k]? = some y) : lastB (-1) (l.take (k + 1)) = y.blk := by rw [takeW_at hy, lastB_snoc]
theorem rightR_first {l : List Wnt} {x : Wnt} (hx : l[0]? = some x) (h : 0 ≤ x.blk) : rightW (l.take 1) = true := by
  rw [show 1 = 0 + 1 from rfl, takeW_at hx]
  show (decide ((-1 : Int) < x.blk) && true) = true
  simp; omega
theorem rightR_next {l : List Wnt} {k : Nat} {x y : Wnt} (hx : l[k + 1]? = some x) (hy : l[k]? = some y) (h : rightW (l.take (k + 1)) = true) (hlt : y.blk < x.blk) : rightW (l.take (k + 2)) = true := by
  unfold rightW at h ⊢
  rw [takeW_at hx, rightF_snoc, h, lastB_at hy]
  simpa using hlt
/-- Find: the document's loop. -/
def NoB (l : List Wnt) (n : Int) (k : Nat) : Prop := ∀ x ∈ l.take k, x.blk ≠ n
theorem noB_zero (l : List Wnt) (n : Int) : NoB l n 0 := fun x hx => by simp at hx
theorem noB_step {l : List Wnt} {n : Int} {k : Nat} {x : Wnt} (hx : l[k]? = some x) (h : NoB l n k) (hne : x.blk ≠ n) : NoB l n (k + 1) := by
  intro y hy
  rw [takeW_at hx, List.mem_append] at hy
  rcases hy with hy | hy
  · exact h y hy
  · simp at hy; subst hy; exact hne
theorem noB_all {l : List Wnt} {n : Int} (h : NoB l n l.length) : findW l n = none := by
  unfold NoB at h
  rw [List.take_length] at h
  unfold findW
  exact List.find?_eq_none.2 fun x hx => by simpa using h x hx
theorem noB_hit {l : List Wnt} {n : Int} {k : Nat} {x : Wnt} (hx : l[k]? = some x) (h : NoB l n k) (he : x.blk = n) : findW l n = some x := by
  obtain ⟨hl, hg⟩ := List.getElem?_eq_some_iff.1 hx
  unfold findW
  refine List.find?_eq_some_iff_append.2 ⟨by simpa using he, l.take k, l.drop (k + 1), ?_, fun a ha => by simpa using h a ha⟩
  rw [← hg, ← List.drop_eq_getElem_cons hl, List.take_append_drop]
/-- Add: the document's loop. -/
def addsR (l more : List Wnt) (k : Nat) : List Wnt := addL l (more.take k)
theorem adds_step {l more : List Wnt} {k : Nat} {x : Wnt} (hx : more[k]? = some x) : addsR l more (k + 1) = withW (addsR l more k) x := by
  unfold addsR addL; rw [takeW_at hx, List.foldl_append]; rfl
theorem adds_all (l more : List Wnt) : addsR l more more.length = addL l more := by unfold addsR; rw [List.take_length]
theorem adds_len (l more : List Wnt) (k : Nat) : (addsR l more k).length ≤ l.length + k := by
  unfold addsR
  have := add_len (more.take k) l
  rw [List.length_take] at this; omega
theorem low_all {more : List Wnt} {k : Nat} {x : Wnt} (hx : more[k]? = some x) (h : x.blk < 0) : lowW more = true := by
  unfold lowW; rw [List.any_eq_true]; exact ⟨x, List.mem_of_getElem? hx, by simpa using h⟩
/-- Nums: the document's loop. -/
def NumI (l : List Wnt) (k : Int) (j : Nat) (out : List Int) : Prop := out.Pairwise (· ≤ ·) ∧ out.Perm (numsL (l.take j) k)
theorem numI_zero (l : List Wnt) (k : Int) : NumI l k 0 [] := ⟨List.Pairwise.nil, by simp [numsL]⟩
theorem numI_skip {l : List Wnt} {k : Int} {j : Nat} {out : List Int} {x : Wnt} (hx : l[j]? = some x) (h : NumI l k j out) (hk : x.knd ≠ k) : NumI l k (j + 1) out := by
  refine ⟨h.1, ?_⟩
  rw [numsL_take hx, if_neg hk, List.append_nil]; exact h.2
def AtI (out : List Int) (n : Int) (a : Nat) : Prop := ∀ i y, i < a → out[i]? = some y → y ≤ n
theorem atI_zero (out : List Int) (n : Int) : AtI out n 0 := fun i y h => absurd h (by omega)
theorem atI_step {out : List Int} {n y : Int} {a : Nat} (h : AtI out n a) (hy : out[a]? = some y) (hle : y ≤ n) : AtI out n (a + 1) := by
  intro i z hi hz
  rcases Nat.lt_or_ge i a with h' | h'
  · exact h i z h' hz
  · have : i = a := by omega
    subst this; rw [hy] at hz; cases hz; exact hle
theorem numI_ins {l : List Wnt} {k : Int} {j a : Nat} {out : List Int} {x : Wnt} (hx : l[j]? = some x) (h : NumI l k j out) (hk : x.knd = k) (h1 : AtI out x.num a) (h2 : ∀ y, out[a]? = some y → x.num < y) (ha : a ≤ out.length) : NumI l k (j + 1) (insN a out x.num) := by
  refine ⟨insN_ris h.1 h1 h2 ha, ?_⟩
  rw [numsL_take hx, if_pos hk]
  exact (insN_perm a out x.num).trans (h.2.append_right _)
theorem numI_all {l : List Wnt} {k : Int} {out : List Int} (h : NumI l k l.length out) : out = numsV l k := by
  have h2 := h.2
  rw [List.take_length] at h2
  exact nums_eq h.1 h2
theorem numI_len {l : List Wnt} {k : Int} {j : Nat} {out : List Int} (h : NumI l k j out) : out.length ≤ j := by
  rw [h.2.length_eq]
  have := numsL_len (l.take j) k
  rw [List.length_take] at this; omega
/-- The program's. -/
theorem sort_nums (l : List Wnt) (k : Int) (out : List Int) (h : out.Pairwise (· ≤ ·)) (hp : out.Perm (numsL l k)) : out = numsV l k := nums_eq h hp
end Go.Proofs.Ytnmlmnhgjnkbhaa
