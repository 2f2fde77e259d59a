/-
  RANGES SWAPPED, A SEGMENT TURNED ROUND, AN INSERTION: plain Lean, no program.
-/
import Derived.Test.YtglkgmijhdkhpaaDoorHa1
set_option linter.unusedVariables false
namespace Go.Proofs.YtglkgmijhdkhpaaDoor

section
variable {α : Type}
/-- Two in a list change places. -/
def swp (l : List α) (i j : Nat) (x y : α) : List α := (l.set i y).set j x
/-- Two ranges, k of them swapped. -/
def swK (P X M Y S : List α) (k : Nat) : List α := P ++ (Y.take k ++ X.drop k) ++ M ++ (X.take k ++ Y.drop k) ++ S
theorem swK_zero (P X M Y S : List α) : swK P X M Y S 0 = P ++ X ++ M ++ Y ++ S := by simp [swK]
theorem swK_all {P X M Y S : List α} {n : Nat} (hX : X.length = n) (hY : Y.length = n) : swK P X M Y S n = P ++ Y ++ M ++ X ++ S := by
  simp [swK, ← hX]
  rw [List.take_of_length_le (by omega), List.drop_eq_nil_of_le (by omega)]; simp
theorem swK_length {P X M Y S : List α} {n k : Nat} (hX : X.length = n) (hY : Y.length = n) (hk : k ≤ n) : (swK P X M Y S k).length = (P ++ X ++ M ++ Y ++ S).length := by
  simp [swK]; omega
theorem mid_at {A B : List α} {i : Nat} {x : α} (h : A.length = i) : (A ++ x :: B)[i]? = some x := by subst h; simp
theorem mid_set {A B : List α} {i : Nat} {x y : α} (h : A.length = i) : (A ++ x :: B).set i y = A ++ y :: B := by subst h; simp
/-- The step at k: what stands there, and the list behind it. -/
theorem swK_step {P X M Y S : List α} {n k a b : Nat} (hX : X.length = n) (hY : Y.length = n) (hk : k < n) (ha : P.length = a) (hb : (P ++ X ++ M).length = b) :
    ∃ x y, X[k]? = some x ∧ Y[k]? = some y ∧ (swK P X M Y S k)[a + k]? = some x ∧ (swK P X M Y S k)[b + k]? = some y ∧ swp (swK P X M Y S k) (a + k) (b + k) x y = swK P X M Y S (k + 1) := by
  obtain ⟨x, hx⟩ : ∃ x, X[k]? = some x := ⟨_, List.getElem?_eq_getElem (by omega)⟩
  obtain ⟨y, hy⟩ : ∃ y, Y[k]? = some y := ⟨_, List.getElem?_eq_getElem (by omega)⟩
  have hxd : X.drop k = x :: X.drop (k + 1) := by
    obtain ⟨h, rfl⟩ := List.getElem?_eq_some_iff.1 hx
    exact List.drop_eq_getElem_cons h
  have hyd : Y.drop k = y :: Y.drop (k + 1) := by
    obtain ⟨h, rfl⟩ := List.getElem?_eq_some_iff.1 hy
    exact List.drop_eq_getElem_cons h
  have hxt : X.take (k + 1) = X.take k ++ [x] := by rw [List.take_add_one, hx]; rfl
  have hyt : Y.take (k + 1) = Y.take k ++ [y] := by rw [List.take_add_one, hy]; rfl
  have lt1 : (Y.take k).length = k := by rw [List.length_take]; omega
  have lt2 : (X.take k).length = k := by rw [List.length_take]; omega
  have ld1 : (X.drop (k + 1)).length = n - (k + 1) := by rw [List.length_drop, hX]
  simp only [List.length_append] at hb
  have e1 : swK P X M Y S k = (P ++ Y.take k) ++ x :: (X.drop (k + 1) ++ M ++ X.take k ++ Y.drop k ++ S) := by simp [swK, hxd]
  have e2 : swK P X M Y S k = (P ++ Y.take k ++ X.drop k ++ M ++ X.take k) ++ y :: (Y.drop (k + 1) ++ S) := by simp [swK, hyd]
  refine ⟨x, y, hx, hy, ?_, ?_, ?_⟩
  · rw [e1]; exact mid_at (by simp; omega)
  · rw [e2]; exact mid_at (by simp; omega)
  · unfold swp
    rw [e1, mid_set (by simp; omega), hyd]
    rw [show (P ++ Y.take k) ++ y :: (X.drop (k + 1) ++ M ++ X.take k ++ y :: Y.drop (k + 1) ++ S) = (P ++ Y.take k ++ [y] ++ X.drop (k + 1) ++ M ++ X.take k) ++ y :: (Y.drop (k + 1) ++ S) by simp, mid_set (by simp; omega)]
    simp [swK, hxt, hyt]

/-- The turn of a segment: D is what stands, E what is to stand; [m - i, m) and [m, m + j) are still to be turned. -/
def Rot (E : List α) (m i j : Nat) (D : List α) : Prop := ∃ P A B S, D = P ++ A ++ B ++ S ∧ E = P ++ B ++ A ++ S ∧ A.length = i ∧ B.length = j ∧ P.length + i = m
theorem rot_begin {P A B S : List α} {m b : Nat} (hA : P.length + A.length = m) (hB : m + B.length = b) : Rot (P ++ B ++ A ++ S) m (m - P.length) (b - m) (P ++ A ++ B ++ S) :=
  ⟨P, A, B, S, rfl, rfl, by omega, by omega, by omega⟩
theorem Rot.gt {E : List α} {m i j : Nat} {D : List α} (h : Rot E m i j D) (hij : j < i) : ∃ P X M Y S, D = P ++ X ++ M ++ Y ++ S ∧ P.length = m - i ∧ X.length = j ∧ Y.length = j ∧ (P ++ X ++ M).length = m ∧ Rot E m (i - j) j (P ++ Y ++ M ++ X ++ S) := by
  obtain ⟨P, A, B, S, rfl, hE, hA, hB, hP⟩ := h
  have e : A = A.take j ++ A.drop j := (List.take_append_drop j A).symm
  have l1 : (A.take j).length = j := by rw [List.length_take]; omega
  have l2 : (A.drop j).length = i - j := by rw [List.length_drop]; omega
  refine ⟨P, A.take j, A.drop j, B, S, ?_, by omega, l1, hB, by simp only [List.length_append]; omega, P ++ B, A.drop j, A.take j, S, by simp, ?_, l2, l1, by simp only [List.length_append]; omega⟩
  · conv => lhs; rw [e]
    simp
  · rw [hE]; conv => lhs; rw [e]
    simp
theorem Rot.lt {E : List α} {m i j : Nat} {D : List α} (h : Rot E m i j D) (hij : i < j) : ∃ P X M Y S, D = P ++ X ++ M ++ Y ++ S ∧ P.length = m - i ∧ X.length = i ∧ Y.length = i ∧ (P ++ X ++ M).length = m + j - i ∧ Rot E m i (j - i) (P ++ Y ++ M ++ X ++ S) := by
  obtain ⟨P, A, B, S, rfl, hE, hA, hB, hP⟩ := h
  have e : B = B.take (j - i) ++ B.drop (j - i) := (List.take_append_drop _ B).symm
  have l1 : (B.take (j - i)).length = j - i := by rw [List.length_take]; omega
  have l2 : (B.drop (j - i)).length = i := by rw [List.length_drop]; omega
  refine ⟨P, A, B.take (j - i), B.drop (j - i), S, ?_, by omega, hA, l2, by simp only [List.length_append]; omega, P, B.drop (j - i), B.take (j - i), A ++ S, by simp, ?_, l2, l1, by omega⟩
  · conv => lhs; rw [e]
    simp
  · rw [hE]; conv => lhs; rw [e]
    simp
theorem Rot.eq {E : List α} {m i : Nat} {D : List α} (h : Rot E m i i D) : ∃ P X M Y S, D = P ++ X ++ M ++ Y ++ S ∧ P.length = m - i ∧ X.length = i ∧ Y.length = i ∧ (P ++ X ++ M).length = m ∧ E = P ++ Y ++ M ++ X ++ S := by
  obtain ⟨P, A, B, S, rfl, hE, hA, hB, hP⟩ := h
  exact ⟨P, A, [], B, S, by simp, by omega, hA, hB, by simp only [List.length_append, List.length_nil]; omega, by simpa using hE⟩
theorem Rot.bound {E : List α} {m i j : Nat} {D : List α} (h : Rot E m i j D) : i ≤ m ∧ m + j ≤ D.length ∧ D.length = E.length := by
  obtain ⟨P, A, B, S, rfl, rfl, hA, hB, hP⟩ := h
  simp; omega

/-- An element goes back one place. -/
theorem back_step {P A B S : List α} {x y : α} {j : Nat} (hj : (P ++ A).length + 1 = j) :
    (P ++ (A ++ [y]) ++ x :: (B ++ S))[j]? = some x ∧ (P ++ (A ++ [y]) ++ x :: (B ++ S))[j - 1]? = some y ∧ swp (P ++ (A ++ [y]) ++ x :: (B ++ S)) j (j - 1) x y = P ++ A ++ x :: (y :: B ++ S) := by
  simp only [List.length_append] at hj
  have e1 : P ++ (A ++ [y]) ++ x :: (B ++ S) = (P ++ A) ++ y :: (x :: (B ++ S)) := by simp
  refine ⟨mid_at (by simp; omega), ?_, ?_⟩
  · rw [e1]; exact mid_at (by simp; omega)
  · unfold swp
    rw [mid_set (by simp; omega)]
    rw [show P ++ (A ++ [y]) ++ y :: (B ++ S) = (P ++ A) ++ y :: (y :: (B ++ S)) by simp, mid_set (by simp; omega)]
    simp
/-- An element goes on one place. -/
theorem on_step {P A B S : List α} {x y : α} {k : Nat} (hk : (P ++ A).length = k) :
    (P ++ A ++ x :: (y :: B ++ S))[k]? = some x ∧ (P ++ A ++ x :: (y :: B ++ S))[k + 1]? = some y ∧ swp (P ++ A ++ x :: (y :: B ++ S)) k (k + 1) x y = P ++ (A ++ [y]) ++ x :: (B ++ S) := by
  simp only [List.length_append] at hk
  have e1 : P ++ A ++ x :: (y :: B ++ S) = (P ++ A ++ [x]) ++ y :: (B ++ S) := by simp
  refine ⟨mid_at (by simp; omega), ?_, ?_⟩
  · rw [e1]; exact mid_at (by simp; omega)
  · unfold swp
    rw [mid_set (by simp; omega)]
    rw [show P ++ A ++ y :: (y :: B ++ S) = (P ++ A ++ [y]) ++ y :: (B ++ S) by simp, mid_set (by simp; omega)]
    simp
end

section
variable {α : Type} {key : α → Int}
/-- An insertion: A is sorted, x is to go in; B went behind x. -/
structure Ins (key : α → Int) (R A B : List (α × Nat)) (x : α × Nat) : Prop where
  ab : R = A ++ B
  gt : ∀ y ∈ B, key x.1 < key y.1
theorem ins_begin (R : List (α × Nat)) (x : α × Nat) : Ins key R R [] x := ⟨by simp, by simp⟩
theorem Ins.step {R A B : List (α × Nat)} {x y : α × Nat} (h : Ins key R (A ++ [y]) B x) (hlt : key x.1 < key y.1) : Ins key R A (y :: B) x := by
  refine ⟨by rw [h.ab]; simp, fun z hz => ?_⟩
  rcases List.mem_cons.1 hz with rfl | hz
  · exact hlt
  · exact h.gt z hz
theorem Ins.done {R A B : List (α × Nat)} {x : α × Nat} (h : Ins key R A B x) (hR : SL key R) (ht : TG R [x]) (hA : A = [] ∨ ∃ A' y, A = A' ++ [y] ∧ key y.1 ≤ key x.1) : SL key (A ++ x :: B) ∧ (A ++ x :: B).Perm (R ++ [x]) := by
  obtain ⟨rfl, hgt⟩ := h
  obtain ⟨s1, s2, s3⟩ := sl_append.1 hR
  constructor
  · refine sl_append.2 ⟨s1, List.pairwise_cons.2 ⟨fun y hy => tlt_of_lt (hgt y hy), s2⟩, fun a ha b hb => ?_⟩
    rcases List.mem_cons.1 hb with rfl | hb
    · refine tlt_of_le ?_ (ht a (by simp [ha]) b (by simp))
      rcases hA with rfl | ⟨A', y, rfl, hy⟩
      · simp at ha
      · rcases List.mem_append.1 ha with g | g
        · have := key_le ((sl_append.1 s1).2.2 a g y (by simp)); omega
        · simp at g; subst g; exact hy
    · exact s3 a ha b hb
  · rw [List.append_assoc, List.perm_append_left_iff]
    exact (List.perm_append_comm (l₁ := B) (l₂ := [x])).symm
/-- Sorted so far: R of the first ones of U. -/
structure InsU (key : α → Int) (U R : List (α × Nat)) (k : Nat) : Prop where
  sl : SL key R
  perm : R.Perm (U.take k)
theorem InsU.step {U R A B : List (α × Nat)} {k : Nat} {x : α × Nat} (h : InsU key U R k) (hU : U.Pairwise fun x y => x.2 < y.2) (hx : U[k]? = some x) (hI : Ins key R A B x) (hA : A = [] ∨ ∃ A' y, A = A' ++ [y] ∧ key y.1 ≤ key x.1) : InsU key U (A ++ x :: B) (k + 1) := by
  have ht : TG R [x] := by
    intro r hr y hy
    simp at hy; subst hy
    obtain ⟨i, hi⟩ := List.getElem?_of_mem (h.perm.mem_iff.1 hr)
    rw [List.getElem?_take] at hi
    split at hi
    · obtain ⟨h1, rfl⟩ := List.getElem?_eq_some_iff.1 hi
      obtain ⟨h2, rfl⟩ := List.getElem?_eq_some_iff.1 hx
      exact List.pairwise_iff_getElem.1 hU _ _ _ _ (by omega)
    · cases hi
  obtain ⟨d1, d2⟩ := hI.done h.sl ht hA
  refine ⟨d1, d2.trans ?_⟩
  rw [List.take_add_one, hx]
  exact h.perm.append_right _
theorem insU_begin {U : List (α × Nat)} (h : 0 < U.length) : InsU key U (U.take 1) 1 := by
  obtain ⟨x, U', rfl⟩ := List.exists_cons_of_length_pos h
  exact ⟨by simp [SL], by simp⟩
theorem insU_all {U R : List (α × Nat)} {k : Nat} (h : InsU key U R k) (hk : k = U.length) : SL key R ∧ R.Perm U := by
  subst hk
  exact ⟨h.sl, by simpa using h.perm⟩
end
end Go.Proofs.YtglkgmijhdkhpaaDoor
