/-
  Merged: Stable, Stable2, LeadMath.
-/
import Derived.WalkKit
/-
  A STABLE SORT BY BLOCKS AND MERGES IN PLACE: plain Lean, no program.
-/
set_option linter.unusedVariables false
namespace Go.Proofs.YtglkgmijhdkhpaaGreatDoor

section
variable {α : Type} (key : α → Int)
/-- The order of a key, and then of where it stood. -/
def tlt (x y : α × Nat) : Prop := key x.1 < key y.1 ∨ (key x.1 = key y.1 ∧ x.2 < y.2)
variable {key}
theorem tlt_trans {x y z : α × Nat} (h : tlt key x y) (h' : tlt key y z) : tlt key x z := by unfold tlt at *; omega
def SL (key : α → Int) (l : List (α × Nat)) : Prop := l.Pairwise (tlt key)
/-- All of one stood ahead of all of the other. -/
def TG (U V : List (α × Nat)) : Prop := ∀ u ∈ U, ∀ v ∈ V, u.2 < v.2
structure Mrg (key : α → Int) (U V R : List (α × Nat)) : Prop where
  perm : R.Perm (U ++ V)
  sl : SL key R
theorem Mrg.len {U V R : List (α × Nat)} (h : Mrg key U V R) : R.length = U.length + V.length := by rw [h.perm.length_eq, List.length_append]
theorem TG.left {U V U' : List (α × Nat)} (h : TG U V) (hs : ∀ x ∈ U', x ∈ U) : TG U' V := fun u hu v hv => h u (hs u hu) v hv
theorem TG.right {U V V' : List (α × Nat)} (h : TG U V) (hs : ∀ x ∈ V', x ∈ V) : TG U V' := fun u hu v hv => h u hu v (hs v hv)
theorem sl_append {U V : List (α × Nat)} : SL key (U ++ V) ↔ SL key U ∧ SL key V ∧ ∀ u ∈ U, ∀ v ∈ V, tlt key u v := List.pairwise_append
theorem mrg_nil_left (V : List (α × Nat)) (h : SL key V) : Mrg key [] V V := ⟨by simp, h⟩
theorem mrg_nil_right (U : List (α × Nat)) (h : SL key U) : Mrg key U [] U := ⟨by simp, h⟩
/-- Cut where they cross. -/
theorem mrg_cut {U1 U2 V1 V2 R1 R2 : List (α × Nat)} (hU : SL key (U1 ++ U2)) (hV : SL key (V1 ++ V2)) (h12 : ∀ u ∈ U1, ∀ v ∈ V2, tlt key u v) (h21 : ∀ v ∈ V1, ∀ u ∈ U2, tlt key v u)
    (h1 : Mrg key U1 V1 R1) (h2 : Mrg key U2 V2 R2) : Mrg key (U1 ++ U2) (V1 ++ V2) (R1 ++ R2) := by
  obtain ⟨a1, a2, a3⟩ := sl_append.1 hU
  obtain ⟨b1, b2, b3⟩ := sl_append.1 hV
  refine ⟨?_, sl_append.2 ⟨h1.sl, h2.sl, fun x hx y hy => ?_⟩⟩
  · refine (h1.perm.append h2.perm).trans ?_
    rw [List.append_assoc, List.append_assoc, List.perm_append_left_iff, ← List.append_assoc, ← List.append_assoc, List.perm_append_right_iff]
    exact List.perm_append_comm
  · rcases List.mem_append.1 (h1.perm.mem_iff.1 hx) with h3 | h3 <;> rcases List.mem_append.1 (h2.perm.mem_iff.1 hy) with h4 | h4
    · exact a3 x h3 y h4
    · exact h12 x h3 y h4
    · exact h21 x h3 y h4
    · exact b3 x h3 y h4
/-- The order in a sorted list, by the places. -/
theorem sl_at {l : List (α × Nat)} (h : SL key l) {i j : Nat} {x y : α × Nat} (hx : l[i]? = some x) (hy : l[j]? = some y) (hij : i < j) : tlt key x y := by
  obtain ⟨hi, rfl⟩ := List.getElem?_eq_some_iff.1 hx
  obtain ⟨hj, rfl⟩ := List.getElem?_eq_some_iff.1 hy
  exact List.pairwise_iff_getElem.1 h i j hi hj hij
theorem sl_take {l : List (α × Nat)} (h : SL key l) (k : Nat) : SL key (l.take k) := h.sublist (List.take_sublist k l)
theorem sl_drop {l : List (α × Nat)} (h : SL key l) (k : Nat) : SL key (l.drop k) := h.sublist (List.drop_sublist k l)
theorem key_le {x y : α × Nat} (h : tlt key x y) : key x.1 ≤ key y.1 := by unfold tlt at h; omega
theorem tlt_of_le {x y : α × Nat} (h : key x.1 ≤ key y.1) (ht : x.2 < y.2) : tlt key x y := by unfold tlt; omega
theorem tlt_of_lt {x y : α × Nat} (h : key x.1 < key y.1) : tlt key x y := .inl h

/-- Where both cross: c of U go ahead, s of V go behind. -/
theorem cross_cut {U V : List (α × Nat)} (hU : SL key U) (hV : SL key V) (ht : TG U V) {c d : Nat}
    (h1 : c = 0 ∨ d = V.length ∨ ∃ u v, U[c - 1]? = some u ∧ V[d]? = some v ∧ key u.1 ≤ key v.1)
    (h2 : c = U.length ∨ d = 0 ∨ ∃ u v, U[c]? = some u ∧ V[d - 1]? = some v ∧ key v.1 < key u.1) (hc : c ≤ U.length) (hd : d ≤ V.length) :
    (∀ u ∈ U.take c, ∀ v ∈ V.drop d, tlt key u v) ∧ (∀ v ∈ V.take d, ∀ u ∈ U.drop c, tlt key v u) := by
  constructor
  · intro u hu v hv
    obtain ⟨i, hi⟩ := List.getElem?_of_mem hu
    obtain ⟨j, hj⟩ := List.getElem?_of_mem hv
    rw [List.getElem?_take] at hi
    split at hi
    · rename_i hic
      rw [List.getElem?_drop] at hj
      have hjl := (List.getElem?_eq_some_iff.1 hj).1
      rcases h1 with h1 | h1 | ⟨u', v', e1, e2, hle⟩
      · omega
      · omega
      · have k1 : key u.1 ≤ key u'.1 := by
          rcases Nat.lt_or_ge i (c - 1) with g | g
          · exact key_le (sl_at hU hi e1 g)
          · rw [show i = c - 1 by omega, e1] at hi; cases hi; exact Int.le_refl _
        have k2 : key v'.1 ≤ key v.1 := by
          rcases Nat.eq_zero_or_pos j with g | g
          · subst g; rw [Nat.add_zero, e2] at hj; cases hj; exact Int.le_refl _
          · exact key_le (sl_at hV e2 hj (by omega))
        exact tlt_of_le (by omega) (ht u (List.mem_of_getElem? hi) v (List.mem_of_getElem? hj))
    · cases hi
  · intro v hv u hu
    obtain ⟨i, hi⟩ := List.getElem?_of_mem hu
    obtain ⟨j, hj⟩ := List.getElem?_of_mem hv
    rw [List.getElem?_take] at hj
    split at hj
    · rename_i hjd
      rw [List.getElem?_drop] at hi
      have hil := (List.getElem?_eq_some_iff.1 hi).1
      rcases h2 with h2 | h2 | ⟨u', v', e1, e2, hle⟩
      · omega
      · omega
      · have k1 : key u'.1 ≤ key u.1 := by
          rcases Nat.eq_zero_or_pos i with g | g
          · subst g; rw [Nat.add_zero, e1] at hi; cases hi; exact Int.le_refl _
          · exact key_le (sl_at hU e1 hi (by omega))
        have k2 : key v.1 ≤ key v'.1 := by
          rcases Nat.lt_or_ge j (d - 1) with g | g
          · exact key_le (sl_at hV hj e2 g)
          · rw [show j = d - 1 by omega, e2] at hj; cases hj; exact Int.le_refl _
        exact tlt_of_lt (by omega)
    · cases hj
/-- One alone, put in where it belongs: ahead of all. -/
theorem mrg_one_left {x : α × Nat} {V : List (α × Nat)} (hV : SL key V) (ht : TG [x] V) {d : Nat} (hd : d ≤ V.length)
    (h1 : ∀ j v, j < d → V[j]? = some v → key v.1 < key x.1) (h2 : ∀ j v, d ≤ j → V[j]? = some v → key x.1 ≤ key v.1) : Mrg key [x] V (V.take d ++ [x] ++ V.drop d) := by
  have e : V = V.take d ++ V.drop d := (List.take_append_drop d V).symm
  have hU : SL key ([x] ++ []) := by simp [SL]
  have g1 : ∀ u ∈ [x], ∀ v ∈ V.drop d, tlt key u v := by
    intro u hu v hv
    obtain ⟨j, hj⟩ := List.getElem?_of_mem hv
    rw [List.getElem?_drop] at hj
    have h3 := h2 (d + j) v (by omega) hj
    have h4 := ht u hu v (List.mem_of_getElem? hj)
    simp at hu; subst hu
    exact tlt_of_le h3 h4
  refine ⟨?_, ?_⟩
  · conv => rhs; rw [e]
    rw [← List.append_assoc, List.perm_append_right_iff]
    exact List.perm_append_comm
  · refine sl_append.2 ⟨sl_append.2 ⟨sl_take hV d, by simp [SL], fun v hv u hu => ?_⟩, sl_drop hV d, fun u hu v hv => ?_⟩
    · obtain ⟨j, hj⟩ := List.getElem?_of_mem hv
      rw [List.getElem?_take] at hj
      split at hj
      · simp at hu; subst hu; exact tlt_of_lt (h1 j v (by omega) hj)
      · cases hj
    · rcases List.mem_append.1 hu with h3 | h3
      · rw [e] at hV; exact (sl_append.1 hV).2.2 u h3 v hv
      · exact g1 u h3 v hv
theorem mrg_one_right {y : α × Nat} {U : List (α × Nat)} (hU : SL key U) (ht : TG U [y]) {c : Nat} (hc : c ≤ U.length)
    (h1 : ∀ j u, j < c → U[j]? = some u → key u.1 ≤ key y.1) (h2 : ∀ j u, c ≤ j → U[j]? = some u → key y.1 < key u.1) : Mrg key U [y] (U.take c ++ [y] ++ U.drop c) := by
  have e : U = U.take c ++ U.drop c := (List.take_append_drop c U).symm
  refine ⟨?_, ?_⟩
  · conv => rhs; rw [e]
    rw [List.append_assoc, List.append_assoc, List.perm_append_left_iff]
    exact List.perm_append_comm
  · refine sl_append.2 ⟨sl_append.2 ⟨sl_take hU c, by simp [SL], fun u hu v hv => ?_⟩, sl_drop hU c, fun u hu v hv => ?_⟩
    · obtain ⟨j, hj⟩ := List.getElem?_of_mem hu
      rw [List.getElem?_take] at hj
      split at hj
      · have h4 := ht u (List.mem_of_getElem? hj) v hv
        simp at hv; subst hv; exact tlt_of_le (h1 j u (by omega) hj) h4
      · cases hj
    · obtain ⟨j, hj⟩ := List.getElem?_of_mem hv
      rw [List.getElem?_drop] at hj
      rcases List.mem_append.1 hu with h3 | h3
      · rw [e] at hU; exact (sl_append.1 hU).2.2 u h3 v hv
      · simp at h3; subst h3; exact tlt_of_lt (h2 _ v (by omega) hj)

/-- Blocks: all of s, but for the last, which has fewer. -/
structure Chk (key : α → Int) (s : Nat) (cs : List (List (α × Nat))) (last : List (α × Nat)) : Prop where
  each : ∀ c ∈ cs, c.length = s ∧ SL key c
  sl : SL key last
  less : last.length < s
  tags : (cs ++ [last]).Pairwise TG
/-- Between: blocks of 2 s, then blocks of s. -/
structure Half (key : α → Int) (s : Nat) (done cs : List (List (α × Nat))) (last : List (α × Nat)) : Prop where
  big : ∀ c ∈ done, c.length = 2 * s ∧ SL key c
  each : ∀ c ∈ cs, c.length = s ∧ SL key c
  sl : SL key last
  less : last.length < s
  tags : (done ++ (cs ++ [last])).Pairwise TG
theorem Chk.half {s : Nat} {cs : List (List (α × Nat))} {last : List (α × Nat)} (h : Chk key s cs last) : Half key s [] cs last := ⟨by simp, h.each, h.sl, h.less, by simpa using h.tags⟩
theorem tg_mrg_left {U V R W : List (α × Nat)} (h : R.Perm (U ++ V)) (h1 : TG U W) (h2 : TG V W) : TG R W := fun r hr w hw => by
  rcases List.mem_append.1 (h.mem_iff.1 hr) with g | g
  · exact h1 r g w hw
  · exact h2 r g w hw
theorem tg_mrg_right {U V R W : List (α × Nat)} (h : R.Perm (U ++ V)) (h1 : TG W U) (h2 : TG W V) : TG W R := fun w hw r hr => by
  rcases List.mem_append.1 (h.mem_iff.1 hr) with g | g
  · exact h1 w hw r g
  · exact h2 w hw r g
theorem tags_merge {A B : List (List (α × Nat))} {U V R : List (α × Nat)} (h : (A ++ U :: V :: B).Pairwise TG) (hp : R.Perm (U ++ V)) : (A ++ R :: B).Pairwise TG := by
  rw [List.pairwise_append, List.pairwise_cons, List.pairwise_cons] at h
  obtain ⟨h1, ⟨h2, h3, h4⟩, h5⟩ := h
  rw [List.pairwise_append, List.pairwise_cons]
  refine ⟨h1, ⟨fun w hw => tg_mrg_left hp (h2 w (List.mem_cons_of_mem _ hw)) (h3 w hw), h4⟩, fun a ha r hr => ?_⟩
  rcases List.mem_cons.1 hr with rfl | hr
  · exact tg_mrg_right hp (h5 a ha U (by simp)) (h5 a ha V (by simp))
  · exact h5 a ha r (by simp [hr])
theorem Half.step {s : Nat} {done cs : List (List (α × Nat))} {last U V R : List (α × Nat)} (h : Half key s done (U :: V :: cs) last) (hR : Mrg key U V R) : Half key s (done ++ [R]) cs last := by
  refine ⟨fun c hc => ?_, fun c hc => h.each c (by simp [hc]), h.sl, h.less, ?_⟩
  · rcases List.mem_append.1 hc with g | g
    · exact h.big c g
    · simp at g; subst g
      refine ⟨?_, hR.sl⟩
      rw [hR.len, (h.each U (by simp)).1, (h.each V (by simp)).1]; omega
  · have := tags_merge (by simpa using h.tags) hR.perm
    simpa using this
theorem Half.tg {s : Nat} {done cs : List (List (α × Nat))} {last U V : List (α × Nat)} (h : Half key s done (U :: V :: cs) last) : TG U V := by
  have := h.tags
  simp only [List.cons_append] at this
  exact (List.pairwise_cons.1 (List.pairwise_append.1 this).2.1).1 V (by simp)
theorem Half.tg_last {s : Nat} {done : List (List (α × Nat))} {last U : List (α × Nat)} (h : Half key s done [U] last) : TG U last := by
  have := h.tags
  exact (List.pairwise_cons.1 (List.pairwise_append.1 this).2.1).1 last (by simp)
/-- The ends: one block and a rest that is not empty; one block and none; a rest alone. -/
theorem Half.end2 {s : Nat} {done : List (List (α × Nat))} {last U R : List (α × Nat)} (h : Half key s done [U] last) (hR : Mrg key U last R) : Chk key (2 * s) done R := by
  have h1 := (h.each U (by simp)).1
  have h2 := h.less
  refine ⟨h.big, hR.sl, by rw [hR.len]; omega, ?_⟩
  have := tags_merge (B := []) (by simpa using h.tags) hR.perm
  simpa using this
theorem Half.end1 {s : Nat} {done : List (List (α × Nat))} {U : List (α × Nat)} (h : Half key s done [U] []) : Chk key (2 * s) done U := h.end2 (mrg_nil_right U (h.each U (by simp)).2)
theorem Half.end0 {s : Nat} {done : List (List (α × Nat))} {last : List (α × Nat)} (h : Half key s done [] last) : Chk key (2 * s) done last := ⟨h.big, h.sl, by have := h.less; omega, by simpa using h.tags⟩
theorem flat_len {s : Nat} : ∀ {cs : List (List (α × Nat))}, (∀ c ∈ cs, c.length = s) → cs.flatten.length = cs.length * s := by
  intro cs
  induction cs with
  | nil => intro _; simp
  | cons c cs ih =>
    intro h
    rw [List.flatten_cons, List.length_append, ih fun d hd => h d (by simp [hd]), h c (by simp), List.length_cons, Nat.succ_mul]; omega
theorem Chk.done {s : Nat} {cs : List (List (α × Nat))} {last : List (α × Nat)} (h : Chk key s cs last) (hn : (cs.flatten ++ last).length ≤ s) : SL key (cs.flatten ++ last) := by
  rw [List.length_append, flat_len fun c hc => (h.each c hc).1] at hn
  have hs := h.less
  match cs, h, hn with
  | [], h, _ => simpa using h.sl
  | [c], h, hn =>
    have hl : last = [] := List.eq_nil_of_length_eq_zero (by simp at hn; omega)
    subst hl
    simpa using (h.each c (by simp)).2
  | c :: d :: cs, h, hn =>
    exfalso
    simp only [List.length_cons, Nat.succ_mul] at hn
    omega
/-- What stands where, as the sort begins. -/
theorem zip_tags (l : List α) : l.zipIdx.Pairwise fun x y => x.2 < y.2 := by
  rw [List.pairwise_iff_getElem]
  intro i j hi hj hij
  simp [List.getElem_zipIdx]; exact hij
/-- There is one such list. -/
theorem sl_unique : ∀ {l m : List (α × Nat)}, SL key l → SL key m → l.Perm m → l = m := by
  intro l
  induction l with
  | nil => intro m _ _ h; exact h.nil_eq
  | cons x l ih =>
    intro m hl hm h
    cases m with
    | nil => have := h.length_eq; simp at this
    | cons y m =>
      obtain ⟨l1, l2⟩ := List.pairwise_cons.1 hl
      obtain ⟨m1, m2⟩ := List.pairwise_cons.1 hm
      have hxy : x = y := by
        have hx : x ∈ y :: m := h.mem_iff.1 (by simp)
        have hy : y ∈ x :: l := h.mem_iff.2 (by simp)
        rcases List.mem_cons.1 hx with g | g
        · exact g
        · rcases List.mem_cons.1 hy with g' | g'
          · exact g'.symm
          · have a1 := m1 x g
            have a2 := l1 y g'
            unfold tlt at a1 a2; omega
      subst hxy
      rw [ih l2 m2 (List.Perm.cons_inv h)]
end
end Go.Proofs.YtglkgmijhdkhpaaGreatDoor
/-
  RANGES SWAPPED, A SEGMENT TURNED ROUND, AN INSERTION: plain Lean, no program.
-/
set_option linter.unusedVariables false
namespace Go.Proofs.YtglkgmijhdkhpaaGreatDoor

section
variable {α : Type}
/-- Two in a list change places. -/
def swp (l : List α) (i j : Nat) (x y : α) : List α := (l.set i y).set j x
/-- Two ranges, k of them swapped. -/
def swK (P X M Y S : List α) (k : Nat) : List α := P ++ (Y.take k ++ X.drop k) ++ M ++ (X.take k ++ Y.drop k) ++ S
theorem swK_zero (P X M Y S : List α) : swK P X M Y S 0 = P ++ X ++ M ++ Y ++ S := by simp [swK]
theorem swK_all {P X M Y S : List α} {n : Nat} (hX : X.length = n) (hY : Y.length = n) : swK P X M Y S n = P ++ Y ++ M ++ X ++ S := by
  simp [swK, ← hX]
  rw [List.take_of_length_le (by omega), List.drop_eq_nil_of_le (by omega)]; simp
theorem swK_length {P X M Y S : List α} {n k : Nat} (hX : X.length = n) (hY : Y.length = n) (hk : k ≤ n) : (swK P X M Y S k).length = (P ++ X ++ M ++ Y ++ S).length := by
  simp [swK]; omega
theorem mid_at {A B : List α} {i : Nat} {x : α} (h : A.length = i) : (A ++ x :: B)[i]? = some x := by subst h; simp
theorem mid_set {A B : List α} {i : Nat} {x y : α} (h : A.length = i) : (A ++ x :: B).set i y = A ++ y :: B := by subst h; simp
/-- The step at k: what stands there, and the list behind it. -/
theorem swK_step {P X M Y S : List α} {n k a b : Nat} (hX : X.length = n) (hY : Y.length = n) (hk : k < n) (ha : P.length = a) (hb : (P ++ X ++ M).length = b) :
    ∃ x y, X[k]? = some x ∧ Y[k]? = some y ∧ (swK P X M Y S k)[a + k]? = some x ∧ (swK P X M Y S k)[b + k]? = some y ∧ swp (swK P X M Y S k) (a + k) (b + k) x y = swK P X M Y S (k + 1) := by
  obtain ⟨x, hx⟩ : ∃ x, X[k]? = some x := ⟨_, List.getElem?_eq_getElem (by omega)⟩
  obtain ⟨y, hy⟩ : ∃ y, Y[k]? = some y := ⟨_, List.getElem?_eq_getElem (by omega)⟩
  have hxd : X.drop k = x :: X.drop (k + 1) := by
    obtain ⟨h, rfl⟩ := List.getElem?_eq_some_iff.1 hx
    exact List.drop_eq_getElem_cons h
  have hyd : Y.drop k = y :: Y.drop (k + 1) := by
    obtain ⟨h, rfl⟩ := List.getElem?_eq_some_iff.1 hy
    exact List.drop_eq_getElem_cons h
  have hxt : X.take (k + 1) = X.take k ++ [x] := by rw [List.take_add_one, hx]; rfl
  have hyt : Y.take (k + 1) = Y.take k ++ [y] := by rw [List.take_add_one, hy]; rfl
  have lt1 : (Y.take k).length = k := by rw [List.length_take]; omega
  have lt2 : (X.take k).length = k := by rw [List.length_take]; omega
  have ld1 : (X.drop (k + 1)).length = n - (k + 1) := by rw [List.length_drop, hX]
  simp only [List.length_append] at hb
  have e1 : swK P X M Y S k = (P ++ Y.take k) ++ x :: (X.drop (k + 1) ++ M ++ X.take k ++ Y.drop k ++ S) := by simp [swK, hxd]
  have e2 : swK P X M Y S k = (P ++ Y.take k ++ X.drop k ++ M ++ X.take k) ++ y :: (Y.drop (k + 1) ++ S) := by simp [swK, hyd]
  refine ⟨x, y, hx, hy, ?_, ?_, ?_⟩
  · rw [e1]; exact mid_at (by simp; omega)
  · rw [e2]; exact mid_at (by simp; omega)
  · unfold swp
    rw [e1, mid_set (by simp; omega), hyd]
    rw [show (P ++ Y.take k) ++ y :: (X.drop (k + 1) ++ M ++ X.take k ++ y :: Y.drop (k + 1) ++ S) = (P ++ Y.take k ++ [y] ++ X.drop (k + 1) ++ M ++ X.take k) ++ y :: (Y.drop (k + 1) ++ S) by simp, mid_set (by simp; omega)]
    simp [swK, hxt, hyt]

/-- The turn of a segment: D is what stands, E what is to stand; [m - i, m) and [m, m + j) are still to be turned. -/
def Rot (E : List α) (m i j : Nat) (D : List α) : Prop := ∃ P A B S, D = P ++ A ++ B ++ S ∧ E = P ++ B ++ A ++ S ∧ A.length = i ∧ B.length = j ∧ P.length + i = m
theorem rot_begin {P A B S : List α} {m b : Nat} (hA : P.length + A.length = m) (hB : m + B.length = b) : Rot (P ++ B ++ A ++ S) m (m - P.length) (b - m) (P ++ A ++ B ++ S) :=
  ⟨P, A, B, S, rfl, rfl, by omega, by omega, by omega⟩
theorem Rot.gt {E : List α} {m i j : Nat} {D : List α} (h : Rot E m i j D) (hij : j < i) : ∃ P X M Y S, D = P ++ X ++ M ++ Y ++ S ∧ P.length = m - i ∧ X.length = j ∧ Y.length = j ∧ (P ++ X ++ M).length = m ∧ Rot E m (i - j) j (P ++ Y ++ M ++ X ++ S) := by
  obtain ⟨P, A, B, S, rfl, hE, hA, hB, hP⟩ := h
  have e : A = A.take j ++ A.drop j := (List.take_append_drop j A).symm
  have l1 : (A.take j).length = j := by rw [List.length_take]; omega
  have l2 : (A.drop j).length = i - j := by rw [List.length_drop]; omega
  refine ⟨P, A.take j, A.drop j, B, S, ?_, by omega, l1, hB, by simp only [List.length_append]; omega, P ++ B, A.drop j, A.take j, S, by simp, ?_, l2, l1, by simp only [List.length_append]; omega⟩
  · conv => lhs; rw [e]
    simp
  · rw [hE]; conv => lhs; rw [e]
    simp
theorem Rot.lt {E : List α} {m i j : Nat} {D : List α} (h : Rot E m i j D) (hij : i < j) : ∃ P X M Y S, D = P ++ X ++ M ++ Y ++ S ∧ P.length = m - i ∧ X.length = i ∧ Y.length = i ∧ (P ++ X ++ M).length = m + j - i ∧ Rot E m i (j - i) (P ++ Y ++ M ++ X ++ S) := by
  obtain ⟨P, A, B, S, rfl, hE, hA, hB, hP⟩ := h
  have e : B = B.take (j - i) ++ B.drop (j - i) := (List.take_append_drop _ B).symm
  have l1 : (B.take (j - i)).length = j - i := by rw [List.length_take]; omega
  have l2 : (B.drop (j - i)).length = i := by rw [List.length_drop]; omega
  refine ⟨P, A, B.take (j - i), B.drop (j - i), S, ?_, by omega, hA, l2, by simp only [List.length_append]; omega, P, B.drop (j - i), B.take (j - i), A ++ S, by simp, ?_, l2, l1, by omega⟩
  · conv => lhs; rw [e]
    simp
  · rw [hE]; conv => lhs; rw [e]
    simp
theorem Rot.eq {E : List α} {m i : Nat} {D : List α} (h : Rot E m i i D) : ∃ P X M Y S, D = P ++ X ++ M ++ Y ++ S ∧ P.length = m - i ∧ X.length = i ∧ Y.length = i ∧ (P ++ X ++ M).length = m ∧ E = P ++ Y ++ M ++ X ++ S := by
  obtain ⟨P, A, B, S, rfl, hE, hA, hB, hP⟩ := h
  exact ⟨P, A, [], B, S, by simp, by omega, hA, hB, by simp only [List.length_append, List.length_nil]; omega, by simpa using hE⟩
theorem Rot.bound {E : List α} {m i j : Nat} {D : List α} (h : Rot E m i j D) : i ≤ m ∧ m + j ≤ D.length ∧ D.length = E.length := by
  obtain ⟨P, A, B, S, rfl, rfl, hA, hB, hP⟩ := h
  simp; omega

/-- An element goes back one place. -/
theorem back_step {P A B S : List α} {x y : α} {j : Nat} (hj : (P ++ A).length + 1 = j) :
    (P ++ (A ++ [y]) ++ x :: (B ++ S))[j]? = some x ∧ (P ++ (A ++ [y]) ++ x :: (B ++ S))[j - 1]? = some y ∧ swp (P ++ (A ++ [y]) ++ x :: (B ++ S)) j (j - 1) x y = P ++ A ++ x :: (y :: B ++ S) := by
  simp only [List.length_append] at hj
  have e1 : P ++ (A ++ [y]) ++ x :: (B ++ S) = (P ++ A) ++ y :: (x :: (B ++ S)) := by simp
  refine ⟨mid_at (by simp; omega), ?_, ?_⟩
  · rw [e1]; exact mid_at (by simp; omega)
  · unfold swp
    rw [mid_set (by simp; omega)]
    rw [show P ++ (A ++ [y]) ++ y :: (B ++ S) = (P ++ A) ++ y :: (y :: (B ++ S)) by simp, mid_set (by simp; omega)]
    simp
/-- An element goes on one place. -/
theorem on_step {P A B S : List α} {x y : α} {k : Nat} (hk : (P ++ A).length = k) :
    (P ++ A ++ x :: (y :: B ++ S))[k]? = some x ∧ (P ++ A ++ x :: (y :: B ++ S))[k + 1]? = some y ∧ swp (P ++ A ++ x :: (y :: B ++ S)) k (k + 1) x y = P ++ (A ++ [y]) ++ x :: (B ++ S) := by
  simp only [List.length_append] at hk
  have e1 : P ++ A ++ x :: (y :: B ++ S) = (P ++ A ++ [x]) ++ y :: (B ++ S) := by simp
  refine ⟨mid_at (by simp; omega), ?_, ?_⟩
  · rw [e1]; exact mid_at (by simp; omega)
  · unfold swp
    rw [mid_set (by simp; omega)]
    rw [show P ++ A ++ y :: (y :: B ++ S) = (P ++ A ++ [y]) ++ y :: (B ++ S) by simp, mid_set (by simp; omega)]
    simp
end

section
variable {α : Type} {key : α → Int}
/-- An insertion: A is sorted, x is to go in; B went behind x. -/
structure Ins (key : α → Int) (R A B : List (α × Nat)) (x : α × Nat) : Prop where
  ab : R = A ++ B
  gt : ∀ y ∈ B, key x.1 < key y.1
theorem ins_begin (R : List (α × Nat)) (x : α × Nat) : Ins key R R [] x := ⟨by simp, by simp⟩
theorem Ins.step {R A B : List (α × Nat)} {x y : α × Nat} (h : Ins key R (A ++ [y]) B x) (hlt : key x.1 < key y.1) : Ins key R A (y :: B) x := by
  refine ⟨by rw [h.ab]; simp, fun z hz => ?_⟩
  rcases List.mem_cons.1 hz with rfl | hz
  · exact hlt
  · exact h.gt z hz
theorem Ins.done {R A B : List (α × Nat)} {x : α × Nat} (h : Ins key R A B x) (hR : SL key R) (ht : TG R [x]) (hA : A = [] ∨ ∃ A' y, A = A' ++ [y] ∧ key y.1 ≤ key x.1) : SL key (A ++ x :: B) ∧ (A ++ x :: B).Perm (R ++ [x]) := by
  obtain ⟨rfl, hgt⟩ := h
  obtain ⟨s1, s2, s3⟩ := sl_append.1 hR
  constructor
  · refine sl_append.2 ⟨s1, List.pairwise_cons.2 ⟨fun y hy => tlt_of_lt (hgt y hy), s2⟩, fun a ha b hb => ?_⟩
    rcases List.mem_cons.1 hb with rfl | hb
    · refine tlt_of_le ?_ (ht a (by simp [ha]) b (by simp))
      rcases hA with rfl | ⟨A', y, rfl, hy⟩
      · simp at ha
      · rcases List.mem_append.1 ha with g | g
        · have := key_le ((sl_append.1 s1).2.2 a g y (by simp)); omega
        · simp at g; subst g; exact hy
    · exact s3 a ha b hb
  · rw [List.append_assoc, List.perm_append_left_iff]
    exact (List.perm_append_comm (l₁ := B) (l₂ := [x])).symm
/-- Sorted so far: R of the first ones of U. -/
structure InsU (key : α → Int) (U R : List (α × Nat)) (k : Nat) : Prop where
  sl : SL key R
  perm : R.Perm (U.take k)
theorem InsU.step {U R A B : List (α × Nat)} {k : Nat} {x : α × Nat} (h : InsU key U R k) (hU : U.Pairwise fun x y => x.2 < y.2) (hx : U[k]? = some x) (hI : Ins key R A B x) (hA : A = [] ∨ ∃ A' y, A = A' ++ [y] ∧ key y.1 ≤ key x.1) : InsU key U (A ++ x :: B) (k + 1) := by
  have ht : TG R [x] := by
    intro r hr y hy
    simp at hy; subst hy
    obtain ⟨i, hi⟩ := List.getElem?_of_mem (h.perm.mem_iff.1 hr)
    rw [List.getElem?_take] at hi
    split at hi
    · obtain ⟨h1, rfl⟩ := List.getElem?_eq_some_iff.1 hi
      obtain ⟨h2, rfl⟩ := List.getElem?_eq_some_iff.1 hx
      exact List.pairwise_iff_getElem.1 hU _ _ _ _ (by omega)
    · cases hi
  obtain ⟨d1, d2⟩ := hI.done h.sl ht hA
  refine ⟨d1, d2.trans ?_⟩
  rw [List.take_add_one, hx]
  exact h.perm.append_right _
theorem insU_begin {U : List (α × Nat)} (h : 0 < U.length) : InsU key U (U.take 1) 1 := by
  obtain ⟨x, U', rfl⟩ := List.exists_cons_of_length_pos h
  exact ⟨by simp [SL], by simp⟩
theorem insU_all {U R : List (α × Nat)} {k : Nat} (h : InsU key U R k) (hk : k = U.length) : SL key R ∧ R.Perm U := by
  subst hk
  exact ⟨h.sl, by simpa using h.perm⟩
end
end Go.Proofs.YtglkgmijhdkhpaaGreatDoor
/-
  BOOKS AS LISTS: plain Lean, no program.
-/
set_option linter.unusedVariables false
namespace Go.Proofs.YtglkgmijhdkhpaaGreatDoor

def i64Row (x : Int) : List Value := [.int .i64 x]

structure Bk where
  who : Int
  next : Int
  mat : Int
  piece : Int

def bkRow (b : Bk) : List Value := [.int .i64 b.who, .int .i64 b.next, .int .i64 b.mat, .int .i64 b.piece]
theorem bkRow_length (b : Bk) : (bkRow b).length = 4 := rfl
theorem bkRow_one (b : Bk) : ∀ u ∈ bkRow b, u.oneCell' = true := by
  intro u hu; simp [bkRow] at hu; rcases hu with rfl | rfl | rfl | rfl <;> rfl

/-- The first book of someone: its place, and it. -/
def idxNat (who : Int) : List Bk → Option Nat
  | [] => none
  | b :: l => if b.who = who then some 0 else (idxNat who l).map (· + 1)
def idxOf (l : List Bk) (who : Int) : Int := match idxNat who l with | some i => (i : Int) | none => -1
def findBk (l : List Bk) (who : Int) : Option Bk := l.find? fun b => decide (b.who = who)
def hasBk (l : List Bk) (who : Int) : Bool := (findBk l who).isSome

def NoneTo (l : List Bk) (who : Int) (k : Nat) : Prop := ∀ i x, i < k → l[i]? = some x → x.who ≠ who
theorem noneTo_zero {l : List Bk} {who : Int} : NoneTo l who 0 := fun i x h => absurd h (Nat.not_lt_zero _)
theorem noneTo_succ {l : List Bk} {who : Int} {k : Nat} {x : Bk} (h : NoneTo l who k) (hx : l[k]? = some x) (hne : x.who ≠ who) : NoneTo l who (k + 1) := by
  intro i y hi hy
  rcases Nat.lt_or_ge i k with h' | h'
  · exact h i y h' hy
  · have : i = k := by omega
    subst this; rw [hx] at hy; cases hy; exact hne
theorem idxNat_found : ∀ {l : List Bk} {who : Int} {k : Nat} {x : Bk}, NoneTo l who k → l[k]? = some x → x.who = who → idxNat who l = some k ∧ findBk l who = some x := by
  intro l
  induction l with
  | nil => intro who k x _ h; simp at h
  | cons b l ih =>
    intro who k x hno hx hw
    cases k with
    | zero => simp at hx; subst hx; simp [idxNat, findBk, hw]
    | succ k =>
      have hb : b.who ≠ who := hno 0 b (by omega) (by simp)
      have := ih (k := k) (fun i y hi hy => hno (i + 1) y (by omega) (by simpa using hy)) (by simpa using hx) hw
      simp only [findBk] at this
      simp [idxNat, findBk, hb, this.1, this.2]
theorem idxNat_none : ∀ {l : List Bk} {who : Int}, NoneTo l who l.length → idxNat who l = none ∧ findBk l who = none := by
  intro l
  induction l with
  | nil => intro who _; simp [idxNat, findBk]
  | cons b l ih =>
    intro who hno
    have hb : b.who ≠ who := hno 0 b (by simp) (by simp)
    have := ih (who := who) (fun i y hi hy => hno (i + 1) y (by simp; omega) (by simpa using hy))
    simp only [findBk] at this
    simp [idxNat, findBk, hb, this.1, this.2]
theorem idxOf_found {l : List Bk} {who : Int} {k : Nat} {x : Bk} (h : NoneTo l who k) (hx : l[k]? = some x) (hw : (x.who == who) = true) : idxOf l who = k := by
  simp [idxOf, (idxNat_found h hx (by simpa using hw)).1]
theorem idxOf_none {l : List Bk} {who : Int} (h : NoneTo l who l.length) : idxOf l who = -1 := by
  simp [idxOf, (idxNat_none h).1]
/-- One of two: there is one, at a place; there is none. -/
theorem idxOf_cases (l : List Bk) (who : Int) : (∃ (k : Nat) (x : Bk), k < l.length ∧ l[k]? = some x ∧ x.who = who ∧ idxOf l who = (k : Int) ∧ findBk l who = some x ∧ NoneTo l who k) ∨ (idxOf l who = -1 ∧ findBk l who = none) := by
  by_cases h : NoneTo l who l.length
  · exact .inr ⟨idxOf_none h, (idxNat_none h).2⟩
  · left
    suffices hs : ∀ n, n ≤ l.length → ¬ NoneTo l who n → ∃ k x, k < l.length ∧ l[k]? = some x ∧ x.who = who ∧ NoneTo l who k by
      obtain ⟨k, x, hk, hx, hw, hn⟩ := hs _ (Nat.le_refl _) h
      exact ⟨k, x, hk, hx, hw, idxOf_found hn hx (by simpa using hw), (idxNat_found hn hx hw).2, hn⟩
    intro n
    induction n with
    | zero => intro _ h; exact absurd noneTo_zero h
    | succ n ih =>
      intro hn h
      by_cases h' : NoneTo l who n
      · have hx : l[n]? = some l[n] := List.getElem?_eq_getElem (by omega)
        by_cases hw : (l[n]'(by omega)).who = who
        · exact ⟨n, _, by omega, hx, hw, h'⟩
        · exact absurd (noneTo_succ h' hx hw) h
      · exact ih (by omega) h'

theorem drop_at {α : Type} {l : List α} {k : Nat} {x : α} (h : l[k]? = some x) : l.drop k = x :: l.drop (k + 1) := by
  obtain ⟨hk, rfl⟩ := List.getElem?_eq_some_iff.1 h
  exact List.drop_eq_getElem_cons hk
theorem take_at {α : Type} {l : List α} {k : Nat} {x : α} (h : l[k]? = some x) : l.take (k + 1) = l.take k ++ [x] := by
  rw [List.take_add_one, h]; rfl

theorem List.set_eq_of_getElem? {α : Type} {l : List α} {k : Nat} {x : α} (h : l[k]? = some x) : l.set k x = l := by
  obtain ⟨hk, rfl⟩ := List.getElem?_eq_some_iff.1 h
  exact List.set_getElem_self hk
/-- Members that are right (entry.Right). -/
def memFrom (p : Int) : List Int → Bool
  | [] => true
  | m :: l => decide (1 ≤ m ∧ m ≤ 7 ∧ p < m) && memFrom m l
def memRight (l : List Int) : Bool := memFrom 0 l && !l.isEmpty

/-- Books that are right. -/
def okBk (p : Int) (b : Bk) : Bool := decide (p < b.who ∧ 1 ≤ b.who ∧ b.who ≤ 7 ∧ 0 ≤ b.mat ∧ b.mat ≤ 1099511627776 ∧ b.mat + 1 ≤ b.next ∧ b.next ≤ 1099511627777 ∧ 0 ≤ b.piece ∧ b.piece ≤ 48)
def bksFrom (p : Int) : List Bk → Bool
  | [] => true
  | b :: l => okBk p b && bksFrom b.who l
def bksRight (l : List Bk) : Bool := bksFrom 0 l

/-- Keep, Begin. -/
def keptBk (l : List Bk) (last who : Int) : Bk := (findBk l who).getD ⟨who, last + 1, 0, 0⟩
def keepBks (l : List Bk) (ms : List Int) (self last : Int) : List Bk := (ms.filter fun m => decide (m ≠ self)).map (keptBk l last)
theorem keepBks_skip {l : List Bk} {ms : List Int} {self last : Int} {k : Nat} {m : Int} (h : ms[k]? = some m) (hm : m = self) : keepBks l (ms.take (k + 1)) self last = keepBks l (ms.take k) self last := by
  rw [take_at h]; simp [keepBks, hm]
theorem keepBks_more {l : List Bk} {ms : List Int} {self last : Int} {k : Nat} {m : Int} (h : ms[k]? = some m) (hm : m ≠ self) : keepBks l (ms.take (k + 1)) self last = keepBks l (ms.take k) self last ++ [keptBk l last m] := by
  rw [take_at h]; simp [keepBks, hm]
theorem keepBks_le (l : List Bk) (ms : List Int) (self last : Int) : (keepBks l ms self last).length ≤ ms.length := by
  simp only [keepBks, List.length_map]; exact List.length_filter_le _ _

/-- What an ack, a got makes of a book. -/
def hasMatch (m index : Int) : Int := if index ≤ 1099511627776 then max m index else m
def yesBk (b : Bk) (index : Int) : Bk := ⟨b.who, max b.next (hasMatch b.mat index + 1), hasMatch b.mat index, b.piece⟩
def noBk (b : Bk) (index : Int) : Bk := ⟨b.who, max (if index < b.next - 1 then index + 1 else b.next) (b.mat + 1), b.mat, b.piece⟩
def ackBk (b : Bk) (index : Int) (yes : Bool) : Bk := if yes then yesBk b index else noBk b index
def gotBk (b : Bk) (index piece : Int) (yes : Bool) : Bk :=
  if yes then { yesBk b index with piece := 0 } else if 0 ≤ piece ∧ piece ≤ 48 then { b with piece := piece } else b
def turnBks (who : Int) (f : Bk → Bk) : List Bk → List Bk
  | [] => []
  | b :: l => if b.who = who then f b :: l else b :: turnBks who f l
def ackBks (l : List Bk) (who index : Int) (yes : Bool) : List Bk := turnBks who (ackBk · index yes) l
def gotBks (l : List Bk) (who index piece : Int) (yes : Bool) : List Bk := turnBks who (gotBk · index piece yes) l
theorem turnBks_set : ∀ {l : List Bk} {who : Int} {f : Bk → Bk} {k : Nat} {x : Bk}, NoneTo l who k → l[k]? = some x → x.who = who → turnBks who f l = l.set k (f x) := by
  intro l
  induction l with
  | nil => intro who f k x _ h; simp at h
  | cons b l ih =>
    intro who f k x hno hx hw
    cases k with
    | zero => simp at hx; subst hx; simp [turnBks, hw]
    | succ k =>
      have hb : b.who ≠ who := hno 0 b (by omega) (by simp)
      have := ih (f := f) (k := k) (fun i y hi hy => hno (i + 1) y (by omega) (by simpa using hy)) (by simpa using hx) hw
      simp [turnBks, hb, this]
theorem turnBks_none : ∀ {l : List Bk} {who : Int} {f : Bk → Bk}, findBk l who = none → turnBks who f l = l := by
  intro l
  induction l with
  | nil => intro who f _; rfl
  | cons b l ih =>
    intro who f h
    by_cases hb : b.who = who
    · simp [findBk, hb] at h
    · have : findBk l who = none := by simpa [findBk, hb] using h
      simp [turnBks, hb, ih this]
end Go.Proofs.YtglkgmijhdkhpaaGreatDoor
