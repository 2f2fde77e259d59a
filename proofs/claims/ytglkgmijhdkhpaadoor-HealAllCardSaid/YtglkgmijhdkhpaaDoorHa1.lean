/-
  A STABLE SORT BY BLOCKS AND MERGES IN PLACE: plain Lean, no program.
-/
import Derived.WalkKit
set_option linter.unusedVariables false
namespace Go.Proofs.YtglkgmijhdkhpaaDoor

section
variable {α : Type} (key : α → Int)
/-- The order of a key, and then of where it stood. -/
def tlt (x y : α × Nat) : Prop := key x.1 < key y.1 ∨ (key x.1 = key y.1 ∧ x.2 < y.2)
variable {key}
theorem tlt_trans {x y z : α × Nat} (h : tlt key x y) (h' : tlt key y z) : tlt key x z := by unfold tlt at *; omega
def SL (key : α → Int) (l : List (α × Nat)) : Prop := l.Pairwise (tlt key)
/-- All of one stood ahead of all of the other. -/
def TG (U V : List (α × Nat)) : Prop := ∀ u ∈ U, ∀ v ∈ V, u.2 < v.2
structure Mrg (key : α → Int) (U V R : List (α × Nat)) : Prop where
  perm : R.Perm (U ++ V)
  sl : SL key R
theorem Mrg.len {U V R : List (α × Nat)} (h : Mrg key U V R) : R.length = U.length + V.length := by rw [h.perm.length_eq, List.length_append]
theorem TG.left {U V U' : List (α × Nat)} (h : TG U V) (hs : ∀ x ∈ U', x ∈ U) : TG U' V := fun u hu v hv => h u (hs u hu) v hv
theorem TG.right {U V V' : List (α × Nat)} (h : TG U V) (hs : ∀ x ∈ V', x ∈ V) : TG U V' := fun u hu v hv => h u hu v (hs v hv)
theorem sl_append {U V : List (α × Nat)} : SL key (U ++ V) ↔ SL key U ∧ SL key V ∧ ∀ u ∈ U, ∀ v ∈ V, tlt key u v := List.pairwise_append
theorem mrg_nil_left (V : List (α × Nat)) (h : SL key V) : Mrg key [] V V := ⟨by simp, h⟩
theorem mrg_nil_right (U : List (α × Nat)) (h : SL key U) : Mrg key U [] U := ⟨by simp, h⟩
/-- Cut where they cross. -/
theorem mrg_cut {U1 U2 V1 V2 R1 R2 : List (α × Nat)} (hU : SL key (U1 ++ U2)) (hV : SL key (V1 ++ V2)) (h12 : ∀ u ∈ U1, ∀ v ∈ V2, tlt key u v) (h21 : ∀ v ∈ V1, ∀ u ∈ U2, tlt key v u)
    (h1 : Mrg key U1 V1 R1) (h2 : Mrg key U2 V2 R2) : Mrg key (U1 ++ U2) (V1 ++ V2) (R1 ++ R2) := by
  obtain ⟨a1, a2, a3⟩ := sl_append.1 hU
  obtain ⟨b1, b2, b3⟩ := sl_append.1 hV
  refine ⟨?_, sl_append.2 ⟨h1.sl, h2.sl, fun x hx y hy => ?_⟩⟩
  · refine (h1.perm.append h2.perm).trans ?_
    rw [List.append_assoc, List.append_assoc, List.perm_append_left_iff, ← List.append_assoc, ← List.append_assoc, List.perm_append_right_iff]
    exact List.perm_append_comm
  · rcases List.mem_append.1 (h1.perm.mem_iff.1 hx) with h3 | h3 <;> rcases List.mem_append.1 (h2.perm.mem_iff.1 hy) with h4 | h4
    · exact a3 x h3 y h4
    · exact h12 x h3 y h4
    · exact h21 x h3 y h4
    · exact b3 x h3 y h4
/-- The order in a sorted list, by the places. -/
theorem sl_at {l : List (α × Nat)} (h : SL key l) {i j : Nat} {x y : α × Nat} (hx : l[i]? = some x) (hy : l[j]? = some y) (hij : i < j) : tlt key x y := by
  obtain ⟨hi, rfl⟩ := List.getElem?_eq_some_iff.1 hx
  obtain ⟨hj, rfl⟩ := List.getElem?_eq_some_iff.1 hy
  exact List.pairwise_iff_getElem.1 h i j hi hj hij
theorem sl_take {l : List (α × Nat)} (h : SL key l) (k : Nat) : SL key (l.take k) := h.sublist (List.take_sublist k l)
theorem sl_drop {l : List (α × Nat)} (h : SL key l) (k : Nat) : SL key (l.drop k) := h.sublist (List.drop_sublist k l)
theorem key_le {x y : α × Nat} (h : tlt key x y) : key x.1 ≤ key y.1 := by unfold tlt at h; omega
theorem tlt_of_le {x y : α × Nat} (h : key x.1 ≤ key y.1) (ht : x.2 < y.2) : tlt key x y := by unfold tlt; omega
theorem tlt_of_lt {x y : α × Nat} (h : key x.1 < key y.1) : tlt key x y := .inl h

/-- Where both cross: c of U go ahead, s of V go behind. -/
theorem cross_cut {U V : List (α × Nat)} (hU : SL key U) (hV : SL key V) (ht : TG U V) {c d : Nat}
    (h1 : c = 0 ∨ d = V.length ∨ ∃ u v, U[c - 1]? = some u ∧ V[d]? = some v ∧ key u.1 ≤ key v.1)
    (h2 : c = U.length ∨ d = 0 ∨ ∃ u v, U[c]? = some u ∧ V[d - 1]? = some v ∧ key v.1 < key u.1) (hc : c ≤ U.length) (hd : d ≤ V.length) :
    (∀ u ∈ U.take c, ∀ v ∈ V.drop d, tlt key u v) ∧ (∀ v ∈ V.take d, ∀ u ∈ U.drop c, tlt key v u) := by
  constructor
  · intro u hu v hv
    obtain ⟨i, hi⟩ := List.getElem?_of_mem hu
    obtain ⟨j, hj⟩ := List.getElem?_of_mem hv
    rw [List.getElem?_take] at hi
    split at hi
    · rename_i hic
      rw [List.getElem?_drop] at hj
      have hjl := (List.getElem?_eq_some_iff.1 hj).1
      rcases h1 with h1 | h1 | ⟨u', v', e1, e2, hle⟩
      · omega
      · omega
      · have k1 : key u.1 ≤ key u'.1 := by
          rcases Nat.lt_or_ge i (c - 1) with g | g
          · exact key_le (sl_at hU hi e1 g)
          · rw [show i = c - 1 by omega, e1] at hi; cases hi; exact Int.le_refl _
        have k2 : key v'.1 ≤ key v.1 := by
          rcases Nat.eq_zero_or_pos j with g | g
          · subst g; rw [Nat.add_zero, e2] at hj; cases hj; exact Int.le_refl _
          · exact key_le (sl_at hV e2 hj (by omega))
        exact tlt_of_le (by omega) (ht u (List.mem_of_getElem? hi) v (List.mem_of_getElem? hj))
    · cases hi
  · intro v hv u hu
    obtain ⟨i, hi⟩ := List.getElem?_of_mem hu
    obtain ⟨j, hj⟩ := List.getElem?_of_mem hv
    rw [List.getElem?_take] at hj
    split at hj
    · rename_i hjd
      rw [List.getElem?_drop] at hi
      have hil := (List.getElem?_eq_some_iff.1 hi).1
      rcases h2 with h2 | h2 | ⟨u', v', e1, e2, hle⟩
      · omega
      · omega
      · have k1 : key u'.1 ≤ key u.1 := by
          rcases Nat.eq_zero_or_pos i with g | g
          · subst g; rw [Nat.add_zero, e1] at hi; cases hi; exact Int.le_refl _
          · exact key_le (sl_at hU e1 hi (by omega))
        have k2 : key v.1 ≤ key v'.1 := by
          rcases Nat.lt_or_ge j (d - 1) with g | g
          · exact key_le (sl_at hV hj e2 g)
          · rw [show j = d - 1 by omega, e2] at hj; cases hj; exact Int.le_refl _
        exact tlt_of_lt (by omega)
    · cases hj
/-- One alone, put in where it belongs: ahead of all. -/
theorem mrg_one_left {x : α × Nat} {V : List (α × Nat)} (hV : SL key V) (ht : TG [x] V) {d : Nat} (hd : d ≤ V.length)
    (h1 : ∀ j v, j < d → V[j]? = some v → key v.1 < key x.1) (h2 : ∀ j v, d ≤ j → V[j]? = some v → key x.1 ≤ key v.1) : Mrg key [x] V (V.take d ++ [x] ++ V.drop d) := by
  have e : V = V.take d ++ V.drop d := (List.take_append_drop d V).symm
  have hU : SL key ([x] ++ []) := by simp [SL]
  have g1 : ∀ u ∈ [x], ∀ v ∈ V.drop d, tlt key u v := by
    intro u hu v hv
    obtain ⟨j, hj⟩ := List.getElem?_of_mem hv
    rw [List.getElem?_drop] at hj
    have h3 := h2 (d + j) v (by omega) hj
    have h4 := ht u hu v (List.mem_of_getElem? hj)
    simp at hu; subst hu
    exact tlt_of_le h3 h4
  refine ⟨?_, ?_⟩
  · conv => rhs; rw [e]
    rw [← List.append_assoc, List.perm_append_right_iff]
    exact List.perm_append_comm
  · refine sl_append.2 ⟨sl_append.2 ⟨sl_take hV d, by simp [SL], fun v hv u hu => ?_⟩, sl_drop hV d, fun u hu v hv => ?_⟩
    · obtain ⟨j, hj⟩ := List.getElem?_of_mem hv
      rw [List.getElem?_take] at hj
      split at hj
      · simp at hu; subst hu; exact tlt_of_lt (h1 j v (by omega) hj)
      · cases hj
    · rcases List.mem_append.1 hu with h3 | h3
      · rw [e] at hV; exact (sl_append.1 hV).2.2 u h3 v hv
      · exact g1 u h3 v hv
theorem mrg_one_right {y : α × Nat} {U : List (α × Nat)} (hU : SL key U) (ht : TG U [y]) {c : Nat} (hc : c ≤ U.length)
    (h1 : ∀ j u, j < c → U[j]? = some u → key u.1 ≤ key y.1) (h2 : ∀ j u, c ≤ j → U[j]? = some u → key y.1 < key u.1) : Mrg key U [y] (U.take c ++ [y] ++ U.drop c) := by
  have e : U = U.take c ++ U.drop c := (List.take_append_drop c U).symm
  refine ⟨?_, ?_⟩
  · conv => rhs; rw [e]
    rw [List.append_assoc, List.append_assoc, List.perm_append_left_iff]
    exact List.perm_append_comm
  · refine sl_append.2 ⟨sl_append.2 ⟨sl_take hU c, by simp [SL], fun u hu v hv => ?_⟩, sl_drop hU c, fun u hu v hv => ?_⟩
    · obtain ⟨j, hj⟩ := List.getElem?_of_mem hu
      rw [List.getElem?_take] at hj
      split at hj
      · have h4 := ht u (List.mem_of_getElem? hj) v hv
        simp at hv; subst hv; exact tlt_of_le (h1 j u (by omega) hj) h4
      · cases hj
    · obtain ⟨j, hj⟩ := List.getElem?_of_mem hv
      rw [List.getElem?_drop] at hj
      rcases List.mem_append.1 hu with h3 | h3
      · rw [e] at hU; exact (sl_append.1 hU).2.2 u h3 v hv
      · simp at h3; subst h3; exact tlt_of_lt (h2 _ v (by omega) hj)

/-- Blocks: all of s, but for the last, which has fewer. -/
structure Chk (key : α → Int) (s : Nat) (cs : List (List (α × Nat))) (last : List (α × Nat)) : Prop where
  each : ∀ c ∈ cs, c.length = s ∧ SL key c
  sl : SL key last
  less : last.length < s
  tags : (cs ++ [last]).Pairwise TG
/-- Between: blocks of 2 s, then blocks of s. -/
structure Half (key : α → Int) (s : Nat) (done cs : List (List (α × Nat))) (last : List (α × Nat)) : Prop where
  big : ∀ c ∈ done, c.length = 2 * s ∧ SL key c
  each : ∀ c ∈ cs, c.length = s ∧ SL key c
  sl : SL key last
  less : last.length < s
  tags : (done ++ (cs ++ [last])).Pairwise TG
theorem Chk.half {s : Nat} {cs : List (List (α × Nat))} {last : List (α × Nat)} (h : Chk key s cs last) : Half key s [] cs last := ⟨by simp, h.each, h.sl, h.less, by simpa using h.tags⟩
theorem tg_mrg_left {U V R W : List (α × Nat)} (h : R.Perm (U ++ V)) (h1 : TG U W) (h2 : TG V W) : TG R W := fun r hr w hw => by
  rcases List.mem_append.1 (h.mem_iff.1 hr) with g | g
  · exact h1 r g w hw
  · exact h2 r g w hw
theorem tg_mrg_right {U V R W : List (α × Nat)} (h : R.Perm (U ++ V)) (h1 : TG W U) (h2 : TG W V) : TG W R := fun w hw r hr => by
  rcases List.mem_append.1 (h.mem_iff.1 hr) with g | g
  · exact h1 w hw r g
  · exact h2 w hw r g
theorem tags_merge {A B : List (List (α × Nat))} {U V R : List (α × Nat)} (h : (A ++ U :: V :: B).Pairwise TG) (hp : R.Perm (U ++ V)) : (A ++ R :: B).Pairwise TG := by
  rw [List.pairwise_append, List.pairwise_cons, List.pairwise_cons] at h
  obtain ⟨h1, ⟨h2, h3, h4⟩, h5⟩ := h
  rw [List.pairwise_append, List.pairwise_cons]
  refine ⟨h1, ⟨fun w hw => tg_mrg_left hp (h2 w (List.mem_cons_of_mem _ hw)) (h3 w hw), h4⟩, fun a ha r hr => ?_⟩
  rcases List.mem_cons.1 hr with rfl | hr
  · exact tg_mrg_right hp (h5 a ha U (by simp)) (h5 a ha V (by simp))
  · exact h5 a ha r (by simp [hr])
theorem Half.step {s : Nat} {done cs : List (List (α × Nat))} {last U V R : List (α × Nat)} (h : Half key s done (U :: V :: cs) last) (hR : Mrg key U V R) : Half key s (done ++ [R]) cs last := by
  refine ⟨fun c hc => ?_, fun c hc => h.each c (by simp [hc]), h.sl, h.less, ?_⟩
  · rcases List.mem_append.1 hc with g | g
    · exact h.big c g
    · simp at g; subst g
      refine ⟨?_, hR.sl⟩
      rw [hR.len, (h.each U (by simp)).1, (h.each V (by simp)).1]; omega
  · have := tags_merge (by simpa using h.tags) hR.perm
    simpa using this
theorem Half.tg {s : Nat} {done cs : List (List (α × Nat))} {last U V : List (α × Nat)} (h : Half key s done (U :: V :: cs) last) : TG U V := by
  have := h.tags
  simp only [List.cons_append] at this
  exact (List.pairwise_cons.1 (List.pairwise_append.1 this).2.1).1 V (by simp)
theorem Half.tg_last {s : Nat} {done : List (List (α × Nat))} {last U : List (α × Nat)} (h : Half key s done [U] last) : TG U last := by
  have := h.tags
  exact (List.pairwise_cons.1 (List.pairwise_append.1 this).2.1).1 last (by simp)
/-- The ends: one block and a rest that is not empty; one block and none; a rest alone. -/
theorem Half.end2 {s : Nat} {done : List (List (α × Nat))} {last U R : List (α × Nat)} (h : Half key s done [U] last) (hR : Mrg key U last R) : Chk key (2 * s) done R := by
  have h1 := (h.each U (by simp)).1
  have h2 := h.less
  refine ⟨h.big, hR.sl, by rw [hR.len]; omega, ?_⟩
  have := tags_merge (B := []) (by simpa using h.tags) hR.perm
  simpa using this
theorem Half.end1 {s : Nat} {done : List (List (α × Nat))} {U : List (α × Nat)} (h : Half key s done [U] []) : Chk key (2 * s) done U := h.end2 (mrg_nil_right U (h.each U (by simp)).2)
theorem Half.end0 {s : Nat} {done : List (List (α × Nat))} {last : List (α × Nat)} (h : Half key s done [] last) : Chk key (2 * s) done last := ⟨h.big, h.sl, by have := h.less; omega, by simpa using h.tags⟩
theorem flat_len {s : Nat} : ∀ {cs : List (List (α × Nat))}, (∀ c ∈ cs, c.length = s) → cs.flatten.length = cs.length * s := by
  intro cs
  induction cs with
  | nil => intro _; simp
  | cons c cs ih =>
    intro h
    rw [List.flatten_cons, List.length_append, ih fun d hd => h d (by simp [hd]), h c (by simp), List.length_cons, Nat.succ_mul]; omega
theorem Chk.done {s : Nat} {cs : List (List (α × Nat))} {last : List (α × Nat)} (h : Chk key s cs last) (hn : (cs.flatten ++ last).length ≤ s) : SL key (cs.flatten ++ last) := by
  rw [List.length_append, flat_len fun c hc => (h.each c hc).1] at hn
  have hs := h.less
  match cs, h, hn with
  | [], h, _ => simpa using h.sl
  | [c], h, hn =>
    have hl : last = [] := List.eq_nil_of_length_eq_zero (by simp at hn; omega)
    subst hl
    simpa using (h.each c (by simp)).2
  | c :: d :: cs, h, hn =>
    exfalso
    simp only [List.length_cons, Nat.succ_mul] at hn
    omega
/-- What stands where, as the sort begins. -/
theorem zip_tags (l : List α) : l.zipIdx.Pairwise fun x y => x.2 < y.2 := by
  rw [List.pairwise_iff_getElem]
  intro i j hi hj hij
  simp [List.getElem_zipIdx]; exact hij
/-- There is one such list. -/
theorem sl_unique : ∀ {l m : List (α × Nat)}, SL key l → SL key m → l.Perm m → l = m := by
  intro l
  induction l with
  | nil => intro m _ _ h; exact h.nil_eq
  | cons x l ih =>
    intro m hl hm h
    cases m with
    | nil => have := h.length_eq; simp at this
    | cons y m =>
      obtain ⟨l1, l2⟩ := List.pairwise_cons.1 hl
      obtain ⟨m1, m2⟩ := List.pairwise_cons.1 hm
      have hxy : x = y := by
        have hx : x ∈ y :: m := h.mem_iff.1 (by simp)
        have hy : y ∈ x :: l := h.mem_iff.2 (by simp)
        rcases List.mem_cons.1 hx with g | g
        · exact g
        · rcases List.mem_cons.1 hy with g' | g'
          · exact g'.symm
          · have a1 := m1 x g
            have a2 := l1 y g'
            unfold tlt at a1 a2; omega
      subst hxy
      rw [ih l2 m2 (List.Perm.cons_inv h)]
end
end Go.Proofs.YtglkgmijhdkhpaaDoor
