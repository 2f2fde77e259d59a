/-
  Merged: ApartMath, Ent7.
-/
import Derived.Test.YtglkgmijhdkhpaaGreatDoorHt9
import Derived.Test.YtglkgmijhdkhpaaGreatDoorHt5
/-
  LISTS THAT LIE APART: families of slices, each with blocks of its own. World lemmas that name no program.
-/
set_option linter.unusedVariables false
namespace Go.Proofs.YtglkgmijhdkhpaaGreatDoor
open Go.RowKit

def nilS : Value := .slice none 0 0
/-- A function turned at one place. -/
def upd {β : Type} (f : Nat → β) (k : Nat) (x : β) : Nat → β := fun j => if j = k then x else f j
theorem upd_same {β : Type} (f : Nat → β) (k : Nat) (x : β) : upd f k x k = x := by simp [upd]
theorem upd_other {β : Type} (f : Nat → β) {k j : Nat} (x : β) (h : j ≠ k) : upd f k x j = f j := by simp [upd, h]

section
variable {α : Type} {k : Nat} {row : α → List Value} {e : TypeId} {base : Nat} {w w' : World}

/-- The block of a slice that has room. -/
def blkH : Value → Option Nat
  | .slice (some a) _ c => if c = 0 then none else some a.block
  | _ => none
theorem blkH_nil : blkH nilS = none := rfl
theorem blkH_room {g o n c : Nat} (h : c ≠ 0) : blkH (.slice (some ⟨g, o, none⟩) n c) = some g := by simp [blkH, h]
theorem blkH_none {A : Option Addr} {n : Nat} : blkH (.slice A n 0) = none := by cases A <;> simp [blkH]
theorem blkH_own {v : Value} {x : Nat} (h : blkH v = some x) : v.ownBlock = some x := by
  cases v <;> simp [blkH] at h
  rename_i A n c
  cases A with
  | none => simp at h
  | some a =>
    simp only at h
    by_cases hc : c = 0
    · simp [hc] at h
    · rw [if_neg hc] at h; exact h
/-- An owned slice; or one without room, wherever it lies. -/
def OwnH (k : Nat) (row : α → List Value) (e : TypeId) (base : Nat) (w : World) (v : Value) (l : List α) : Prop := Own k row e base w v l ∨ ∃ A, v = .slice (some A) 0 0 ∧ l = []
/-- Is a block one of a family's? -/
def InFam (V G : Nat → Value) (j x : Nat) : Prop := blkH (V j) = some x ∨ blkH (G j) = some x
/-- Families 0 .. n - 1: V j reads L j, G j reads M j; where both lie in one block, the one is the other's begin; no block is in two families; none is one of those that are kept out. -/
structure Fams (k : Nat) (row : α → List Value) (e : TypeId) (base : Nat) (out : List Nat) (n : Nat) (w : World) (V G : Nat → Value) (L M : Nat → List α) : Prop where
  v : ∀ j, j < n → OwnH k row e base w (V j) (L j)
  g : ∀ j, j < n → OwnH k row e base w (G j) (M j)
  pre : ∀ j, j < n → ∀ x, blkH (V j) = some x → blkH (G j) = some x → ∃ r, M j = L j ++ r
  far : ∀ i j, i < n → j < n → i ≠ j → ∀ x, InFam V G i x → ¬ InFam V G j x
  out : ∀ j, j < n → ∀ x, InFam V G j x → x ∉ out

theorem Own.block {v : Value} {l : List α} {x : Nat} (h : Own k row e base w v l) (hx : v.ownBlock = some x) : base ≤ x ∧ x < w.heap.size := World.ownsRow.lt h x hx
/-- What is owned stays, where its block does. -/
theorem Own.stay {v : Value} {l : List α} (h : Own k row e base w v l) (hb : ∀ x, v.ownBlock = some x → w'.heap[x]? = w.heap[x]?) : Own k row e base w' v l := by
  refine ⟨h.1, ?_⟩
  rcases h.2 with ⟨hv, h0⟩ | ⟨g, cap, cur, rfl, hg, hh, r⟩
  · exact .inl ⟨hv, h0⟩
  · exact .inr ⟨g, cap, cur, rfl, hg, (hb g rfl).trans hh, r⟩
/-- Two owned slices of one block have the same room. -/
theorem Own.cap_eq {l l' : List α} {x n c n' c' : Nat} (hk : 0 < k) (h : Own k row e base w (.slice (some ⟨x, 0, none⟩) n c) l) (h' : Own k row e base w (.slice (some ⟨x, 0, none⟩) n' c') l') : c = c' := by
  rcases h.2 with ⟨hv, _⟩ | ⟨g, cap, cur, hv, _, hh, _, _, hs, _⟩
  · simp at hv
  · rcases h'.2 with ⟨hv', _⟩ | ⟨g', cap', cur', hv', _, hh', _, _, hs', _⟩
    · simp at hv'
    · simp only [Value.slice.injEq, Option.some.injEq, Addr.mk.injEq, and_true] at hv hv'
      obtain ⟨rfl, _, rfl⟩ := hv
      obtain ⟨rfl, _, rfl⟩ := hv'
      rw [hh] at hh'
      simp only [Option.some.injEq, Obj.cells.injEq, and_true] at hh'
      rw [← hh', hs] at hs'
      exact Nat.eq_of_mul_eq_mul_right hk hs'
/-- The begin of an owned slice. -/
theorem Own.begin_ (hrow : ∀ x, (row x).length = k) {x n m c : Nat} {l r : List α} (h : Own k row e base w (.slice (some ⟨x, 0, none⟩) n c) (l ++ r)) (hm : m = l.length) : Own k row e base w (.slice (some ⟨x, 0, none⟩) m c) l := by
  subst hm
  rcases h.2 with ⟨hv, _⟩ | ⟨g, cap, cur, hv, hg, hh, h1, h2, h3, h4⟩
  · simp at hv
  · simp only [Value.slice.injEq, Option.some.injEq, Addr.mk.injEq, and_true] at hv
    obtain ⟨rfl, _, rfl⟩ := hv
    have hfl := flat_length hrow l
    refine ⟨hfl, .inr ⟨x, c, cur, rfl, hg, hh, by rw [List.length_append] at h1; omega, h2, h3, ?_⟩⟩
    have e1 : (cur.toList.take ((l ++ r).length * k)).take (l.length * k) = cur.toList.take (l.length * k) := by
      rw [List.take_take, Nat.min_eq_left (Nat.mul_le_mul_right _ (by rw [List.length_append]; omega))]
    rw [← e1, h4, List.flatMap_append, ← hfl, List.take_left]
theorem Own.len {v : Value} {l : List α} (h : Own k row e base w v l) : ∃ A c, v = .slice A l.length c := by
  rcases h.2 with ⟨hv, h0⟩ | ⟨g, cap, cur, hv, _⟩
  · exact ⟨none, 0, by rw [hv, h0]⟩
  · exact ⟨_, _, hv⟩
theorem Own.spot {v : Value} {l : List α} {x : Nat} (h : Own k row e base w v l) (hx : v.ownBlock = some x) : ∃ c, v = .slice (some ⟨x, 0, none⟩) l.length c := by
  rcases h.2 with ⟨hv, h0⟩ | ⟨g, cap, cur, hv, _⟩
  · rw [hv] at hx; simp [Value.ownBlock] at hx
  · rw [hv] at hx
    have : g = x := by simpa [Value.ownBlock] using hx
    subst this; exact ⟨cap, hv⟩


theorem Own.h {v : Value} {l : List α} (h : Own k row e base w v l) : OwnH k row e base w v l := .inl h
theorem OwnH.nil_ (k : Nat) (row : α → List Value) (e : TypeId) (base : Nat) (w : World) : OwnH k row e base w nilS [] := .inl (Own.nil_ _ _ _ _ _)
theorem OwnH.len {v : Value} {l : List α} (h : OwnH k row e base w v l) : ∃ A c, v = .slice A l.length c := by
  rcases h with h | ⟨A, rfl, rfl⟩
  · exact h.len
  · exact ⟨_, _, rfl⟩
theorem OwnH.own {v : Value} {l : List α} {x : Nat} (h : OwnH k row e base w v l) (hx : blkH v = some x) : Own k row e base w v l := by
  rcases h with h | ⟨A, rfl, rfl⟩
  · exact h
  · rw [blkH_none] at hx; simp at hx
theorem OwnH.block {v : Value} {l : List α} {x : Nat} (h : OwnH k row e base w v l) (hx : blkH v = some x) : base ≤ x ∧ x < w.heap.size := (h.own hx).block (blkH_own hx)
theorem OwnH.spot {v : Value} {l : List α} {x : Nat} (h : OwnH k row e base w v l) (hx : blkH v = some x) : ∃ c, v = .slice (some ⟨x, 0, none⟩) l.length c := (h.own hx).spot (blkH_own hx)
/-- What is without room is told so. -/
theorem OwnH.cases0 {v : Value} {l : List α} (h : OwnH k row e base w v l) : (∃ A, v = .slice A 0 0 ∧ l = []) ∨ ∃ g c, v = .slice (some ⟨g, 0, none⟩) l.length c ∧ c ≠ 0 ∧ blkH v = some g ∧ Own k row e base w v l := by
  rcases h with h | ⟨A, rfl, rfl⟩
  · rcases id h.2 with ⟨hv, h0⟩ | ⟨g, cap, cur, hv, hg, hh, h1, h2, r⟩
    · exact .inl ⟨none, hv, List.eq_nil_of_length_eq_zero h0⟩
    · by_cases hc : cap = 0
      · subst hc
        have h0 : l = [] := List.eq_nil_of_length_eq_zero (by omega)
        subst h0; exact .inl ⟨_, hv, rfl⟩
      · exact .inr ⟨g, cap, hv, hc, by rw [hv]; exact blkH_room hc, h⟩
  · exact .inl ⟨_, rfl, rfl⟩
theorem OwnH.hollow (k : Nat) (row : α → List Value) (e : TypeId) (base : Nat) (w : World) (A : Option Addr) : OwnH k row e base w (.slice A 0 0) [] := by
  cases A with
  | none => exact OwnH.nil_ _ _ _ _ _
  | some A => exact .inr ⟨A, rfl, rfl⟩
/-- What is owned stays, where its block does. -/
theorem OwnH.stay {v : Value} {l : List α} (h : OwnH k row e base w v l) (hb : ∀ x, blkH v = some x → w'.heap[x]? = w.heap[x]?) : OwnH k row e base w' v l := by
  rcases h.cases0 with ⟨A, rfl, rfl⟩ | ⟨g, c, hv, hc, hbk, ho⟩
  · exact OwnH.hollow _ _ _ _ _ _
  · refine .inl (ho.stay fun x hx => hb x ?_)
    rw [hv] at hx hbk ⊢
    rw [hbk]; exact hx
theorem OwnH.place {v : Value} {l : List α} (h : OwnH k row e base w v l) (hl : l ≠ []) : ∃ g cap, v = .slice (some ⟨g, 0, none⟩) l.length cap ∧ base ≤ g ∧ g < w.heap.size ∧ (∀ o, w.frozen? ⟨g, o, none⟩ = false) ∧ blkH v = some g ∧ Own k row e base w v l := by
  rcases h.cases0 with ⟨A, rfl, rfl⟩ | ⟨g, c, hv, hc, hbk, ho⟩
  · exact absurd rfl hl
  · obtain ⟨g', c', hv', h1, h2, h3⟩ := ho.place hl
    rw [hv] at hv'
    simp only [Value.slice.injEq, Option.some.injEq, Addr.mk.injEq, and_true, true_and] at hv'
    obtain ⟨rfl, rfl⟩ := hv'
    exact ⟨g, c, hv, h1, h2, h3, hbk, ho⟩
theorem OwnH.sl {v : Value} {l : List α} (h : OwnH k row e base w v l) (hrow : ∀ x, (row x).length = k) : Sl k row w.heap.size w v l := by
  rcases h with h | ⟨A, rfl, rfl⟩
  · exact h.sl hrow
  · exact ⟨some A, 0, rfl, Nat.le_refl _, by unfold maxLen; omega, fun _ => rfl, fun h => absurd rfl h⟩

/-- 'out = append(s, l2...)', s an owned slice or one without room: what it tells, what s reads then, what else stays. -/
theorem wpList_append_keepH {P : Program} (w : World) {ops : Array Oper} {rest : List Oper} {o : Oper} {a : Act} {Q : Exit → Act → World → Prop} (hgd : o.guard = none) (s y : Operand) (t : TypeId)
    (ho : o.op = .call { callee := .builtin .append, args := #[s, y], argTypes := #[t, t] })
    (base : Nat) (e : TypeId) (z : Value) (k bytes : Nat) (ht : P.underlying t = some (.slice e)) (hinfo : (P.info? e).map (fun i => (i.zero, i.size, i.bytes)) = some (some z, k, bytes)) (hzs : z.cells.size = k) (hk0 : 0 < k)
    (row : α → List Value) (hrow : ∀ x, (row x).length = k) (hone : ∀ x, ∀ u ∈ row x, u.oneCell' = true)
    (l : List α) (v : Value) (hs : a.eval s = v) (hown : OwnH k row e base w v l) (l2 : List α) (ad : Addr) (c : Nat) (hy : a.eval y = .slice (some ad) l2.length c)
    (hnews : ∀ j u, (l2.flatMap row)[j]? = some u → w.cell? (ad.add j) = some u) (hm : 0 < l2.length)
    (h63 : l.length + l2.length ≤ maxLen) (hbytes : (l.length + l2.length) * bytes ≤ 140737488355328) (hbase : base ≤ w.heap.size)
    (h : ∀ g cap w', Own k row e base w' (.slice (some ⟨g, 0, none⟩) (l.length + l2.length) cap) (l ++ l2) → OwnH k row e base w' v l → Below base w w' → (∀ b, b < w.heap.size → some b ≠ blkH v → w'.heap[b]? = w.heap[b]?) →
      (blkH v = some g ∨ g = w.heap.size) → g < w'.heap.size → w.heap.size ≤ w'.heap.size → wpList P ops Q rest (a.put o.dst (.slice (some ⟨g, 0, none⟩) (l.length + l2.length) cap)) w') :
    wpList P ops Q (o :: rest) a w := by
  rcases hown.cases0 with ⟨A, rfl, rfl⟩ | ⟨g, c2, hv, hc, hbk, hw⟩
  · obtain ⟨i, hi, hz, hsz, hby⟩ := info_parts hinfo
    subst hsz
    refine wpList_plain hgd fun K hK => ?_
    have hl : (l2.flatMap row).length = l2.length * i.size := flat_length hrow l2
    have h1 : ∀ u ∈ l2.flatMap row, u.oneCell' = true := by
      intro u hu
      obtain ⟨x, _, hx⟩ := List.mem_flatMap.1 hu
      exact hone x u hx
    simp only [List.length_nil, Nat.zero_add] at h63 hbytes h
    have hsmall : (l2.length : Int) ≤ 9223372036854775807 := by simp only [maxLen] at h63; omega
    obtain ⟨g, cap, w', hr, h2, h3, h4, h5⟩ := run_append_lies (P := P) w t o.type base e i z i.size bytes ht hi hz rfl hby hzs hk0 nilS 0 [] (Own.nil_ i.size row e base w) ad l2.length c (l2.flatMap row) hl hnews h1 hm (by rw [Nat.zero_add]; exact h63) (by rw [Nat.zero_add]; exact hbytes) hbase w.heap.size rfl
    have hr2 : (Builtin.append_ #[t, t] o.type #[.slice A 0 0, .slice (some ad) l2.length c]).run P w = .ok (.slice (some ⟨g, 0, none⟩) l2.length cap) w' := by
      rw [Nat.zero_add] at hr
      cases A with
      | none => exact hr
      | some A =>
        rw [← hr]
        have hn := run_append_nil (P := P) (w := w) t o.type e i z ht hi hz ad l2.length c (l2.flatMap row) hl hnews hm hsmall (by rw [hby]; omega)
        have hg := run_append_grow (P := P) (w := w) t o.type e i z ht hi hz A 0 0 [] (by simp) (by simp) ad l2.length c (l2.flatMap row) hl hnews (by omega) (by simpa using hsmall) (by rw [Nat.zero_add, nextslicecap_zero hm, hby]; omega)
        rw [hg]
        refine Eq.trans ?_ hn.symm
        simp
    unfold Oper.wp execOp
    simp only [ho, resolve, invoke, builtin, Sem.run_bind, Sem.run_pure, Result.andThen_ok, List.map_toArray, List.map_cons, List.map_nil, hs, hy, hr2]
    rw [Nat.zero_add] at h2
    have h2' : Own i.size row e base w' (.slice (some ⟨g, 0, none⟩) l2.length cap) l2 := h2
    refine hK _ _ (h g cap w' h2' (OwnH.hollow _ _ _ _ _ _) ((Below.refl base w).grown h3 hbase (by intro g hg; simp [nilS, Value.ownBlock] at hg)) (fun b hb' _ => h3.block b hb' (by simp [nilS, Value.ownBlock])) (.inr (h4.resolve_left (by simp [nilS, Value.ownBlock]))) h5 h3.size)
  · have hvb : v.ownBlock = blkH v := by rw [hbk]; exact blkH_own hbk
    exact wpList_append_keep w hgd s y t ho base e z k bytes ht hinfo hzs hk0 row hrow hone l v hs hw l2 ad c hy hnews hm h63 hbytes hbase fun g cap w' p1 p2 p3 p4 p5 p6 p7 =>
      h g cap w' p1 p2.h p3 (fun b hb hne => p4 b hb (by rw [hvb]; exact hne)) (by rw [← hvb]; exact p5) p6 p7
/-- 'out = append(s, x)', x a row of k cells that lies in the newest block. -/
theorem wpList_append_keepH1 {P : Program} (w0 : World) {ops : Array Oper} {rest : List Oper} {o : Oper} {a : Act} {Q : Exit → Act → World → Prop} (hgd : o.guard = none) (s y : Operand) (t : TypeId)
    (ho : o.op = .call { callee := .builtin .append, args := #[s, y], argTypes := #[t, t] })
    (base : Nat) (e : TypeId) (z : Value) (k bytes : Nat) (ht : P.underlying t = some (.slice e)) (hinfo : (P.info? e).map (fun i => (i.zero, i.size, i.bytes)) = some (some z, k, bytes)) (hzs : z.cells.size = k) (hk0 : 0 < k)
    (row : α → List Value) (hrow : ∀ x, (row x).length = k) (hone : ∀ x, ∀ u ∈ row x, u.oneCell' = true)
    (l : List α) (v : Value) (hs : a.eval s = v) (hown : OwnH k row e base w0 v l) (x : α) (cells : Array Value) (hcells : cells = (row x).toArray) (e' : TypeId) (n0 : Nat) (hy : a.eval y = .slice (some ⟨n0, 0, none⟩) 1 1) (hn0 : n0 = w0.heap.size)
    (hlen : l.length + 1 ≤ 4294967296) (hbytes : bytes ≤ 4096) (hbase : base ≤ w0.heap.size)
    (h : ∀ g cap w', Own k row e base w' (.slice (some ⟨g, 0, none⟩) (l.length + 1) cap) (l ++ [x]) → OwnH k row e base w' v l → Below base w0 w' → (∀ b, b < w0.heap.size → some b ≠ blkH v → w'.heap[b]? = w0.heap[b]?) →
      (blkH v = some g ∨ w0.heap.size < g) → g < w'.heap.size → w0.heap.size < w'.heap.size → wpList P ops Q rest (a.put o.dst (.slice (some ⟨g, 0, none⟩) (l.length + 1) cap)) w') :
    wpList P ops Q (o :: rest) a (w0.alloc (.cells cells e')) := by
  subst hcells
  subst hn0
  refine wpList_append_keepH (w0.alloc (.cells (row x).toArray e')) hgd s y t ho base e z k bytes ht hinfo hzs hk0 row hrow hone l v hs (hown.stay fun b hb => Below.heap_alloc w0 _ b (hown.block hb).2) [x] ⟨w0.heap.size, 0, none⟩ 1 hy ?_ (by simp) (by unfold maxLen; simp; omega) ?_ (by simp; omega) ?_
  · intro j u hu
    rw [Addr.add_lit, Nat.zero_add, World.cell?_alloc_new]
    simpa using hu
  · calc (l.length + [x].length) * bytes ≤ 4294967296 * 4096 := Nat.mul_le_mul (by simpa using hlen) hbytes
      _ ≤ 140737488355328 := by omega
  · intro g cap w' p1 p2 p3 p4 p5 p6 p7
    simp only [List.length_singleton] at p1 ⊢
    simp only [World.size_alloc] at p4 p5 p7
    exact h g cap w' p1 p2 (((Below.refl base w0).alloc hbase _).trans p3) (fun b hb hne => (p4 b (by omega) hne).trans (Below.heap_alloc w0 _ b hb)) (p5.imp id fun h => by omega) p6 (by omega)

variable {out : List Nat} {n : Nat} {V G : Nat → Value} {L M : Nat → List α}

/-- Worlds in which every family's block is as it was. -/
theorem Fams.stay (h : Fams k row e base out n w V G L M) (hb : ∀ j, j < n → ∀ x, InFam V G j x → w'.heap[x]? = w.heap[x]?) : Fams k row e base out n w' V G L M :=
  ⟨fun j hj => (h.v j hj).stay fun x hx => hb j hj x (.inl hx), fun j hj => (h.g j hj).stay fun x hx => hb j hj x (.inr hx), h.pre, h.far, h.out⟩
theorem Fams.lt (h : Fams k row e base out n w V G L M) {j x : Nat} (hj : j < n) (hx : InFam V G j x) : base ≤ x ∧ x < w.heap.size := by
  rcases hx with hx | hx
  · exact (h.v j hj).block hx
  · exact (h.g j hj).block hx
theorem Fams.later (h : Fams k row e base out n w V G L M) (hb : Below w.heap.size w w') : Fams k row e base out n w' V G L M := h.stay fun j hj x hx => hb.block x (h.lt hj hx).2
theorem Fams.set_out (h : Fams k row e base out n w V G L M) {p i : Nat} (hp : p ∈ out) (u : Value) : Fams k row e base out n (w.setCell ⟨p, i, none⟩ u) V G L M :=
  h.stay fun j hj x hx => Below.heap_setCell w ⟨p, i, none⟩ u x (fun e => h.out j hj x hx (by simp only at e; rw [e]; exact hp))
/-- One more block is kept out: a new one. -/
theorem Fams.more (h : Fams k row e base out n w V G L M) {p : Nat} (hp : w.heap.size ≤ p) : Fams k row e base (p :: out) n w V G L M :=
  ⟨h.v, h.g, h.pre, h.far, fun j hj x hx hm => by
    rcases List.mem_cons.1 hm with rfl | hm
    · have := (h.lt hj hx).2; omega
    · exact h.out j hj x hx hm⟩
/-- The grown ones are let go. -/
theorem Fams.drop (h : Fams k row e base out n w V G L M) : Fams k row e base out n w V (fun _ => nilS) L (fun _ => []) :=
  ⟨h.v, fun j hj => OwnH.nil_ _ _ _ _ _, fun j hj x _ hx2 => by rw [blkH_nil] at hx2; simp at hx2,
    fun i j hi hj hij x hx hx' => h.far i j hi hj hij x (.inl (hx.resolve_right (by rw [blkH_nil]; simp))) (.inl (hx'.resolve_right (by rw [blkH_nil]; simp))),
    fun j hj x hx => h.out j hj x (.inl (hx.resolve_right (by rw [blkH_nil]; simp)))⟩
theorem Fams.drop_out {out' : List Nat} (h : Fams k row e base out n w V G L M) (ho : ∀ x, x ∈ out' → x ∈ out) : Fams k row e base out' n w V G L M :=
  ⟨h.v, h.g, h.pre, h.far, fun j hj x hx hm => h.out j hj x hx (ho x hm)⟩

/-- Family m's slice G m is appended to (it lies in its own block, or a new one): the families stand. -/
theorem Fams.grow (hk : 0 < k) (hrow : ∀ x, (row x).length = k) (h : Fams k row e base out n w V G L M) {m : Nat} (hm : m < n) {v' : Value} {l2 : List α}
    (h1 : Own k row e base w' v' (M m ++ l2)) (h2 : OwnH k row e base w' (G m) (M m)) (h3 : ∀ b, b < w.heap.size → some b ≠ blkH (G m) → w'.heap[b]? = w.heap[b]?)
    (h4 : ∀ x, blkH v' = some x → blkH (G m) = some x ∨ w.heap.size ≤ x) (hout : ∀ x ∈ out, x < w.heap.size) (hpre : ∀ x, blkH (V m) = some x → blkH v' = some x → ∃ r, M m = L m ++ r) :
    Fams k row e base out n w' V (upd G m v') L (upd M m (M m ++ l2)) := by
  have hother : ∀ j, j < n → j ≠ m → ∀ x, InFam V G j x → w'.heap[x]? = w.heap[x]? := fun j hj hne x hx =>
    h3 x (h.lt hj hx).2 (fun he => h.far j m hj hm hne x hx (.inr he.symm))
  have hfam : ∀ j x, InFam V (upd G m v') j x → InFam V G j x ∨ (j = m ∧ w.heap.size ≤ x) := by
    intro j x hx
    rcases hx with hx | hx
    · exact .inl (.inl hx)
    · by_cases hjm : j = m
      · subst hjm
        rw [upd_same] at hx
        rcases h4 x hx with h5 | h5
        · exact .inl (.inr h5)
        · exact .inr ⟨rfl, h5⟩
      · rw [upd_other _ _ hjm] at hx; exact .inl (.inr hx)
  refine ⟨fun j hj => ?_, fun j hj => ?_, fun j hj x hx1 hx2 => ?_, fun i j hi hj hij x hx hx' => ?_, fun j hj x hx => ?_⟩
  · by_cases hjm : j = m
    · subst hjm
      by_cases hsame : ∃ x, blkH (V j) = some x ∧ blkH (G j) = some x
      · obtain ⟨x, hv, hg⟩ := hsame
        obtain ⟨r, hr⟩ := h.pre j hm x hv hg
        obtain ⟨c1, e1⟩ := (h.v j hm).spot hv
        obtain ⟨c2, e2⟩ := (h.g j hm).spot hg
        have o1 := (h.v j hm).own hv
        have o2 := (h.g j hm).own hg
        have o3 := h2.own hg
        rw [e1] at o1
        rw [e2] at o2 o3
        have hc : c1 = c2 := Own.cap_eq hk o1 o2
        subst hc
        rw [e1]
        rw [hr] at o3
        exact (o3.begin_ hrow rfl).h
      · refine (h.v j hm).stay fun x hx => h3 x ((h.v j hm).block hx).2 (fun he => hsame ⟨x, hx, he.symm⟩)
    · exact (h.v j hj).stay fun x hx => hother j hj hjm x (.inl hx)
  · by_cases hjm : j = m
    · subst hjm; rw [upd_same, upd_same]; exact h1.h
    · rw [upd_other _ _ hjm, upd_other _ _ hjm]; exact (h.g j hj).stay fun x hx => hother j hj hjm x (.inr hx)
  · by_cases hjm : j = m
    · subst hjm
      rw [upd_same] at hx2 ⊢
      obtain ⟨r, hr⟩ := hpre x hx1 hx2
      exact ⟨r ++ l2, by rw [hr, List.append_assoc]⟩
    · rw [upd_other _ _ hjm] at hx2 ⊢; exact h.pre j hj x hx1 hx2
  · rcases hfam i x hx with h5 | ⟨h5, h6⟩
    · rcases hfam j x hx' with h7 | ⟨h7, h8⟩
      · exact h.far i j hi hj hij x h5 h7
      · have := (h.lt hi h5).2; omega
    · rcases hfam j x hx' with h7 | ⟨h7, h8⟩
      · have := (h.lt hj h7).2; omega
      · omega
  · rcases hfam j x hx with h5 | ⟨h5, h6⟩
    · exact h.out j hj x h5
    · intro hm'; have := hout x hm'; omega

/-- Family m's slice G m is put in place anew: what V m is appended to tells it. -/
theorem Fams.turn (h : Fams k row e base out n w V G L M) {m : Nat} (hm : m < n) {v' : Value} {l' r : List α}
    (h1 : Own k row e base w' v' l') (h2 : OwnH k row e base w' (V m) (L m)) (h3 : ∀ b, b < w.heap.size → some b ≠ blkH (V m) → w'.heap[b]? = w.heap[b]?)
    (h4 : ∀ x, blkH v' = some x → blkH (V m) = some x ∨ w.heap.size ≤ x) (hout : ∀ x ∈ out, x < w.heap.size) (hl : l' = L m ++ r) :
    Fams k row e base out n w' V (upd G m v') L (upd M m l') := by
  have hother : ∀ j, j < n → j ≠ m → ∀ x, InFam V G j x → w'.heap[x]? = w.heap[x]? := fun j hj hne x hx =>
    h3 x (h.lt hj hx).2 (fun he => h.far j m hj hm hne x hx (.inl he.symm))
  have hfam : ∀ j x, InFam V (upd G m v') j x → InFam V G j x ∨ (j = m ∧ w.heap.size ≤ x) := by
    intro j x hx
    rcases hx with hx | hx
    · exact .inl (.inl hx)
    · by_cases hjm : j = m
      · subst hjm
        rw [upd_same] at hx
        rcases h4 x hx with h5 | h5
        · exact .inl (.inl h5)
        · exact .inr ⟨rfl, h5⟩
      · rw [upd_other _ _ hjm] at hx; exact .inl (.inr hx)
  refine ⟨fun j hj => ?_, fun j hj => ?_, fun j hj x hx1 hx2 => ?_, fun i j hi hj hij x hx hx' => ?_, fun j hj x hx => ?_⟩
  · by_cases hjm : j = m
    · subst hjm; exact h2
    · exact (h.v j hj).stay fun x hx => hother j hj hjm x (.inl hx)
  · by_cases hjm : j = m
    · subst hjm; rw [upd_same, upd_same]; exact h1.h
    · rw [upd_other _ _ hjm, upd_other _ _ hjm]; exact (h.g j hj).stay fun x hx => hother j hj hjm x (.inr hx)
  · by_cases hjm : j = m
    · subst hjm; rw [upd_same]; exact ⟨r, hl⟩
    · rw [upd_other _ _ hjm] at hx2 ⊢; exact h.pre j hj x hx1 hx2
  · rcases hfam i x hx with h5 | ⟨h5, h6⟩
    · rcases hfam j x hx' with h7 | ⟨h7, h8⟩
      · exact h.far i j hi hj hij x h5 h7
      · have := (h.lt hi h5).2; omega
    · rcases hfam j x hx' with h7 | ⟨h7, h8⟩
      · have := (h.lt hj h7).2; omega
      · omega
  · rcases hfam j x hx with h5 | ⟨h5, h6⟩
    · exact h.out j hj x h5
    · intro hm'; have := hout x hm'; omega

theorem upd_upd {β : Type} (f : Nat → β) (k : Nat) (x y : β) : upd (upd f k x) k y = upd f k y := by
  funext j; by_cases h : j = k
  · subst h; rw [upd_same, upd_same]
  · rw [upd_other _ _ h, upd_other _ _ h, upd_other _ _ h]
/-- G m is put to V m. -/
theorem Fams.same (h : Fams k row e base out n w V G L M) {m : Nat} (hm : m < n) : Fams k row e base out n w V (upd G m (V m)) L (upd M m (L m)) := by
  have hfam : ∀ j x, InFam V (upd G m (V m)) j x → InFam V G j x := by
    intro j x hx
    rcases hx with hx | hx
    · exact .inl hx
    · by_cases hjm : j = m
      · subst hjm; rw [upd_same] at hx; exact .inl hx
      · rw [upd_other _ _ hjm] at hx; exact .inr hx
  refine ⟨h.v, fun j hj => ?_, fun j hj x hx1 hx2 => ?_, fun i j hi hj hij x hx hx' => h.far i j hi hj hij x (hfam _ _ hx) (hfam _ _ hx'), fun j hj x hx => h.out j hj x (hfam _ _ hx)⟩
  · by_cases hjm : j = m
    · subst hjm; rw [upd_same, upd_same]; exact h.v j hj
    · rw [upd_other _ _ hjm, upd_other _ _ hjm]; exact h.g j hj
  · by_cases hjm : j = m
    · subst hjm; rw [upd_same]; exact ⟨[], by simp⟩
    · rw [upd_other _ _ hjm] at hx2 ⊢; exact h.pre j hj x hx1 hx2
theorem Fams.less_out (h : Fams k row e base out n w V G L M) {p : Nat} (hp : p ∈ out) {j x : Nat} (hj : j < n) (hx : InFam V G j x) : x ≠ p := fun he => h.out j hj x hx (by rw [he]; exact hp)

/-- V m is written to (its block alone turns), while no G lies anywhere. -/
theorem Fams.write (h : Fams k row e base out n w V (fun _ => nilS) L (fun _ => [])) {m : Nat} (hm : m < n) {l' : List α} {x0 : Nat} (hx0 : blkH (V m) = some x0)
    (h1 : Own k row e base w' (V m) l') (h3 : ∀ b, b ≠ x0 → w'.heap[b]? = w.heap[b]?) : Fams k row e base out n w' V (fun _ => nilS) (upd L m l') (fun _ => []) := by
  refine ⟨fun j hj => ?_, fun j hj => OwnH.nil_ _ _ _ _ _, fun j hj x hx1 hx2 => ?_, h.far, h.out⟩
  · by_cases hjm : j = m
    · subst hjm; rw [upd_same]; exact h1.h
    · rw [upd_other _ _ hjm]
      exact (h.v j hj).stay fun x hx => h3 x (fun e => h.far j m hj hm hjm x (.inl hx) (.inl (by rw [e]; exact hx0)))
  · rw [blkH_nil] at hx2; simp at hx2
end
/-- All below 'base' stays, and so do the blocks of a list. -/
structure Kp (base : Nat) (ext : List Nat) (w w' : World) : Prop where
  low : Below base w w'
  ext : ∀ p, p ∈ ext → p < w.heap.size → w'.heap[p]? = w.heap[p]?
theorem Kp.refl (base : Nat) (ext : List Nat) (w : World) : Kp base ext w w := ⟨Below.refl _ _, fun _ _ _ => rfl⟩
theorem Kp.later {base : Nat} {ext : List Nat} {w w1 w2 : World} (h : Kp base ext w w1) (hb : Below w1.heap.size w1 w2) (hB : base ≤ w1.heap.size) : Kp base ext w w2 :=
  ⟨h.low.trans (hb.mono hB), fun p hp hs => (hb.block p (Nat.lt_of_lt_of_le hs h.low.size)).trans (h.ext p hp hs)⟩
theorem Kp.set_ {base : Nat} {ext : List Nat} {w w1 : World} {g i : Nat} {u : Value} (h : Kp base ext w w1) (hg : base ≤ g) (hx : g ∉ ext) : Kp base ext w (w1.setCell ⟨g, i, none⟩ u) :=
  ⟨below_set h.low hg, fun p hp hs => (Below.heap_setCell w1 ⟨g, i, none⟩ u p (fun e => hx (by simp only at e; rw [← e]; exact hp))).trans (h.ext p hp hs)⟩
theorem Kp.drew {base : Nat} {ext : List Nat} {w w1 : World} (h : Kp base ext w w1) : Kp base ext w w1.drew := ⟨h.low.drew, h.ext⟩
theorem Kp.grow {base : Nat} {ext : List Nat} {w w1 w2 : World} {v : Value} (h : Kp base ext w w1) (hb : Below base w1 w2) (h4 : ∀ b, b < w1.heap.size → some b ≠ blkH v → w2.heap[b]? = w1.heap[b]?) (hx : ∀ p, p ∈ ext → some p ≠ blkH v) : Kp base ext w w2 :=
  ⟨h.low.trans hb, fun p hp hs => (h4 p (Nat.lt_of_lt_of_le hs h.low.size) (hx p hp)).trans (h.ext p hp hs)⟩
/-- A row of slices, each one cell. -/
def vRow (v : Value) : List Value := [v]
theorem vRow_length (x : Value) : (vRow x).length = 1 := rfl
theorem flat_vRow : ∀ n : Nat, (List.replicate n nilS).flatMap vRow = List.replicate n nilS
  | 0 => rfl
  | n + 1 => by rw [List.replicate_succ, List.flatMap_cons, flat_vRow n]; rfl
/-- 'make([][]T, n)': n nils are owned. -/
theorem wpList_make_nils {P : Program} (w : World) {ops : Array Oper} {rest : List Oper} {o : Oper} {a : Act} {Q : Exit → Act → World → Prop}
    (hg : o.guard = none) (l c : Operand) (t : TypeId) (hop : o.op = Op.makeSlice t l c)
    (base : Nat) (e : TypeId) (h1 : P.underlying t = some (.slice e)) (hinfo : (P.info? e).map (fun i => (i.zero, i.size, i.bytes)) = some (some nilS, 1, 24))
    (L C : Int) (n : Nat) (hl : a.eval l = .int .i64 L) (hc : a.eval c = .int .i64 C) (hL : L = (n : Int)) (hC : C = (n : Int)) (b2 : n ≤ 4294967296) (b4 : base ≤ w.heap.size)
    (hK : ∀ w', Own 1 vRow e base w' (.slice (some ⟨w.heap.size, 0, none⟩) n n) (List.replicate n nilS) → Below w.heap.size w w' → w.heap.size < w'.heap.size → wpList P ops Q rest (a.put o.dst (.slice (some ⟨w.heap.size, 0, none⟩) n n)) w') :
    wpList P ops Q (o :: rest) a w := by
  obtain ⟨i, hi, hz, hsz, hby⟩ := info_parts hinfo
  refine wpList_make_full w hg l c t hop base e i _ 1 h1 hi hz hsz .i64 .i64 L C n hl hc hL hC (by rw [hby]; omega) (by unfold maxLen; omega) b4 fun w' r1 r2 => ?_
  have ho : Own 1 vRow e base w' (.slice (some ⟨w.heap.size, 0, none⟩) n n) (List.replicate n nilS) := by
    unfold Own
    have e1 : (List.replicate n nilS).flatMap vRow = (madeCells nilS.cells (n * 1)).toList := by
      rw [Nat.mul_one, show nilS.cells = #[nilS] from rfl, toList_madeCells_one]
      exact flat_vRow n
    rw [List.length_replicate, e1]; exact r1
  refine hK w' ho (grown_below r2 (Nat.le_refl _) (by simp)) ?_
  rcases r1.2 with ⟨hv, _⟩ | ⟨g, cap, cur, hv, _, hh, _⟩
  · simp at hv
  · simp only [Value.slice.injEq, Option.some.injEq, Addr.mk.injEq, and_true] at hv
    obtain ⟨rfl, -⟩ := hv
    exact (Array.getElem?_eq_some_iff.1 hh).1
end Go.Proofs.YtglkgmijhdkhpaaGreatDoor
/-
  THE PACKAGE entry, 7: members' bytes: contracts.
-/
set_option linter.unusedVariables false
set_option linter.unusedSimpArgs false
namespace Go.Proofs.YtglkgmijhdkhpaaGreatDoor
open Go.RowKit

theorem u8Info : (Tryz.prog.info? 5).map (fun i => (i.zero, i.size, i.bytes)) = some (some (.int .u8 0), 1, 1) := by kernel_rfl
/-- What Bytes tells: the bytes, or error 2. -/
def BytPost (ms : List Int) (w : World) (e : Ending) (w' : World) : Prop :=
  ∃ v', e = .returned (.tuple #[v', .int .i64 (if memRight ms then 0 else 2)]) ∧ (if memRight ms then Own 1 u8Row 5 w.heap.size w' v' ms ∧ v' ≠ .slice none 0 0 else v' = .slice none 0 0) ∧ Below w.heap.size w w'
theorem bytPost_yes {ms : List Int} {w w' : World} {v' : Value} (h : memRight ms = true) (ho : Own 1 u8Row 5 w.heap.size w' v' ms) (hv : v' ≠ .slice none 0 0) (hb : Below w.heap.size w w') : BytPost ms w (.returned (.tuple #[v', .int .i64 0])) w' :=
  ⟨v', by rw [h]; rfl, by rw [h]; exact ⟨ho, hv⟩, hb⟩
theorem bytPost_no {ms : List Int} {w : World} (h : memRight ms = false) : BytPost ms w (.returned (.tuple #[.slice none 0 0, .int .i64 2])) w :=
  ⟨_, by rw [h]; rfl, by rw [h]; rfl, Below.refl _ _⟩
theorem memFrom_at : ∀ {l : List Int} {q : Int} {k : Nat} {x : Int}, memFrom q l = true → l[k]? = some x → 1 ≤ x ∧ x ≤ 7 := by
  intro l
  induction l with
  | nil => intro q k x _ h; simp at h
  | cons y l ih =>
    intro q k x h hx
    have h' : (decide (1 ≤ y ∧ y ≤ 7 ∧ q < y) && memFrom y l) = true := h
    simp only [Bool.and_eq_true, decide_eq_true_eq] at h'
    cases k with
    | zero => simp at hx; subst hx; exact ⟨h'.1.1, h'.1.2.1⟩
    | succ k => exact ih h'.2 (by simpa using hx)
theorem memFrom_len : ∀ {l : List Int} {q : Int}, 0 ≤ q → memFrom q l = true → (l.length : Int) ≤ 7 - q ∨ l = [] := by
  intro l
  induction l with
  | nil => intro q _ _; exact .inr rfl
  | cons y l ih =>
    intro q hq h
    have h' : (decide (1 ≤ y ∧ y ≤ 7 ∧ q < y) && memFrom y l) = true := h
    simp only [Bool.and_eq_true, decide_eq_true_eq] at h'
    rcases ih (by omega) h'.2 with h1 | h1
    · left; simp only [List.length_cons]; omega
    · left; subst h1; simp; omega
theorem memRight_short {l : List Int} (h : memRight l = true) : l.length ≤ 7 := by
  simp only [memRight, Bool.and_eq_true] at h
  rcases memFrom_len (by omega) h.1 with h1 | h1
  · omega
  · subst h1; simp

end Go.Proofs.YtglkgmijhdkhpaaGreatDoor
