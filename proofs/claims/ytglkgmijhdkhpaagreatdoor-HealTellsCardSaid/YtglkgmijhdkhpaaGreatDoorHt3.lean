/-
  Merged: Base, Lent, KitInts.
-/
import Derived.WalkKit
import Derived.WalkSpells
import Derived.Laws.AppendOwnNone
import Derived.Lib.SliceRun
import Derived.Lib.Hide
import Derived.Deep.Draws
import Derived.Deep.AppendLies
import Derived.Test.YtglkgmijhdkhpaaGreatDoorProg
import Derived.Test.YtglkgmijhdkhpaaGreatDoorHt1
import Derived.WalkLawsBesides
import Derived.Deep.QuietTactic
import Derived.BigQuiet
import Derived.IntWalk
/-
  WORLD LEMMAS that name no program: a slice of rows that reads as a list ('Sl'), kept below a block; a slice that the call owns ('Own'); an append of one row.
-/
set_option linter.unusedVariables false
namespace Go.Proofs.YtglkgmijhdkhpaaGreatDoor
open Go.RowKit

/-- The slice value v reads, in w and below block B, as the list l; an element is k cells, 'row x'. -/
def Sl {α : Type} (k : Nat) (row : α → List Value) (B : Nat) (w : World) (v : Value) (l : List α) : Prop :=
  ∃ A cap, v = .slice A l.length cap ∧ l.length ≤ cap ∧ cap ≤ maxLen ∧ (A = none → cap = 0) ∧
    (l ≠ [] → ∃ b off, A = some ⟨b, off, none⟩ ∧ b < B ∧ ∀ i x, l[i]? = some x → ∀ j u, (row x)[j]? = some u → w.cell? ⟨b, off + i * k + j, none⟩ = some u)

section
variable {α : Type} {k : Nat} {row : α → List Value} {B B' : Nat} {w w' : World} {v : Value} {l : List α}

theorem Sl.keep (h : Sl k row B w v l) (hk : ∀ b o, b < B → w'.cell? ⟨b, o, none⟩ = w.cell? ⟨b, o, none⟩) : Sl k row B w' v l := by
  obtain ⟨A, cap, hv, h1, h2, h0, h3⟩ := h
  refine ⟨A, cap, hv, h1, h2, h0, fun hl => ?_⟩
  obtain ⟨b, off, hA, hb, hc⟩ := h3 hl
  exact ⟨b, off, hA, hb, fun i x hx j u hu => (hk _ _ hb).trans (hc i x hx j u hu)⟩

theorem Sl.more (h : Sl k row B w v l) (hB : B ≤ B') : Sl k row B' w v l := by
  obtain ⟨A, cap, hv, h1, h2, h0, h3⟩ := h
  refine ⟨A, cap, hv, h1, h2, h0, fun hl => ?_⟩
  obtain ⟨b, off, hA, hb, hc⟩ := h3 hl
  exact ⟨b, off, hA, by omega, hc⟩

theorem Sl.below (h : Sl k row B w v l) (hb : Below B w w') : Sl k row B w' v l := h.keep fun _ _ hp => hb.cell (p := ⟨_, _, none⟩) hp

/-- What reads below the heap's size reads so behind whatever leaves that be. -/
theorem Sl.later (h : Sl k row w.heap.size w v l) (hb : Below w.heap.size w w') : Sl k row w'.heap.size w' v l := (h.below hb).more hb.size

theorem Sl.alloc (h : Sl k row w.heap.size w v l) (o : Obj) : Sl k row (w.alloc o).heap.size (w.alloc o) v l := h.later ((Below.refl _ _).alloc (Nat.le_refl _) o)

theorem Sl.nil_ (k : Nat) (row : α → List Value) (B : Nat) (w : World) : Sl k row B w (.slice none 0 0) [] := ⟨none, 0, rfl, Nat.le_refl _, by unfold maxLen; omega, fun _ => rfl, fun h => absurd rfl h⟩

/-- What the list is of: its cells, by the place. -/
theorem Sl.cellAt (h : Sl k row B w v l) (hl : l ≠ []) : ∃ b off cap, v = .slice (some ⟨b, off, none⟩) l.length cap ∧ l.length ≤ cap ∧ cap ≤ maxLen ∧ b < B ∧
    ∀ i x, l[i]? = some x → ∀ j u, (row x)[j]? = some u → w.cell? ⟨b, off + i * k + j, none⟩ = some u := by
  obtain ⟨A, cap, rfl, h1, h2, -, h3⟩ := h
  obtain ⟨b, off, rfl, hb, hc⟩ := h3 hl
  exact ⟨b, off, cap, rfl, h1, h2, hb, hc⟩

/-- The place of row i of a flat row list. -/
theorem flat_at {row : α → List Value} (hrow : ∀ x, (row x).length = k) : ∀ (l : List α) (i : Nat) (x : α), l[i]? = some x → ∀ j u, (row x)[j]? = some u → (l.flatMap row)[i * k + j]? = some u := by
  intro l
  induction l with
  | nil => intro i x h; simp at h
  | cons y l ih =>
    intro i x hx j u hu
    rw [List.flatMap_cons]
    cases i with
    | zero =>
      simp at hx; subst hx
      have hj : j < (row y).length := (List.getElem?_eq_some_iff.1 hu).1
      rw [Nat.zero_mul, Nat.zero_add, List.getElem?_append_left hj]; exact hu
    | succ i =>
      have := ih i x (by simpa using hx) j u hu
      rw [List.getElem?_append_right (by rw [hrow]; rw [Nat.succ_mul]; omega), hrow, ← this]
      congr 1; rw [Nat.succ_mul]; omega

theorem flat_length {row : α → List Value} (hrow : ∀ x, (row x).length = k) : ∀ (l : List α), (l.flatMap row).length = l.length * k := by
  intro l
  induction l with
  | nil => simp
  | cons y l ih => rw [List.flatMap_cons, List.length_append, ih, hrow, List.length_cons, Nat.succ_mul]; omega

/-- The call's own slice: rows of k cells of type e, in blocks from 'base' on. -/
def Own (k : Nat) (row : α → List Value) (e : TypeId) (base : Nat) (w : World) (v : Value) (l : List α) : Prop := w.ownsRow base e k v l.length (l.flatMap row)

theorem Own.nil_ (k : Nat) (row : α → List Value) (e : TypeId) (base : Nat) (w : World) : Own k row e base w (.slice none 0 0) [] := ⟨by simp, .inl ⟨rfl, rfl⟩⟩

theorem Own.made (k : Nat) (row : α → List Value) (e : TypeId) (w : World) : Own k row e w.heap.size (w.alloc (.cells #[] e)) (.slice (some ⟨w.heap.size, 0, none⟩) 0 0) [] :=
  World.ownsRow_made w #[] 0 (Nat.le_refl _) (by unfold maxLen; omega) (by simp)

theorem Own.sl {e : TypeId} {base : Nat} (h : Own k row e base w v l) (hrow : ∀ x, (row x).length = k) : Sl k row w.heap.size w v l := by
  rcases h.2 with ⟨rfl, h0⟩ | ⟨g, cap, cur, rfl, hg, hh, h1, h2, _⟩
  · have : l = [] := List.eq_nil_of_length_eq_zero h0
    subst this; exact Sl.nil_ _ _ _ _
  · refine ⟨_, cap, rfl, h1, h2, fun h => by simp at h, fun _ => ⟨g, 0, rfl, (Array.getElem?_eq_some_iff.1 hh).1, fun i x hx j u hu => ?_⟩⟩
    have := h.cells (g := g) rfl (i * k + j) u (flat_at hrow l i x hx j u hu)
    rw [Addr.add_lit] at this
    simpa [Nat.add_assoc] using this

theorem Own.alloc {e : TypeId} {base : Nat} (h : Own k row e base w v l) (o : Obj) : Own k row e base (w.alloc o) v l := World.ownsRow.alloc h o
theorem Own.drew {e : TypeId} {base : Nat} (h : Own k row e base w v l) : Own k row e base w.drew v l := h
theorem Own.less {e : TypeId} {base base' : Nat} (h : Own k row e base w v l) (hb : base' ≤ base) : Own k row e base' w v l := by
  refine ⟨h.1, ?_⟩
  rcases h.2 with h2 | ⟨g, cap, cur, hv, hg, r⟩
  · exact .inl h2
  · exact .inr ⟨g, cap, cur, hv, by omega, r⟩
theorem Own.set_below {e : TypeId} {base n i : Nat} {u : Value} (h : Own k row e base w v l) (hn : n < base) : Own k row e base (w.setCell ⟨n, i, none⟩ u) v l := ownsRow_setCell_below h (a := ⟨n, i, none⟩) hn u
theorem Own.set_far {e : TypeId} {base g n c p i : Nat} {u : Value} (h : Own k row e base w (.slice (some ⟨g, 0, none⟩) n c) l) (hne : p ≠ g) : Own k row e base (w.setCell ⟨p, i, none⟩ u) (.slice (some ⟨g, 0, none⟩) n c) l := by
  refine ⟨h.1, ?_⟩
  rcases h.2 with ⟨hv, _⟩ | ⟨g', cap, cur, hv, hg, hh, r⟩
  · simp at hv
  · simp only [Value.slice.injEq, Option.some.injEq, Addr.mk.injEq, and_true] at hv
    obtain ⟨rfl, rfl, rfl⟩ := hv
    exact .inr ⟨g, _, cur, rfl, hg, (Below.heap_setCell w ⟨p, i, none⟩ u g (fun e => hne e.symm)).trans hh, r⟩
theorem Own.form {e : TypeId} {base : Nat} (h : Own k row e base w v l) : ∃ A n c, v = .slice A n c := by
  rcases h.2 with ⟨hv, _⟩ | ⟨g, cap, cur, hv, _⟩ <;> exact ⟨_, _, _, hv⟩
/-- An owned slice that is not empty: where it lies, and how to write one cell of row i. -/
theorem Own.place {e : TypeId} {base : Nat} (h : Own k row e base w v l) (hl : l ≠ []) : ∃ g cap, v = .slice (some ⟨g, 0, none⟩) l.length cap ∧ base ≤ g ∧ g < w.heap.size ∧ ∀ o, w.frozen? ⟨g, o, none⟩ = false := by
  rcases h.2 with ⟨hv, h0⟩ | ⟨g, cap, cur, hv, hg, hh, _⟩
  · exact absurd (List.eq_nil_of_length_eq_zero h0) hl
  · exact ⟨g, cap, hv, hg, (Array.getElem?_eq_some_iff.1 hh).1, fun o => by simp [World.frozen?, hh]⟩

theorem flat_set {row : α → List Value} (hrow : ∀ x, (row x).length = k) : ∀ (l : List α) (i : Nat) (x y : α) (j : Nat) (u : Value), l[i]? = some x → row y = (row x).set j u → j < k → ((l.set i y).flatMap row) = (l.flatMap row).set (i * k + j) u := by
  intro l
  induction l with
  | nil => intro i x y j u h; simp at h
  | cons z l ih =>
    intro i x y j u hx hy hj
    cases i with
    | zero =>
      simp at hx; subst hx
      simp only [List.set_cons_zero, List.flatMap_cons, Nat.zero_mul, Nat.zero_add]
      rw [List.set_append_left _ _ (by rw [hrow]; exact hj), hy]
    | succ i =>
      simp only [List.set_cons_succ, List.flatMap_cons]
      rw [ih i x y j u (by simpa using hx) hy hj, List.set_append_right _ _ (by rw [hrow, Nat.succ_mul]; omega), hrow]
      congr 2; rw [Nat.succ_mul]; omega
theorem Own.write {e : TypeId} {base g cap n : Nat} (hrow : ∀ x, (row x).length = k) (h : Own k row e base w (.slice (some ⟨g, 0, none⟩) n cap) l) {i j : Nat} {x y : α} {u : Value} (hx : l[i]? = some x) (hy : row y = (row x).set j u) (hj : j < k) :
    Own k row e base (w.setCell ⟨g, i * k + j, none⟩ u) (.slice (some ⟨g, 0, none⟩) n cap) (l.set i y) := by
  have hn : n = l.length := by
    rcases h.2 with ⟨hv, _⟩ | ⟨g', cap', cur, hv, _⟩
    · simp at hv
    · simp at hv; exact hv.2.1
  subst hn
  have := (World.ownsRow.stored h (i * k + j) u).1
  unfold Own
  rw [flat_set hrow l i x y j u hx hy hj, List.length_set]; exact this

/-- What is owned from 'base' on, behind a call that leaves all that is there. -/
theorem Own.later {e : TypeId} {base : Nat} (h : Own k row e base w v l) (hb : Below w.heap.size w w') : Own k row e base w' v l := by
  refine World.ownsRow.kept (row := none) h ⟨hb.os, hb.tape, hb.output, hb.size, fun i hi _ => hb.block i hi⟩ ?_
  cases v.ownBlock <;> simp

theorem grown_below {base : Nat} {row : Option Nat} (hg : w.grownBy w' row) (hB : base ≤ w.heap.size) (hr : ∀ g, row = some g → base ≤ g) : Below base w w' := (Below.refl base w).grown hg hB hr

/-- 'out = append(out, x)', x a row of k cells, which lies in the newest block. -/
theorem wpList_append_row {P : Program} (w0 : World) {ops : Array Oper} {rest : List Oper} {o : Oper} {a : Act} {Q : Exit → Act → World → Prop} (hgd : o.guard = none) (s y : Operand) (t : TypeId)
    (ho : o.op = .call { callee := .builtin .append, args := #[s, y], argTypes := #[t, t] })
    (base : Nat) (e : TypeId) (z : Value) (k bytes : Nat) (ht : P.underlying t = some (.slice e)) (hinfo : (P.info? e).map (fun i => (i.zero, i.size, i.bytes)) = some (some z, k, bytes)) (hzs : z.cells.size = k) (hk0 : 0 < k)
    (row : α → List Value) (hrow : ∀ x, (row x).length = k) (hone : ∀ x, ∀ u ∈ row x, u.oneCell' = true)
    (l : List α) (v : Value) (hs : a.eval s = v) (hown : Own k row e base w0 v l) (x : α) (cells : Array Value) (hcells : cells = (row x).toArray) (e' : TypeId) (n0 : Nat) (hy : a.eval y = .slice (some ⟨n0, 0, none⟩) 1 1) (hn0 : n0 = w0.heap.size)
    (hlen : l.length + 1 ≤ 4294967296) (hbytes : bytes ≤ 4096) (hbase : base ≤ w0.heap.size)
    (h : ∀ v' w', Own k row e base w' v' (l ++ [x]) → Below base w0 w' → w0.heap.size ≤ w'.heap.size → (∀ g, g < w0.heap.size → some g ≠ v.ownBlock → w'.heap[g]? = w0.heap[g]?) → v' ≠ .slice none 0 0 → wpList P ops Q rest (a.put o.dst v') w') :
    wpList P ops Q (o :: rest) a (w0.alloc (.cells cells e')) := by
  obtain ⟨i, hi, hz, hsz, hby⟩ := info_parts hinfo
  subst hcells
  subst hn0
  refine wpList_append_own _ hgd s y t ho base e i z k bytes ht hi hz hsz hby hzs hk0 v l.length (l.flatMap row) hs (hown.alloc _) ⟨w0.heap.size, 0, none⟩ 1 1 (row x) hy (by simp [hrow]) ?_ (hone x) (by unfold maxLen; omega) ?_ (by simp; omega) ?_
  · intro j u hu
    rw [Addr.add_lit, Nat.zero_add, World.cell?_alloc_new]
    simpa using hu
  · calc (l.length + 1) * bytes ≤ 4294967296 * 4096 := Nat.mul_le_mul hlen hbytes
      _ ≤ 140737488355328 := by omega
  · intro v' w' h1 h2 h3
    have hb : ∀ g, v.ownBlock = some g → base ≤ g := fun g hg => (World.ownsRow.lt hown g hg).1
    refine h v' w' ?_ (((Below.refl base w0).alloc hbase _).grown h2 (by simp; omega) hb) (by have := h2.size; simp at this; omega) ?_ ?_
    · unfold Own; rw [List.flatMap_append, List.length_append]; simpa using h1
    · intro g hg hne
      exact (h2.block g (by simp; omega) hne).trans (Below.heap_alloc w0 _ g hg)
    · intro hv; have := h3.1 hv; omega

theorem flat_inv {row : α → List Value} (hrow : ∀ x, (row x).length = k) : ∀ (l : List α) (j : Nat) (u : Value), (l.flatMap row)[j]? = some u → ∃ i x j', l[i]? = some x ∧ (row x)[j']? = some u ∧ j = i * k + j' := by
  intro l
  induction l with
  | nil => intro j u h; simp at h
  | cons y l ih =>
    intro j u hu
    rw [List.flatMap_cons] at hu
    rcases Nat.lt_or_ge j (row y).length with h | h
    · rw [List.getElem?_append_left h] at hu
      exact ⟨0, y, j, by simp, hu, by simp⟩
    · rw [List.getElem?_append_right h] at hu
      obtain ⟨i, x, j', h1, h2, h3⟩ := ih _ _ hu
      refine ⟨i + 1, x, j', by simpa using h1, h2, ?_⟩
      rw [hrow] at h h3; rw [Nat.succ_mul]; omega

/-- 'out = append(out, l...)', l a slice that reads as a list: nil, empty or not. -/
theorem wpList_append_all {P : Program} (w : World) {ops : Array Oper} {rest : List Oper} {o : Oper} {a : Act} {Q : Exit → Act → World → Prop} (hgd : o.guard = none) (s y : Operand) (t : TypeId)
    (ho : o.op = .call { callee := .builtin .append, args := #[s, y], argTypes := #[t, t] })
    (base : Nat) (e : TypeId) (z : Value) (k bytes : Nat) (ht : P.underlying t = some (.slice e)) (hinfo : (P.info? e).map (fun i => (i.zero, i.size, i.bytes)) = some (some z, k, bytes)) (hzs : z.cells.size = k) (hk0 : 0 < k)
    (row : α → List Value) (hrow : ∀ x, (row x).length = k) (hone : ∀ x, ∀ u ∈ row x, u.oneCell' = true)
    (l0 : List α) (v : Value) (hs : a.eval s = v) (hown : Own k row e base w v l0) (l : List α) (B : Nat) (vs : Value) (hsl : Sl k row B w vs l) (hy : a.eval y = vs)
    (h63 : l0.length + l.length ≤ maxLen) (hbytes : (l0.length + l.length) * bytes ≤ 140737488355328) (hbase : base ≤ w.heap.size)
    (h : ∀ v' w', Own k row e base w' v' (l0 ++ l) → Below base w w' → w.heap.size ≤ w'.heap.size → (∀ g, g < w.heap.size → some g ≠ v.ownBlock → w'.heap[g]? = w.heap[g]?) → (l ≠ [] → v' ≠ .slice none 0 0) → wpList P ops Q rest (a.put o.dst v') w') :
    wpList P ops Q (o :: rest) a w := by
  obtain ⟨i, hi, hz, hsz, hby⟩ := info_parts hinfo
  obtain ⟨A, cap, rfl, h1, h2, hN, hA⟩ := hsl
  cases A with
  | none =>
    have hc0 := hN rfl
    have hl : l = [] := List.eq_nil_of_length_eq_zero (by omega)
    subst hl; subst hc0
    exact wpList_append_own_none hgd s y t ho base e i k ht hi v l0.length (l0.flatMap row) hs hown hy (h v w (by simpa using hown) (Below.refl _ _) (Nat.le_refl _) (fun _ _ _ => rfl) (fun h => absurd rfl h))
  | some ad =>
    refine wpList_append_own w hgd s y t ho base e i z k bytes ht hi hz hsz hby hzs hk0 v l0.length (l0.flatMap row) hs hown ad l.length cap (l.flatMap row) hy (flat_length hrow l) ?_ ?_ h63 hbytes hbase ?_
    · intro j u hu
      obtain ⟨i', x, j', e1, e2, rfl⟩ := flat_inv hrow l j u hu
      obtain ⟨b, off, hb, _, hc⟩ := hA (by rintro rfl; simp at e1)
      injection hb with hb
      subst hb
      rw [Addr.add_lit, ← Nat.add_assoc]
      exact hc i' x e1 j' u e2
    · intro u hu
      obtain ⟨x, _, hx⟩ := List.mem_flatMap.1 hu
      exact hone x u hx
    · intro v' w' h1 h2 h3
      have hb : ∀ g, v.ownBlock = some g → base ≤ g := fun g hg => (World.ownsRow.lt hown g hg).1
      refine h v' w' ?_ ((Below.refl base w).grown h2 hbase hb) h2.size (fun g hg hne => h2.block g hg hne) (fun hl hv => ?_)
      · unfold Own; rw [List.flatMap_append, List.length_append]; exact h1
      · have := (h3.1 hv).2
        exact hl (List.eq_nil_of_length_eq_zero this)
end

/-- A function with a body, called by its number. -/
theorem callFunc_enter {P : Program} {f : FuncId} {fn : Func} (hf : P.funcs[f]? = some fn) (hn : (fn.name == "runtime.NumGoroutine") = false) (hb : fn.body.isNone = false) (args : Array Value) (w : World) :
    (callFunc f args).run P w = .ok (.enter f args) w := by
  have h1 : ¬ fn.name = "runtime.NumGoroutine" := by simpa using hn
  have h2 : ¬ fn.body = none := by intro h; simp [h] at hb
  simp [callFunc, hf, h1, h2]
theorem ret_bool {a b : Bool} (h : a = b) : Ending.returned (.bool a) = .returned (.bool b) := by rw [h]
theorem ret_int {k : IntKind} {a b : Int} (h : a = b) : Ending.returned (.int k a) = .returned (.int k b) := by rw [h]
theorem below_set {B : Nat} {a w : World} {n i : Nat} {u : Value} (h : Below B a w) (hn : B ≤ n) : Below B a (w.setCell ⟨n, i, none⟩ u) := h.setCell (p := ⟨n, i, none⟩) hn u
theorem below_drewN {B : Nat} {a w : World} (h : Below B a w) (n : Nat) : Below B a (w.drewN n) := ⟨h.os, h.tape, h.output, h.size, h.block⟩
theorem below_new (w : World) (o : Obj) : Below w.heap.size w (w.alloc o) := (Below.refl _ _).alloc (Nat.le_refl _) o
theorem below_call {a b c : World} (h : Below a.heap.size a b) (hb : Below b.heap.size b c) : Below a.heap.size a c := h.trans (hb.mono h.size)

/-- The same world, but for the count of what was drawn. -/
def Like (w' w : World) : Prop := w'.heap = w.heap ∧ w'.os = w.os ∧ w'.tape = w.tape ∧ w'.output = w.output
theorem Like.below {B : Nat} {a w w' : World} (h : Like w' w) (hb : Below B a w) : Below B a w' :=
  ⟨h.2.1.trans hb.os, h.2.2.1.trans hb.tape, h.2.2.2.trans hb.output, by rw [h.1]; exact hb.size, fun i hi => by rw [h.1]; exact hb.block i hi⟩
theorem Like.own {α : Type} {k : Nat} {row : α → List Value} {e : TypeId} {base : Nat} {w w' : World} {v : Value} {l : List α} (h : Like w' w) (ho : Own k row e base w v l) : Own k row e base w' v l := by
  unfold Own World.ownsRow at ho ⊢; rw [h.1]; exact ho
/-- Only block g, and what is new, has turned. -/
def But (g : Nat) (w w' : World) : Prop := w'.os = w.os ∧ w'.tape = w.tape ∧ w'.output = w.output ∧ w.heap.size ≤ w'.heap.size ∧ ∀ i, i < w.heap.size → i ≠ g → w'.heap[i]? = w.heap[i]?
theorem But.refl (g : Nat) (w : World) : But g w w := ⟨rfl, rfl, rfl, Nat.le_refl _, fun _ _ _ => rfl⟩
theorem But.trans {g : Nat} {a b c : World} (h : But g a b) (k : But g b c) : But g a c :=
  ⟨k.1.trans h.1, k.2.1.trans h.2.1, k.2.2.1.trans h.2.2.1, Nat.le_trans h.2.2.2.1 k.2.2.2.1, fun i hi hn => (k.2.2.2.2 i (Nat.lt_of_lt_of_le hi h.2.2.2.1) hn).trans (h.2.2.2.2 i hi hn)⟩
theorem But.of_below {g : Nat} {a b : World} (h : Below a.heap.size a b) : But g a b := ⟨h.os, h.tape, h.output, h.size, fun i hi _ => h.block i hi⟩
theorem But.set_ {g o : Nat} {u : Value} (w : World) : But g w (w.setCell ⟨g, o, none⟩ u) :=
  ⟨rfl, rfl, rfl, by simp, fun i _ hn => Below.heap_setCell w ⟨g, o, none⟩ u i (fun e => hn e)⟩
theorem But.like {g : Nat} {a w w' : World} (h : Like w' w) (hb : But g a w) : But g a w' :=
  ⟨h.2.1.trans hb.1, h.2.2.1.trans hb.2.1, h.2.2.2.trans hb.2.2.1, by rw [h.1]; exact hb.2.2.2.1, fun i hi hn => by rw [h.1]; exact hb.2.2.2.2 i hi hn⟩
theorem But.below {g B : Nat} {a b : World} (h : But g a b) (hg : B ≤ g) (hB : B ≤ a.heap.size) : Below B a b := ⟨h.1, h.2.1, h.2.2.1, h.2.2.2.1, fun i hi => h.2.2.2.2 i (by omega) (by omega)⟩

/-- A block that is known whole, and not frozen. -/
def Box (w : World) (n : Nat) (cs : Array Value) (t : TypeId) : Prop := w.heap[n]? = some (.cells cs t (0, 0))
section
variable {w w' : World} {n : Nat} {cs : Array Value} {t : TypeId}
theorem Box.new (w : World) (cs : Array Value) (t : TypeId) : Box (w.alloc (.cells cs t)) w.heap.size cs t := heap_alloc_new w _
theorem Box.lt (h : Box w n cs t) : n < w.heap.size := (Array.getElem?_eq_some_iff.1 h).1
theorem Box.alloc (h : Box w n cs t) (o : Obj) : Box (w.alloc o) n cs t := (Below.heap_alloc w o n h.lt).trans h
theorem Box.below {B : Nat} (h : Box w n cs t) (hb : Below B w w') (hn : n < B) : Box w' n cs t := (hb.block n hn).trans h
theorem Box.later (h : Box w n cs t) (hb : Below w.heap.size w w') : Box w' n cs t := h.below hb h.lt
theorem Box.cell (h : Box w n cs t) : ∀ i, w.cell? ⟨n, i, none⟩ = cs[i]? := fun i => cell_of_row w n i cs t (0, 0) h
theorem Box.free (h : Box w n cs t) : ∀ i, w.frozen? ⟨n, i, none⟩ = false := by
  intro i; unfold Box at h; simp [World.frozen?, h]
theorem Box.set_ (h : Box w n cs t) (i : Nat) (u : Value) : Box (w.setCell ⟨n, i, none⟩ u) n (cs.setIfInBounds i u) t := by
  unfold Box at h ⊢; simp [World.setCell, Array.getElem?_modify, h]
theorem Box.but {g : Nat} (h : Box w n cs t) (hb : But g w w') (hn : n ≠ g) : Box w' n cs t := (hb.2.2.2.2 n h.lt hn).trans h
theorem Box.like (h : Box w n cs t) (hl : Like w' w) : Box w' n cs t := by unfold Box at h ⊢; rw [hl.1]; exact h
theorem Box.far (h : Box w n cs t) {p : Addr} (hp : n ≠ p.block) (u : Value) : Box (w.setCell p u) n cs t := (Below.heap_setCell w p u n hp).trans h
/-- Two, three boxes that lie one behind the other, behind whatever leaves them be. -/
theorem boxes2 {w w' : World} (c1 c2 : Array Value) (t1 t2 : TypeId) (hb : Below ((w.alloc (.cells c1 t1)).alloc (.cells c2 t2)).heap.size ((w.alloc (.cells c1 t1)).alloc (.cells c2 t2)) w') :
    Box w' w.heap.size c1 t1 ∧ Box w' (w.heap.size + 1) c2 t2 ∧ Below w.heap.size w w' := by
  have b2 := (Box.new (w.alloc (.cells c1 t1)) c2 t2).later hb
  rw [World.size_alloc] at b2
  exact ⟨((Box.new w c1 t1).alloc _).later hb, b2, below_call (below_call (below_new _ _) (below_new _ _)) hb⟩
theorem boxes3 {w w' : World} (c1 c2 c3 : Array Value) (t1 t2 t3 : TypeId) (hb : Below (((w.alloc (.cells c1 t1)).alloc (.cells c2 t2)).alloc (.cells c3 t3)).heap.size (((w.alloc (.cells c1 t1)).alloc (.cells c2 t2)).alloc (.cells c3 t3)) w') :
    Box w' w.heap.size c1 t1 ∧ Box w' (w.heap.size + 1) c2 t2 ∧ Box w' (w.heap.size + 1 + 1) c3 t3 ∧ Below w.heap.size w w' := by
  have b2 := ((Box.new (w.alloc (.cells c1 t1)) c2 t2).alloc (.cells c3 t3)).later hb
  have b3 := (Box.new ((w.alloc (.cells c1 t1)).alloc (.cells c2 t2)) c3 t3).later hb
  rw [World.size_alloc] at b2
  rw [World.size_alloc, World.size_alloc] at b3
  exact ⟨(((Box.new w c1 t1).alloc _).alloc _).later hb, b2, b3, below_call (below_call (below_call (below_new _ _) (below_new _ _)) (below_new _ _)) hb⟩
theorem boxes4 {w w' : World} (c1 c2 c3 c4 : Array Value) (t1 t2 t3 t4 : TypeId) (hb : Below ((((w.alloc (.cells c1 t1)).alloc (.cells c2 t2)).alloc (.cells c3 t3)).alloc (.cells c4 t4)).heap.size ((((w.alloc (.cells c1 t1)).alloc (.cells c2 t2)).alloc (.cells c3 t3)).alloc (.cells c4 t4)) w') :
    Box w' w.heap.size c1 t1 ∧ Box w' (w.heap.size + 1) c2 t2 ∧ Box w' (w.heap.size + 1 + 1) c3 t3 ∧ Box w' (w.heap.size + 1 + 1 + 1) c4 t4 ∧ Below w.heap.size w w' := by
  obtain ⟨h2, h3, h4, h1⟩ := boxes3 (w := w.alloc (.cells c1 t1)) c2 c3 c4 t2 t3 t4 hb
  rw [World.size_alloc] at h2 h3 h4
  exact ⟨(Box.new w c1 t1).later h1, h2, h3, h4, below_call (below_new _ _) h1⟩

/-- What a walk wants of a box: its cells, that they may be written, that it is there. -/
theorem Box.facts (h : Box w n cs t) : (∀ i, w.cell? ⟨n, i, none⟩ = cs[i]?) ∧ (∀ i, w.frozen? ⟨n, i, none⟩ = false) ∧ n < w.heap.size := ⟨h.cell, h.free, h.lt⟩
end
end Go.Proofs.YtglkgmijhdkhpaaGreatDoor
/-
  WORLD LEMMAS that name no program: a lent list (marks behind its end); a make of rows; two lists alike.
-/
set_option linter.unusedVariables false
namespace Go.Proofs.YtglkgmijhdkhpaaGreatDoor
open Go.RowKit

section
variable {α : Type} {k : Nat} {row : α → List Value} {B B' : Nat} {w w' : World} {v : Value} {l ms : List α}

/-- The slice value v reads as l, lies at its block's head, and behind its end, in its spare room, stand the marks ms. -/
def Lnt {α : Type} (k : Nat) (row : α → List Value) (ms : List α) (B : Nat) (w : World) (v : Value) (l : List α) : Prop :=
  ∃ g cap, v = .slice (some ⟨g, 0, none⟩) l.length cap ∧ l.length + ms.length ≤ cap ∧ cap ≤ maxLen ∧ g < B ∧
    ∀ i x, (l ++ ms)[i]? = some x → ∀ j u, (row x)[j]? = some u → w.cell? ⟨g, i * k + j, none⟩ = some u
theorem Lnt.keep (h : Lnt k row ms B w v l) (hk : ∀ b o, b < B → w'.cell? ⟨b, o, none⟩ = w.cell? ⟨b, o, none⟩) : Lnt k row ms B w' v l := by
  obtain ⟨g, cap, hv, h1, h2, h3, h4⟩ := h
  exact ⟨g, cap, hv, h1, h2, h3, fun i x hx j u hu => (hk _ _ h3).trans (h4 i x hx j u hu)⟩
theorem Lnt.more (h : Lnt k row ms B w v l) (hB : B ≤ B') : Lnt k row ms B' w v l := by
  obtain ⟨g, cap, hv, h1, h2, h3, h4⟩ := h
  exact ⟨g, cap, hv, h1, h2, by omega, h4⟩
theorem Lnt.below (h : Lnt k row ms B w v l) (hb : Below B w w') : Lnt k row ms B w' v l := h.keep fun _ _ hp => hb.cell (p := ⟨_, _, none⟩) hp
theorem Lnt.later (h : Lnt k row ms w.heap.size w v l) (hb : Below w.heap.size w w') : Lnt k row ms w'.heap.size w' v l := (h.below hb).more hb.size
theorem Lnt.alloc (h : Lnt k row ms w.heap.size w v l) (o : Obj) : Lnt k row ms (w.alloc o).heap.size (w.alloc o) v l := h.later ((Below.refl _ _).alloc (Nat.le_refl _) o)
theorem Lnt.sl (h : Lnt k row ms B w v l) : Sl k row B w v l := by
  obtain ⟨g, cap, hv, h1, h2, h3, h4⟩ := h
  refine ⟨_, cap, hv, by omega, h2, fun h => by simp at h, fun _ => ⟨g, 0, rfl, h3, fun i x hx j u hu => ?_⟩⟩
  have hi := (List.getElem?_eq_some_iff.1 hx).1
  rw [Nat.zero_add]
  exact h4 i x (by rw [List.getElem?_append_left hi]; exact hx) j u hu
/-- The whole, marks too, as a list. -/
theorem Lnt.all (h : Lnt k row ms B w v l) : ∃ g cap, v = .slice (some ⟨g, 0, none⟩) l.length cap ∧ l.length + ms.length ≤ cap ∧ cap ≤ maxLen ∧ g < B ∧
    ∀ i x, (l ++ ms)[i]? = some x → ∀ j u, (row x)[j]? = some u → w.cell? ⟨g, i * k + j, none⟩ = some u := h
/-- An owned list that ends with marks, cut to what stands ahead of them. -/
theorem Own.lnt {e : TypeId} {base g n cap : Nat} (h : Own k row e base w (.slice (some ⟨g, 0, none⟩) n cap) (l ++ ms)) (hrow : ∀ x, (row x).length = k) (hms : ms ≠ []) :
    Lnt k row ms w.heap.size w (.slice (some ⟨g, 0, none⟩) l.length cap) l := by
  obtain ⟨b, off, cap', hv, h1, h2, h3, h4⟩ := (h.sl hrow).cellAt (by simp [hms])
  have hoff : off = 0 := by simp only [Value.slice.injEq, Option.some.injEq, Addr.mk.injEq] at hv; omega
  simp only [Value.slice.injEq, Option.some.injEq, Addr.mk.injEq, and_true] at hv
  obtain ⟨⟨rfl, -⟩, rfl, rfl⟩ := hv
  subst hoff
  refine ⟨_, _, rfl, by simpa using h1, h2, h3, fun i x hx j u hu => ?_⟩
  have := h4 i x hx j u hu
  rwa [Nat.zero_add] at this
theorem Own.form' {e : TypeId} {base : Nat} (h : Own k row e base w v l) (hv : v ≠ .slice none 0 0) : ∃ g cap, v = .slice (some ⟨g, 0, none⟩) l.length cap ∧ l.length ≤ cap ∧ cap ≤ maxLen ∧ base ≤ g ∧ g < w.heap.size := by
  rcases h.2 with ⟨h0, _⟩ | ⟨g, cap, cur, h0, hg, hh, h1, h2, _⟩
  · exact absurd h0 hv
  · exact ⟨g, cap, h0, h1, h2, hg, (Array.getElem?_eq_some_iff.1 hh).1⟩
end

/-- 'make([]T, 0, n)': an owned list of nothing, with room. -/
theorem wpList_make_rows {α : Type} {P : Program} (w : World) {ops : Array Oper} {rest : List Oper} {o : Oper} {a : Act} {Q : Exit → Act → World → Prop}
    (hg : o.guard = none) (l c : Operand) (t : TypeId) (hop : o.op = Op.makeSlice t l c) (row : α → List Value)
    (base : Nat) (e : TypeId) (z : Value) (size bytes : Nat) (h1 : P.underlying t = some (.slice e)) (hinfo : (P.info? e).map (fun i => (i.zero, i.size, i.bytes)) = some (some z, size, bytes))
    (kl kc : IntKind) (C : Int) (n : Nat) (hl : a.eval l = .int kl 0) (hc : a.eval c = .int kc C) (hC : C = (n : Int)) (b2 : n ≤ 4294967296) (b2' : bytes ≤ 4096) (b4 : base ≤ w.heap.size)
    (hK : ∀ w', Own size row e base w' (.slice (some ⟨w.heap.size, 0, none⟩) 0 n) [] → Below w.heap.size w w' → wpList P ops Q rest (a.put o.dst (.slice (some ⟨w.heap.size, 0, none⟩) 0 n)) w') :
    wpList P ops Q (o :: rest) a w := by
  obtain ⟨i, hi, hz, hsz, hby⟩ := info_parts hinfo
  refine wpList_make_own w hg l c t hop base e i z size h1 hi hz hsz kl kc C n hl hc hC ?_ (by unfold maxLen; omega) b4 (fun w' r1 r2 => hK w' r1 ?_)
  · rw [hby]
    calc bytes * n ≤ 4096 * 4294967296 := Nat.mul_le_mul b2' b2
      _ ≤ 281474976710656 := by omega
  · exact grown_below r2 (Nat.le_refl _) (by simp)

/-- 'out = append(out, x)' at a step of a region that draws: x a row of k cells in a block that is known whole. -/
theorem step_append_row {α : Type} {P : Program} {w : World} {ops : Array Oper} {o : Oper} {a : Act} {K : Act → World → Prop} {Q : Exit → Act → World → Prop} {E : Prop} (hgd : o.guard = none) (s y : Operand) (t : TypeId)
    (ho : o.op = .call { callee := .builtin .append, args := #[s, y], argTypes := #[t, t] })
    (base : Nat) (e : TypeId) (z : Value) (k bytes : Nat) (ht : P.underlying t = some (.slice e)) (hinfo : (P.info? e).map (fun i => (i.zero, i.size, i.bytes)) = some (some z, k, bytes)) (hzs : z.cells.size = k) (hk0 : 0 < k)
    (row : α → List Value) (hrow : ∀ x, (row x).length = k) (hone : ∀ x, ∀ u ∈ row x, u.oneCell' = true)
    (l : List α) (v : Value) (hs : a.eval s = v) (hown : Own k row e base w v l) (x : α) (cells : Array Value) (hcells : cells = (row x).toArray) (e' : TypeId) (n0 : Nat) (hy : a.eval y = .slice (some ⟨n0, 0, none⟩) 1 1) (hn0 : Box w n0 cells e')
    (hlen : l.length + 1 ≤ 4294967296) (hbytes : bytes ≤ 4096) (hbase : base ≤ w.heap.size)
    (h : ∀ g cap w', Own k row e base w' (.slice (some ⟨g, 0, none⟩) (l ++ [x]).length cap) (l ++ [x]) → Below base w w' → base ≤ w'.heap.size → K (a.put o.dst (.slice (some ⟨g, 0, none⟩) (l ++ [x]).length cap)) w') :
    if Region.wanted o (yielded ops a.tmps) = true then Oper.wp P o a w K Q else E := by
  obtain ⟨i, hi, hz, hsz, hby⟩ := info_parts hinfo
  subst hcells
  refine step_append_lies w hgd s y t ho base e i z k bytes ht hi hz hsz hby hzs hk0 v l.length (l.flatMap row) hs hown ⟨n0, 0, none⟩ 1 1 (row x) hy (by simp [hrow]) (fun j u hu => World.news_of_block hn0 j u (by simpa using hu)) (hone x) (by omega) (by unfold maxLen; omega) ?_ hbase w.heap.size rfl ?_
  · calc (l.length + 1) * bytes ≤ 4294967296 * 4096 := Nat.mul_le_mul hlen hbytes
      _ ≤ 140737488355328 := by omega
  · intro g cap w' h1 h2 h3 h4
    have hb : ∀ g, v.ownBlock = some g → base ≤ g := fun g hg => (World.ownsRow.lt hown g hg).1
    have hB := (Below.refl base w).grown h2 hbase hb
    have e1 : (l ++ [x]).length = l.length + 1 := by simp
    have := h g cap w' (by unfold Own; rw [List.flatMap_append, e1]; simpa using h1) hB (Nat.le_trans hbase hB.size)
    rw [e1] at this
    exact this
end Go.Proofs.YtglkgmijhdkhpaaGreatDoor
/-
  limpetkit's LentInts, KeptInts, SameInts: contracts.
-/
namespace Go.Proofs.YtglkgmijhdkhpaaGreatDoor
open Go.RowKit
set_option linter.unusedVariables false

theorem i64Row_length (x : Int) : (i64Row x).length = 1 := rfl
theorem i64Row_one (x : Int) : ∀ u ∈ i64Row x, u.oneCell' = true := by
  intro u hu; simp [i64Row] at hu; rcases hu with rfl; rfl
theorem intInfo : (Tryz.prog.info? 3).map (fun i => (i.zero, i.size, i.bytes)) = some (some (.int .i64 0), 1, 8) := by kernel_rfl
def mrk (i : Nat) : Int := 8000024 + (i : Int)
def marks : List Int := (List.range 12).map mrk
theorem marks_length : marks.length = 12 := rfl
theorem marks_at {i : Nat} (h : i < 12) : marks[i]? = some (mrk i) := by simp [marks, h]
theorem marks_more {i : Nat} (h : i < 12) : marks.take (i + 1) = marks.take i ++ [mrk i] := take_at (marks_at h)

set_option maxHeartbeats 400000 in
theorem mark1 (i : Nat) (w : World) (h : i ≤ 12) : Calls Tryz.prog 55 #[.int .i64 1, .int .i64 i] w fun e w' => e = .returned (.int .i64 (mrk i)) ∧ w = w' := by
  go_enter Tryz.func55, Tryz.ntmps55
  go_wp2
  go_ret
  exact ⟨rfl, rfl⟩

theorem mark2 (x : Int) (w : World) (h0 : 0 ≤ x) (h1 : x ≤ 12) : Calls Tryz.prog 55 #[.int .i64 1, .int .i64 x] w fun e w' => e = .returned (.int .i64 (8000024 + x)) ∧ w' = w := by
  obtain ⟨i, rfl⟩ := Int.eq_ofNat_of_zero_le h0
  exact (mark1 i w (by omega)).mono fun e w' ⟨he, hw⟩ => ⟨he, hw.symm⟩

end Go.Proofs.YtglkgmijhdkhpaaGreatDoor
