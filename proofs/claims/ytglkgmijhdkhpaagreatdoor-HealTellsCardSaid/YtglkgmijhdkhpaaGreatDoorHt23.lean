/-
  Merged: BagApart, OwnC.
-/
import Derived.Test.YtglkgmijhdkhpaaGreatDoorHt20
import Derived.Test.YtglkgmijhdkhpaaGreatDoorHt22
import Derived.Test.YtglkgmijhdkhpaaGreatDoorHt10
/-
  limpetkit's bag: whether all lies apart: contracts.
-/
set_option linter.unusedVariables false
set_option linter.unusedSimpArgs false
namespace Go.Proofs.YtglkgmijhdkhpaaGreatDoor
open Go.RowKit

set_option maxRecDepth 100000 in
set_option maxHeartbeats 4000000 in
/-- A bag whose flats each leave a class of worlds. -/
theorem bagApart (gb : Nat) (x0 x1 x2 x3 x4 x5 x6 x7 x8 x9 x10 x11 x12 x13 x14 : Sv) (C : World → Prop) (w : World) (h0 : C w) (hd : ∀ v, C v → C v.drew) (hbox : ∀ v, C v → Box v gb #[Sv.v x0, Sv.v x1, Sv.v x2, Sv.v x3, Sv.v x4, Sv.v x5, Sv.v x6, Sv.v x7, Sv.v x8, Sv.v x9, Sv.v x10, Sv.v x11, Sv.v x12, Sv.v x13, Sv.v x14] 100)
    (f0 : ∀ v, C v → Calls Tryz.prog 79 #[.slice x0.1 x0.2.1 x0.2.2] v (fun e w' => e = .returned (.bool true) ∧ C w'))
    (f1 : ∀ v, C v → Calls Tryz.prog 80 #[.slice x1.1 x1.2.1 x1.2.2] v (fun e w' => e = .returned (.bool true) ∧ C w'))
    (f2 : ∀ v, C v → Calls Tryz.prog 81 #[.slice x2.1 x2.2.1 x2.2.2] v (fun e w' => e = .returned (.bool true) ∧ C w'))
    (f3 : ∀ v, C v → Calls Tryz.prog 82 #[.slice x3.1 x3.2.1 x3.2.2] v (fun e w' => e = .returned (.bool true) ∧ C w'))
    (f4 : ∀ v, C v → Calls Tryz.prog 83 #[.slice x4.1 x4.2.1 x4.2.2] v (fun e w' => e = .returned (.bool true) ∧ C w'))
    (f5 : ∀ v, C v → Calls Tryz.prog 84 #[.slice x5.1 x5.2.1 x5.2.2] v (fun e w' => e = .returned (.bool true) ∧ C w'))
    (f6 : ∀ v, C v → Calls Tryz.prog 85 #[.slice x6.1 x6.2.1 x6.2.2] v (fun e w' => e = .returned (.bool true) ∧ C w'))
    (f7 : ∀ v, C v → Calls Tryz.prog 86 #[.slice x7.1 x7.2.1 x7.2.2] v (fun e w' => e = .returned (.bool true) ∧ C w'))
    (f8 : ∀ v, C v → Calls Tryz.prog 87 #[.slice x8.1 x8.2.1 x8.2.2] v (fun e w' => e = .returned (.bool true) ∧ C w'))
    (f9 : ∀ v, C v → Calls Tryz.prog 88 #[.slice x9.1 x9.2.1 x9.2.2] v (fun e w' => e = .returned (.bool true) ∧ C w'))
    (f10 : ∀ v, C v → Calls Tryz.prog 89 #[.slice x10.1 x10.2.1 x10.2.2] v (fun e w' => e = .returned (.bool true) ∧ C w'))
    (f11 : ∀ v, C v → Calls Tryz.prog 90 #[.slice x11.1 x11.2.1 x11.2.2] v (fun e w' => e = .returned (.bool true) ∧ C w'))
    (f12 : ∀ v, C v → Calls Tryz.prog 91 #[.slice x12.1 x12.2.1 x12.2.2] v (fun e w' => e = .returned (.bool true) ∧ C w'))
    (f13 : ∀ v, C v → Calls Tryz.prog 92 #[.slice x13.1 x13.2.1 x13.2.2] v (fun e w' => e = .returned (.bool true) ∧ C w'))
    (f14 : ∀ v, C v → Calls Tryz.prog 93 #[.slice x14.1 x14.2.1 x14.2.2] v (fun e w' => e = .returned (.bool true) ∧ C w')) :
    Calls Tryz.prog 53 #[.pointer (some ⟨gb, 0, none⟩)] w fun e w' => e = .returned (.bool true) ∧ C w' := by
  have k0 : ∀ zw : Cls C, zw.wd.cell? ⟨gb, 0, none⟩ = some (.slice x0.1 x0.2.1 x0.2.2) := fun zw => (hbox _ zw.is).cell 0
  have k1 : ∀ zw : Cls C, zw.wd.cell? ⟨gb, 1, none⟩ = some (.slice x1.1 x1.2.1 x1.2.2) := fun zw => (hbox _ zw.is).cell 1
  have k2 : ∀ zw : Cls C, zw.wd.cell? ⟨gb, 2, none⟩ = some (.slice x2.1 x2.2.1 x2.2.2) := fun zw => (hbox _ zw.is).cell 2
  have k3 : ∀ zw : Cls C, zw.wd.cell? ⟨gb, 3, none⟩ = some (.slice x3.1 x3.2.1 x3.2.2) := fun zw => (hbox _ zw.is).cell 3
  have k4 : ∀ zw : Cls C, zw.wd.cell? ⟨gb, 4, none⟩ = some (.slice x4.1 x4.2.1 x4.2.2) := fun zw => (hbox _ zw.is).cell 4
  have k5 : ∀ zw : Cls C, zw.wd.cell? ⟨gb, 5, none⟩ = some (.slice x5.1 x5.2.1 x5.2.2) := fun zw => (hbox _ zw.is).cell 5
  have k6 : ∀ zw : Cls C, zw.wd.cell? ⟨gb, 6, none⟩ = some (.slice x6.1 x6.2.1 x6.2.2) := fun zw => (hbox _ zw.is).cell 6
  have k7 : ∀ zw : Cls C, zw.wd.cell? ⟨gb, 7, none⟩ = some (.slice x7.1 x7.2.1 x7.2.2) := fun zw => (hbox _ zw.is).cell 7
  have k8 : ∀ zw : Cls C, zw.wd.cell? ⟨gb, 8, none⟩ = some (.slice x8.1 x8.2.1 x8.2.2) := fun zw => (hbox _ zw.is).cell 8
  have k9 : ∀ zw : Cls C, zw.wd.cell? ⟨gb, 9, none⟩ = some (.slice x9.1 x9.2.1 x9.2.2) := fun zw => (hbox _ zw.is).cell 9
  have k10 : ∀ zw : Cls C, zw.wd.cell? ⟨gb, 10, none⟩ = some (.slice x10.1 x10.2.1 x10.2.2) := fun zw => (hbox _ zw.is).cell 10
  have k11 : ∀ zw : Cls C, zw.wd.cell? ⟨gb, 11, none⟩ = some (.slice x11.1 x11.2.1 x11.2.2) := fun zw => (hbox _ zw.is).cell 11
  have k12 : ∀ zw : Cls C, zw.wd.cell? ⟨gb, 12, none⟩ = some (.slice x12.1 x12.2.1 x12.2.2) := fun zw => (hbox _ zw.is).cell 12
  have k13 : ∀ zw : Cls C, zw.wd.cell? ⟨gb, 13, none⟩ = some (.slice x13.1 x13.2.1 x13.2.2) := fun zw => (hbox _ zw.is).cell 13
  have k14 : ∀ zw : Cls C, zw.wd.cell? ⟨gb, 14, none⟩ = some (.slice x14.1 x14.2.1 x14.2.2) := fun zw => (hbox _ zw.is).cell 14
  clear hbox
  go_enter Tryz.func53, Tryz.ntmps53
  go_upto_region 1 with fail
  refine wp_region_cls_plain C h0 ?_
  intro hne
  simp only [List.append_eq, List.cons_append, List.nil_append]
  repeat (go_big_quiet_step ((rename_i x5; first
  | (go_at_call 79; exact cls_of x5 (f0 _ x5.is))
  | (go_at_call 80; exact cls_of x5 (f1 _ x5.is))
  | (go_at_call 81; exact cls_of x5 (f2 _ x5.is))
  | (go_at_call 82; exact cls_of x5 (f3 _ x5.is))
  | (go_at_call 83; exact cls_of x5 (f4 _ x5.is))
  | (go_at_call 84; exact cls_of x5 (f5 _ x5.is))
  | (go_at_call 85; exact cls_of x5 (f6 _ x5.is))
  | (go_at_call 86; exact cls_of x5 (f7 _ x5.is))
  | (go_at_call 87; exact cls_of x5 (f8 _ x5.is))
  | (go_at_call 88; exact cls_of x5 (f9 _ x5.is))
  | (go_at_call 89; exact cls_of x5 (f10 _ x5.is))
  | (go_at_call 90; exact cls_of x5 (f11 _ x5.is))
  | (go_at_call 91; exact cls_of x5 (f12 _ x5.is))
  | (go_at_call 92; exact cls_of x5 (f13 _ x5.is))
  | (go_at_call 93; exact cls_of x5 (f14 _ x5.is)))))
  refine wpQuiet_nil ?_
  intro _ hw'
  obtain ⟨x9, hw''⟩ := hw'
  subst hw''
  go_wp2_with fail
  go_ret
  exact ⟨rfl, x9.is⟩
end Go.Proofs.YtglkgmijhdkhpaaGreatDoor
/-
  OWNED SLICES THAT MAY BE CUT: rows of a block that may have more room than the slice says. World lemmas that name no program.
-/
set_option linter.unusedVariables false
namespace Go.Proofs.YtglkgmijhdkhpaaGreatDoor
open Go.RowKit

section
variable {α : Type} {k : Nat} {row : α → List Value} {e : TypeId} {base base' : Nat} {w w' : World} {v : Value} {l : List α}

/-- An owned slice, or one that was cut from it: of the same rows, with less room. -/
def OwnC (k : Nat) (row : α → List Value) (e : TypeId) (base : Nat) (w : World) (v : Value) (l : List α) : Prop :=
  (v = nilS ∧ l = []) ∨ ∃ g cap room, v = .slice (some ⟨g, 0, none⟩) l.length cap ∧ l.length ≤ cap ∧ cap ≤ room ∧ Own k row e base w (.slice (some ⟨g, 0, none⟩) l.length room) l
theorem Own.room_ {g n c : Nat} (h : Own k row e base w (.slice (some ⟨g, 0, none⟩) n c) l) : n = l.length ∧ l.length ≤ c ∧ c ≤ maxLen := by
  rcases h.2 with ⟨hv, _⟩ | ⟨g', cap, cur, hv, _, _, h1, h2, _⟩
  · simp at hv
  · simp only [Value.slice.injEq] at hv
    obtain ⟨_, rfl, rfl⟩ := hv
    exact ⟨rfl, h1, h2⟩
theorem Own.c (h : Own k row e base w v l) : OwnC k row e base w v l := by
  rcases id h.2 with ⟨hv, h0⟩ | ⟨g, cap, cur, hv, _⟩
  · exact .inl ⟨hv, List.eq_nil_of_length_eq_zero h0⟩
  · rw [hv] at h
    exact .inr ⟨g, cap, cap, hv, h.room_.2.1, Nat.le_refl _, h⟩
/-- A slice that is cut: its begin, with less room. -/
theorem Own.cut (hrow : ∀ x, (row x).length = k) {g n m c room : Nat} {r : List α} (h : Own k row e base w (.slice (some ⟨g, 0, none⟩) n room) (l ++ r)) (hm : m = l.length) (hc : m ≤ c) (hr : c ≤ room) : OwnC k row e base w (.slice (some ⟨g, 0, none⟩) m c) l := by
  have h2 := Own.begin_ hrow h hm
  subst hm
  exact .inr ⟨g, c, room, rfl, hc, hr, h2⟩
theorem OwnC.nil_ (k : Nat) (row : α → List Value) (e : TypeId) (base : Nat) (w : World) : OwnC k row e base w nilS [] := .inl ⟨rfl, rfl⟩
theorem OwnC.less (h : OwnC k row e base w v l) (hb : base' ≤ base) : OwnC k row e base' w v l := by
  rcases h with h | ⟨g, cap, room, hv, h1, h2, h3⟩
  · exact .inl h
  · exact .inr ⟨g, cap, room, hv, h1, h2, h3.less hb⟩
theorem OwnC.len (h : OwnC k row e base w v l) : ∃ A c, v = .slice A l.length c := by
  rcases h with ⟨rfl, rfl⟩ | ⟨g, cap, room, hv, _⟩
  · exact ⟨none, 0, rfl⟩
  · exact ⟨_, _, hv⟩
theorem OwnC.whole {g n c : Nat} (h : OwnC k row e base w (.slice (some ⟨g, 0, none⟩) n c) l) : ∃ room, n = l.length ∧ l.length ≤ c ∧ c ≤ room ∧ room ≤ maxLen ∧ Own k row e base w (.slice (some ⟨g, 0, none⟩) l.length room) l := by
  rcases h with ⟨hv, _⟩ | ⟨g', cap, room, hv, h1, h2, h3⟩
  · simp [nilS] at hv
  · simp only [Value.slice.injEq, Option.some.injEq, Addr.mk.injEq, and_true] at hv
    obtain ⟨rfl, rfl, rfl⟩ := hv
    exact ⟨room, rfl, h1, h2, h3.room_.2.2, h3⟩
theorem OwnC.block {x : Nat} (h : OwnC k row e base w v l) (hx : v.ownBlock = some x) : base ≤ x ∧ x < w.heap.size := by
  rcases h with ⟨rfl, _⟩ | ⟨g, cap, room, rfl, _, _, h3⟩
  · simp [nilS, Value.ownBlock] at hx
  · exact h3.block hx
theorem OwnC.spot {x : Nat} (h : OwnC k row e base w v l) (hx : v.ownBlock = some x) : ∃ c, v = .slice (some ⟨x, 0, none⟩) l.length c := by
  rcases h with ⟨rfl, _⟩ | ⟨g, cap, room, rfl, _, _, h3⟩
  · simp [nilS, Value.ownBlock] at hx
  · have : g = x := by simpa [Value.ownBlock] using hx
    subst this; exact ⟨cap, rfl⟩
theorem OwnC.stay (h : OwnC k row e base w v l) (hb : ∀ x, v.ownBlock = some x → w'.heap[x]? = w.heap[x]?) : OwnC k row e base w' v l := by
  rcases h with h | ⟨g, cap, room, rfl, h1, h2, h3⟩
  · exact .inl h
  · exact .inr ⟨g, cap, room, rfl, h1, h2, h3.stay fun x hx => hb x hx⟩
theorem OwnC.later (h : OwnC k row e base w v l) (hb : Below w.heap.size w w') : OwnC k row e base w' v l := h.stay fun x hx => hb.block x (h.block hx).2
theorem OwnC.drew (h : OwnC k row e base w v l) : OwnC k row e base w.drew v l := h.stay fun _ _ => rfl
theorem OwnC.sl (h : OwnC k row e base w v l) (hrow : ∀ x, (row x).length = k) : Sl k row w.heap.size w v l := by
  rcases h with ⟨rfl, rfl⟩ | ⟨g, cap, room, rfl, h1, h2, h3⟩
  · exact Sl.nil_ _ _ _ _
  · have hm := h3.room_.2.2
    obtain ⟨A, c, hv, _, _, _, h4⟩ := h3.sl hrow
    simp only [Value.slice.injEq] at hv
    obtain ⟨rfl, -, rfl⟩ := hv
    exact ⟨_, cap, rfl, h1, by omega, fun h => by simp at h, h4⟩
theorem OwnC.place (h : OwnC k row e base w v l) (hl : l ≠ []) : ∃ g cap, v = .slice (some ⟨g, 0, none⟩) l.length cap ∧ base ≤ g ∧ g < w.heap.size ∧ ∀ o, w.frozen? ⟨g, o, none⟩ = false := by
  rcases h with ⟨rfl, h0⟩ | ⟨g, cap, room, rfl, h1, h2, h3⟩
  · exact absurd h0 hl
  · obtain ⟨g', c', hv, p1, p2, p3⟩ := h3.place hl
    simp only [Value.slice.injEq, Option.some.injEq, Addr.mk.injEq, and_true, true_and] at hv
    obtain ⟨rfl, rfl⟩ := hv
    exact ⟨g, cap, rfl, p1, p2, p3⟩
theorem OwnC.cells {g : Nat} (h : OwnC k row e base w v l) (hg : v.ownBlock = some g) : ∀ j u, (l.flatMap row)[j]? = some u → w.cell? ((⟨g, 0, none⟩ : Addr).add j) = some u := by
  rcases h with ⟨rfl, h0⟩ | ⟨g', cap, room, rfl, h1, h2, h3⟩
  · simp [nilS, Value.ownBlock] at hg
  · exact World.ownsRow.cells h3 (by simpa [Value.ownBlock] using hg)
theorem OwnC.write {g cap n : Nat} (hrow : ∀ x, (row x).length = k) (h : OwnC k row e base w (.slice (some ⟨g, 0, none⟩) n cap) l) {i j : Nat} {x y : α} {u : Value} (hx : l[i]? = some x) (hy : row y = (row x).set j u) (hj : j < k) :
    OwnC k row e base (w.setCell ⟨g, i * k + j, none⟩ u) (.slice (some ⟨g, 0, none⟩) n cap) (l.set i y) := by
  obtain ⟨room, rfl, h1, h2, h3, h4⟩ := h.whole
  have h5 := h4.write hrow hx hy hj
  rw [← @List.length_set _ l i y] at h5 h1 ⊢
  exact .inr ⟨g, cap, room, by rw [List.length_set], by rw [List.length_set] at h1 ⊢; exact h1, h2, by rw [List.length_set] at h5 ⊢; exact h5⟩

/-- An owned slice that may be cut; or one without room, wherever it lies. -/
def OwnHC (k : Nat) (row : α → List Value) (e : TypeId) (base : Nat) (w : World) (v : Value) (l : List α) : Prop := OwnC k row e base w v l ∨ ∃ A, v = .slice (some A) 0 0 ∧ l = []
theorem OwnC.h (h : OwnC k row e base w v l) : OwnHC k row e base w v l := .inl h
theorem OwnHC.nil_ (k : Nat) (row : α → List Value) (e : TypeId) (base : Nat) (w : World) : OwnHC k row e base w nilS [] := .inl (OwnC.nil_ _ _ _ _ _)
theorem OwnHC.len (h : OwnHC k row e base w v l) : ∃ A c, v = .slice A l.length c := by
  rcases h with h | ⟨A, rfl, rfl⟩
  · exact h.len
  · exact ⟨_, _, rfl⟩
theorem OwnHC.own {x : Nat} (h : OwnHC k row e base w v l) (hx : blkH v = some x) : OwnC k row e base w v l := by
  rcases h with h | ⟨A, rfl, rfl⟩
  · exact h
  · rw [blkH_none] at hx; simp at hx
theorem OwnHC.block {x : Nat} (h : OwnHC k row e base w v l) (hx : blkH v = some x) : base ≤ x ∧ x < w.heap.size := (h.own hx).block (blkH_own hx)
theorem OwnHC.spot {x : Nat} (h : OwnHC k row e base w v l) (hx : blkH v = some x) : ∃ c, v = .slice (some ⟨x, 0, none⟩) l.length c := (h.own hx).spot (blkH_own hx)
theorem OwnHC.hollow (k : Nat) (row : α → List Value) (e : TypeId) (base : Nat) (w : World) (A : Option Addr) : OwnHC k row e base w (.slice A 0 0) [] := by
  cases A with
  | none => exact OwnHC.nil_ _ _ _ _ _
  | some A => exact .inr ⟨A, rfl, rfl⟩
theorem OwnHC.less (h : OwnHC k row e base w v l) (hb : base' ≤ base) : OwnHC k row e base' w v l := h.imp (fun h => h.less hb) id
/-- What is without room is told so. -/
theorem OwnHC.cases0 (h : OwnHC k row e base w v l) : (∃ A, v = .slice A 0 0 ∧ l = []) ∨ ∃ g c room, v = .slice (some ⟨g, 0, none⟩) l.length c ∧ c ≠ 0 ∧ l.length ≤ c ∧ c ≤ room ∧ blkH v = some g ∧ Own k row e base w (.slice (some ⟨g, 0, none⟩) l.length room) l := by
  rcases h with (⟨rfl, rfl⟩ | ⟨g, cap, room, rfl, h1, h2, h3⟩) | ⟨A, rfl, rfl⟩
  · exact .inl ⟨none, rfl, rfl⟩
  · by_cases hc : cap = 0
    · subst hc
      have h0 : l = [] := List.eq_nil_of_length_eq_zero (by omega)
      subst h0; exact .inl ⟨_, rfl, rfl⟩
    · exact .inr ⟨g, cap, room, rfl, hc, h1, h2, blkH_room hc, h3⟩
  · exact .inl ⟨_, rfl, rfl⟩
theorem OwnHC.stay (h : OwnHC k row e base w v l) (hb : ∀ x, blkH v = some x → w'.heap[x]? = w.heap[x]?) : OwnHC k row e base w' v l := by
  rcases h.cases0 with ⟨A, rfl, rfl⟩ | ⟨g, c, room, rfl, hc, h1, h2, hbk, ho⟩
  · exact OwnHC.hollow _ _ _ _ _ _
  · exact .inl (.inr ⟨g, c, room, rfl, h1, h2, ho.stay fun x hx => hb x (by rw [hbk]; exact hx)⟩)
theorem OwnHC.place (h : OwnHC k row e base w v l) (hl : l ≠ []) : ∃ g cap, v = .slice (some ⟨g, 0, none⟩) l.length cap ∧ base ≤ g ∧ g < w.heap.size ∧ (∀ o, w.frozen? ⟨g, o, none⟩ = false) ∧ blkH v = some g ∧ OwnC k row e base w v l := by
  rcases h.cases0 with ⟨A, rfl, rfl⟩ | ⟨g, c, room, rfl, hc, h1, h2, hbk, ho⟩
  · exact absurd rfl hl
  · obtain ⟨g', c', hv', p1, p2, p3⟩ := ho.place hl
    simp only [Value.slice.injEq, Option.some.injEq, Addr.mk.injEq, and_true, true_and] at hv'
    obtain ⟨rfl, rfl⟩ := hv'
    exact ⟨g, c, rfl, p1, p2, p3, hbk, .inr ⟨g, c, room, rfl, h1, h2, ho⟩⟩
theorem OwnHC.sl (h : OwnHC k row e base w v l) (hrow : ∀ x, (row x).length = k) : Sl k row w.heap.size w v l := by
  rcases h with h | ⟨A, rfl, rfl⟩
  · exact h.sl hrow
  · exact ⟨some A, 0, rfl, Nat.le_refl _, by unfold maxLen; omega, fun _ => rfl, fun h => absurd rfl h⟩

/-- 'out = append(s, l2...)', s an owned slice that may be cut, or one without room: what it tells, what s and its begins read then, what else stays. -/
theorem wpList_append_keepC {P : Program} (w : World) {ops : Array Oper} {rest : List Oper} {o : Oper} {a : Act} {Q : Exit → Act → World → Prop} (hgd : o.guard = none) (s y : Operand) (t : TypeId)
    (ho : o.op = .call { callee := .builtin .append, args := #[s, y], argTypes := #[t, t] })
    (base : Nat) (e : TypeId) (z : Value) (k bytes : Nat) (ht : P.underlying t = some (.slice e)) (hinfo : (P.info? e).map (fun i => (i.zero, i.size, i.bytes)) = some (some z, k, bytes)) (hzs : z.cells.size = k) (hk0 : 0 < k)
    (row : α → List Value) (hrow : ∀ x, (row x).length = k) (hone : ∀ x, ∀ u ∈ row x, u.oneCell' = true)
    (l : List α) (v : Value) (hs : a.eval s = v) (hown : OwnHC k row e base w v l) (l2 : List α) (ad : Addr) (c : Nat) (hy : a.eval y = .slice (some ad) l2.length c)
    (hnews : ∀ j u, (l2.flatMap row)[j]? = some u → w.cell? (ad.add j) = some u) (hm : 0 < l2.length)
    (h63 : l.length + l2.length ≤ maxLen) (hbytes : (l.length + l2.length) * bytes ≤ 140737488355328) (hbase : base ≤ w.heap.size)
    (h : ∀ g cap w', OwnC k row e base w' (.slice (some ⟨g, 0, none⟩) (l.length + l2.length) cap) (l ++ l2) → OwnHC k row e base w' v l → Below base w w' → (∀ b, b < w.heap.size → some b ≠ blkH v → w'.heap[b]? = w.heap[b]?) →
      (blkH v = some g ∨ g = w.heap.size) → g < w'.heap.size → w.heap.size ≤ w'.heap.size → (∀ v0 l0 r, OwnHC k row e base w v0 l0 → blkH v0 = blkH v → l = l0 ++ r → OwnHC k row e base w' v0 l0) → wpList P ops Q rest (a.put o.dst (.slice (some ⟨g, 0, none⟩) (l.length + l2.length) cap)) w') :
    wpList P ops Q (o :: rest) a w := by
  rcases hown.cases0 with ⟨A, rfl, rfl⟩ | ⟨g, c2, room, rfl, hc, hlc, hcr, hbk, hw⟩
  · refine wpList_append_keepH w hgd s y t ho base e z k bytes ht hinfo hzs hk0 row hrow hone [] _ hs (OwnH.hollow _ _ _ _ _ A) l2 ad c hy hnews hm h63 hbytes hbase fun g cap w' p1 p2 p3 p4 p5 p6 p7 => ?_
    refine h g cap w' p1.c (OwnHC.hollow _ _ _ _ _ _) p3 p4 p5 p6 p7 fun v0 l0 r h0 h1 h2 => ?_
    exact h0.stay fun x hx => by rw [h1, blkH_none] at hx; simp at hx
  · obtain ⟨i, hi, hz, hsz, hby⟩ := info_parts hinfo
    subst hsz
    subst hby
    have hl : (l2.flatMap row).length = l2.length * i.size := flat_length hrow l2
    have hxl : (l.flatMap row).length = l.length * i.size := flat_length hrow l
    have h1 : ∀ u ∈ l2.flatMap row, u.oneCell' = true := by
      intro u hu
      obtain ⟨x, _, hx⟩ := List.mem_flatMap.1 hu
      exact hone x u hx
    have hsmall : l.length + l2.length ≤ 9223372036854775807 := by simp only [maxLen] at h63; omega
    have hlen : (l.flatMap row ++ l2.flatMap row).length = (l.length + l2.length) * i.size := by rw [List.length_append, hxl, hl, Nat.add_mul]
    by_cases hroom : l.length + l2.length ≤ c2
    · rcases id hw.2 with ⟨hv, _⟩ | ⟨g', cap', cur, hv, hbg, hg, q1, q2, hcs, htake⟩
      · simp at hv
      simp only [Value.slice.injEq, Option.some.injEq, Addr.mk.injEq, and_true, true_and] at hv
      obtain ⟨rfl, rfl⟩ := hv
      have hfit : l.length * i.size + (l2.flatMap row).length ≤ cur.size := by rw [hl, hcs, ← Nat.add_mul]; exact Nat.mul_le_mul_right _ (by omega)
      have hr := run_append_room (P := P) w t o.type e i ht hi g l.length c2 cur hg ad l2.length c (l2.flatMap row) hl hnews h1 hroom hfit
      have hnh := setRow_heap w g cur (cur.toList.take (l.length * i.size) ++ l2.flatMap row ++ cur.toList.drop (l.length * i.size + (l2.flatMap row).length)).toArray e (0, 0) hg
      obtain ⟨cur', hcur'⟩ : ∃ q, q = (cur.toList.take (l.length * i.size) ++ l2.flatMap row ++ cur.toList.drop (l.length * i.size + (l2.flatMap row).length)).toArray := ⟨_, rfl⟩
      rw [← hcur'] at hr hnh
      have hsz' : cur'.size = room * i.size := by
        have hct : cur.toList.length = cur.size := Array.length_toList
        rw [hcur']
        simp only [List.size_toArray, List.length_append, List.length_take, List.length_drop, hct]
        omega
      have htake' : cur'.toList.take ((l.length + l2.length) * i.size) = l.flatMap row ++ l2.flatMap row := by
        rw [hcur', List.toList_toArray, htake, ← hlen]
        exact List.take_left
      have hnew : Own i.size row e base (w.setRow g cur') (.slice (some ⟨g, 0, none⟩) (l.length + l2.length) room) (l ++ l2) := by
        refine ⟨flat_length hrow _, .inr ⟨g, room, cur', by rw [List.length_append], hbg, hnh, by rw [List.length_append]; omega, q2, hsz', ?_⟩⟩
        rw [List.length_append, List.flatMap_append]; exact htake'
      have hgrown : w.grownBy (w.setRow g cur') (some g) := ⟨rfl, rfl, rfl, by simp, fun q _ hk => setRow_other w g q _ (fun e => hk (by rw [e]))⟩
      have hbeg : ∀ v0 l0 r, OwnHC i.size row e base w v0 l0 → blkH v0 = some g → l = l0 ++ r → OwnHC i.size row e base (w.setRow g cur') v0 l0 := fun v0 l0 r h0 h1 h2 => by
        rcases h0.cases0 with ⟨A, rfl, rfl⟩ | ⟨g0, c0, room0, rfl, hc0, hl0, hr0, hb0, ho0⟩
        · exact OwnHC.hollow _ _ _ _ _ _
        · have hgg : g0 = g := by rw [hb0] at h1; exact Option.some.inj h1
          subst hgg
          have hrr : room0 = room := Own.cap_eq hk0 ho0 hw
          subst hrr
          subst h2
          rw [List.append_assoc] at hnew
          exact .inl (Own.cut hrow hnew rfl hl0 hr0)
      refine wpList_plain hgd fun K hK => ?_
      unfold Oper.wp execOp
      simp only [ho, resolve, invoke, builtin, Sem.run_bind, Sem.run_pure, Result.andThen_ok, List.map_toArray, List.map_cons, List.map_nil, hs, hy, hr]
      refine hK _ _ (h g c2 _ (.inr ⟨g, c2, room, by rw [List.length_append], by rw [List.length_append]; exact hroom, hcr, by rw [List.length_append]; exact hnew⟩) (hbeg _ l [] hown hbk (by simp)) ((Below.refl base w).grown hgrown hbase (by intro q hq; injection hq with hq; omega)) (fun b hb' hne => hgrown.block b hb' (by rw [hbk] at hne; exact hne)) (.inl hbk) ?_ hgrown.size (fun v0 l0 r h0 h1 h2 => hbeg v0 l0 r h0 (h1.trans hbk) h2))
      exact (Array.getElem?_eq_some_iff.1 hnh).1
    · have holds : ∀ j u, (l.flatMap row)[j]? = some u → w.cell? ((⟨g, 0, none⟩ : Addr).add j) = some u := World.ownsRow.cells hw (g := g) rfl
      have hr := run_append_grow (P := P) w t o.type e i z ht hi hz ⟨g, 0, none⟩ l.length c2 (l.flatMap row) hxl holds ad l2.length c (l2.flatMap row) hl hnews (by omega) (by omega) (growslice_fits (by omega) hbytes)
      have hge := grownCap_ge w (l.length + l2.length) c2 e
      have hcm := grownCap_le_maxLen w (l.length + l2.length) c2 e h63
      obtain ⟨nc, hnc⟩ : ∃ q, q = grownCap w (l.length + l2.length) c2 e := ⟨_, rfl⟩
      rw [← hnc] at hr hge hcm
      obtain ⟨cur', hcur'⟩ : ∃ q, q = (l.flatMap row).toArray ++ (l2.flatMap row).toArray ++ Builtin.zeroCells z.cells (nc - (l.length + l2.length)) := ⟨_, rfl⟩
      rw [← hcur'] at hr
      have hsz' : cur'.size = nc * i.size := by
        rw [hcur']
        simp only [Array.size_append, List.size_toArray, size_zeroCells, hzs, hxl, hl, ← Nat.add_mul]
        congr 1
        omega
      have hnew : Own i.size row e base (w.drew.alloc (.cells cur' e)) (.slice (some ⟨w.heap.size, 0, none⟩) (l.length + l2.length) nc) (l ++ l2) := by
        refine ⟨flat_length hrow _, .inr ⟨w.heap.size, nc, cur', by rw [List.length_append], hbase, heap_alloc_new w.drew _, by rw [List.length_append]; exact hge, hcm, hsz', ?_⟩⟩
        rw [List.length_append, List.flatMap_append, hcur']
        simp only [Array.toList_append, List.append_assoc]
        rw [← List.append_assoc, ← hlen]
        exact List.take_left
      have hold : ∀ q, q < w.heap.size → (w.drew.alloc (.cells cur' e)).heap[q]? = w.heap[q]? := fun q hq => Below.heap_alloc w.drew _ q hq
      have hgrown : w.grownBy (w.drew.alloc (.cells cur' e)) none := ⟨rfl, rfl, rfl, by simp, fun q hq _ => hold q hq⟩
      refine wpList_plain hgd fun K hK => ?_
      unfold Oper.wp execOp
      simp only [ho, resolve, invoke, builtin, Sem.run_bind, Sem.run_pure, Result.andThen_ok, List.map_toArray, List.map_cons, List.map_nil, hs, hy, hr]
      refine hK _ _ (h w.heap.size nc _ hnew.c (hown.stay fun q hq => hold q (hown.block hq).2) ((Below.refl base w).grown hgrown hbase (by intro q hq; simp at hq)) (fun b hb' _ => hold b hb') (.inr rfl) (by simp) hgrown.size (fun v0 l0 r h0 _ _ => h0.stay fun q hq => hold q (h0.block hq).2))
/-- 'out = append(s, x)', x a row of k cells that lies in the newest block. -/
theorem wpList_append_keepC1 {P : Program} (w0 : World) {ops : Array Oper} {rest : List Oper} {o : Oper} {a : Act} {Q : Exit → Act → World → Prop} (hgd : o.guard = none) (s y : Operand) (t : TypeId)
    (ho : o.op = .call { callee := .builtin .append, args := #[s, y], argTypes := #[t, t] })
    (base : Nat) (e : TypeId) (z : Value) (k bytes : Nat) (ht : P.underlying t = some (.slice e)) (hinfo : (P.info? e).map (fun i => (i.zero, i.size, i.bytes)) = some (some z, k, bytes)) (hzs : z.cells.size = k) (hk0 : 0 < k)
    (row : α → List Value) (hrow : ∀ x, (row x).length = k) (hone : ∀ x, ∀ u ∈ row x, u.oneCell' = true)
    (l : List α) (v : Value) (hs : a.eval s = v) (hown : OwnHC k row e base w0 v l) (x : α) (cells : Array Value) (hcells : cells = (row x).toArray) (e' : TypeId) (n0 : Nat) (hy : a.eval y = .slice (some ⟨n0, 0, none⟩) 1 1) (hn0 : n0 = w0.heap.size)
    (hlen : l.length + 1 ≤ 4294967296) (hbytes : bytes ≤ 4096) (hbase : base ≤ w0.heap.size)
    (h : ∀ g cap w', OwnC k row e base w' (.slice (some ⟨g, 0, none⟩) (l.length + 1) cap) (l ++ [x]) → OwnHC k row e base w' v l → Below base w0 w' → (∀ b, b < w0.heap.size → some b ≠ blkH v → w'.heap[b]? = w0.heap[b]?) →
      (blkH v = some g ∨ w0.heap.size < g) → g < w'.heap.size → w0.heap.size < w'.heap.size → (∀ v0 l0 r, OwnHC k row e base w0 v0 l0 → blkH v0 = blkH v → l = l0 ++ r → OwnHC k row e base w' v0 l0) → wpList P ops Q rest (a.put o.dst (.slice (some ⟨g, 0, none⟩) (l.length + 1) cap)) w') :
    wpList P ops Q (o :: rest) a (w0.alloc (.cells cells e')) := by
  subst hcells
  subst hn0
  refine wpList_append_keepC (w0.alloc (.cells (row x).toArray e')) hgd s y t ho base e z k bytes ht hinfo hzs hk0 row hrow hone l v hs (hown.stay fun b hb => Below.heap_alloc w0 _ b (hown.block hb).2) [x] ⟨w0.heap.size, 0, none⟩ 1 hy ?_ (by simp) (by unfold maxLen; simp; omega) ?_ (by simp; omega) ?_
  · intro j u hu
    rw [Addr.add_lit, Nat.zero_add, World.cell?_alloc_new]
    simpa using hu
  · calc (l.length + [x].length) * bytes ≤ 4294967296 * 4096 := Nat.mul_le_mul (by simpa using hlen) hbytes
      _ ≤ 140737488355328 := by omega
  · intro g cap w' p1 p2 p3 p4 p5 p6 p7 p8
    simp only [List.length_singleton] at p1 ⊢
    simp only [World.size_alloc] at p4 p5 p7
    exact h g cap w' p1 p2 (((Below.refl base w0).alloc hbase _).trans p3) (fun b hb hne => (p4 b (by omega) hne).trans (Below.heap_alloc w0 _ b hb)) (p5.imp id fun h => by omega) p6 (by omega)
      (fun v0 l0 r h0 h1 h2 => p8 v0 l0 r (h0.stay fun b hb => Below.heap_alloc w0 _ b (h0.block hb).2) h1 h2)
end
end Go.Proofs.YtglkgmijhdkhpaaGreatDoor
