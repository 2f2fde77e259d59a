/-
  FAMILIES OF SLICES THAT LIE APART, each of which may be cut. World lemmas that name no program.
-/
import Derived.Test.YtglkgmijhdkhpaaGreatDoorHt23
set_option linter.unusedVariables false
namespace Go.Proofs.YtglkgmijhdkhpaaGreatDoor
open Go.RowKit

section
variable {α : Type} {k : Nat} {row : α → List Value} {e : TypeId} {base : Nat} {w w' : World}
/-- Families 0 .. n - 1: V j reads L j, G j reads M j; where both lie in one block, the one is the other's begin; no block is in two families; none is one of those that are kept out. -/
structure FamsC (k : Nat) (row : α → List Value) (e : TypeId) (base : Nat) (out : List Nat) (n : Nat) (w : World) (V G : Nat → Value) (L M : Nat → List α) : Prop where
  v : ∀ j, j < n → OwnHC k row e base w (V j) (L j)
  g : ∀ j, j < n → OwnHC k row e base w (G j) (M j)
  pre : ∀ j, j < n → ∀ x, blkH (V j) = some x → blkH (G j) = some x → ∃ r, M j = L j ++ r
  far : ∀ i j, i < n → j < n → i ≠ j → ∀ x, InFam V G i x → ¬ InFam V G j x
  out : ∀ j, j < n → ∀ x, InFam V G j x → x ∉ out

variable {out : List Nat} {n : Nat} {V G : Nat → Value} {L M : Nat → List α}

/-- Worlds in which every family's block is as it was. -/
theorem FamsC.stay (h : FamsC k row e base out n w V G L M) (hb : ∀ j, j < n → ∀ x, InFam V G j x → w'.heap[x]? = w.heap[x]?) : FamsC k row e base out n w' V G L M :=
  ⟨fun j hj => (h.v j hj).stay fun x hx => hb j hj x (.inl hx), fun j hj => (h.g j hj).stay fun x hx => hb j hj x (.inr hx), h.pre, h.far, h.out⟩
theorem FamsC.lt (h : FamsC k row e base out n w V G L M) {j x : Nat} (hj : j < n) (hx : InFam V G j x) : base ≤ x ∧ x < w.heap.size := by
  rcases hx with hx | hx
  · exact (h.v j hj).block hx
  · exact (h.g j hj).block hx
theorem FamsC.later (h : FamsC k row e base out n w V G L M) (hb : Below w.heap.size w w') : FamsC k row e base out n w' V G L M := h.stay fun j hj x hx => hb.block x (h.lt hj hx).2
theorem FamsC.set_out (h : FamsC k row e base out n w V G L M) {p i : Nat} (hp : p ∈ out) (u : Value) : FamsC k row e base out n (w.setCell ⟨p, i, none⟩ u) V G L M :=
  h.stay fun j hj x hx => Below.heap_setCell w ⟨p, i, none⟩ u x (fun e => h.out j hj x hx (by simp only at e; rw [e]; exact hp))
/-- One more block is kept out: a new one. -/
theorem FamsC.more (h : FamsC k row e base out n w V G L M) {p : Nat} (hp : w.heap.size ≤ p) : FamsC k row e base (p :: out) n w V G L M :=
  ⟨h.v, h.g, h.pre, h.far, fun j hj x hx hm => by
    rcases List.mem_cons.1 hm with rfl | hm
    · have := (h.lt hj hx).2; omega
    · exact h.out j hj x hx hm⟩
/-- The grown ones are let go. -/
theorem FamsC.drop (h : FamsC k row e base out n w V G L M) : FamsC k row e base out n w V (fun _ => nilS) L (fun _ => []) :=
  ⟨h.v, fun j hj => OwnHC.nil_ _ _ _ _ _, fun j hj x _ hx2 => by rw [blkH_nil] at hx2; simp at hx2,
    fun i j hi hj hij x hx hx' => h.far i j hi hj hij x (.inl (hx.resolve_right (by rw [blkH_nil]; simp))) (.inl (hx'.resolve_right (by rw [blkH_nil]; simp))),
    fun j hj x hx => h.out j hj x (.inl (hx.resolve_right (by rw [blkH_nil]; simp)))⟩
theorem FamsC.drop_out {out' : List Nat} (h : FamsC k row e base out n w V G L M) (ho : ∀ x, x ∈ out' → x ∈ out) : FamsC k row e base out' n w V G L M :=
  ⟨h.v, h.g, h.pre, h.far, fun j hj x hx hm => h.out j hj x hx (ho x hm)⟩

/-- Family m's slice G m is appended to (it lies in its own block, or a new one): the families stand. -/
theorem FamsC.grow (hk : 0 < k) (hrow : ∀ x, (row x).length = k) (h : FamsC k row e base out n w V G L M) {m : Nat} (hm : m < n) {v' : Value} {l2 : List α}
    (h1 : OwnC k row e base w' v' (M m ++ l2)) (h2 : OwnHC k row e base w' (G m) (M m)) (h3 : ∀ b, b < w.heap.size → some b ≠ blkH (G m) → w'.heap[b]? = w.heap[b]?)
    (h4 : ∀ x, blkH v' = some x → blkH (G m) = some x ∨ w.heap.size ≤ x) (hout : ∀ x ∈ out, x < w.heap.size) (hpre : ∀ x, blkH (V m) = some x → blkH v' = some x → ∃ r, M m = L m ++ r)
    (h8 : ∀ v0 l0 r, OwnHC k row e base w v0 l0 → blkH v0 = blkH (G m) → M m = l0 ++ r → OwnHC k row e base w' v0 l0) :
    FamsC k row e base out n w' V (upd G m v') L (upd M m (M m ++ l2)) := by
  have hother : ∀ j, j < n → j ≠ m → ∀ x, InFam V G j x → w'.heap[x]? = w.heap[x]? := fun j hj hne x hx =>
    h3 x (h.lt hj hx).2 (fun he => h.far j m hj hm hne x hx (.inr he.symm))
  have hfam : ∀ j x, InFam V (upd G m v') j x → InFam V G j x ∨ (j = m ∧ w.heap.size ≤ x) := by
    intro j x hx
    rcases hx with hx | hx
    · exact .inl (.inl hx)
    · by_cases hjm : j = m
      · subst hjm
        rw [upd_same] at hx
        rcases h4 x hx with h5 | h5
        · exact .inl (.inr h5)
        · exact .inr ⟨rfl, h5⟩
      · rw [upd_other _ _ hjm] at hx; exact .inl (.inr hx)
  refine ⟨fun j hj => ?_, fun j hj => ?_, fun j hj x hx1 hx2 => ?_, fun i j hi hj hij x hx hx' => ?_, fun j hj x hx => ?_⟩
  · by_cases hjm : j = m
    · subst hjm
      by_cases hsame : ∃ x, blkH (V j) = some x ∧ blkH (G j) = some x
      · obtain ⟨x, hv, hg⟩ := hsame
        obtain ⟨r, hr⟩ := h.pre j hm x hv hg
        exact h8 _ _ r (h.v j hm) (hv.trans hg.symm) hr
      · refine (h.v j hm).stay fun x hx => h3 x ((h.v j hm).block hx).2 (fun he => hsame ⟨x, hx, he.symm⟩)
    · exact (h.v j hj).stay fun x hx => hother j hj hjm x (.inl hx)
  · by_cases hjm : j = m
    · subst hjm; rw [upd_same, upd_same]; exact h1.h
    · rw [upd_other _ _ hjm, upd_other _ _ hjm]; exact (h.g j hj).stay fun x hx => hother j hj hjm x (.inr hx)
  · by_cases hjm : j = m
    · subst hjm
      rw [upd_same] at hx2 ⊢
      obtain ⟨r, hr⟩ := hpre x hx1 hx2
      exact ⟨r ++ l2, by rw [hr, List.append_assoc]⟩
    · rw [upd_other _ _ hjm] at hx2 ⊢; exact h.pre j hj x hx1 hx2
  · rcases hfam i x hx with h5 | ⟨h5, h6⟩
    · rcases hfam j x hx' with h7 | ⟨h7, h8⟩
      · exact h.far i j hi hj hij x h5 h7
      · have := (h.lt hi h5).2; omega
    · rcases hfam j x hx' with h7 | ⟨h7, h8⟩
      · have := (h.lt hj h7).2; omega
      · omega
  · rcases hfam j x hx with h5 | ⟨h5, h6⟩
    · exact h.out j hj x h5
    · intro hm'; have := hout x hm'; omega

/-- Family m's slice G m is put in place anew: what V m is appended to tells it. -/
theorem FamsC.turn (h : FamsC k row e base out n w V G L M) {m : Nat} (hm : m < n) {v' : Value} {l' r : List α}
    (h1 : OwnC k row e base w' v' l') (h2 : OwnHC k row e base w' (V m) (L m)) (h3 : ∀ b, b < w.heap.size → some b ≠ blkH (V m) → w'.heap[b]? = w.heap[b]?)
    (h4 : ∀ x, blkH v' = some x → blkH (V m) = some x ∨ w.heap.size ≤ x) (hout : ∀ x ∈ out, x < w.heap.size) (hl : l' = L m ++ r) :
    FamsC k row e base out n w' V (upd G m v') L (upd M m l') := by
  have hother : ∀ j, j < n → j ≠ m → ∀ x, InFam V G j x → w'.heap[x]? = w.heap[x]? := fun j hj hne x hx =>
    h3 x (h.lt hj hx).2 (fun he => h.far j m hj hm hne x hx (.inl he.symm))
  have hfam : ∀ j x, InFam V (upd G m v') j x → InFam V G j x ∨ (j = m ∧ w.heap.size ≤ x) := by
    intro j x hx
    rcases hx with hx | hx
    · exact .inl (.inl hx)
    · by_cases hjm : j = m
      · subst hjm
        rw [upd_same] at hx
        rcases h4 x hx with h5 | h5
        · exact .inl (.inl h5)
        · exact .inr ⟨rfl, h5⟩
      · rw [upd_other _ _ hjm] at hx; exact .inl (.inr hx)
  refine ⟨fun j hj => ?_, fun j hj => ?_, fun j hj x hx1 hx2 => ?_, fun i j hi hj hij x hx hx' => ?_, fun j hj x hx => ?_⟩
  · by_cases hjm : j = m
    · subst hjm; exact h2
    · exact (h.v j hj).stay fun x hx => hother j hj hjm x (.inl hx)
  · by_cases hjm : j = m
    · subst hjm; rw [upd_same, upd_same]; exact h1.h
    · rw [upd_other _ _ hjm, upd_other _ _ hjm]; exact (h.g j hj).stay fun x hx => hother j hj hjm x (.inr hx)
  · by_cases hjm : j = m
    · subst hjm; rw [upd_same]; exact ⟨r, hl⟩
    · rw [upd_other _ _ hjm] at hx2 ⊢; exact h.pre j hj x hx1 hx2
  · rcases hfam i x hx with h5 | ⟨h5, h6⟩
    · rcases hfam j x hx' with h7 | ⟨h7, h8⟩
      · exact h.far i j hi hj hij x h5 h7
      · have := (h.lt hi h5).2; omega
    · rcases hfam j x hx' with h7 | ⟨h7, h8⟩
      · have := (h.lt hj h7).2; omega
      · omega
  · rcases hfam j x hx with h5 | ⟨h5, h6⟩
    · exact h.out j hj x h5
    · intro hm'; have := hout x hm'; omega

/-- G m is put to V m. -/
theorem FamsC.same (h : FamsC k row e base out n w V G L M) {m : Nat} (hm : m < n) : FamsC k row e base out n w V (upd G m (V m)) L (upd M m (L m)) := by
  have hfam : ∀ j x, InFam V (upd G m (V m)) j x → InFam V G j x := by
    intro j x hx
    rcases hx with hx | hx
    · exact .inl hx
    · by_cases hjm : j = m
      · subst hjm; rw [upd_same] at hx; exact .inl hx
      · rw [upd_other _ _ hjm] at hx; exact .inr hx
  refine ⟨h.v, fun j hj => ?_, fun j hj x hx1 hx2 => ?_, fun i j hi hj hij x hx hx' => h.far i j hi hj hij x (hfam _ _ hx) (hfam _ _ hx'), fun j hj x hx => h.out j hj x (hfam _ _ hx)⟩
  · by_cases hjm : j = m
    · subst hjm; rw [upd_same, upd_same]; exact h.v j hj
    · rw [upd_other _ _ hjm, upd_other _ _ hjm]; exact h.g j hj
  · by_cases hjm : j = m
    · subst hjm; rw [upd_same]; exact ⟨[], by simp⟩
    · rw [upd_other _ _ hjm] at hx2 ⊢; exact h.pre j hj x hx1 hx2
theorem FamsC.less_out (h : FamsC k row e base out n w V G L M) {p : Nat} (hp : p ∈ out) {j x : Nat} (hj : j < n) (hx : InFam V G j x) : x ≠ p := fun he => h.out j hj x hx (by rw [he]; exact hp)

/-- V m is written to (its block alone turns), while no G lies anywhere. -/
theorem FamsC.write (h : FamsC k row e base out n w V (fun _ => nilS) L (fun _ => [])) {m : Nat} (hm : m < n) {l' : List α} {x0 : Nat} (hx0 : blkH (V m) = some x0)
    (h1 : OwnC k row e base w' (V m) l') (h3 : ∀ b, b ≠ x0 → w'.heap[b]? = w.heap[b]?) : FamsC k row e base out n w' V (fun _ => nilS) (upd L m l') (fun _ => []) := by
  refine ⟨fun j hj => ?_, fun j hj => OwnHC.nil_ _ _ _ _ _, fun j hj x hx1 hx2 => ?_, h.far, h.out⟩
  · by_cases hjm : j = m
    · subst hjm; rw [upd_same]; exact h1.h
    · rw [upd_other _ _ hjm]
      exact (h.v j hj).stay fun x hx => h3 x (fun e => h.far j m hj hm hjm x (.inl hx) (.inl (by rw [e]; exact hx0)))
  · rw [blkH_nil] at hx2; simp at hx2
end
end Go.Proofs.YtglkgmijhdkhpaaGreatDoor
