/-
  Merged: Ent7, BodFam.
-/
import Derived.Test.YtglkgmijhdkhpaaDoorHa12
import Derived.Test.YtglkgmijhdkhpaaDoorHa20
import Derived.Test.YtglkgmijhdkhpaaDoorHa9
import Derived.Lib.SliceRun
/-
  THE PACKAGE entry, 7: members' bytes: contracts.
-/
set_option linter.unusedVariables false
set_option linter.unusedSimpArgs false
namespace Go.Proofs.YtglkgmijhdkhpaaDoor
open Go.RowKit

theorem u8Info : (Tryd.prog.info? 5).map (fun i => (i.zero, i.size, i.bytes)) = some (some (.int .u8 0), 1, 1) := by kernel_rfl
/-- What Bytes tells: the bytes, or error 2. -/
def BytPost (ms : List Int) (w : World) (e : Ending) (w' : World) : Prop :=
  ∃ v', e = .returned (.tuple #[v', .int .i64 (if memRight ms then 0 else 2)]) ∧ (if memRight ms then Own 1 u8Row 5 w.heap.size w' v' ms ∧ v' ≠ .slice none 0 0 else v' = .slice none 0 0) ∧ Below w.heap.size w w'
theorem bytPost_yes {ms : List Int} {w w' : World} {v' : Value} (h : memRight ms = true) (ho : Own 1 u8Row 5 w.heap.size w' v' ms) (hv : v' ≠ .slice none 0 0) (hb : Below w.heap.size w w') : BytPost ms w (.returned (.tuple #[v', .int .i64 0])) w' :=
  ⟨v', by rw [h]; rfl, by rw [h]; exact ⟨ho, hv⟩, hb⟩
theorem bytPost_no {ms : List Int} {w : World} (h : memRight ms = false) : BytPost ms w (.returned (.tuple #[.slice none 0 0, .int .i64 2])) w :=
  ⟨_, by rw [h]; rfl, by rw [h]; rfl, Below.refl _ _⟩
theorem memFrom_at : ∀ {l : List Int} {q : Int} {k : Nat} {x : Int}, memFrom q l = true → l[k]? = some x → 1 ≤ x ∧ x ≤ 7 := by
  intro l
  induction l with
  | nil => intro q k x _ h; simp at h
  | cons y l ih =>
    intro q k x h hx
    have h' : (decide (1 ≤ y ∧ y ≤ 7 ∧ q < y) && memFrom y l) = true := h
    simp only [Bool.and_eq_true, decide_eq_true_eq] at h'
    cases k with
    | zero => simp at hx; subst hx; exact ⟨h'.1.1, h'.1.2.1⟩
    | succ k => exact ih h'.2 (by simpa using hx)
theorem memFrom_len : ∀ {l : List Int} {q : Int}, 0 ≤ q → memFrom q l = true → (l.length : Int) ≤ 7 - q ∨ l = [] := by
  intro l
  induction l with
  | nil => intro q _ _; exact .inr rfl
  | cons y l ih =>
    intro q hq h
    have h' : (decide (1 ≤ y ∧ y ≤ 7 ∧ q < y) && memFrom y l) = true := h
    simp only [Bool.and_eq_true, decide_eq_true_eq] at h'
    rcases ih (by omega) h'.2 with h1 | h1
    · left; simp only [List.length_cons]; omega
    · left; subst h1; simp; omega
theorem memRight_short {l : List Int} (h : memRight l = true) : l.length ≤ 7 := by
  simp only [memRight, Bool.and_eq_true] at h
  rcases memFrom_len (by omega) h.1 with h1 | h1
  · omega
  · subst h1; simp

end Go.Proofs.YtglkgmijhdkhpaaDoor
/-
  slices.Clone of bytes; bodies in memory of their own.
-/
set_option linter.unusedVariables false
set_option linter.unusedSimpArgs false
namespace Go.Proofs.YtglkgmijhdkhpaaDoor
open Go.RowKit

set_option maxRecDepth 100000 in
set_option maxHeartbeats 1000000 in
/-- A copy of bytes: in memory of its own. -/
theorem cloneBytes (l : List Int) (v : Value) (w : World) (h : Sl 1 u8Row w.heap.size w v l) (hn : l.length ≤ 100000) :
    Calls Tryd.prog 27 #[v] w fun e w' => ∃ A c, e = .returned (.slice A l.length c) ∧ Own 1 u8Row 5 w.heap.size w' (.slice A l.length c) l ∧ Below w.heap.size w w' := by
  obtain ⟨A, cap, rfl, hlc, hcm, hN, hA⟩ := id h
  have HH := Lib.hid h
  have q23 : ∀ (w : World) (a : Option Addr) (n c n' c' : Nat), (binOp .eql 33 (.slice a n c) (.slice none n' c')).run Tryd.prog w = .ok (.bool a.isNone) w := fun w a n c n' c' => Lib.run_eql_slice_nil w _ _ a n c n' c' Tryd.underlying33
  cases A with
  | none =>
    have hc : cap = 0 := hN rfl
    have h0 : l = [] := List.eq_nil_of_length_eq_zero (by omega)
    subst h0; subst hc
    clear h hA hN
    go_enter Tryd.func27, Tryd.ntmps27
    go_wp2_with fail
    go_ret
    exact ⟨none, 0, rfl, Own.nil_ _ _ _ _ _, Below.refl _ _⟩
  | some ad =>
    clear h hA hN hlc hcm
    go_enter Tryd.func27, Tryd.ntmps27
    go_wp2_with (at_builtin; refine wpList_append_all _ rfl (.tmp 5) (.tmp 6) 33 rfl w.heap.size 5 _ 1 1 Tryd.underlying33 u8Info rfl (Nat.succ_pos 0) u8Row u8Row_length u8Row_one [] _ rfl (Own.made 1 u8Row 5 w) l w.heap.size _ (HH.out.below (below_new _ _)) rfl (by unfold maxLen; simp; omega) (by simp; omega) (by simp) ?_; intro v' w' h1 h2 h3 h4 h5; have HO := Lib.hid h1; have HB2 := Lib.hid ((below_new w (.cells #[] 5)).trans h2); clear h2 h3 h4 h5)
    obtain ⟨A2, c2, hv⟩ := HO.out.len
    go_ret
    rw [List.nil_append] at hv
    subst hv
    exact ⟨A2, c2, rfl, by have h := HO.out; rwa [List.nil_append] at h, HB2.out⟩

/-- Bodies in memory of their own, each in another block, none in the list's. -/
structure BodFam (base : Nat) (w : World) (blk : Option Nat) (m : List Ent) : Prop where
  own : ∀ (i : Nat) (x : Ent), m[i]? = some x → Own 1 u8Row 5 base w x.bv x.bd
  far : ∀ (i j : Nat) (x y : Ent), i ≠ j → m[i]? = some x → m[j]? = some y → ∀ q, blkH x.bv = some q → blkH y.bv ≠ some q
  out : ∀ (i : Nat) (x : Ent), m[i]? = some x → ∀ q, blkH x.bv = some q → blk ≠ some q
theorem BodFam.nil_ (base : Nat) (w : World) (blk : Option Nat) : BodFam base w blk [] := ⟨fun i x h => by simp at h, fun i j x y _ h => by simp at h, fun i x h => by simp at h⟩
theorem BodFam.lt {base : Nat} {w : World} {blk : Option Nat} {m : List Ent} (h : BodFam base w blk m) {i : Nat} {x : Ent} (hx : m[i]? = some x) {q : Nat} (hq : blkH x.bv = some q) : base ≤ q ∧ q < w.heap.size := (h.own i x hx).block (blkH_own hq)
/-- What is owned, or without room, stays where its block does: a body stays owned. -/
theorem Own.stayH {α : Type} {k : Nat} {row : α → List Value} {e : TypeId} {base : Nat} {w w' : World} {v : Value} {l : List α} (h : Own k row e base w v l) (hb : ∀ x, v.ownBlock = some x → w'.heap[x]? = w.heap[x]?) : Own k row e base w' v l := h.stay hb
theorem BodFam.stay {base : Nat} {w w' : World} {blk blk' : Option Nat} {m : List Ent} (h : BodFam base w blk m) (hb : ∀ (i : Nat) (x : Ent), m[i]? = some x → ∀ q, x.bv.ownBlock = some q → w'.heap[q]? = w.heap[q]?) (ho : ∀ (i : Nat) (x : Ent), m[i]? = some x → ∀ q, blkH x.bv = some q → blk' ≠ some q) : BodFam base w' blk' m :=
  ⟨fun i x hx => (h.own i x hx).stay (hb i x hx), h.far, ho⟩
theorem BodFam.snoc {base : Nat} {w : World} {blk : Option Nat} {m : List Ent} {x : Ent} (h : BodFam base w blk m) (hx : Own 1 u8Row 5 base w x.bv x.bd) (hf : ∀ (i : Nat) (y : Ent), m[i]? = some y → ∀ q, blkH y.bv = some q → blkH x.bv ≠ some q) (ho : ∀ q, blkH x.bv = some q → blk ≠ some q) : BodFam base w blk (m ++ [x]) := by
  have key : ∀ (i : Nat) (y : Ent), (m ++ [x])[i]? = some y → m[i]? = some y ∨ (i = m.length ∧ y = x) := by
    intro i y hy
    by_cases hi : i < m.length
    · rw [List.getElem?_append_left hi] at hy; exact .inl hy
    · rw [List.getElem?_append_right (by omega)] at hy
      by_cases h0 : i - m.length = 0
      · rw [h0] at hy; simp at hy; exact .inr ⟨by omega, hy.symm⟩
      · rw [List.getElem?_eq_none (by simp; omega)] at hy; simp at hy
  refine ⟨fun i y hy => ?_, fun i j y z hij hy hz q hq => ?_, fun i y hy q hq => ?_⟩
  · rcases key i y hy with h1 | ⟨-, rfl⟩
    · exact h.own i y h1
    · exact hx
  · rcases key i y hy with h1 | ⟨h1, rfl⟩
    · rcases key j z hz with h2 | ⟨h2, rfl⟩
      · exact h.far i j y z hij h1 h2 q hq
      · exact hf i y h1 q hq
    · rcases key j z hz with h2 | ⟨h2, rfl⟩
      · intro hz'; exact hf j z h2 q hz' hq
      · omega
  · rcases key i y hy with h1 | ⟨-, rfl⟩
    · exact h.out i y h1 q hq
    · exact ho q hq
end Go.Proofs.YtglkgmijhdkhpaaDoor
