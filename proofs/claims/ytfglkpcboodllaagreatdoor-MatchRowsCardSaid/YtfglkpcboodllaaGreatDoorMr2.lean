/-
  Merged: FitMath, LeadNextMath.
-/
import Derived.Test.YtfglkpcboodllaaGreatDoorMr1
import Derived.Deep.RegionHeld3
import Derived.Deep.DeepCutAuto
import Derived.StillTailTactics
/-
  WHAT AN APPEND DOES to a view: plain Lean, no program.
-/
set_option linter.unusedVariables false
namespace Go.Proofs.YtfglkpcboodllaaGreatDoor
open Go.RowKit

def lastI (b : Idt) (l : List Idt) : Int := b.idx + (l.length : Int)
/-- Does a view have an entry's term at its index? -/
def showsE (b : Idt) (l : List Idt) (e : Ent) : Bool := match atV b l e.idx with
  | some p => decide (p.trm = e.trm) && decide (b.idx < e.idx)
  | none => false
def shownV (b : Idt) (l : List Idt) : Int → List Ent → Int
  | s, [] => s
  | s, e :: r => shownV b l (if showsE b l e = true then e.idx else s) r
theorem shownV_append (b : Idt) (l : List Idt) (x y : List Ent) : ∀ s, shownV b l s (x ++ y) = shownV b l (shownV b l s x) y := by
  induction x with
  | nil => intro s; rfl
  | cons e x ih => intro s; exact ih _
theorem shownV_take {b : Idt} {l : List Idt} {es : List Ent} {k : Nat} {e : Ent} (hx : es[k]? = some e) (s : Int) : shownV b l s (es.take (k + 1)) = if showsE b l e = true then e.idx else shownV b l s (es.take k) := by
  rw [take_at hx, shownV_append]; rfl
/-- The greatest index below b.idx + n + 1 that is sure, above the base; else the base. -/
def hintN (b : Idt) (l : List Idt) : Nat → Int
  | 0 => b.idx
  | n + 1 => if (atV b l (b.idx + (n : Int) + 1)).isSome then b.idx + (n : Int) + 1 else hintN b l n
def hintV (b : Idt) (l : List Idt) (i : Int) : Int := hintN b l (i - b.idx - 1).toNat
def fitK (b : Idt) (l : List Idt) (sh i t : Int) : Nat :=
  if i ≤ b.idx then 0 else if lastI b l < i then 1 else match atV b l i with
    | some p => if p.trm = t then 0 else 2
    | none => if i < sh then 0 else 3
/-- Where an index that does not fit may. -/
def fitH (b : Idt) (l : List Idt) (i : Int) : Int := if lastI b l < i then lastI b l else hintV b l i
structure Pln where
  idx : Int
  cut : Int
  same : List Ent
  add : List Ent
def planV (b : Idt) (l : List Idt) (sh : Int) : List Ent → Int → List Ent → Pln
  | [], ix, s => ⟨ix, 0, s, []⟩
  | e :: r, ix, s => if e.idx ≤ b.idx then planV b l sh r ix s else
      match fitK b l sh e.idx e.trm with
      | 0 => planV b l sh r e.idx (s ++ [e])
      | 1 => ⟨(lastE ⟨0, 0, 0⟩ (e :: r)).idx, 0, s, e :: r⟩
      | 2 => ⟨(lastE ⟨0, 0, 0⟩ (e :: r)).idx, e.idx, s, e :: r⟩
      | _ => ⟨ix, 0, s, []⟩
section
variable {b : Idt} {l : List Idt} {sh : Int} {es s : List Ent} {k : Nat} {e : Ent} {ix : Int}
theorem planV_end (h : es.length ≤ k) : planV b l sh (es.drop k) ix s = ⟨ix, 0, s, []⟩ := by rw [List.drop_of_length_le h]; rfl
theorem planV_skip (hx : es[k]? = some e) (h : e.idx ≤ b.idx) : planV b l sh (es.drop k) ix s = planV b l sh (es.drop (k + 1)) ix s := by
  rw [drop_at hx]; show (if e.idx ≤ b.idx then _ else _) = _; rw [if_pos h]
theorem planV_fit (hx : es[k]? = some e) (h : ¬ e.idx ≤ b.idx) : planV b l sh (es.drop k) ix s = (match fitK b l sh e.idx e.trm with
      | 0 => planV b l sh (es.drop (k + 1)) e.idx (s ++ [e])
      | 1 => ⟨(lastE ⟨0, 0, 0⟩ (es.drop k)).idx, 0, s, es.drop k⟩
      | 2 => ⟨(lastE ⟨0, 0, 0⟩ (es.drop k)).idx, e.idx, s, es.drop k⟩
      | _ => ⟨ix, 0, s, []⟩) := by
  rw [drop_at hx]; show (if e.idx ≤ b.idx then _ else _) = _; rw [if_neg h]
theorem planV_0 (hx : es[k]? = some e) (h : ¬ e.idx ≤ b.idx) (hf : fitK b l sh e.idx e.trm = 0) : planV b l sh (es.drop k) ix s = planV b l sh (es.drop (k + 1)) e.idx (s ++ [e]) := by rw [planV_fit hx h]; simp only [hf]
theorem planV_1 (hx : es[k]? = some e) (h : ¬ e.idx ≤ b.idx) (hf : fitK b l sh e.idx e.trm = 1) : planV b l sh (es.drop k) ix s = ⟨(lastE ⟨0, 0, 0⟩ (es.drop k)).idx, 0, s, es.drop k⟩ := by rw [planV_fit hx h]; simp only [hf]
theorem planV_2 (hx : es[k]? = some e) (h : ¬ e.idx ≤ b.idx) (hf : fitK b l sh e.idx e.trm = 2) : planV b l sh (es.drop k) ix s = ⟨(lastE ⟨0, 0, 0⟩ (es.drop k)).idx, e.idx, s, es.drop k⟩ := by rw [planV_fit hx h]; simp only [hf]
theorem planV_3 (hx : es[k]? = some e) (h : ¬ e.idx ≤ b.idx) (hf : fitK b l sh e.idx e.trm = 3) : planV b l sh (es.drop k) ix s = ⟨ix, 0, s, []⟩ := by rw [planV_fit hx h]; simp only [hf]
theorem fitK_low {i t : Int} (h : i ≤ b.idx) : fitK b l sh i t = 0 := by unfold fitK; rw [if_pos h]
theorem fitK_far {i t : Int} (h0 : ¬ i ≤ b.idx) (h : lastI b l < i) : fitK b l sh i t = 1 := by unfold fitK; rw [if_neg h0, if_pos h]
theorem fitK_some {i t : Int} {p : Idt} (h0 : ¬ i ≤ b.idx) (h : ¬ lastI b l < i) (ha : atV b l i = some p) : fitK b l sh i t = if p.trm = t then 0 else 2 := by unfold fitK; rw [if_neg h0, if_neg h, ha]
theorem fitK_none {i t : Int} (h0 : ¬ i ≤ b.idx) (h : ¬ lastI b l < i) (ha : atV b l i = none) : fitK b l sh i t = if i < sh then 0 else 3 := by unfold fitK; rw [if_neg h0, if_neg h, ha]
theorem fitK_lt {i t : Int} : fitK b l sh i t < 4 := by
  by_cases h0 : i ≤ b.idx
  · rw [fitK_low h0]; omega
  · by_cases h : lastI b l < i
    · rw [fitK_far h0 h]; omega
    · cases ha : atV b l i with
      | some p => rw [fitK_some h0 h ha]; split <;> omega
      | none => rw [fitK_none h0 h ha]; split <;> omega
theorem hintN_range : ∀ n : Nat, b.idx ≤ hintN b l n ∧ hintN b l n ≤ b.idx + (n : Int) := by
  intro n
  induction n with
  | zero => simp [hintN]
  | succ n ih =>
    simp only [hintN]
    split <;> (push_cast; omega)
theorem hintN_sure : ∀ n : Nat, (atV b l (hintN b l n)).isSome := by
  intro n
  induction n with
  | zero => simp [hintN, atV_base]
  | succ n ih =>
    simp only [hintN]
    split
    · assumption
    · exact ih
end
end Go.Proofs.YtfglkpcboodllaaGreatDoor
/-
  WHAT A LEADER SENDS: plain Lean, no program.
-/
set_option linter.unusedVariables false
set_option linter.unusedSimpArgs false
namespace Go.Proofs.YtfglkpcboodllaaGreatDoor
open Go.RowKit

structure Snd where
  pc : Bool
  pv : Idt
  fr : Int
  to_ : Int
def sndRow (s : Snd) : List Value := [.bool s.pc, .int .i64 s.pv.idx, .int .i64 s.pv.trm, .int .i64 s.pv.knd, .int .i64 s.fr, .int .i64 s.to_]
def sndV (s : Snd) : Value := .agg #[.bool s.pc, .int .i64 s.pv.idx, .int .i64 s.pv.trm, .int .i64 s.pv.knd, .int .i64 s.fr, .int .i64 s.to_]
def snd0 : Snd := ⟨false, ⟨0, 0, 0⟩, 0, 0⟩
def sndP : Snd := ⟨true, ⟨0, 0, 0⟩, 0, 0⟩
def toN (b : Idt) (l : List Idt) (nx many : Int) : Int := if many < 1 then nx - 1 else if many ≤ b.idx + (l.length : Int) - nx then nx + many - 1 else b.idx + (l.length : Int)
def nextN (b : Idt) (l : List Idt) (nx many : Int) : Int × Snd :=
  if rightV b l = false then (2, snd0) else if b.idx + (l.length : Int) + 1 < nx then (7, snd0) else if nx ≤ b.idx then (0, sndP) else
    match atV b l (nx - 1) with
    | none => (9, snd0)
    | some p => (0, ⟨false, p, nx, toN b l nx many⟩)
section
variable {b : Idt} {l : List Idt} {nx many : Int}
theorem nextN_bad (h : rightV b l = false) : nextN b l nx many = (2, snd0) := by unfold nextN; rw [if_pos h]
theorem nextN_far (h : rightV b l = true) (h1 : b.idx + (l.length : Int) + 1 < nx) : nextN b l nx many = (7, snd0) := by unfold nextN; rw [if_neg (by simp [h]), if_pos h1]
theorem nextN_piece (h : rightV b l = true) (h1 : ¬ b.idx + (l.length : Int) + 1 < nx) (h2 : nx ≤ b.idx) : nextN b l nx many = (0, sndP) := by unfold nextN; rw [if_neg (by simp [h]), if_neg h1, if_pos h2]
theorem nextN_rot (h : rightV b l = true) (h1 : ¬ b.idx + (l.length : Int) + 1 < nx) (h2 : ¬ nx ≤ b.idx) (h3 : atV b l (nx - 1) = none) : nextN b l nx many = (9, snd0) := by unfold nextN; rw [if_neg (by simp [h]), if_neg h1, if_neg h2, h3]
theorem nextN_send {p : Idt} (h : rightV b l = true) (h1 : ¬ b.idx + (l.length : Int) + 1 < nx) (h2 : ¬ nx ≤ b.idx) (h3 : atV b l (nx - 1) = some p) : nextN b l nx many = (0, ⟨false, p, nx, toN b l nx many⟩) := by unfold nextN; rw [if_neg (by simp [h]), if_neg h1, if_neg h2, h3]
end
end Go.Proofs.YtfglkpcboodllaaGreatDoor
