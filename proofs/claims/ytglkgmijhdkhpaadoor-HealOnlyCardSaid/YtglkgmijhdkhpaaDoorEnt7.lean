/-
  THE PACKAGE entry, 7: members' bytes: contracts.
-/
import Derived.Test.YtglkgmijhdkhpaaDoorEnt4
set_option linter.unusedVariables false
set_option linter.unusedSimpArgs false
namespace Go.Proofs.YtglkgmijhdkhpaaDoor
open Go.RowKit

theorem u8Info : (Tryd.prog.info? 5).map (fun i => (i.zero, i.size, i.bytes)) = some (some (.int .u8 0), 1, 1) := by kernel_rfl
/-- What Bytes tells: the bytes, or error 2. -/
def BytPost (ms : List Int) (w : World) (e : Ending) (w' : World) : Prop :=
  ∃ v', e = .returned (.tuple #[v', .int .i64 (if memRight ms then 0 else 2)]) ∧ (if memRight ms then Own 1 u8Row 5 w.heap.size w' v' ms ∧ v' ≠ .slice none 0 0 else v' = .slice none 0 0) ∧ Below w.heap.size w w'
theorem bytPost_yes {ms : List Int} {w w' : World} {v' : Value} (h : memRight ms = true) (ho : Own 1 u8Row 5 w.heap.size w' v' ms) (hv : v' ≠ .slice none 0 0) (hb : Below w.heap.size w w') : BytPost ms w (.returned (.tuple #[v', .int .i64 0])) w' :=
  ⟨v', by rw [h]; rfl, by rw [h]; exact ⟨ho, hv⟩, hb⟩
theorem bytPost_no {ms : List Int} {w : World} (h : memRight ms = false) : BytPost ms w (.returned (.tuple #[.slice none 0 0, .int .i64 2])) w :=
  ⟨_, by rw [h]; rfl, by rw [h]; rfl, Below.refl _ _⟩
theorem memFrom_at : ∀ {l : List Int} {q : Int} {k : Nat} {x : Int}, memFrom q l = true → l[k]? = some x → 1 ≤ x ∧ x ≤ 7 := by
  intro l
  induction l with
  | nil => intro q k x _ h; simp at h
  | cons y l ih =>
    intro q k x h hx
    have h' : (decide (1 ≤ y ∧ y ≤ 7 ∧ q < y) && memFrom y l) = true := h
    simp only [Bool.and_eq_true, decide_eq_true_eq] at h'
    cases k with
    | zero => simp at hx; subst hx; exact ⟨h'.1.1, h'.1.2.1⟩
    | succ k => exact ih h'.2 (by simpa using hx)
theorem memFrom_len : ∀ {l : List Int} {q : Int}, 0 ≤ q → memFrom q l = true → (l.length : Int) ≤ 7 - q ∨ l = [] := by
  intro l
  induction l with
  | nil => intro q _ _; exact .inr rfl
  | cons y l ih =>
    intro q hq h
    have h' : (decide (1 ≤ y ∧ y ≤ 7 ∧ q < y) && memFrom y l) = true := h
    simp only [Bool.and_eq_true, decide_eq_true_eq] at h'
    rcases ih (by omega) h'.2 with h1 | h1
    · left; simp only [List.length_cons]; omega
    · left; subst h1; simp; omega
theorem memRight_short {l : List Int} (h : memRight l = true) : l.length ≤ 7 := by
  simp only [memRight, Bool.and_eq_true] at h
  rcases memFrom_len (by omega) h.1 with h1 | h1
  · omega
  · subst h1; simp

end Go.Proofs.YtglkgmijhdkhpaaDoor
