/-
  A SLICE CUT IN TWO, as lists: l[:j], l[j:]. It names no program.
-/
import Derived.Test.YtglkgmijhdkhpaaDoorHa6
set_option linter.unusedVariables false
namespace Go.Proofs.YtglkgmijhdkhpaaDoor
open Go.RowKit

section
variable {α : Type} {k : Nat} {row : α → List Value} {B : Nat} {w : World} {l : List α}
theorem Sl.take_ {A : Option Addr} {n c j : Nat} (h : Sl k row B w (.slice A n c) l) (hj : j ≤ l.length) : Sl k row B w (.slice A j c) (l.take j) := by
  obtain ⟨A', c', hv, h1, h2, h0, h3⟩ := h
  simp only [Value.slice.injEq] at hv
  obtain ⟨rfl, rfl, rfl⟩ := hv
  have e : (l.take j).length = j := by rw [List.length_take]; omega
  refine ⟨A, c, by rw [e], by omega, h2, h0, fun hne => ?_⟩
  obtain ⟨b, off, hA, hb, hc⟩ := h3 (by intro hl; subst hl; simp at hne)
  refine ⟨b, off, hA, hb, fun i x hx j' u hu => hc i x ?_ j' u hu⟩
  have hi := (List.getElem?_eq_some_iff.1 hx).1
  rw [List.getElem?_take] at hx
  split at hx
  · exact hx
  · cases hx
theorem Sl.drop_ {b off n c j : Nat} (h : Sl k row B w (.slice (some ⟨b, off, none⟩) n c) l) (hj : j ≤ l.length) : Sl k row B w (.slice (some ⟨b, off + j * k, none⟩) (l.length - j) (c - j)) (l.drop j) := by
  obtain ⟨A', c', hv, h1, h2, h0, h3⟩ := h
  simp only [Value.slice.injEq] at hv
  obtain ⟨rfl, rfl, rfl⟩ := hv
  have e : (l.drop j).length = l.length - j := by rw [List.length_drop]
  refine ⟨_, c - j, by rw [e], by omega, by omega, fun h => by simp at h, fun hne => ?_⟩
  obtain ⟨b', off', hA, hb, hc⟩ := h3 (by intro hl; subst hl; simp at hne)
  simp only [Option.some.injEq, Addr.mk.injEq, and_true] at hA
  obtain ⟨rfl, rfl⟩ := hA
  refine ⟨b, off + j * k, rfl, hb, fun i x hx j' u hu => ?_⟩
  rw [List.getElem?_drop] at hx
  have := hc (j + i) x hx j' u hu
  rw [Nat.add_mul] at this
  rw [show off + j * k + i * k + j' = off + (j * k + i * k) + j' by omega]; exact this
/-- l[j:], as a walk tells it. -/
theorem Sl.drop2 {ad : Addr} {n c j : Nat} (h : Sl k row B w (.slice (some ad) n c) l) (hj : j ≤ l.length) : Sl k row B w (.slice (if c = j then some ad else some (ad.add (j * k))) (l.length - j) (c - j)) (l.drop j) := by
  obtain ⟨A', c', hv, h1, h2, h0, h3⟩ := h
  simp only [Value.slice.injEq] at hv
  obtain ⟨rfl, rfl, rfl⟩ := hv
  have e : (l.drop j).length = l.length - j := by rw [List.length_drop]
  refine ⟨_, c - j, by rw [e], by omega, by omega, fun h => by split at h <;> simp at h, fun hne => ?_⟩
  have hlt : j < l.length := by
    have : 0 < (l.drop j).length := List.length_pos_iff.2 hne
    omega
  obtain ⟨b', off', hA, hb, hc⟩ := h3 (by intro hl; subst hl; simp at hlt)
  simp only [Option.some.injEq] at hA
  subst hA
  refine ⟨b', off' + j * k, by rw [if_neg (by omega), Addr.add_lit], hb, fun i x hx j' u hu => ?_⟩
  rw [List.getElem?_drop] at hx
  have := hc (j + i) x hx j' u hu
  rw [Nat.add_mul] at this
  rw [show off' + j * k + i * k + j' = off' + (j * k + i * k) + j' by omega]; exact this
end
end Go.Proofs.YtglkgmijhdkhpaaDoor
