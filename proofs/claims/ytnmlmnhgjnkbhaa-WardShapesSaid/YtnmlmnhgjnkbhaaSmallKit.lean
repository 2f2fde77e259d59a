/-
  WORLD LEMMAS of the closed statements: boxes in a literal world.
-/
import Derived.Test.YtnmlmnhgjnkbhaaExt
set_option linter.unusedVariables false
namespace Go.Proofs.Ytnmlmnhgjnkbhaa
open Go.RowKit

theorem Box.at_ (w : World) {n : Nat} {cs : Array Value} {t : TypeId} (h : n = w.heap.size) : Box (w.alloc (.cells cs t)) n cs t := by subst h; exact Box.new w cs t
theorem Box.drew_ {w : World} {n : Nat} {cs : Array Value} {t : TypeId} (h : Box w n cs t) : Box w.drew n cs t := h
theorem Box.set4 {w : World} {n : Nat} {a b c d : Value} {t : TypeId} (h : Box w n #[a, b, c, d] t) (x y z u : Value) :
    Box ((((w.setCell ⟨n, 0, none⟩ x).setCell ⟨n, 1, none⟩ y).setCell ⟨n, 2, none⟩ z).setCell ⟨n, 3, none⟩ u) n #[x, y, z, u] t := (((h.set_ 0 x).set_ 1 y).set_ 2 z).set_ 3 u
theorem cell_later {w w' : World} {a : Addr} {v : Value} (hb : Below w.heap.size w w') (h : w.cell? a = some v) : w'.cell? a = some v := by
  have hl : a.block < w.heap.size := by
    unfold World.cell? at h
    by_cases h1 : a.block < w.heap.size
    · exact h1
    · rw [Array.getElem?_eq_none (by omega)] at h; simp at h
  exact (hb.cell hl).trans h
end Go.Proofs.Ytnmlmnhgjnkbhaa
