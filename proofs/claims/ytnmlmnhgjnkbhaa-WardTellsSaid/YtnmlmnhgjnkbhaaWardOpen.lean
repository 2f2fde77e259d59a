/-
  THE ARGUMENTS OF limpetlaw12's STATEMENTS, opened.
-/
import Derived.Test.YtnmlmnhgjnkbhaaOpen
import Derived.Test.YtnmlmnhgjnkbhaaProg
import Derived.Test.YtnmlmnhgjnkbhaaWardMap
import Derived.Test.YtnmlmnhgjnkbhaaLeadMath
set_option linter.unusedVariables false
namespace Go.Proofs.Ytnmlmnhgjnkbhaa
open Go.ChangeShapes Go.WideShapes Go.ChangeAt Go.RowKit Go.Deep

theorem ints_rd {H : Type} {enc : TypeId × Value → H} {W : World} {v : Value} (h : RdB enc Try.prog W 23 [v]) : ∃ l : List Int, Sl 1 i64Row W.heap.size W v l ∧ (∀ x ∈ l, -9223372036854775808 ≤ x ∧ x ≤ 9223372036854775807) ∧ l.length ≤ 140737488351232 :=
  h.sl Try.underlying23 (by kernel_rfl) (by omega) (by decide +kernel) fun cs hl hr => by
    match cs, hl with
    | [c], _ =>
      obtain ⟨x, rfl, h1, h2⟩ := hr.int Try.underlying3
      exact ⟨x, rfl, h1, h2⟩

theorem want_rd {H : Type} {enc : TypeId × Value → H} {W : World} {cs : List Value} (h : RdB enc Try.prog W 41 cs) : ∃ x : Wnt, wntRow x = cs ∧ J64 x.blk := by
  have hlen := h.len Try.underlying41
  rw [show Try.prog.cellsOf 41 = 3 by kernel_rfl] at hlen
  match cs, hlen with
  | [c0, c1, c2], _ =>
    obtain ⟨x0, rfl, b0, b1⟩ := (h.fld1 Try.underlying41 (i := 0) rfl (by kernel_rfl) rfl).int Try.underlying3
    obtain ⟨x1, rfl, -, -⟩ := (h.fld1 Try.underlying41 (i := 1) rfl (by kernel_rfl) rfl).int Try.underlying24
    obtain ⟨x2, rfl, -, -⟩ := (h.fld1 Try.underlying41 (i := 2) rfl (by kernel_rfl) rfl).int Try.underlying3
    exact ⟨⟨x0, x1, x2⟩, rfl, b0, b1⟩
theorem wants_rd {H : Type} {enc : TypeId × Value → H} {W : World} {v : Value} (h : RdB enc Try.prog W 22 [v]) : ∃ l : List Wnt, Sl 3 wntRow W.heap.size W v l ∧ (∀ x ∈ l, J64 x.blk) ∧ l.length ≤ 140737488351232 :=
  h.sl Try.underlying22 (by kernel_rfl) (by omega) (by decide +kernel) fun cs hl hr => want_rd hr
end Go.Proofs.Ytnmlmnhgjnkbhaa
