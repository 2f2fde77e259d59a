/-
  THE ARGUMENTS OF limpetlaw17's STATEMENTS, opened.
-/
import Derived.Test.YtglkgmijhdkhpaaDoorOpen
import Derived.Test.YtglkgmijhdkhpaaDoorProg
import Derived.Test.YtglkgmijhdkhpaaDoorEnt4
set_option linter.unusedVariables false
namespace Go.Proofs.YtglkgmijhdkhpaaDoor
open Go.ChangeShapes Go.WideShapes Go.ChangeAt Go.RowKit Go.Deep

theorem ident_rd {H : Type} {enc : TypeId × Value → H} {W : World} {cs : List Value} (h : RdB enc Tryd.prog W 31 cs) : ∃ x : Idt, idRow x = cs := by
  have hlen := h.len Tryd.underlying31
  rw [show Tryd.prog.cellsOf 31 = 3 by kernel_rfl] at hlen
  match cs, hlen with
  | [c0, c1, c2], _ =>
    obtain ⟨x0, rfl, -, -⟩ := (h.fld1 Tryd.underlying31 (i := 0) rfl (by kernel_rfl) rfl).int Tryd.underlying3
    obtain ⟨x1, rfl, -, -⟩ := (h.fld1 Tryd.underlying31 (i := 1) rfl (by kernel_rfl) rfl).int Tryd.underlying3
    obtain ⟨x2, rfl, -, -⟩ := (h.fld1 Tryd.underlying31 (i := 2) rfl (by kernel_rfl) rfl).int Tryd.underlying29
    exact ⟨⟨x0, x1, x2⟩, rfl⟩
theorem ints_rd {H : Type} {enc : TypeId × Value → H} {W : World} {v : Value} (h : RdB enc Tryd.prog W 68 [v]) : ∃ l : List Int, Sl 1 i64Row W.heap.size W v l ∧ (∀ x ∈ l, -9223372036854775808 ≤ x ∧ x ≤ 9223372036854775807) ∧ l.length ≤ 140737488351232 :=
  h.sl Tryd.underlying68 (by kernel_rfl) (by omega) (by decide +kernel) fun cs hl hr => by
    match cs, hl with
    | [c], _ =>
      obtain ⟨x, rfl, h1, h2⟩ := hr.int Tryd.underlying3
      exact ⟨x, rfl, h1, h2⟩
theorem bytes_rd {H : Type} {enc : TypeId × Value → H} {W : World} {v : Value} (h : RdB enc Tryd.prog W 33 [v]) : ∃ l : List Int, Sl 1 u8Row W.heap.size W v l ∧ (∀ x ∈ l, 0 ≤ x ∧ x ≤ 255) ∧ l.length ≤ 140737488351232 :=
  h.sl Tryd.underlying33 (by kernel_rfl) (by omega) (by decide +kernel) fun cs hl hr => by
    match cs, hl with
    | [c], _ =>
      obtain ⟨x, rfl, h1, h2⟩ := hr.u8 Tryd.underlying5
      exact ⟨x, rfl, h1, h2⟩
theorem ents_rd {H : Type} {enc : TypeId × Value → H} {W : World} {v : Value} (h : RdB enc Tryd.prog W 42 [v]) : ∃ l : List Ent, Sl 4 entRow W.heap.size W v l ∧ (∀ x ∈ l, EntIn W.heap.size W x ∧ x.bd.length ≤ 140737488351232) ∧ l.length ≤ 140737488351232 :=
  h.sl Tryd.underlying42 (by kernel_rfl) (by omega) (by decide +kernel) fun cs hl hr => by
    match cs, hl with
    | [c0, c1, c2, c3], _ =>
      obtain ⟨x0, rfl, -, -⟩ := (hr.fld1 Tryd.underlying35 (i := 0) rfl (by kernel_rfl) rfl).int Tryd.underlying3
      obtain ⟨x1, rfl, -, -⟩ := (hr.fld1 Tryd.underlying35 (i := 1) rfl (by kernel_rfl) rfl).int Tryd.underlying3
      obtain ⟨x2, rfl, -, -⟩ := (hr.fld1 Tryd.underlying35 (i := 2) rfl (by kernel_rfl) rfl).int Tryd.underlying29
      obtain ⟨b, hb, hbb, zb⟩ := bytes_rd (hr.fld1 Tryd.underlying35 (i := 3) rfl (by kernel_rfl) rfl)
      obtain ⟨A, c, rfl, -⟩ := id hb
      exact ⟨⟨x0, x1, x2, A, c, b⟩, rfl, ⟨hb, hbb⟩, zb⟩
end Go.Proofs.YtglkgmijhdkhpaaDoor
