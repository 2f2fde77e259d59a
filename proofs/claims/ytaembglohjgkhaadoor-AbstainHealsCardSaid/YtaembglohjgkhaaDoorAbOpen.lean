/-
  THE ARGUMENTS OF limpetlaw23's STATEMENTS, opened.
-/
import Derived.Test.YtaembglohjgkhaaDoorOpen
import Derived.Test.YtaembglohjgkhaaDoorProg
import Derived.Test.YtaembglohjgkhaaDoorAbMath
set_option linter.unusedVariables false
namespace Go.Proofs.YtaembglohjgkhaaDoor
open Go.ChangeShapes Go.WideShapes Go.ChangeAt Go.RowKit Go.Deep

theorem ident_rd {H : Type} {enc : TypeId × Value → H} {W : World} {cs : List Value} (h : RdB enc Tryd.prog W 46 cs) : ∃ x : Idt, idRow x = cs := by
  have hlen := h.len Tryd.underlying46
  rw [show Tryd.prog.cellsOf 46 = 3 by kernel_rfl] at hlen
  match cs, hlen with
  | [c0, c1, c2], _ =>
    obtain ⟨x0, rfl, -, -⟩ := (h.fld1 Tryd.underlying46 (i := 0) rfl (by kernel_rfl) rfl).int Tryd.underlying3
    obtain ⟨x1, rfl, -, -⟩ := (h.fld1 Tryd.underlying46 (i := 1) rfl (by kernel_rfl) rfl).int Tryd.underlying3
    obtain ⟨x2, rfl, -, -⟩ := (h.fld1 Tryd.underlying46 (i := 2) rfl (by kernel_rfl) rfl).int Tryd.underlying44
    exact ⟨⟨x0, x1, x2⟩, rfl⟩
theorem ints_rd {H : Type} {enc : TypeId × Value → H} {W : World} {v : Value} (h : RdB enc Tryd.prog W 22 [v]) : ∃ l : List Int, Sl 1 i64Row W.heap.size W v l ∧ (∀ x ∈ l, -9223372036854775808 ≤ x ∧ x ≤ 9223372036854775807) ∧ l.length ≤ 140737488351232 :=
  h.sl Tryd.underlying22 (by kernel_rfl) (by omega) (by decide +kernel) fun cs hl hr => by
    match cs, hl with
    | [c], _ =>
      obtain ⟨x, rfl, h1, h2⟩ := hr.int Tryd.underlying3
      exact ⟨x, rfl, h1, h2⟩
theorem idents_rd {H : Type} {enc : TypeId × Value → H} {W : World} {v : Value} (h : RdB enc Tryd.prog W 23 [v]) : ∃ l : List Idt, Sl 3 idRow W.heap.size W v l ∧ (∀ x ∈ l, True) ∧ l.length ≤ 140737488351232 :=
  h.sl Tryd.underlying23 (by kernel_rfl) (by omega) (by decide +kernel) fun cs hl hr => by
    obtain ⟨x, hx⟩ := ident_rd hr
    exact ⟨x, hx, trivial⟩

theorem state_rd {H : Type} {enc : TypeId × Value → H} {W : World} {cs : List Value} (h : RdB enc Tryd.prog W 25 cs) :
    ∃ (lost : Bool) (self : Int) (ms : List Int) (l : List Idt) (Am Ar : Option Addr) (cm cr : Nat), cs = [.bool lost, .int .i64 self, .slice Am ms.length cm, .slice Ar l.length cr] ∧ Sl 1 i64Row W.heap.size W (.slice Am ms.length cm) ms ∧ Sl 3 idRow W.heap.size W (.slice Ar l.length cr) l ∧ ms.length ≤ 140737488351232 ∧ l.length ≤ 140737488351232 := by
  have hlen := h.len Tryd.underlying25
  rw [show Tryd.prog.cellsOf 25 = 4 by kernel_rfl] at hlen
  match cs, hlen with
  | [c0, c1, c2, c3], _ =>
    obtain ⟨x0, rfl⟩ := (h.fld1 Tryd.underlying25 (i := 0) rfl (by kernel_rfl) rfl).bool Tryd.underlying4
    obtain ⟨x1, rfl, -, -⟩ := (h.fld1 Tryd.underlying25 (i := 1) rfl (by kernel_rfl) rfl).int Tryd.underlying3
    obtain ⟨ms, hm, -, zm⟩ := ints_rd (h.fld1 Tryd.underlying25 (i := 2) rfl (by kernel_rfl) rfl)
    obtain ⟨l, hl, -, zl⟩ := idents_rd (h.fld1 Tryd.underlying25 (i := 3) rfl (by kernel_rfl) rfl)
    obtain ⟨Am, cm, rfl, -⟩ := id hm
    obtain ⟨Ar, cr, rfl, -⟩ := id hl
    exact ⟨x0, x1, ms, l, Am, Ar, cm, cr, rfl, hm, hl, zm, zl⟩
end Go.Proofs.YtaembglohjgkhaaDoor
