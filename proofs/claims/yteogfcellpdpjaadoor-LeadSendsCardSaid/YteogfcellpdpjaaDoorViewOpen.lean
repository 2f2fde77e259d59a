/-
  THE ARGUMENTS OF limpetlaw25's, limpetlaw20's STATEMENTS, opened.
-/
import Derived.Test.YteogfcellpdpjaaDoorOpen
import Derived.Test.YteogfcellpdpjaaDoorProg
import Derived.Test.YteogfcellpdpjaaDoorMatchMath
import Derived.Test.YteogfcellpdpjaaDoorEnt4
set_option linter.unusedVariables false
namespace Go.Proofs.YteogfcellpdpjaaDoor
open Go.ChangeShapes Go.WideShapes Go.ChangeAt Go.RowKit Go.Deep

section
variable {H : Type} {enc : TypeId × Value → H} {W : World}
theorem identB_rd {cs : List Value} (h : RdB enc Tryd.prog W 42 cs) : ∃ x : Idt, idRow x = cs ∧ IdtOk x := by
  have hlen := h.len Tryd.underlying42
  rw [show Tryd.prog.cellsOf 42 = 3 by kernel_rfl] at hlen
  match cs, hlen with
  | [c0, c1, c2], _ =>
    obtain ⟨x0, rfl, a0, b0⟩ := (h.fld1 Tryd.underlying42 (i := 0) rfl (by kernel_rfl) rfl).int Tryd.underlying3
    obtain ⟨x1, rfl, a1, b1⟩ := (h.fld1 Tryd.underlying42 (i := 1) rfl (by kernel_rfl) rfl).int Tryd.underlying3
    obtain ⟨x2, rfl, a2, b2⟩ := (h.fld1 Tryd.underlying42 (i := 2) rfl (by kernel_rfl) rfl).int Tryd.underlying40
    exact ⟨⟨x0, x1, x2⟩, rfl, ⟨a0, b0⟩, ⟨a1, b1⟩, ⟨a2, b2⟩⟩
theorem identsB_rd {v : Value} (h : RdB enc Tryd.prog W 59 [v]) : ∃ l : List Idt, Sl 3 idRow W.heap.size W v l ∧ (∀ x ∈ l, IdtOk x) ∧ l.length ≤ 140737488351232 :=
  h.sl Tryd.underlying59 (by kernel_rfl) (by omega) (by decide +kernel) fun cs hl hr => identB_rd hr
theorem view_rd {cs : List Value} (h : RdB enc Tryd.prog W 61 cs) : ∃ (b : Idt) (l : List Idt) (A : Option Addr) (c : Nat), [Value.int .i64 b.idx, .int .i64 b.trm, .int .i64 b.knd, .slice A l.length c] = cs ∧ IdtOk b ∧ Sl 3 idRow W.heap.size W (.slice A l.length c) l ∧ (∀ x ∈ l, IdtOk x) ∧ l.length ≤ 140737488351232 := by
  have hlen := h.len Tryd.underlying61
  rw [show Tryd.prog.cellsOf 61 = 4 by kernel_rfl] at hlen
  match cs, hlen with
  | [c0, c1, c2, c3], _ =>
    have h0 := h.fld Tryd.underlying61 (i := 0) rfl
    have e0 : RdB enc Tryd.prog W 42 [c0, c1, c2] := by
      have h1 : RdB enc Tryd.prog W 42 (List.take (Tryd.prog.cellsOf 42) (List.drop 0 [c0, c1, c2, c3])) := h0
      rw [show Tryd.prog.cellsOf 42 = 3 by kernel_rfl] at h1
      exact h1
    obtain ⟨b, hb, hbo⟩ := identB_rd e0
    obtain ⟨l, hl, hlo, zl⟩ := identsB_rd (h.fld1 Tryd.underlying61 (i := 1) rfl (by kernel_rfl) rfl)
    obtain ⟨A, c, rfl, -⟩ := id hl
    have hb' : [Value.int .i64 b.idx, .int .i64 b.trm, .int .i64 b.knd] = [c0, c1, c2] := hb
    simp only [List.cons.injEq, and_true] at hb'
    obtain ⟨rfl, rfl, rfl⟩ := hb'
    exact ⟨b, l, A, c, rfl, hbo, hl, hlo, zl⟩
theorem book_rd {cs : List Value} (h : RdB enc Tryd.prog W 58 cs) : ∃ who nx mt pc : Int, [Value.int .i64 who, .int .i64 nx, .int .i64 mt, .int .i64 pc] = cs ∧ I64 who ∧ I64 nx ∧ I64 mt ∧ I64 pc := by
  have hlen := h.len Tryd.underlying58
  rw [show Tryd.prog.cellsOf 58 = 4 by kernel_rfl] at hlen
  match cs, hlen with
  | [c0, c1, c2, c3], _ =>
    obtain ⟨x0, rfl, a0, b0⟩ := (h.fld1 Tryd.underlying58 (i := 0) rfl (by kernel_rfl) rfl).int Tryd.underlying3
    obtain ⟨x1, rfl, a1, b1⟩ := (h.fld1 Tryd.underlying58 (i := 1) rfl (by kernel_rfl) rfl).int Tryd.underlying3
    obtain ⟨x2, rfl, a2, b2⟩ := (h.fld1 Tryd.underlying58 (i := 2) rfl (by kernel_rfl) rfl).int Tryd.underlying3
    obtain ⟨x3, rfl, a3, b3⟩ := (h.fld1 Tryd.underlying58 (i := 3) rfl (by kernel_rfl) rfl).int Tryd.underlying3
    exact ⟨x0, x1, x2, x3, rfl, ⟨a0, b0⟩, ⟨a1, b1⟩, ⟨a2, b2⟩, ⟨a3, b3⟩⟩
end
end Go.Proofs.YteogfcellpdpjaaDoor
