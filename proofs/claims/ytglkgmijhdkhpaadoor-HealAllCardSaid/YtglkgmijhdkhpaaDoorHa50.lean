/-
  Merged: HandleT, EntOpen.
-/
import Derived.Test.YtglkgmijhdkhpaaDoorRows
import Derived.Test.YtglkgmijhdkhpaaDoorHa14
import Derived.Test.YtglkgmijhdkhpaaDoorHa48
import Derived.Test.YtglkgmijhdkhpaaDoorHa49
import Derived.Deep.DeepHandedRow
import Derived.LaidLaws
import Derived.LaidHandle
import Derived.Test.YtglkgmijhdkhpaaDoorProg
import Derived.Test.YtglkgmijhdkhpaaDoorHa12
/-
  FROM THE LISTED VARIABLE errors.errorType to its cell; a world that meets the list.
-/
set_option linter.unusedVariables false
namespace Go.Proofs.YtglkgmijhdkhpaaDoor
open Go.ChangeShapes Go.WideShapes Go.ChangeAt Go.RowKit Go.Deep

theorem own : ownKnob Tryd.prog.godebug = none := by kernel_rfl
theorem laidOut : laidOutB Tryd.prog = true := by kernel_rfl
theorem gErr : Tryd.prog.globalNamed "errors.errorType" = some 0 := by kernel_rfl
theorem gRt : (Tryd.prog.cutTypes.find? (·.1 == "internal/reflectlite.rtype")).map (·.2) = some 112 := by kernel_rfl
theorem oneRow : ((List.range Tryd.prog.types.size).filter fun t => Tryd.prog.rowNamed t [101, 114, 114, 111, 114]) = [55] := by kernel_rfl

theorem handle_of_laid {W : World} (h : laidMetH Tryd.prog [("errors.errorType", Rows.laid_errors_errorType)] W) : errTypeIs W := by
  have h' : laidMet Tryd.prog [] W ∧ handlesMet Tryd.prog [("errors.errorType", Rows.laid_errors_errorType)] W := h
  obtain ⟨name, u, ty, e1, e2, e3, e4, e5⟩ := h'.2 _ (List.mem_singleton.2 rfl)
  have en : name = [101, 114, 114, 111, 114] := (Option.some.inj e1).symm
  subst en
  obtain rfl := Option.some.inj (gRt.symm.trans e2)
  have hm : ty ∈ (List.range Tryd.prog.types.size).filter fun t => Tryd.prog.rowNamed t [101, 114, 114, 111, 114] := List.mem_filter.2 ⟨List.mem_range.2 e3, e4⟩
  rw [oneRow] at hm
  obtain rfl := List.mem_singleton.1 hm
  have hh : typeHandle Tryd.prog 55 = .pointer (some ⟨1, 55, none⟩) := by kernel_rfl
  rw [hh] at e5
  simpa [errTypeIs] using World.var?_cell gErr e5 0

/-- A world that meets the list: the settled one, the variable's cell laid. -/
noncomputable def laidWorld (os : Os) : World :=
  { World.holding Tryd.prog os ⟨#[], #[], []⟩ with heap := (World.holding Tryd.prog os ⟨#[], #[], []⟩).heap.modify 0 fun
      | .cells _ t frozen => .cells #[.iface 112 (.agg #[.pointer (some ⟨1, 55, none⟩)])] t frozen
      | o => o }
theorem laid_met (os : Os) (args : Array Value) : laidMetH Tryd.prog [("errors.errorType", Rows.laid_errors_errorType)] ((laidWorld os).forCall (fun _ _ => 0) ⟨#[], args, []⟩).memory :=
  laidMetH_of_parts (laidMet_nil _ _) (by kernel_rfl)

end Go.Proofs.YtglkgmijhdkhpaaDoor
/-
  THE ARGUMENTS OF limpetlaw17's STATEMENTS, opened.
-/
set_option linter.unusedVariables false
namespace Go.Proofs.YtglkgmijhdkhpaaDoor
open Go.ChangeShapes Go.WideShapes Go.ChangeAt Go.RowKit Go.Deep

theorem ident_rd {H : Type} {enc : TypeId × Value → H} {W : World} {cs : List Value} (h : RdB enc Tryd.prog W 31 cs) : ∃ x : Idt, idRow x = cs := by
  have hlen := h.len Tryd.underlying31
  rw [show Tryd.prog.cellsOf 31 = 3 by kernel_rfl] at hlen
  match cs, hlen with
  | [c0, c1, c2], _ =>
    obtain ⟨x0, rfl, -, -⟩ := (h.fld1 Tryd.underlying31 (i := 0) rfl (by kernel_rfl) rfl).int Tryd.underlying3
    obtain ⟨x1, rfl, -, -⟩ := (h.fld1 Tryd.underlying31 (i := 1) rfl (by kernel_rfl) rfl).int Tryd.underlying3
    obtain ⟨x2, rfl, -, -⟩ := (h.fld1 Tryd.underlying31 (i := 2) rfl (by kernel_rfl) rfl).int Tryd.underlying29
    exact ⟨⟨x0, x1, x2⟩, rfl⟩
theorem ints_rd {H : Type} {enc : TypeId × Value → H} {W : World} {v : Value} (h : RdB enc Tryd.prog W 68 [v]) : ∃ l : List Int, Sl 1 i64Row W.heap.size W v l ∧ (∀ x ∈ l, -9223372036854775808 ≤ x ∧ x ≤ 9223372036854775807) ∧ l.length ≤ 140737488351232 :=
  h.sl Tryd.underlying68 (by kernel_rfl) (by omega) (by decide +kernel) fun cs hl hr => by
    match cs, hl with
    | [c], _ =>
      obtain ⟨x, rfl, h1, h2⟩ := hr.int Tryd.underlying3
      exact ⟨x, rfl, h1, h2⟩
theorem bytes_rd {H : Type} {enc : TypeId × Value → H} {W : World} {v : Value} (h : RdB enc Tryd.prog W 33 [v]) : ∃ l : List Int, Sl 1 u8Row W.heap.size W v l ∧ (∀ x ∈ l, 0 ≤ x ∧ x ≤ 255) ∧ l.length ≤ 140737488351232 :=
  h.sl Tryd.underlying33 (by kernel_rfl) (by omega) (by decide +kernel) fun cs hl hr => by
    match cs, hl with
    | [c], _ =>
      obtain ⟨x, rfl, h1, h2⟩ := hr.u8 Tryd.underlying5
      exact ⟨x, rfl, h1, h2⟩
theorem ents_rd {H : Type} {enc : TypeId × Value → H} {W : World} {v : Value} (h : RdB enc Tryd.prog W 42 [v]) : ∃ l : List Ent, Sl 4 entRow W.heap.size W v l ∧ (∀ x ∈ l, EntIn W.heap.size W x ∧ x.bd.length ≤ 140737488351232) ∧ l.length ≤ 140737488351232 :=
  h.sl Tryd.underlying42 (by kernel_rfl) (by omega) (by decide +kernel) fun cs hl hr => by
    match cs, hl with
    | [c0, c1, c2, c3], _ =>
      obtain ⟨x0, rfl, -, -⟩ := (hr.fld1 Tryd.underlying35 (i := 0) rfl (by kernel_rfl) rfl).int Tryd.underlying3
      obtain ⟨x1, rfl, -, -⟩ := (hr.fld1 Tryd.underlying35 (i := 1) rfl (by kernel_rfl) rfl).int Tryd.underlying3
      obtain ⟨x2, rfl, -, -⟩ := (hr.fld1 Tryd.underlying35 (i := 2) rfl (by kernel_rfl) rfl).int Tryd.underlying29
      obtain ⟨b, hb, hbb, zb⟩ := bytes_rd (hr.fld1 Tryd.underlying35 (i := 3) rfl (by kernel_rfl) rfl)
      obtain ⟨A, c, rfl, -⟩ := id hb
      exact ⟨⟨x0, x1, x2, A, c, b⟩, rfl, ⟨hb, hbb⟩, zb⟩
end Go.Proofs.YtglkgmijhdkhpaaDoor
