/-
  Merged: HandleT, EntOpen.
-/
import Derived.Test.YtglkgmijhdkhpaaGreatDoorRows
import Derived.Test.YtglkgmijhdkhpaaGreatDoorHt5
import Derived.Test.YtglkgmijhdkhpaaGreatDoorHt40
import Derived.Test.YtglkgmijhdkhpaaGreatDoorHt41
import Derived.Deep.DeepHandedRow
import Derived.LaidLaws
import Derived.LaidHandle
import Derived.Test.YtglkgmijhdkhpaaGreatDoorProg
/-
  FROM THE LISTED VARIABLE errors.errorType to its cell; a world that meets the list.
-/
set_option linter.unusedVariables false
namespace Go.Proofs.YtglkgmijhdkhpaaGreatDoor
open Go.ChangeShapes Go.WideShapes Go.ChangeAt Go.RowKit Go.Deep

theorem own : ownKnob Tryz.prog.godebug = none := by kernel_rfl
theorem laidOut : laidOutB Tryz.prog = true := by kernel_rfl
theorem gErr : Tryz.prog.globalNamed "errors.errorType" = some 0 := by kernel_rfl
theorem gRt : (Tryz.prog.cutTypes.find? (·.1 == "internal/reflectlite.rtype")).map (·.2) = some 148 := by kernel_rfl
theorem oneRow : ((List.range Tryz.prog.types.size).filter fun t => Tryz.prog.rowNamed t [101, 114, 114, 111, 114]) = [62] := by kernel_rfl

theorem handle_of_laid {W : World} (h : laidMetH Tryz.prog [("errors.errorType", Rows.laid_errors_errorType)] W) : errTypeIs W := by
  have h' : laidMet Tryz.prog [] W ∧ handlesMet Tryz.prog [("errors.errorType", Rows.laid_errors_errorType)] W := h
  obtain ⟨name, u, ty, e1, e2, e3, e4, e5⟩ := h'.2 _ (List.mem_singleton.2 rfl)
  have en : name = [101, 114, 114, 111, 114] := (Option.some.inj e1).symm
  subst en
  obtain rfl := Option.some.inj (gRt.symm.trans e2)
  have hm : ty ∈ (List.range Tryz.prog.types.size).filter fun t => Tryz.prog.rowNamed t [101, 114, 114, 111, 114] := List.mem_filter.2 ⟨List.mem_range.2 e3, e4⟩
  rw [oneRow] at hm
  obtain rfl := List.mem_singleton.1 hm
  have hh : typeHandle Tryz.prog 62 = .pointer (some ⟨1, 62, none⟩) := by kernel_rfl
  rw [hh] at e5
  simpa [errTypeIs] using World.var?_cell gErr e5 0

/-- A world that meets the list: the settled one, the variable's cell laid. -/
noncomputable def laidWorld (os : Os) : World :=
  { World.holding Tryz.prog os ⟨#[], #[], []⟩ with heap := (World.holding Tryz.prog os ⟨#[], #[], []⟩).heap.modify 0 fun
      | .cells _ t frozen => .cells #[.iface 148 (.agg #[.pointer (some ⟨1, 62, none⟩)])] t frozen
      | o => o }
theorem laid_met (os : Os) (args : Array Value) : laidMetH Tryz.prog [("errors.errorType", Rows.laid_errors_errorType)] ((laidWorld os).forCall (fun _ _ => 0) ⟨#[], args, []⟩).memory :=
  laidMetH_of_parts (laidMet_nil _ _) (by kernel_rfl)

end Go.Proofs.YtglkgmijhdkhpaaGreatDoor
/-
  THE ARGUMENTS OF limpetlaw17's STATEMENTS, opened.
-/
set_option linter.unusedVariables false
namespace Go.Proofs.YtglkgmijhdkhpaaGreatDoor
open Go.ChangeShapes Go.WideShapes Go.ChangeAt Go.RowKit Go.Deep

theorem ident_rd {H : Type} {enc : TypeId × Value → H} {W : World} {cs : List Value} (h : RdB enc Tryz.prog W 42 cs) : ∃ x : Idt, idRow x = cs := by
  have hlen := h.len Tryz.underlying42
  rw [show Tryz.prog.cellsOf 42 = 3 by kernel_rfl] at hlen
  match cs, hlen with
  | [c0, c1, c2], _ =>
    obtain ⟨x0, rfl, -, -⟩ := (h.fld1 Tryz.underlying42 (i := 0) rfl (by kernel_rfl) rfl).int Tryz.underlying3
    obtain ⟨x1, rfl, -, -⟩ := (h.fld1 Tryz.underlying42 (i := 1) rfl (by kernel_rfl) rfl).int Tryz.underlying3
    obtain ⟨x2, rfl, -, -⟩ := (h.fld1 Tryz.underlying42 (i := 2) rfl (by kernel_rfl) rfl).int Tryz.underlying40
    exact ⟨⟨x0, x1, x2⟩, rfl⟩
theorem ints_rd {H : Type} {enc : TypeId × Value → H} {W : World} {v : Value} (h : RdB enc Tryz.prog W 39 [v]) : ∃ l : List Int, Sl 1 i64Row W.heap.size W v l ∧ (∀ x ∈ l, -9223372036854775808 ≤ x ∧ x ≤ 9223372036854775807) ∧ l.length ≤ 140737488351232 :=
  h.sl Tryz.underlying39 (by kernel_rfl) (by omega) (by decide +kernel) fun cs hl hr => by
    match cs, hl with
    | [c], _ =>
      obtain ⟨x, rfl, h1, h2⟩ := hr.int Tryz.underlying3
      exact ⟨x, rfl, h1, h2⟩
theorem bytes_rd {H : Type} {enc : TypeId × Value → H} {W : World} {v : Value} (h : RdB enc Tryz.prog W 52 [v]) : ∃ l : List Int, Sl 1 u8Row W.heap.size W v l ∧ (∀ x ∈ l, 0 ≤ x ∧ x ≤ 255) ∧ l.length ≤ 140737488351232 :=
  h.sl Tryz.underlying52 (by kernel_rfl) (by omega) (by decide +kernel) fun cs hl hr => by
    match cs, hl with
    | [c], _ =>
      obtain ⟨x, rfl, h1, h2⟩ := hr.u8 Tryz.underlying5
      exact ⟨x, rfl, h1, h2⟩
theorem ents_rd {H : Type} {enc : TypeId × Value → H} {W : World} {v : Value} (h : RdB enc Tryz.prog W 48 [v]) : ∃ l : List Ent, Sl 4 entRow W.heap.size W v l ∧ (∀ x ∈ l, EntIn W.heap.size W x ∧ x.bd.length ≤ 140737488351232) ∧ l.length ≤ 140737488351232 :=
  h.sl Tryz.underlying48 (by kernel_rfl) (by omega) (by decide +kernel) fun cs hl hr => by
    match cs, hl with
    | [c0, c1, c2, c3], _ =>
      obtain ⟨x0, rfl, -, -⟩ := (hr.fld1 Tryz.underlying54 (i := 0) rfl (by kernel_rfl) rfl).int Tryz.underlying3
      obtain ⟨x1, rfl, -, -⟩ := (hr.fld1 Tryz.underlying54 (i := 1) rfl (by kernel_rfl) rfl).int Tryz.underlying3
      obtain ⟨x2, rfl, -, -⟩ := (hr.fld1 Tryz.underlying54 (i := 2) rfl (by kernel_rfl) rfl).int Tryz.underlying40
      obtain ⟨b, hb, hbb, zb⟩ := bytes_rd (hr.fld1 Tryz.underlying54 (i := 3) rfl (by kernel_rfl) rfl)
      obtain ⟨A, c, rfl, -⟩ := id hb
      exact ⟨⟨x0, x1, x2, A, c, b⟩, rfl, ⟨hb, hbb⟩, zb⟩
end Go.Proofs.YtglkgmijhdkhpaaGreatDoor
