/-
  THE ROWS OF TERM: from the listed variable to its cell; a world that meets the list; the arguments opened.
-/
import Derived.Test.YtgbdnkmfinoopaaDoorRows
import Derived.Test.YtgbdnkmfinoopaaDoorErrTerm3
import Derived.Test.YtgbdnkmfinoopaaDoorTermMath
import Derived.Test.YtgbdnkmfinoopaaDoorLift
import Derived.Deep.DeepHandedRow
import Derived.LaidLaws
import Derived.LaidHandle
set_option linter.unusedVariables false
namespace Go.Proofs.YtgbdnkmfinoopaaDoor
open Go.ChangeShapes Go.WideShapes Go.ChangeAt Go.RowKit Go.Deep

theorem own : ownKnob Tryd.prog.godebug = none := by kernel_rfl
theorem laidOut : laidOutB Tryd.prog = true := by kernel_rfl
theorem gErr : Tryd.prog.globalNamed "errors.errorType" = some 0 := by kernel_rfl
theorem gRt : (Tryd.prog.cutTypes.find? (·.1 == "internal/reflectlite.rtype")).map (·.2) = some 73 := by kernel_rfl
theorem oneRow : ((List.range Tryd.prog.types.size).filter fun t => Tryd.prog.rowNamed t [101, 114, 114, 111, 114]) = [45] := by kernel_rfl

theorem handle_of_laid {W : World} (h : laidMetH Tryd.prog [("errors.errorType", Rows.laid_errors_errorType)] W) : errTypeIs W := by
  have h' : laidMet Tryd.prog [] W ∧ handlesMet Tryd.prog [("errors.errorType", Rows.laid_errors_errorType)] W := h
  obtain ⟨name, u, ty, e1, e2, e3, e4, e5⟩ := h'.2 _ (List.mem_singleton.2 rfl)
  have en : name = [101, 114, 114, 111, 114] := (Option.some.inj e1).symm
  subst en
  obtain rfl := Option.some.inj (gRt.symm.trans e2)
  have hm : ty ∈ (List.range Tryd.prog.types.size).filter fun t => Tryd.prog.rowNamed t [101, 114, 114, 111, 114] := List.mem_filter.2 ⟨List.mem_range.2 e3, e4⟩
  rw [oneRow] at hm
  obtain rfl := List.mem_singleton.1 hm
  have hh : typeHandle Tryd.prog 45 = .pointer (some ⟨1, 45, none⟩) := by kernel_rfl
  rw [hh] at e5
  simpa [errTypeIs] using World.var?_cell gErr e5 0

/-- A world that meets the list: the settled one, the variable's cell laid. -/
noncomputable def laidWorld (os : Os) : World :=
  { World.holding Tryd.prog os ⟨#[], #[], []⟩ with heap := (World.holding Tryd.prog os ⟨#[], #[], []⟩).heap.modify 0 fun
      | .cells _ t frozen => .cells #[.iface 73 (.agg #[.pointer (some ⟨1, 45, none⟩)])] t frozen
      | o => o }
theorem laid_met (os : Os) (args : Array Value) : laidMetH Tryd.prog [("errors.errorType", Rows.laid_errors_errorType)] ((laidWorld os).forCall (fun _ _ => 0) ⟨#[], args, []⟩).memory :=
  laidMetH_of_parts (laidMet_nil _ _) (by kernel_rfl)

theorem size3 {cs : Array Value} (h : cs.size = 3) : ∃ a b c, cs = #[a, b, c] := by
  obtain ⟨l⟩ := cs
  match l, h with
  | [a, b, c], _ => exact ⟨a, b, c, rfl⟩
section
variable {H : Type} {enc : TypeId × Value → H} {W : World} {v : Value} {d : DataW H} {p : List MemPlace} {r : Reach} {b0 : Nat}
theorem meta_open (hv : Value.okWide Tryd.prog W r b0 23 v) (h : DataW.Trod enc Tryd.prog W 0 (fun _ => true) true 23 v d p) :
    ∃ m : Met, v = .agg #[.int .i64 m.ver, .int .i64 m.trm, .int .i64 m.vot] := by
  obtain ⟨cs, rfl, hs⟩ := okWide_struct Tryd.underlying23 hv
  obtain ⟨a, b, c, rfl⟩ := size3 (hs.trans (by kernel_rfl))
  obtain ⟨fuel, ht⟩ := h
  obtain ⟨_, _, g0⟩ := fld1 Tryd.underlying23 ht (i := 0) rfl (by kernel_rfl) rfl
  obtain ⟨_, _, g1⟩ := fld1 Tryd.underlying23 ht (i := 1) rfl (by kernel_rfl) rfl
  obtain ⟨_, _, g2⟩ := fld1 Tryd.underlying23 ht (i := 2) rfl (by kernel_rfl) rfl
  obtain ⟨x0, rfl, -, -⟩ := one_int Tryd.underlying3 g0
  obtain ⟨x1, rfl, -, -⟩ := one_int Tryd.underlying3 g1
  obtain ⟨x2, rfl, -, -⟩ := one_int Tryd.underlying3 g2
  exact ⟨⟨x0, x1, x2⟩, rfl⟩
theorem ident_open (hv : Value.okWide Tryd.prog W r b0 26 v) (h : DataW.Trod enc Tryd.prog W 0 (fun _ => true) true 26 v d p) :
    ∃ m : Idt, v = .agg #[.int .i64 m.idx, .int .i64 m.trm, .int .i64 m.knd] := by
  obtain ⟨cs, rfl, hs⟩ := okWide_struct Tryd.underlying26 hv
  obtain ⟨a, b, c, rfl⟩ := size3 (hs.trans (by kernel_rfl))
  obtain ⟨fuel, ht⟩ := h
  obtain ⟨_, _, g0⟩ := fld1 Tryd.underlying26 ht (i := 0) rfl (by kernel_rfl) rfl
  obtain ⟨_, _, g1⟩ := fld1 Tryd.underlying26 ht (i := 1) rfl (by kernel_rfl) rfl
  obtain ⟨_, _, g2⟩ := fld1 Tryd.underlying26 ht (i := 2) rfl (by kernel_rfl) rfl
  obtain ⟨x0, rfl, -, -⟩ := one_int Tryd.underlying3 g0
  obtain ⟨x1, rfl, -, -⟩ := one_int Tryd.underlying3 g1
  obtain ⟨x2, rfl, -, -⟩ := one_int Tryd.underlying24 g2
  exact ⟨⟨x0, x1, x2⟩, rfl⟩
end
end Go.Proofs.YtgbdnkmfinoopaaDoor
