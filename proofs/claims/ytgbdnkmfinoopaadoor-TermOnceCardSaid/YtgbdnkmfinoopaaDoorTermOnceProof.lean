/-
  The statement TermOnce, and its card: whatever the input, true, and each argument reads behind the call as it read before. Condition: errors.errorType holds its value (the card ties it to the program's text).
-/
import Derived.Test.YtgbdnkmfinoopaaDoorCards
import Derived.Test.YtgbdnkmfinoopaaDoorTie
import Derived.Test.YtgbdnkmfinoopaaDoorTermOnce
import Derived.Test.YtgbdnkmfinoopaaDoorTermHandle
import Derived.WalkKit
set_option linter.unusedVariables false
namespace Go.Proofs.YtgbdnkmfinoopaaDoor
open Go.ChangeShapes Go.WideShapes Go.ChangeAt Go.RowKit Go.Deep

theorem deeds_open {H : Type} {enc : TypeId × Value → H} {W : World} {v : Value} {d : DataW H} {p : List MemPlace} {r : Reach} {b0 : Nat} (hv : Value.okWide Tryd.prog W r b0 39 v) (h : DataW.Trod enc Tryd.prog W 0 (fun _ => true) true 39 v d p) :
    ∃ l : List Dd, Sl 6 ddRow W.heap.size W v l ∧ ∀ x ∈ l, True := by
  refine sl_open Tryd.underlying39 (by kernel_rfl) (by omega) ?_ hv h
  intro cs n y hl ht
  match cs, hl with
  | [c0, c1, c2, c3, c4, c5], _ =>
    obtain ⟨_, _, g0⟩ := fld1 Tryd.underlying41 ht (i := 0) rfl (by kernel_rfl) rfl
    obtain ⟨_, _, g1⟩ := fld1 Tryd.underlying41 ht (i := 1) rfl (by kernel_rfl) rfl
    obtain ⟨_, _, g2⟩ := fld1 Tryd.underlying41 ht (i := 2) rfl (by kernel_rfl) rfl
    obtain ⟨n3, y3, g3⟩ := fld Tryd.underlying41 ht (i := 3) rfl
    have g3' : DataW.trod enc Tryd.prog W 0 (fun _ => true) true n3 26 [c3, c4, c5] = some y3 := by
      have g4 : DataW.trod enc Tryd.prog W 0 (fun _ => true) true n3 26 (([c0, c1, c2, c3, c4, c5].drop 3).take (Tryd.prog.cellsOf 26)) = some y3 := g3
      rw [show Tryd.prog.cellsOf 26 = 3 by kernel_rfl] at g4; exact g4
    obtain ⟨_, _, k0⟩ := fld1 Tryd.underlying26 g3' (i := 0) rfl (by kernel_rfl) rfl
    obtain ⟨_, _, k1⟩ := fld1 Tryd.underlying26 g3' (i := 1) rfl (by kernel_rfl) rfl
    obtain ⟨_, _, k2⟩ := fld1 Tryd.underlying26 g3' (i := 2) rfl (by kernel_rfl) rfl
    obtain ⟨x0, rfl, -, -⟩ := one_int Tryd.underlying3 g0
    obtain ⟨x1, rfl, -, -⟩ := one_int Tryd.underlying3 g1
    obtain ⟨x2, rfl, -, -⟩ := one_int Tryd.underlying3 g2
    obtain ⟨x3, rfl, -, -⟩ := one_int Tryd.underlying3 k0
    obtain ⟨x4, rfl, -, -⟩ := one_int Tryd.underlying3 k1
    obtain ⟨x5, rfl, -, -⟩ := one_int Tryd.underlying24 k2
    exact ⟨⟨x0, x1, x2, ⟨x3, x4, x5⟩⟩, rfl, trivial⟩

theorem once_all (m : Met) (own : Idt) (self : Int) (l : List Dd) (vl : Value) (w : World) (hG : errTypeIs w) (hl : Sl 6 ddRow w.heap.size w vl l) :
    Calls Tryd.prog 6 #[.agg #[.int .i64 m.ver, .int .i64 m.trm, .int .i64 m.vot], .agg #[.int .i64 own.idx, .int .i64 own.trm, .int .i64 own.knd], .int .i64 self, vl] w fun e w' => e = .returned (.bool true) ∧ Below w.heap.size w w' := by
  by_cases h : 400 < l.length ∨ metRight m = false ∨ self < 1 ∨ 7 < self
  · exact once_no m own self l vl w hG hl h
  · have hr : metRight m = true := by
      cases hr : metRight m
      · exact absurd (.inr (.inl hr)) h
      · rfl
    exact once_go m own self l vl w hG hl (fun q => h (.inl q)) hr (fun q => h (.inr (.inr (.inl q)))) (fun q => h (.inr (.inr (.inr q))))

theorem once_reads (os : Os) {H : Type} (enc : TypeId × Value → H) : ∃ ds places, DataW.whole enc Tryd.prog ((laidWorld os).forCall (fun _ _ => 0) ⟨#[], #[.agg #[.int .i64 0, .int .i64 0, .int .i64 0], .agg #[.int .i64 0, .int .i64 0, .int .i64 0], .int .i64 0, .slice none 0 0], []⟩).memory Tryd.f6.params.toList Rows.termOnceSpec.vars false #[Value.agg #[.int .i64 0, .int .i64 0, .int .i64 0], .agg #[.int .i64 0, .int .i64 0, .int .i64 0], .int .i64 0, .slice none 0 0].toList 8 = some (ds, [], places) :=
  ⟨[.agg [.lit (.int .i64 0), .lit (.int .i64 0), .lit (.int .i64 0)], .agg [.lit (.int .i64 0), .lit (.int .i64 0), .lit (.int .i64 0)], .lit (.int .i64 0), .nil], [], by kernel_rfl⟩

set_option maxRecDepth 100000 in
theorem once_lifted (os : Os) (started : os.Started) (H : Type) (enc : TypeId × Value → H) (F : Stop.Interp) :
    ReturnsInHanded {} Tryd.checked os 6 .any ((OpenSpec.ofChange Rows.termOnceSpec).preRow enc Tryd.prog Tryd.f6 Rows.termOnceRow.domain false Rows.termOnceRow.laid) (((OpenSpec.ofChange Rows.termOnceSpec).at F).post enc Tryd.prog Tryd.f6 false true false false) := by
  obtain ⟨ds0, places, hx⟩ := once_reads os enc
  refine returnsInHanded_of_row (C := Tryd.checked) (s := OpenSpec.ofChange Rows.termOnceSpec) own started (by kernel_rfl) Tryd.func6
    (witness_row_at (enc := enc) (C := Tryd.checked) false (laidWorld os) #[.agg #[.int .i64 0, .int .i64 0, .int .i64 0], .agg #[.int .i64 0, .int .i64 0, .int .i64 0], .int .i64 0, .slice none 0 0] rfl (by kernel_rfl) (by kernel_rfl) (by kernel_rfl)
      (OpenSpec.preRow_of_cond 8 hx (by kernel_rfl) (fun k hk => by cases hk) (by kernel_rfl) (laid_met os _))) ?_
  intro W base args ds gs before hval0 hW _ _ _ hL _ _
  have hval : ∀ (j : Nat) t v, Tryd.f6.params[j]? = some t → args[j]? = some v → Value.okWide Tryd.prog W .any base t v := hval0
  have hW' := hW
  obtain ⟨p, q, hA0, hV, rfl, hfz, hnd⟩ := hW
  have hA : DataW.TrodAll enc Tryd.prog W 0 (fun _ => true) true Tryd.f6.params.toList args.toList ds p := hA0
  rw [Tryd.params6] at hA hval
  obtain ⟨v0, vs0, d0, ds1, p0, q0, hargs0, rfl, rfl, h0, r0⟩ := trodAll_cons hA
  obtain ⟨v1, vs1, d1, ds2, p1, q1, hargs1, rfl, rfl, h1, r1⟩ := trodAll_cons r0
  obtain ⟨v2, vs2, d2, ds3, p2, q2, hargs2, rfl, rfl, h2, r2⟩ := trodAll_cons r1
  obtain ⟨v3, vs3, d3, ds4, p3, q3, hargs3, rfl, rfl, h3, r3⟩ := trodAll_cons r2
  obtain ⟨rfl, rfl, rfl⟩ := trodAll_nil r3
  subst hargs1 hargs2 hargs3
  obtain rfl : args = #[v0, v1, v2, v3] := by cases args; simp_all
  obtain ⟨rfl, rfl⟩ := trodVars_none hV
  obtain ⟨m, rfl⟩ := meta_open (hval 0 23 v0 rfl rfl) h0
  obtain ⟨o, rfl⟩ := ident_open (hval 1 26 v1 rfl rfl) h1
  obtain ⟨self, rfl, -, -⟩ := arg_int Tryd.underlying3 (hval 2 3 v2 rfl rfl) h2
  obtain ⟨l, hl, -⟩ := deeds_open (hval 3 39 v3 rfl rfl) h3
  refine (once_all m o self l v3 W (handle_of_laid hL) hl).mono fun e W' ⟨he, hb⟩ => ?_
  subst he
  exact ⟨_, rfl, law_post laidOut hW' rfl (by kernel_rfl) rfl Tryd.underlying4 rfl hb⟩

theorem once_said : Rows.TermOnceSaid :=
  OpenClaim.holds_of_cond 6 Tryd.f6 rfl rfl rfl rfl rfl rfl rfl ⟨rfl, rfl, rfl, rfl, rfl⟩ rfl rfl rfl rfl rfl (by kernel_rfl) Tryd.func6 (by kernel_rfl)
    (of_decide_eq_true (by kernel_rfl)) (by unfold Func.isWrapper; first | (rw [if_pos (by decide +kernel)]; kernel_rfl) | (rw [if_neg (by decide +kernel)]; exact ⟨rfl, rfl⟩))
    (fun os started H enc _ F => by rw [OpenClaim.pre_eq_preRow]; exact once_lifted os started H enc F)

theorem once_plain (f : FuncId) (fn : Func) (hf : Tryd.pinned.checked.prog.funcNamed "limpet/limpetlaw19.TermOnce" = some f) (hfn : Tryd.pinned.checked.prog.funcs[f]? = some fn) :
    true = Tryd.pinned.checked.prog.looks [] ∧ ∀ (j : Nat) t, fn.params[j]? = some t → Tryd.pinned.checked.prog.wantsStandIn t = false := by
  obtain rfl : f = 6 := Option.some.inj ((show Tryd.prog.funcNamed "limpet/limpetlaw19.TermOnce" = some 6 by kernel_rfl).symm.trans hf) |>.symm
  obtain rfl : fn = Tryd.f6 := (Option.some.inj (Tryd.func6.symm.trans hfn)).symm
  refine ⟨by kernel_rfl, fun j t ht => ?_⟩
  have hall : ∀ x ∈ Tryd.f6.params.toList, Tryd.prog.wantsStandIn x = false := by
    have : (Tryd.f6.params.toList.all fun x => Tryd.prog.wantsStandIn x == false) = true := by kernel_rfl
    intro x hx
    simpa using List.all_eq_true.1 this x hx
  exact hall t (by simpa using Array.mem_of_getElem? ht)

theorem termOnce_holds : Rows.TermOnceCardSaid :=
  Claim7.holds_tied_plain_at .later [] _ _ _ _ once_said (fun _ h => by cases h) (by kernel_rfl) (fun _ h => by cases h) termOnce_row_tie rfl ⟨rfl, rfl⟩ (by kernel_rfl) rfl once_plain (by kernel_rfl)
end Go.Proofs.YtgbdnkmfinoopaaDoor
