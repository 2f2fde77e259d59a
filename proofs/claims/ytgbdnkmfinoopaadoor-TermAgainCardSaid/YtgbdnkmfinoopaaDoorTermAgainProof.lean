/-
  The statement TermAgain, and its card.
-/
import Derived.Test.YtgbdnkmfinoopaaDoorCards
import Derived.Test.YtgbdnkmfinoopaaDoorTie
import Derived.Test.YtgbdnkmfinoopaaDoorTermAgain
import Derived.Test.YtgbdnkmfinoopaaDoorTermHandle
import Derived.WalkKit
set_option linter.unusedVariables false
namespace Go.Proofs.YtgbdnkmfinoopaaDoor
open Go.ChangeShapes Go.WideShapes Go.ChangeAt Go.RowKit Go.Deep

theorem again_walk (m : Met) (own last : Idt) (frm at_ other : Int) (w : World) (hG : errTypeIs w) :
    Calls Tryd.prog 3 #[.agg #[.int .i64 m.ver, .int .i64 m.trm, .int .i64 m.vot], .agg #[.int .i64 own.idx, .int .i64 own.trm, .int .i64 own.knd], .agg #[.int .i64 last.idx, .int .i64 last.trm, .int .i64 last.knd], .int .i64 frm, .int .i64 at_, .int .i64 other] w fun e w' => e = .returned (.bool true) ∧ Below w.heap.size w w' := by
  obtain ⟨ha, hs, hy⟩ := term_again m own last frm at_ other
  generalize hg : grantM m own frm at_ last = g at ha hy
  obtain ⟨a, yes⟩ := g
  simp only at ha hy
  cases yes with
  | false =>
    exact again_no m a (seeM m at_) (grantM a own other at_ last).1 (grantM a own other at_ last).2 own last frm at_ other w hG (Lib.hid hg) (Lib.hid ha) (Lib.hid rfl) (Lib.hid hs) (Lib.hid rfl)
  | true =>
    obtain ⟨h3, h4⟩ := hy rfl
    by_cases hq : other = frm
    · subst hq
      exact again_yes m a (seeM m at_) true own last other at_ other w hG (Lib.hid hg) (Lib.hid ha) (Lib.hid rfl) (Lib.hid hs) (Lib.hid ha) (Lib.hid h3) (Lib.hid (Or.inl (by simp)))
    · exact again_yes m a (seeM m at_) false own last frm at_ other w hG (Lib.hid hg) (Lib.hid ha) (Lib.hid rfl) (Lib.hid hs) (Lib.hid (h4 hq)) (Lib.hid h3) (Lib.hid (Or.inr ⟨by simpa using hq, rfl⟩))

theorem again_reads (os : Os) {H : Type} (enc : TypeId × Value → H) : ∃ ds places, DataW.whole enc Tryd.prog ((laidWorld os).forCall (fun _ _ => 0) ⟨#[], #[.agg #[.int .i64 0, .int .i64 0, .int .i64 0], .agg #[.int .i64 0, .int .i64 0, .int .i64 0], .agg #[.int .i64 0, .int .i64 0, .int .i64 0], .int .i64 0, .int .i64 0, .int .i64 0], []⟩).memory Tryd.f3.params.toList Rows.termAgainSpec.vars false #[Value.agg #[.int .i64 0, .int .i64 0, .int .i64 0], .agg #[.int .i64 0, .int .i64 0, .int .i64 0], .agg #[.int .i64 0, .int .i64 0, .int .i64 0], .int .i64 0, .int .i64 0, .int .i64 0].toList 8 = some (ds, [], places) :=
  ⟨[.agg [.lit (.int .i64 0), .lit (.int .i64 0), .lit (.int .i64 0)], .agg [.lit (.int .i64 0), .lit (.int .i64 0), .lit (.int .i64 0)], .agg [.lit (.int .i64 0), .lit (.int .i64 0), .lit (.int .i64 0)], .lit (.int .i64 0), .lit (.int .i64 0), .lit (.int .i64 0)], [], by kernel_rfl⟩

set_option maxRecDepth 100000 in
theorem again_lifted (os : Os) (started : os.Started) (H : Type) (enc : TypeId × Value → H) (F : Stop.Interp) :
    ReturnsInHanded {} Tryd.checked os 3 .any ((OpenSpec.ofChange Rows.termAgainSpec).preRow enc Tryd.prog Tryd.f3 Rows.termAgainRow.domain false Rows.termAgainRow.laid) (((OpenSpec.ofChange Rows.termAgainSpec).at F).post enc Tryd.prog Tryd.f3 false true false false) := by
  obtain ⟨ds0, places, hx⟩ := again_reads os enc
  refine returnsInHanded_of_row (C := Tryd.checked) (s := OpenSpec.ofChange Rows.termAgainSpec) own started (by kernel_rfl) Tryd.func3
    (witness_row_at (enc := enc) (C := Tryd.checked) false (laidWorld os) #[.agg #[.int .i64 0, .int .i64 0, .int .i64 0], .agg #[.int .i64 0, .int .i64 0, .int .i64 0], .agg #[.int .i64 0, .int .i64 0, .int .i64 0], .int .i64 0, .int .i64 0, .int .i64 0] rfl (by kernel_rfl) (by kernel_rfl) (by kernel_rfl)
      (OpenSpec.preRow_of_cond 8 hx (by kernel_rfl) (fun k hk => by cases hk) (by kernel_rfl) (laid_met os _))) ?_
  intro W base args ds gs before hval0 hW _ _ _ hL _ _
  have hval : ∀ (j : Nat) t v, Tryd.f3.params[j]? = some t → args[j]? = some v → Value.okWide Tryd.prog W .any base t v := hval0
  have hW' := hW
  obtain ⟨p, q, hA0, hV, rfl, hfz, hnd⟩ := hW
  have hA : DataW.TrodAll enc Tryd.prog W 0 (fun _ => true) true Tryd.f3.params.toList args.toList ds p := hA0
  rw [Tryd.params3] at hA hval
  obtain ⟨v0, vs0, d0, ds1, p0, q0, hargs0, rfl, rfl, h0, r0⟩ := trodAll_cons hA
  obtain ⟨v1, vs1, d1, ds2, p1, q1, hargs1, rfl, rfl, h1, r1⟩ := trodAll_cons r0
  obtain ⟨v2, vs2, d2, ds3, p2, q2, hargs2, rfl, rfl, h2, r2⟩ := trodAll_cons r1
  obtain ⟨v3, vs3, d3, ds4, p3, q3, hargs3, rfl, rfl, h3, r3⟩ := trodAll_cons r2
  obtain ⟨v4, vs4, d4, ds5, p4, q4, hargs4, rfl, rfl, h4, r4⟩ := trodAll_cons r3
  obtain ⟨v5, vs5, d5, ds6, p5, q5, hargs5, rfl, rfl, h5, r5⟩ := trodAll_cons r4
  obtain ⟨rfl, rfl, rfl⟩ := trodAll_nil r5
  subst hargs1 hargs2 hargs3 hargs4 hargs5
  obtain rfl : args = #[v0, v1, v2, v3, v4, v5] := by cases args; simp_all
  obtain ⟨rfl, rfl⟩ := trodVars_none hV
  obtain ⟨m, rfl⟩ := meta_open (hval 0 23 v0 rfl rfl) h0
  obtain ⟨o, rfl⟩ := ident_open (hval 1 26 v1 rfl rfl) h1
  obtain ⟨l, rfl⟩ := ident_open (hval 2 26 v2 rfl rfl) h2
  obtain ⟨frm, rfl, -, -⟩ := arg_int Tryd.underlying3 (hval 3 3 v3 rfl rfl) h3
  obtain ⟨at_, rfl, -, -⟩ := arg_int Tryd.underlying3 (hval 4 3 v4 rfl rfl) h4
  obtain ⟨other, rfl, -, -⟩ := arg_int Tryd.underlying3 (hval 5 3 v5 rfl rfl) h5
  refine (again_walk m o l frm at_ other W (handle_of_laid hL)).mono fun e W' ⟨he, hb⟩ => ?_
  subst he
  exact ⟨_, rfl, law_post laidOut hW' rfl (by kernel_rfl) rfl Tryd.underlying4 rfl hb⟩

theorem again_said : Rows.TermAgainSaid :=
  OpenClaim.holds_of_cond 3 Tryd.f3 rfl rfl rfl rfl rfl rfl rfl ⟨rfl, rfl, rfl, rfl, rfl⟩ rfl rfl rfl rfl rfl (by kernel_rfl) Tryd.func3 (by kernel_rfl)
    (of_decide_eq_true (by kernel_rfl)) (by unfold Func.isWrapper; first | (rw [if_pos (by decide +kernel)]; kernel_rfl) | (rw [if_neg (by decide +kernel)]; exact ⟨rfl, rfl⟩))
    (fun os started H enc _ F => by rw [OpenClaim.pre_eq_preRow]; exact again_lifted os started H enc F)

theorem again_plain (f : FuncId) (fn : Func) (hf : Tryd.pinned.checked.prog.funcNamed "limpet/limpetlaw19.TermAgain" = some f) (hfn : Tryd.pinned.checked.prog.funcs[f]? = some fn) :
    true = Tryd.pinned.checked.prog.looks [] ∧ ∀ (j : Nat) t, fn.params[j]? = some t → Tryd.pinned.checked.prog.wantsStandIn t = false := by
  obtain rfl : f = 3 := Option.some.inj ((show Tryd.prog.funcNamed "limpet/limpetlaw19.TermAgain" = some 3 by kernel_rfl).symm.trans hf) |>.symm
  obtain rfl : fn = Tryd.f3 := (Option.some.inj (Tryd.func3.symm.trans hfn)).symm
  refine ⟨by kernel_rfl, fun j t ht => ?_⟩
  have hall : ∀ x ∈ Tryd.f3.params.toList, Tryd.prog.wantsStandIn x = false := by
    have : (Tryd.f3.params.toList.all fun x => Tryd.prog.wantsStandIn x == false) = true := by kernel_rfl
    intro x hx
    simpa using List.all_eq_true.1 this x hx
  exact hall t (by simpa using Array.mem_of_getElem? ht)

theorem termAgain_holds : Rows.TermAgainCardSaid :=
  Claim7.holds_tied_plain_at .later [] _ _ _ _ again_said (fun _ h => by cases h) (by kernel_rfl) (fun _ h => by cases h) termAgain_row_tie rfl ⟨rfl, rfl⟩ (by kernel_rfl) rfl again_plain (by kernel_rfl)
end Go.Proofs.YtgbdnkmfinoopaaDoor
