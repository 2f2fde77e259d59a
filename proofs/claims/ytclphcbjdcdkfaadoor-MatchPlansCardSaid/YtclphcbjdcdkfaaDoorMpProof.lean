/-
  The statement MatchPlans, and its card: for every input the law returns true, and each argument reads behind the call as it read before. Condition: errors.errorType holds its value (the card ties it to the program's text).
-/
import Derived.Test.YtclphcbjdcdkfaaDoorCards
import Derived.Test.YtclphcbjdcdkfaaDoorTie
import Derived.Test.YtclphcbjdcdkfaaDoorMp46
import Derived.Test.YtclphcbjdcdkfaaDoorMp49
import Derived.WalkKit
set_option linter.unusedVariables false
namespace Go.Proofs.YtclphcbjdcdkfaaDoor
open Go.ChangeShapes Go.WideShapes Go.ChangeAt Go.RowKit Go.Deep

theorem matchPlans_reads (os : Os) {H : Type} (enc : TypeId × Value → H) : ∃ ds places, DataW.whole enc Tryd.prog ((laidWorld os).forCall (fun _ _ => 0) ⟨#[], #[.agg #[.int .i64 0, .int .i64 0, .int .i64 0, .slice none 0 0], .agg #[.int .i64 0, .int .i64 0, .int .i64 0], .slice none 0 0], []⟩).memory Tryd.f3.params.toList Rows.matchPlansSpec.vars false #[(.agg #[.int .i64 0, .int .i64 0, .int .i64 0, .slice none 0 0] : Value), .agg #[.int .i64 0, .int .i64 0, .int .i64 0], .slice none 0 0].toList 8 = some (ds, [], places) :=
  ⟨[.agg [.agg [.lit (.int .i64 0), .lit (.int .i64 0), .lit (.int .i64 0)], .nil], .agg [.lit (.int .i64 0), .lit (.int .i64 0), .lit (.int .i64 0)], .nil], [], by kernel_rfl⟩

set_option maxRecDepth 100000 in
theorem matchPlans_lifted (os : Os) (started : os.Started) (H : Type) (enc : TypeId × Value → H) (F : Stop.Interp) :
    ReturnsInHanded {} Tryd.checked os 3 .any ((OpenSpec.ofChange Rows.matchPlansSpec).preRow enc Tryd.prog Tryd.f3 Rows.matchPlansRow.domain false Rows.matchPlansRow.laid) (((OpenSpec.ofChange Rows.matchPlansSpec).at F).post enc Tryd.prog Tryd.f3 false true false false) := by
  obtain ⟨ds0, places, hx⟩ := matchPlans_reads os enc
  refine returnsInHanded_of_row (C := Tryd.checked) (s := OpenSpec.ofChange Rows.matchPlansSpec) own started (by kernel_rfl) Tryd.func3
    (witness_row_at (enc := enc) (C := Tryd.checked) false (laidWorld os) #[.agg #[.int .i64 0, .int .i64 0, .int .i64 0, .slice none 0 0], .agg #[.int .i64 0, .int .i64 0, .int .i64 0], .slice none 0 0] rfl (by kernel_rfl) (by kernel_rfl) (by kernel_rfl)
      (OpenSpec.preRow_of_cond 8 hx (by kernel_rfl) (fun k hk => by cases hk) (by kernel_rfl) (laid_met os _))) ?_
  intro W base args ds gs before hval0 hW _ _ hsz0 hL _ _
  have hval : ∀ (j : Nat) t v, Tryd.f3.params[j]? = some t → args[j]? = some v → Value.okWide Tryd.prog W .any base t v := hval0
  have hW' := hW
  obtain ⟨p, q, hA0, hV, rfl, hfz, hnd⟩ := hW
  have hA : DataW.TrodAll enc Tryd.prog W 0 (fun _ => true) true Tryd.f3.params.toList args.toList ds p := hA0
  have hsz : (DataW.weightsEach Tryd.prog (Tryd.f3.params.toList ++ (OpenSpec.ofChange Rows.matchPlansSpec).bare.plain.varTypes Tryd.prog) (ds ++ gs)).all (· ≤ reachBytes) = true := hsz0
  rw [Tryd.params3] at hA hval hsz
  obtain ⟨v0, vs0, d0, ds1, p0, q0, hargs0, rfl, rfl, h0, r0⟩ := trodAll_cons hA
  obtain ⟨v1, vs1, d1, ds2, p1, q1, hargs1, rfl, rfl, h1, r1⟩ := trodAll_cons r0
  obtain ⟨v2, vs2, d2, ds3, p2, q2, hargs2, rfl, rfl, h2, r2⟩ := trodAll_cons r1
  obtain ⟨rfl, rfl, rfl⟩ := trodAll_nil r2
  subst hargs1 hargs2
  obtain rfl : args = #[v0, v1, v2] := by cases args; simp_all
  obtain ⟨rfl, rfl⟩ := trodVars_none hV
  obtain ⟨cs0, rfl, rd0⟩ := RdB.argAgg (j := 0) hsz Tryd.underlying27 (hval 0 27 v0 rfl rfl) rfl rfl h0
  obtain ⟨b, l, A, c, rfl, okb, hl, okl, zl⟩ := view_rd rd0
  obtain ⟨cs1, rfl, rd1⟩ := RdB.argAgg (j := 1) hsz Tryd.underlying24 (hval 1 24 v1 rfl rfl) rfl rfl h1
  obtain ⟨pv, rfl, okpv⟩ := identB_rd rd1
  obtain ⟨es, hes, mes, zes⟩ := entsB_rd (RdB.argSl (j := 2) hsz Tryd.underlying28 (hval 2 28 v2 rfl rfl) rfl rfl h2)
  obtain ⟨Ae, ce, rfl, -⟩ := id hes
  have hgo : Calls Tryd.prog 3 #[.agg #[.int .i64 b.idx, .int .i64 b.trm, .int .i64 b.knd, .slice A l.length c], .agg #[.int .i64 pv.idx, .int .i64 pv.trm, .int .i64 pv.knd], .slice Ae es.length ce] W fun e W' => e = .returned (.bool true) ∧ Below W.heap.size W W' :=
    matchPlans b pv l A c es Ae ce W hl hes (fun x hx => (mes x hx).1) okb.1 okpv.1 (fun x hx => (okl x hx).1) (fun x hx => (mes x hx).2) zl (handle_of_laid hL)
  refine (hgo).mono fun e W' ⟨he, hb⟩ => ?_
  subst he
  exact ⟨_, rfl, law_post laidOut hW' rfl (by kernel_rfl) rfl Tryd.underlying4 rfl hb⟩

theorem matchPlans_said : Rows.MatchPlansSaid :=
  OpenClaim.holds_of_cond 3 Tryd.f3 rfl rfl rfl rfl rfl rfl rfl ⟨rfl, rfl, rfl, rfl, rfl⟩ rfl rfl rfl rfl rfl (by kernel_rfl) Tryd.func3 (by kernel_rfl)
    (of_decide_eq_true (by kernel_rfl)) (by unfold Func.isWrapper; first | (rw [if_pos (by decide +kernel)]; kernel_rfl) | (rw [if_neg (by decide +kernel)]; exact ⟨rfl, rfl⟩))
    (fun os started H enc _ F => by rw [OpenClaim.pre_eq_preRow]; exact matchPlans_lifted os started H enc F)

theorem matchPlans_plain (f : FuncId) (fn : Func) (hf : Tryd.pinned.checked.prog.funcNamed "limpet/limpetlaw20.MatchPlans" = some f) (hfn : Tryd.pinned.checked.prog.funcs[f]? = some fn) :
    true = Tryd.pinned.checked.prog.looks [] ∧ ∀ (j : Nat) t, fn.params[j]? = some t → Tryd.pinned.checked.prog.wantsStandIn t = false := by
  obtain rfl : f = 3 := Option.some.inj ((show Tryd.prog.funcNamed "limpet/limpetlaw20.MatchPlans" = some 3 by kernel_rfl).symm.trans hf) |>.symm
  obtain rfl : fn = Tryd.f3 := (Option.some.inj (Tryd.func3.symm.trans hfn)).symm
  refine ⟨by kernel_rfl, fun j t ht => ?_⟩
  have hall : ∀ x ∈ Tryd.f3.params.toList, Tryd.prog.wantsStandIn x = false := by
    have : (Tryd.f3.params.toList.all fun x => Tryd.prog.wantsStandIn x == false) = true := by kernel_rfl
    intro x hx
    simpa using List.all_eq_true.1 this x hx
  exact hall t (by simpa using Array.mem_of_getElem? ht)

theorem matchPlans_holds : Rows.MatchPlansCardSaid :=
  Claim7.holds_tied_plain_at .later [] _ _ _ _ matchPlans_said (fun _ h => by cases h) (by kernel_rfl) (fun _ h => by cases h) matchPlans_row_tie rfl ⟨rfl, rfl⟩ (by kernel_rfl) rfl matchPlans_plain (by kernel_rfl)
end Go.Proofs.YtclphcbjdcdkfaaDoor
