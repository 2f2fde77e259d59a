/-
  The statement MatchTells, and its card: for every input the law returns true, and each argument reads behind the call as it read before. Condition: errors.errorType holds its value (the card ties it to the program's text).
-/
import Derived.Test.YtfglkpcboodllaaGreatDoorCards
import Derived.Test.YtfglkpcboodllaaGreatDoorTie
import Derived.Test.YtfglkpcboodllaaGreatDoorMt40
import Derived.Test.YtfglkpcboodllaaGreatDoorMt43
import Derived.WalkKit
set_option linter.unusedVariables false
namespace Go.Proofs.YtfglkpcboodllaaGreatDoor
open Go.ChangeShapes Go.WideShapes Go.ChangeAt Go.RowKit Go.Deep

theorem matchTells_reads (os : Os) {H : Type} (enc : TypeId × Value → H) : ∃ ds places, DataW.whole enc Tryz.prog ((laidWorld os).forCall (fun _ _ => 0) ⟨#[], #[.agg #[.int .i64 0, .int .i64 0, .int .i64 0, .slice none 0 0], .agg #[.int .i64 0, .int .i64 0, .int .i64 0], .slice none 0 0, .int .i64 0], []⟩).memory Tryz.f4.params.toList Rows.matchTellsSpec.vars false #[(.agg #[.int .i64 0, .int .i64 0, .int .i64 0, .slice none 0 0] : Value), .agg #[.int .i64 0, .int .i64 0, .int .i64 0], .slice none 0 0, .int .i64 0].toList 8 = some (ds, [], places) :=
  ⟨[.agg [.agg [.lit (.int .i64 0), .lit (.int .i64 0), .lit (.int .i64 0)], .nil], .agg [.lit (.int .i64 0), .lit (.int .i64 0), .lit (.int .i64 0)], .nil, .lit (.int .i64 0)], [], by kernel_rfl⟩

set_option maxRecDepth 100000 in
theorem matchTells_lifted (os : Os) (started : os.Started) (H : Type) (enc : TypeId × Value → H) (F : Stop.Interp) :
    ReturnsInHanded {} Tryz.checked os 4 .any ((OpenSpec.ofChange Rows.matchTellsSpec).preRow enc Tryz.prog Tryz.f4 Rows.matchTellsRow.domain false Rows.matchTellsRow.laid) (((OpenSpec.ofChange Rows.matchTellsSpec).at F).post enc Tryz.prog Tryz.f4 false true false false) := by
  obtain ⟨ds0, places, hx⟩ := matchTells_reads os enc
  refine returnsInHanded_of_row (C := Tryz.checked) (s := OpenSpec.ofChange Rows.matchTellsSpec) own started (by kernel_rfl) Tryz.func4
    (witness_row_at (enc := enc) (C := Tryz.checked) false (laidWorld os) #[.agg #[.int .i64 0, .int .i64 0, .int .i64 0, .slice none 0 0], .agg #[.int .i64 0, .int .i64 0, .int .i64 0], .slice none 0 0, .int .i64 0] rfl (by kernel_rfl) (by kernel_rfl) (by kernel_rfl)
      (OpenSpec.preRow_of_cond 8 hx (by kernel_rfl) (fun k hk => by cases hk) (by kernel_rfl) (laid_met os _))) ?_
  intro W base args ds gs before hval0 hW _ _ hsz0 hL _ _
  have hval : ∀ (j : Nat) t v, Tryz.f4.params[j]? = some t → args[j]? = some v → Value.okWide Tryz.prog W .any base t v := hval0
  have hW' := hW
  obtain ⟨p, q, hA0, hV, rfl, hfz, hnd⟩ := hW
  have hA : DataW.TrodAll enc Tryz.prog W 0 (fun _ => true) true Tryz.f4.params.toList args.toList ds p := hA0
  have hsz : (DataW.weightsEach Tryz.prog (Tryz.f4.params.toList ++ (OpenSpec.ofChange Rows.matchTellsSpec).bare.plain.varTypes Tryz.prog) (ds ++ gs)).all (· ≤ reachBytes) = true := hsz0
  rw [Tryz.params4] at hA hval hsz
  obtain ⟨v0, vs0, d0, ds1, p0, q0, hargs0, rfl, rfl, h0, r0⟩ := trodAll_cons hA
  obtain ⟨v1, vs1, d1, ds2, p1, q1, hargs1, rfl, rfl, h1, r1⟩ := trodAll_cons r0
  obtain ⟨v2, vs2, d2, ds3, p2, q2, hargs2, rfl, rfl, h2, r2⟩ := trodAll_cons r1
  obtain ⟨v3, vs3, d3, ds4, p3, q3, hargs3, rfl, rfl, h3, r3⟩ := trodAll_cons r2
  obtain ⟨rfl, rfl, rfl⟩ := trodAll_nil r3
  subst hargs1 hargs2 hargs3
  obtain rfl : args = #[v0, v1, v2, v3] := by cases args; simp_all
  obtain ⟨rfl, rfl⟩ := trodVars_none hV
  obtain ⟨cs0, rfl, rd0⟩ := RdB.argAgg (j := 0) hsz Tryz.underlying36 (hval 0 36 v0 rfl rfl) rfl rfl h0
  obtain ⟨b, l, A, c, rfl, okb, hl, okl, zl⟩ := view_rd rd0
  obtain ⟨cs1, rfl, rd1⟩ := RdB.argAgg (j := 1) hsz Tryz.underlying25 (hval 1 25 v1 rfl rfl) rfl rfl h1
  obtain ⟨pv, rfl, okpv⟩ := identB_rd rd1
  obtain ⟨es, hes, mes, zes⟩ := entsB_rd (RdB.argSl (j := 2) hsz Tryz.underlying31 (hval 2 31 v2 rfl rfl) rfl rfl h2)
  obtain ⟨at_, rfl, bat_⟩ := (RdB.argInt (j := 3) hsz Tryz.underlying3 (hval 3 3 v3 rfl rfl) rfl rfl h3).int Tryz.underlying3
  obtain ⟨Ae, ce, rfl, -⟩ := id hes
  have hgo : Calls Tryz.prog 4 #[.agg #[.int .i64 b.idx, .int .i64 b.trm, .int .i64 b.knd, .slice A l.length c], .agg #[.int .i64 pv.idx, .int .i64 pv.trm, .int .i64 pv.knd], .slice Ae es.length ce, .int .i64 at_] W fun e W' => e = .returned (.bool true) ∧ Below W.heap.size W W' :=
    matchTells b pv l A c es Ae ce at_ W hl hes (fun x hx => (mes x hx).1) zl okb.1 okpv.1 (fun x hx => (okl x hx).1) (fun x hx => (mes x hx).2) bat_ (handle_of_laid hL)
  refine (hgo).mono fun e W' ⟨he, hb⟩ => ?_
  subst he
  exact ⟨_, rfl, law_post laidOut hW' rfl (by kernel_rfl) rfl Tryz.underlying4 rfl hb⟩

theorem matchTells_said : Rows.MatchTellsSaid :=
  OpenClaim.holds_of_cond 4 Tryz.f4 rfl rfl rfl rfl rfl rfl rfl ⟨rfl, rfl, rfl, rfl, rfl⟩ rfl rfl rfl rfl rfl (by kernel_rfl) Tryz.func4 (by kernel_rfl)
    (of_decide_eq_true (by kernel_rfl)) (by unfold Func.isWrapper; first | (rw [if_pos (by decide +kernel)]; kernel_rfl) | (rw [if_neg (by decide +kernel)]; exact ⟨rfl, rfl⟩))
    (fun os started H enc _ F => by rw [OpenClaim.pre_eq_preRow]; exact matchTells_lifted os started H enc F)

theorem matchTells_plain (f : FuncId) (fn : Func) (hf : Tryz.pinned.checked.prog.funcNamed "limpet/limpetlaw20.MatchTells" = some f) (hfn : Tryz.pinned.checked.prog.funcs[f]? = some fn) :
    true = Tryz.pinned.checked.prog.looks [] ∧ ∀ (j : Nat) t, fn.params[j]? = some t → Tryz.pinned.checked.prog.wantsStandIn t = false := by
  obtain rfl : f = 4 := Option.some.inj ((show Tryz.prog.funcNamed "limpet/limpetlaw20.MatchTells" = some 4 by kernel_rfl).symm.trans hf) |>.symm
  obtain rfl : fn = Tryz.f4 := (Option.some.inj (Tryz.func4.symm.trans hfn)).symm
  refine ⟨by kernel_rfl, fun j t ht => ?_⟩
  have hall : ∀ x ∈ Tryz.f4.params.toList, Tryz.prog.wantsStandIn x = false := by
    have : (Tryz.f4.params.toList.all fun x => Tryz.prog.wantsStandIn x == false) = true := by kernel_rfl
    intro x hx
    simpa using List.all_eq_true.1 this x hx
  exact hall t (by simpa using Array.mem_of_getElem? ht)

theorem matchTells_holds : Rows.MatchTellsCardSaid :=
  Claim7.holds_tied_plain_at .later [] _ _ _ _ matchTells_said (fun _ h => by cases h) (by kernel_rfl) (fun _ h => by cases h) matchTells_row_tie rfl ⟨rfl, rfl⟩ (by kernel_rfl) rfl matchTells_plain (by kernel_rfl)
end Go.Proofs.YtfglkpcboodllaaGreatDoor
