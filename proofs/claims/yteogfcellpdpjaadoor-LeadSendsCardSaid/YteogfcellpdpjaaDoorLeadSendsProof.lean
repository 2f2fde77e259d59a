/-
  The statement LeadSends, and its card: for every input the law returns true, and each argument reads behind the call as it read before. Condition: errors.errorType holds its value (the card ties it to the program's text).
-/
import Derived.Test.YteogfcellpdpjaaDoorCards
import Derived.Test.YteogfcellpdpjaaDoorTie
import Derived.Test.YteogfcellpdpjaaDoorLeadSends
import Derived.Test.YteogfcellpdpjaaDoorHandleT
import Derived.Test.YteogfcellpdpjaaDoorViewOpen
import Derived.WalkKit
set_option linter.unusedVariables false
namespace Go.Proofs.YteogfcellpdpjaaDoor
open Go.ChangeShapes Go.WideShapes Go.ChangeAt Go.RowKit Go.Deep

theorem leadSends_reads (os : Os) {H : Type} (enc : TypeId × Value → H) : ∃ ds places, DataW.whole enc Tryd.prog ((laidWorld os).forCall (fun _ _ => 0) ⟨#[], #[.agg #[.int .i64 0, .int .i64 0, .int .i64 0, .int .i64 0], .agg #[.int .i64 0, .int .i64 0, .int .i64 0, .slice none 0 0], .int .i64 0], []⟩).memory Tryd.f10.params.toList Rows.leadSendsSpec.vars false #[(.agg #[.int .i64 0, .int .i64 0, .int .i64 0, .int .i64 0] : Value), .agg #[.int .i64 0, .int .i64 0, .int .i64 0, .slice none 0 0], .int .i64 0].toList 8 = some (ds, [], places) :=
  ⟨[.agg [.lit (.int .i64 0), .lit (.int .i64 0), .lit (.int .i64 0), .lit (.int .i64 0)], .agg [.agg [.lit (.int .i64 0), .lit (.int .i64 0), .lit (.int .i64 0)], .nil], .lit (.int .i64 0)], [], by kernel_rfl⟩

set_option maxRecDepth 100000 in
theorem leadSends_lifted (os : Os) (started : os.Started) (H : Type) (enc : TypeId × Value → H) (F : Stop.Interp) :
    ReturnsInHanded {} Tryd.checked os 10 .any ((OpenSpec.ofChange Rows.leadSendsSpec).preRow enc Tryd.prog Tryd.f10 Rows.leadSendsRow.domain false Rows.leadSendsRow.laid) (((OpenSpec.ofChange Rows.leadSendsSpec).at F).post enc Tryd.prog Tryd.f10 false true false false) := by
  obtain ⟨ds0, places, hx⟩ := leadSends_reads os enc
  refine returnsInHanded_of_row (C := Tryd.checked) (s := OpenSpec.ofChange Rows.leadSendsSpec) own started (by kernel_rfl) Tryd.func10
    (witness_row_at (enc := enc) (C := Tryd.checked) false (laidWorld os) #[.agg #[.int .i64 0, .int .i64 0, .int .i64 0, .int .i64 0], .agg #[.int .i64 0, .int .i64 0, .int .i64 0, .slice none 0 0], .int .i64 0] rfl (by kernel_rfl) (by kernel_rfl) (by kernel_rfl)
      (OpenSpec.preRow_of_cond 8 hx (by kernel_rfl) (fun k hk => by cases hk) (by kernel_rfl) (laid_met os _))) ?_
  intro W base args ds gs before hval0 hW _ _ hsz0 hL _ _
  have hval : ∀ (j : Nat) t v, Tryd.f10.params[j]? = some t → args[j]? = some v → Value.okWide Tryd.prog W .any base t v := hval0
  have hW' := hW
  obtain ⟨p, q, hA0, hV, rfl, hfz, hnd⟩ := hW
  have hA : DataW.TrodAll enc Tryd.prog W 0 (fun _ => true) true Tryd.f10.params.toList args.toList ds p := hA0
  have hsz : (DataW.weightsEach Tryd.prog (Tryd.f10.params.toList ++ (OpenSpec.ofChange Rows.leadSendsSpec).bare.plain.varTypes Tryd.prog) (ds ++ gs)).all (· ≤ reachBytes) = true := hsz0
  rw [Tryd.params10] at hA hval hsz
  obtain ⟨v0, vs0, d0, ds1, p0, q0, hargs0, rfl, rfl, h0, r0⟩ := trodAll_cons hA
  obtain ⟨v1, vs1, d1, ds2, p1, q1, hargs1, rfl, rfl, h1, r1⟩ := trodAll_cons r0
  obtain ⟨v2, vs2, d2, ds3, p2, q2, hargs2, rfl, rfl, h2, r2⟩ := trodAll_cons r1
  obtain ⟨rfl, rfl, rfl⟩ := trodAll_nil r2
  subst hargs1 hargs2
  obtain rfl : args = #[v0, v1, v2] := by cases args; simp_all
  obtain ⟨rfl, rfl⟩ := trodVars_none hV
  obtain ⟨cs0, rfl, rd0⟩ := RdB.argAgg (j := 0) hsz Tryd.underlying58 (hval 0 58 v0 rfl rfl) rfl rfl h0
  obtain ⟨who, nx, mt, pc, rfl, o1, o2, o3, o4⟩ := book_rd rd0
  obtain ⟨cs1, rfl, rd1⟩ := RdB.argAgg (j := 1) hsz Tryd.underlying61 (hval 1 61 v1 rfl rfl) rfl rfl h1
  obtain ⟨b, l, A, c, rfl, okb, hl, okl, zl⟩ := view_rd rd1
  obtain ⟨many, rfl, bmany⟩ := (RdB.argInt (j := 2) hsz Tryd.underlying3 (hval 2 3 v2 rfl rfl) rfl rfl h2).int Tryd.underlying3
  have hgo : Calls Tryd.prog 10 #[.agg #[.int .i64 who, .int .i64 nx, .int .i64 mt, .int .i64 pc], .agg #[.int .i64 b.idx, .int .i64 b.trm, .int .i64 b.knd, .slice A l.length c], .int .i64 many] W fun e W' => e = .returned (.bool true) ∧ Below W.heap.size W W' := by
    by_cases hs : 300 < l.length
    · exact sends_big who nx mt pc many b l A c W hl okb.1 (fun p hp => (okl p hp).1) o2 bmany (handle_of_laid hL) hs
    · cases hr : rightV b l with
      | false => exact sends_bad who nx mt pc many b l A c W hl okb.1 (fun p hp => (okl p hp).1) o2 bmany (handle_of_laid hL) (by omega) hr
      | true =>
        by_cases hlo : nx < 1
        · exact sends_low who nx mt pc many b l A c W hl okb.1 (fun p hp => (okl p hp).1) o2 bmany (handle_of_laid hL) (by omega) hr hlo
        · exact sends_one who nx mt pc many b l A c W hl okb.1 (fun p hp => (okl p hp).1) o2 bmany (handle_of_laid hL) (by omega) hr hlo
  refine (hgo).mono fun e W' ⟨he, hb⟩ => ?_
  subst he
  exact ⟨_, rfl, law_post laidOut hW' rfl (by kernel_rfl) rfl Tryd.underlying4 rfl hb⟩

theorem leadSends_said : Rows.LeadSendsSaid :=
  OpenClaim.holds_of_cond 10 Tryd.f10 rfl rfl rfl rfl rfl rfl rfl ⟨rfl, rfl, rfl, rfl, rfl⟩ rfl rfl rfl rfl rfl (by kernel_rfl) Tryd.func10 (by kernel_rfl)
    (of_decide_eq_true (by kernel_rfl)) (by unfold Func.isWrapper; first | (rw [if_pos (by decide +kernel)]; kernel_rfl) | (rw [if_neg (by decide +kernel)]; exact ⟨rfl, rfl⟩))
    (fun os started H enc _ F => by rw [OpenClaim.pre_eq_preRow]; exact leadSends_lifted os started H enc F)

theorem leadSends_plain (f : FuncId) (fn : Func) (hf : Tryd.pinned.checked.prog.funcNamed "limpet/limpetlaw25.LeadSends" = some f) (hfn : Tryd.pinned.checked.prog.funcs[f]? = some fn) :
    true = Tryd.pinned.checked.prog.looks [] ∧ ∀ (j : Nat) t, fn.params[j]? = some t → Tryd.pinned.checked.prog.wantsStandIn t = false := by
  obtain rfl : f = 10 := Option.some.inj ((show Tryd.prog.funcNamed "limpet/limpetlaw25.LeadSends" = some 10 by kernel_rfl).symm.trans hf) |>.symm
  obtain rfl : fn = Tryd.f10 := (Option.some.inj (Tryd.func10.symm.trans hfn)).symm
  refine ⟨by kernel_rfl, fun j t ht => ?_⟩
  have hall : ∀ x ∈ Tryd.f10.params.toList, Tryd.prog.wantsStandIn x = false := by
    have : (Tryd.f10.params.toList.all fun x => Tryd.prog.wantsStandIn x == false) = true := by kernel_rfl
    intro x hx
    simpa using List.all_eq_true.1 this x hx
  exact hall t (by simpa using Array.mem_of_getElem? ht)

theorem leadSends_holds : Rows.LeadSendsCardSaid :=
  Claim7.holds_tied_plain_at .later [] _ _ _ _ leadSends_said (fun _ h => by cases h) (by kernel_rfl) (fun _ h => by cases h) leadSends_row_tie rfl ⟨rfl, rfl⟩ (by kernel_rfl) rfl leadSends_plain (by kernel_rfl)
end Go.Proofs.YteogfcellpdpjaaDoor
