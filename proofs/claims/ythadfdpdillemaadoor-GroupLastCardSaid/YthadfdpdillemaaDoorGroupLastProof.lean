/-
  The statement GroupLast, and its card: for every input the law returns true, and each argument reads behind the call as it read before. Condition: errors.errorType holds its value (the card ties it to the program's text).
-/
import Derived.Test.YthadfdpdillemaaDoorCards
import Derived.Test.YthadfdpdillemaaDoorTie
import Derived.Test.YthadfdpdillemaaDoorGroupLast
import Derived.Test.YthadfdpdillemaaDoorHandleT
import Derived.Test.YthadfdpdillemaaDoorEntOpen
import Derived.WalkKit
set_option linter.unusedVariables false
namespace Go.Proofs.YthadfdpdillemaaDoor
open Go.ChangeShapes Go.WideShapes Go.ChangeAt Go.RowKit Go.Deep

theorem groupLast_reads (os : Os) {H : Type} (enc : TypeId × Value → H) : ∃ ds places, DataW.whole enc Tryd.prog ((laidWorld os).forCall (fun _ _ => 0) ⟨#[], #[.slice none 0 0, .slice none 0 0, .int .i64 0, .slice none 0 0, .slice none 0 0], []⟩).memory Tryd.f7.params.toList Rows.groupLastSpec.vars false #[(.slice none 0 0 : Value), .slice none 0 0, .int .i64 0, .slice none 0 0, .slice none 0 0].toList 8 = some (ds, [], places) :=
  ⟨[.nil, .nil, .lit (.int .i64 0), .nil, .nil], [], by kernel_rfl⟩

set_option maxRecDepth 100000 in
theorem groupLast_lifted (os : Os) (started : os.Started) (H : Type) (enc : TypeId × Value → H) (F : Stop.Interp) :
    ReturnsInHanded {} Tryd.checked os 7 .any ((OpenSpec.ofChange Rows.groupLastSpec).preRow enc Tryd.prog Tryd.f7 Rows.groupLastRow.domain false Rows.groupLastRow.laid) (((OpenSpec.ofChange Rows.groupLastSpec).at F).post enc Tryd.prog Tryd.f7 false true false false) := by
  obtain ⟨ds0, places, hx⟩ := groupLast_reads os enc
  refine returnsInHanded_of_row (C := Tryd.checked) (s := OpenSpec.ofChange Rows.groupLastSpec) own started (by kernel_rfl) Tryd.func7
    (witness_row_at (enc := enc) (C := Tryd.checked) false (laidWorld os) #[.slice none 0 0, .slice none 0 0, .int .i64 0, .slice none 0 0, .slice none 0 0] rfl (by kernel_rfl) (by kernel_rfl) (by kernel_rfl)
      (OpenSpec.preRow_of_cond 8 hx (by kernel_rfl) (fun k hk => by cases hk) (by kernel_rfl) (laid_met os _))) ?_
  intro W base args ds gs before hval0 hW _ _ hsz0 hL _ _
  have hval : ∀ (j : Nat) t v, Tryd.f7.params[j]? = some t → args[j]? = some v → Value.okWide Tryd.prog W .any base t v := hval0
  have hW' := hW
  obtain ⟨p, q, hA0, hV, rfl, hfz, hnd⟩ := hW
  have hA : DataW.TrodAll enc Tryd.prog W 0 (fun _ => true) true Tryd.f7.params.toList args.toList ds p := hA0
  have hsz : (DataW.weightsEach Tryd.prog (Tryd.f7.params.toList ++ (OpenSpec.ofChange Rows.groupLastSpec).bare.plain.varTypes Tryd.prog) (ds ++ gs)).all (· ≤ reachBytes) = true := hsz0
  rw [Tryd.params7] at hA hval hsz
  obtain ⟨v0, vs0, d0, ds1, p0, q0, hargs0, rfl, rfl, h0, r0⟩ := trodAll_cons hA
  obtain ⟨v1, vs1, d1, ds2, p1, q1, hargs1, rfl, rfl, h1, r1⟩ := trodAll_cons r0
  obtain ⟨v2, vs2, d2, ds3, p2, q2, hargs2, rfl, rfl, h2, r2⟩ := trodAll_cons r1
  obtain ⟨v3, vs3, d3, ds4, p3, q3, hargs3, rfl, rfl, h3, r3⟩ := trodAll_cons r2
  obtain ⟨v4, vs4, d4, ds5, p4, q4, hargs4, rfl, rfl, h4, r4⟩ := trodAll_cons r3
  obtain ⟨rfl, rfl, rfl⟩ := trodAll_nil r4
  subst hargs1 hargs2 hargs3 hargs4
  obtain rfl : args = #[v0, v1, v2, v3, v4] := by cases args; simp_all
  obtain ⟨rfl, rfl⟩ := trodVars_none hV
  obtain ⟨base, hbase, mbase, zbase⟩ := ints_rd (RdB.argSl (j := 0) hsz Tryd.underlying22 (hval 0 22 v0 rfl rfl) rfl rfl h0)
  obtain ⟨l, hl, ml, zl⟩ := ents_rd (RdB.argSl (j := 1) hsz Tryd.underlying31 (hval 1 31 v1 rfl rfl) rfl rfl h1)
  obtain ⟨cut, rfl, bcut⟩ := (RdB.argInt (j := 2) hsz Tryd.underlying3 (hval 2 3 v2 rfl rfl) rfl rfl h2).int Tryd.underlying3
  obtain ⟨body, hbody, mbody, zbody⟩ := bytes_rd (RdB.argSl (j := 3) hsz Tryd.underlying42 (hval 3 42 v3 rfl rfl) rfl rfl h3)
  obtain ⟨members, hmembers, mmembers, zmembers⟩ := ints_rd (RdB.argSl (j := 4) hsz Tryd.underlying22 (hval 4 22 v4 rfl rfl) rfl rfl h4)
  refine (groupLast base l cut body members v0 v1 v3 v4 W hbase hl ml hbody mbody hmembers zbase zbody zmembers bcut (handle_of_laid hL)).mono fun e W' ⟨he, hb⟩ => ?_
  subst he
  exact ⟨_, rfl, law_post laidOut hW' rfl (by kernel_rfl) rfl Tryd.underlying4 rfl hb⟩

theorem groupLast_said : Rows.GroupLastSaid :=
  OpenClaim.holds_of_cond 7 Tryd.f7 rfl rfl rfl rfl rfl rfl rfl ⟨rfl, rfl, rfl, rfl, rfl⟩ rfl rfl rfl rfl rfl (by kernel_rfl) Tryd.func7 (by kernel_rfl)
    (of_decide_eq_true (by kernel_rfl)) (by unfold Func.isWrapper; first | (rw [if_pos (by decide +kernel)]; kernel_rfl) | (rw [if_neg (by decide +kernel)]; exact ⟨rfl, rfl⟩))
    (fun os started H enc _ F => by rw [OpenClaim.pre_eq_preRow]; exact groupLast_lifted os started H enc F)

theorem groupLast_plain (f : FuncId) (fn : Func) (hf : Tryd.pinned.checked.prog.funcNamed "limpet/limpetlaw22.GroupLast" = some f) (hfn : Tryd.pinned.checked.prog.funcs[f]? = some fn) :
    true = Tryd.pinned.checked.prog.looks [] ∧ ∀ (j : Nat) t, fn.params[j]? = some t → Tryd.pinned.checked.prog.wantsStandIn t = false := by
  obtain rfl : f = 7 := Option.some.inj ((show Tryd.prog.funcNamed "limpet/limpetlaw22.GroupLast" = some 7 by kernel_rfl).symm.trans hf) |>.symm
  obtain rfl : fn = Tryd.f7 := (Option.some.inj (Tryd.func7.symm.trans hfn)).symm
  refine ⟨by kernel_rfl, fun j t ht => ?_⟩
  have hall : ∀ x ∈ Tryd.f7.params.toList, Tryd.prog.wantsStandIn x = false := by
    have : (Tryd.f7.params.toList.all fun x => Tryd.prog.wantsStandIn x == false) = true := by kernel_rfl
    intro x hx
    simpa using List.all_eq_true.1 this x hx
  exact hall t (by simpa using Array.mem_of_getElem? ht)

theorem groupLast_holds : Rows.GroupLastCardSaid :=
  Claim7.holds_tied_plain_at .later [] _ _ _ _ groupLast_said (fun _ h => by cases h) (by kernel_rfl) (fun _ h => by cases h) groupLast_row_tie rfl ⟨rfl, rfl⟩ (by kernel_rfl) rfl groupLast_plain (by kernel_rfl)
end Go.Proofs.YthadfdpdillemaaDoor
