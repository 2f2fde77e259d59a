/-
  The statement GroupLogs, and its card: for every input the law returns true, and each argument reads behind the call as it read before. Condition: errors.errorType holds its value (the card ties it to the program's text).
-/
import Derived.Test.YthadfdpdillemaaGreatDoorCards
import Derived.Test.YthadfdpdillemaaGreatDoorTie
import Derived.Test.YthadfdpdillemaaGreatDoorGroupLogs
import Derived.Test.YthadfdpdillemaaGreatDoorHandleT
import Derived.Test.YthadfdpdillemaaGreatDoorEntOpen
import Derived.WalkKit
set_option linter.unusedVariables false
namespace Go.Proofs.YthadfdpdillemaaGreatDoor
open Go.ChangeShapes Go.WideShapes Go.ChangeAt Go.RowKit Go.Deep

theorem groupLogs_reads (os : Os) {H : Type} (enc : TypeId × Value → H) : ∃ ds places, DataW.whole enc Tryz.prog ((laidWorld os).forCall (fun _ _ => 0) ⟨#[], #[.slice none 0 0, .slice none 0 0], []⟩).memory Tryz.f8.params.toList Rows.groupLogsSpec.vars false #[(.slice none 0 0 : Value), .slice none 0 0].toList 8 = some (ds, [], places) :=
  ⟨[.nil, .nil], [], by kernel_rfl⟩

set_option maxRecDepth 100000 in
theorem groupLogs_lifted (os : Os) (started : os.Started) (H : Type) (enc : TypeId × Value → H) (F : Stop.Interp) :
    ReturnsInHanded {} Tryz.checked os 8 .any ((OpenSpec.ofChange Rows.groupLogsSpec).preRow enc Tryz.prog Tryz.f8 Rows.groupLogsRow.domain false Rows.groupLogsRow.laid) (((OpenSpec.ofChange Rows.groupLogsSpec).at F).post enc Tryz.prog Tryz.f8 false true false false) := by
  obtain ⟨ds0, places, hx⟩ := groupLogs_reads os enc
  refine returnsInHanded_of_row (C := Tryz.checked) (s := OpenSpec.ofChange Rows.groupLogsSpec) own started (by kernel_rfl) Tryz.func8
    (witness_row_at (enc := enc) (C := Tryz.checked) false (laidWorld os) #[.slice none 0 0, .slice none 0 0] rfl (by kernel_rfl) (by kernel_rfl) (by kernel_rfl)
      (OpenSpec.preRow_of_cond 8 hx (by kernel_rfl) (fun k hk => by cases hk) (by kernel_rfl) (laid_met os _))) ?_
  intro W base args ds gs before hval0 hW _ _ hsz0 hL _ _
  have hval : ∀ (j : Nat) t v, Tryz.f8.params[j]? = some t → args[j]? = some v → Value.okWide Tryz.prog W .any base t v := hval0
  have hW' := hW
  obtain ⟨p, q, hA0, hV, rfl, hfz, hnd⟩ := hW
  have hA : DataW.TrodAll enc Tryz.prog W 0 (fun _ => true) true Tryz.f8.params.toList args.toList ds p := hA0
  have hsz : (DataW.weightsEach Tryz.prog (Tryz.f8.params.toList ++ (OpenSpec.ofChange Rows.groupLogsSpec).bare.plain.varTypes Tryz.prog) (ds ++ gs)).all (· ≤ reachBytes) = true := hsz0
  rw [Tryz.params8] at hA hval hsz
  obtain ⟨v0, vs0, d0, ds1, p0, q0, hargs0, rfl, rfl, h0, r0⟩ := trodAll_cons hA
  obtain ⟨v1, vs1, d1, ds2, p1, q1, hargs1, rfl, rfl, h1, r1⟩ := trodAll_cons r0
  obtain ⟨rfl, rfl, rfl⟩ := trodAll_nil r1
  subst hargs1
  obtain rfl : args = #[v0, v1] := by cases args; simp_all
  obtain ⟨rfl, rfl⟩ := trodVars_none hV
  obtain ⟨base, hbase, mbase, zbase⟩ := ints_rd (RdB.argSl (j := 0) hsz Tryz.underlying70 (hval 0 70 v0 rfl rfl) rfl rfl h0)
  obtain ⟨l, hl, ml, zl⟩ := ents_rd (RdB.argSl (j := 1) hsz Tryz.underlying28 (hval 1 28 v1 rfl rfl) rfl rfl h1)
  refine (groupLogs base l v0 v1 W hbase hl ml zbase (handle_of_laid hL)).mono fun e W' ⟨he, hb⟩ => ?_
  subst he
  exact ⟨_, rfl, law_post laidOut hW' rfl (by kernel_rfl) rfl Tryz.underlying4 rfl hb⟩

theorem groupLogs_said : Rows.GroupLogsSaid :=
  OpenClaim.holds_of_cond 8 Tryz.f8 rfl rfl rfl rfl rfl rfl rfl ⟨rfl, rfl, rfl, rfl, rfl⟩ rfl rfl rfl rfl rfl (by kernel_rfl) Tryz.func8 (by kernel_rfl)
    (of_decide_eq_true (by kernel_rfl)) (by unfold Func.isWrapper; first | (rw [if_pos (by decide +kernel)]; kernel_rfl) | (rw [if_neg (by decide +kernel)]; exact ⟨rfl, rfl⟩))
    (fun os started H enc _ F => by rw [OpenClaim.pre_eq_preRow]; exact groupLogs_lifted os started H enc F)

theorem groupLogs_plain (f : FuncId) (fn : Func) (hf : Tryz.pinned.checked.prog.funcNamed "limpet/limpetlaw22.GroupLogs" = some f) (hfn : Tryz.pinned.checked.prog.funcs[f]? = some fn) :
    true = Tryz.pinned.checked.prog.looks [] ∧ ∀ (j : Nat) t, fn.params[j]? = some t → Tryz.pinned.checked.prog.wantsStandIn t = false := by
  obtain rfl : f = 8 := Option.some.inj ((show Tryz.prog.funcNamed "limpet/limpetlaw22.GroupLogs" = some 8 by kernel_rfl).symm.trans hf) |>.symm
  obtain rfl : fn = Tryz.f8 := (Option.some.inj (Tryz.func8.symm.trans hfn)).symm
  refine ⟨by kernel_rfl, fun j t ht => ?_⟩
  have hall : ∀ x ∈ Tryz.f8.params.toList, Tryz.prog.wantsStandIn x = false := by
    have : (Tryz.f8.params.toList.all fun x => Tryz.prog.wantsStandIn x == false) = true := by kernel_rfl
    intro x hx
    simpa using List.all_eq_true.1 this x hx
  exact hall t (by simpa using Array.mem_of_getElem? ht)

theorem groupLogs_holds : Rows.GroupLogsCardSaid :=
  Claim7.holds_tied_plain_at .later [] _ _ _ _ groupLogs_said (fun _ h => by cases h) (by kernel_rfl) (fun _ h => by cases h) groupLogs_row_tie rfl ⟨rfl, rfl⟩ (by kernel_rfl) rfl groupLogs_plain (by kernel_rfl)
end Go.Proofs.YthadfdpdillemaaGreatDoor
