/-
  The statement HealAll, and its card: for every input the law returns true, and each argument reads behind the call as it read before. Condition: errors.errorType holds its value (the card ties it to the program's text).
-/
import Derived.Test.YtglkgmijhdkhpaaDoorCards
import Derived.Test.YtglkgmijhdkhpaaDoorTie
import Derived.Test.YtglkgmijhdkhpaaDoorHa47
import Derived.Test.YtglkgmijhdkhpaaDoorHa50
import Derived.WalkKit
set_option linter.unusedVariables false
namespace Go.Proofs.YtglkgmijhdkhpaaDoor
open Go.ChangeShapes Go.WideShapes Go.ChangeAt Go.RowKit Go.Deep

section
variable {H : Type} {enc : TypeId × Value → H} {P : Program} {W : World}
theorem RdB.u64 {t : TypeId} {c : Value} (ht : P.underlying t = some (.int .u64)) (h : RdB enc P W t [c]) : ∃ x : Int, c = .int .u64 x ∧ 0 ≤ x ∧ x ≤ 18446744073709551615 := by
  obtain ⟨n, y, h, -⟩ := h
  obtain ⟨x, hx, -, hw⟩ := DataW.trod_int ht h
  simp only [List.cons.injEq, and_true] at hx
  have : 0 ≤ x ∧ x ≤ 18446744073709551615 := by simpa [Lit.wf, IntKind.min, IntKind.max, IntKind.signed, IntKind.bits] using hw
  exact ⟨x, hx, this.1, this.2⟩
theorem RdB.argU64 {ts : List TypeId} {ds : List (DataW H)} (hsz : (DataW.weightsEach P ts ds).all (· ≤ reachBytes) = true) {j : Nat} {t : TypeId} {v : Value} {d : DataW H} {p : List MemPlace} {r : Reach} {b0 : Nat} (hu : P.underlying t = some (.int .u64))
    (hv : Value.okWide P W r b0 t v) (ht : ts[j]? = some t) (hd : ds[j]? = some d) (h : DataW.Trod enc P W 0 (fun _ => true) true t v d p) : RdB enc P W t [v] := by
  obtain ⟨x, rfl, -⟩ := open_int hu hv h
  simpa [Value.cells] using RdB.arg hsz ht hd h
end
theorem healAll_reads (os : Os) {H : Type} (enc : TypeId × Value → H) : ∃ ds places, DataW.whole enc Tryd.prog ((laidWorld os).forCall (fun _ _ => 0) ⟨#[], #[.slice none 0 0, .int .u64 0, .int .i64 0], []⟩).memory Tryd.f4.params.toList Rows.healAllSpec.vars false #[(.slice none 0 0 : Value), .int .u64 0, .int .i64 0].toList 8 = some (ds, [], places) :=
  ⟨[.nil, .lit (.int .u64 0), .lit (.int .i64 0)], [], by kernel_rfl⟩

set_option maxRecDepth 100000 in
theorem healAll_lifted (os : Os) (started : os.Started) (H : Type) (enc : TypeId × Value → H) (F : Stop.Interp) :
    ReturnsInHanded {} Tryd.checked os 4 .any ((OpenSpec.ofChange Rows.healAllSpec).preRow enc Tryd.prog Tryd.f4 Rows.healAllRow.domain false Rows.healAllRow.laid) (((OpenSpec.ofChange Rows.healAllSpec).at F).post enc Tryd.prog Tryd.f4 false true false false) := by
  obtain ⟨ds0, places, hx⟩ := healAll_reads os enc
  refine returnsInHanded_of_row (C := Tryd.checked) (s := OpenSpec.ofChange Rows.healAllSpec) own started (by kernel_rfl) Tryd.func4
    (witness_row_at (enc := enc) (C := Tryd.checked) false (laidWorld os) #[.slice none 0 0, .int .u64 0, .int .i64 0] rfl (by kernel_rfl) (by kernel_rfl) (by kernel_rfl)
      (OpenSpec.preRow_of_cond 8 hx (by kernel_rfl) (fun k hk => by cases hk) (by kernel_rfl) (laid_met os _))) ?_
  intro W base args ds gs before hval0 hW _ _ hsz0 hL _ _
  have hval : ∀ (j : Nat) t v, Tryd.f4.params[j]? = some t → args[j]? = some v → Value.okWide Tryd.prog W .any base t v := hval0
  have hW' := hW
  obtain ⟨p, q, hA0, hV, rfl, hfz, hnd⟩ := hW
  have hA : DataW.TrodAll enc Tryd.prog W 0 (fun _ => true) true Tryd.f4.params.toList args.toList ds p := hA0
  have hsz : (DataW.weightsEach Tryd.prog (Tryd.f4.params.toList ++ (OpenSpec.ofChange Rows.healAllSpec).bare.plain.varTypes Tryd.prog) (ds ++ gs)).all (· ≤ reachBytes) = true := hsz0
  rw [Tryd.params4] at hA hval hsz
  obtain ⟨v0, vs0, d0, ds1, p0, q0, hargs0, rfl, rfl, h0, r0⟩ := trodAll_cons hA
  obtain ⟨v1, vs1, d1, ds2, p1, q1, hargs1, rfl, rfl, h1, r1⟩ := trodAll_cons r0
  obtain ⟨v2, vs2, d2, ds3, p2, q2, hargs2, rfl, rfl, h2, r2⟩ := trodAll_cons r1
  obtain ⟨rfl, rfl, rfl⟩ := trodAll_nil r2
  subst hargs1 hargs2
  obtain rfl : args = #[v0, v1, v2] := by cases args; simp_all
  obtain ⟨rfl, rfl⟩ := trodVars_none hV
  obtain ⟨l, hl, ml, zl⟩ := ents_rd (RdB.argSl (j := 0) hsz Tryd.underlying42 (hval 0 42 v0 rfl rfl) rfl rfl h0)
  obtain ⟨bits0, rfl, bbits0⟩ := (RdB.argU64 (j := 1) hsz Tryd.underlying43 (hval 1 43 v1 rfl rfl) rfl rfl h1).u64 Tryd.underlying43
  obtain ⟨many, rfl, bmany⟩ := (RdB.argInt (j := 2) hsz Tryd.underlying3 (hval 2 3 v2 rfl rfl) rfl rfl h2).int Tryd.underlying3
  refine (healAll l bits0 many v0 W hl ml zl bbits0.1 (by have := bbits0.2; omega) bmany (handle_of_laid hL)).mono fun e W' ⟨he, hb⟩ => ?_
  subst he
  exact ⟨_, rfl, law_post laidOut hW' rfl (by kernel_rfl) rfl Tryd.underlying4 rfl hb⟩

theorem healAll_said : Rows.HealAllSaid :=
  OpenClaim.holds_of_cond 4 Tryd.f4 rfl rfl rfl rfl rfl rfl rfl ⟨rfl, rfl, rfl, rfl, rfl⟩ rfl rfl rfl rfl rfl (by kernel_rfl) Tryd.func4 (by kernel_rfl)
    (of_decide_eq_true (by kernel_rfl)) (by unfold Func.isWrapper; first | (rw [if_pos (by decide +kernel)]; kernel_rfl) | (rw [if_neg (by decide +kernel)]; exact ⟨rfl, rfl⟩))
    (fun os started H enc _ F => by rw [OpenClaim.pre_eq_preRow]; exact healAll_lifted os started H enc F)

theorem healAll_plain (f : FuncId) (fn : Func) (hf : Tryd.pinned.checked.prog.funcNamed "limpet/limpetlaw24.HealAll" = some f) (hfn : Tryd.pinned.checked.prog.funcs[f]? = some fn) :
    true = Tryd.pinned.checked.prog.looks [] ∧ ∀ (j : Nat) t, fn.params[j]? = some t → Tryd.pinned.checked.prog.wantsStandIn t = false := by
  obtain rfl : f = 4 := Option.some.inj ((show Tryd.prog.funcNamed "limpet/limpetlaw24.HealAll" = some 4 by kernel_rfl).symm.trans hf) |>.symm
  obtain rfl : fn = Tryd.f4 := (Option.some.inj (Tryd.func4.symm.trans hfn)).symm
  refine ⟨by kernel_rfl, fun j t ht => ?_⟩
  have hall : ∀ x ∈ Tryd.f4.params.toList, Tryd.prog.wantsStandIn x = false := by
    have : (Tryd.f4.params.toList.all fun x => Tryd.prog.wantsStandIn x == false) = true := by kernel_rfl
    intro x hx
    simpa using List.all_eq_true.1 this x hx
  exact hall t (by simpa using Array.mem_of_getElem? ht)

theorem healAll_holds : Rows.HealAllCardSaid :=
  Claim7.holds_tied_plain_at .later [] _ _ _ _ healAll_said (fun _ h => by cases h) (by kernel_rfl) (fun _ h => by cases h) healAll_row_tie rfl ⟨rfl, rfl⟩ (by kernel_rfl) rfl healAll_plain (by kernel_rfl)
end Go.Proofs.YtglkgmijhdkhpaaDoor
