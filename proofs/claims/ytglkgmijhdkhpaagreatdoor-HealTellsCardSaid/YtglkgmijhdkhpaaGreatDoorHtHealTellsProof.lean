/-
  The statement HealTells, and its card: for every input the law returns true, and each argument reads behind the call as it read before. Condition: errors.errorType holds its value (the card ties it to the program's text).
-/
import Derived.Test.YtglkgmijhdkhpaaGreatDoorCards
import Derived.Test.YtglkgmijhdkhpaaGreatDoorTie
import Derived.Test.YtglkgmijhdkhpaaGreatDoorHt39
import Derived.Test.YtglkgmijhdkhpaaGreatDoorHt42
import Derived.WalkKit
set_option linter.unusedVariables false
namespace Go.Proofs.YtglkgmijhdkhpaaGreatDoor
open Go.ChangeShapes Go.WideShapes Go.ChangeAt Go.RowKit Go.Deep

section
variable {H : Type} {enc : TypeId × Value → H} {W : World}
theorem entH_rd {cs : List Value} (h : RdB enc Tryz.prog W 54 cs) : ∃ x : Ent, entRow x = cs ∧ (EntIn W.heap.size W x ∧ x.bd.length ≤ 140737488351232) ∧ H64 x.idx := by
  have hlen := h.len Tryz.underlying54
  rw [show Tryz.prog.cellsOf 54 = 4 by kernel_rfl] at hlen
  match cs, hlen with
  | [c0, c1, c2, c3], _ =>
    obtain ⟨x0, rfl, b0, b1⟩ := (h.fld1 Tryz.underlying54 (i := 0) rfl (by kernel_rfl) rfl).int Tryz.underlying3
    obtain ⟨x1, rfl, -, -⟩ := (h.fld1 Tryz.underlying54 (i := 1) rfl (by kernel_rfl) rfl).int Tryz.underlying3
    obtain ⟨x2, rfl, -, -⟩ := (h.fld1 Tryz.underlying54 (i := 2) rfl (by kernel_rfl) rfl).int Tryz.underlying40
    obtain ⟨b, hb, hbb, zb⟩ := bytes_rd (h.fld1 Tryz.underlying54 (i := 3) rfl (by kernel_rfl) rfl)
    obtain ⟨A, c, rfl, -⟩ := id hb
    exact ⟨⟨x0, x1, x2, A, c, b⟩, rfl, ⟨⟨hb, hbb⟩, zb⟩, b0, b1⟩
theorem rec_rd {cs : List Value} (h : RdB enc Tryz.prog W 56 cs) : ∃ r : Rec, recRow r = cs ∧ (EntIn W.heap.size W r.e ∧ r.e.bd.length ≤ 140737488351232) ∧ H64 r.e.idx := by
  have hlen := h.len Tryz.underlying56
  rw [show Tryz.prog.cellsOf 56 = 7 by kernel_rfl] at hlen
  match cs, hlen with
  | [c0, c1, c2, c3, c4, c5, c6], _ =>
    have e0 : RdB enc Tryz.prog W 54 [c0, c1, c2, c3] := by
      have h1 : RdB enc Tryz.prog W 54 (List.take (Tryz.prog.cellsOf 54) (List.drop 0 [c0, c1, c2, c3, c4, c5, c6])) := h.fld Tryz.underlying56 (i := 0) rfl
      rw [show Tryz.prog.cellsOf 54 = 4 by kernel_rfl] at h1
      exact h1
    have e1 : RdB enc Tryz.prog W 42 [c4, c5, c6] := by
      have h1 : RdB enc Tryz.prog W 42 (List.take (Tryz.prog.cellsOf 42) (List.drop 4 [c0, c1, c2, c3, c4, c5, c6])) := h.fld Tryz.underlying56 (i := 1) rfl
      rw [show Tryz.prog.cellsOf 42 = 3 by kernel_rfl] at h1
      exact h1
    obtain ⟨x, hx, hr⟩ := entH_rd e0
    obtain ⟨a, ha⟩ := ident_rd e1
    refine ⟨⟨x, a⟩, ?_, hr⟩
    show entRow x ++ idRow a = _
    rw [hx, ha]; rfl
theorem recs_rd {v : Value} (h : RdB enc Tryz.prog W 23 [v]) : ∃ l : List Rec, Sl 7 recRow W.heap.size W v l ∧ (∀ r ∈ l, (EntIn W.heap.size W r.e ∧ r.e.bd.length ≤ 140737488351232) ∧ H64 r.e.idx) ∧ l.length ≤ 140737488351232 :=
  h.sl Tryz.underlying23 (by kernel_rfl) (by omega) (by decide +kernel) fun cs hl hr => rec_rd hr
theorem idents_rd {v : Value} (h : RdB enc Tryz.prog W 22 [v]) : ∃ l : List Idt, Sl 3 idRow W.heap.size W v l ∧ (∀ x ∈ l, True) ∧ l.length ≤ 140737488351232 :=
  h.sl Tryz.underlying22 (by kernel_rfl) (by omega) (by decide +kernel) fun cs hl hr => by
    obtain ⟨x, hx⟩ := ident_rd hr
    exact ⟨x, hx, trivial⟩
end
theorem healTells_reads (os : Os) {H : Type} (enc : TypeId × Value → H) : ∃ ds places, DataW.whole enc Tryz.prog ((laidWorld os).forCall (fun _ _ => 0) ⟨#[], #[.slice none 0 0, .slice none 0 0, .slice none 0 0, .int .i64 0, .int .i64 0, .int .i64 0], []⟩).memory Tryz.f3.params.toList Rows.healTellsSpec.vars false #[(.slice none 0 0 : Value), .slice none 0 0, .slice none 0 0, .int .i64 0, .int .i64 0, .int .i64 0].toList 8 = some (ds, [], places) :=
  ⟨[.nil, .nil, .nil, .lit (.int .i64 0), .lit (.int .i64 0), .lit (.int .i64 0)], [], by kernel_rfl⟩

set_option maxRecDepth 100000 in
theorem healTells_lifted (os : Os) (started : os.Started) (H : Type) (enc : TypeId × Value → H) (F : Stop.Interp) :
    ReturnsInHanded {} Tryz.checked os 3 .any ((OpenSpec.ofChange Rows.healTellsSpec).preRow enc Tryz.prog Tryz.f3 Rows.healTellsRow.domain false Rows.healTellsRow.laid) (((OpenSpec.ofChange Rows.healTellsSpec).at F).post enc Tryz.prog Tryz.f3 false true false false) := by
  obtain ⟨ds0, places, hx⟩ := healTells_reads os enc
  refine returnsInHanded_of_row (C := Tryz.checked) (s := OpenSpec.ofChange Rows.healTellsSpec) own started (by kernel_rfl) Tryz.func3
    (witness_row_at (enc := enc) (C := Tryz.checked) false (laidWorld os) #[.slice none 0 0, .slice none 0 0, .slice none 0 0, .int .i64 0, .int .i64 0, .int .i64 0] rfl (by kernel_rfl) (by kernel_rfl) (by kernel_rfl)
      (OpenSpec.preRow_of_cond 8 hx (by kernel_rfl) (fun k hk => by cases hk) (by kernel_rfl) (laid_met os _))) ?_
  intro W base args ds gs before hval0 hW _ _ hsz0 hL _ _
  have hval : ∀ (j : Nat) t v, Tryz.f3.params[j]? = some t → args[j]? = some v → Value.okWide Tryz.prog W .any base t v := hval0
  have hW' := hW
  obtain ⟨p, q, hA0, hV, rfl, hfz, hnd⟩ := hW
  have hA : DataW.TrodAll enc Tryz.prog W 0 (fun _ => true) true Tryz.f3.params.toList args.toList ds p := hA0
  have hsz : (DataW.weightsEach Tryz.prog (Tryz.f3.params.toList ++ (OpenSpec.ofChange Rows.healTellsSpec).bare.plain.varTypes Tryz.prog) (ds ++ gs)).all (· ≤ reachBytes) = true := hsz0
  rw [Tryz.params3] at hA hval hsz
  obtain ⟨v0, vs0, d0, ds1, p0, q0, hargs0, rfl, rfl, h0, r0⟩ := trodAll_cons hA
  obtain ⟨v1, vs1, d1, ds2, p1, q1, hargs1, rfl, rfl, h1, r1⟩ := trodAll_cons r0
  obtain ⟨v2, vs2, d2, ds3, p2, q2, hargs2, rfl, rfl, h2, r2⟩ := trodAll_cons r1
  obtain ⟨v3, vs3, d3, ds4, p3, q3, hargs3, rfl, rfl, h3, r3⟩ := trodAll_cons r2
  obtain ⟨v4, vs4, d4, ds5, p4, q4, hargs4, rfl, rfl, h4, r4⟩ := trodAll_cons r3
  obtain ⟨v5, vs5, d5, ds6, p5, q5, hargs5, rfl, rfl, h5, r5⟩ := trodAll_cons r4
  obtain ⟨rfl, rfl, rfl⟩ := trodAll_nil r5
  subst hargs1 hargs2 hargs3 hargs4 hargs5
  obtain rfl : args = #[v0, v1, v2, v3, v4, v5] := by cases args; simp_all
  obtain ⟨rfl, rfl⟩ := trodVars_none hV
  obtain ⟨rot, hrot, mrot, zrot⟩ := idents_rd (RdB.argSl (j := 0) hsz Tryz.underlying22 (hval 0 22 v0 rfl rfl) rfl rfl h0)
  obtain ⟨want, hwant, mwant, zwant⟩ := idents_rd (RdB.argSl (j := 1) hsz Tryz.underlying22 (hval 1 22 v1 rfl rfl) rfl rfl h1)
  obtain ⟨l, hl, ml, zl⟩ := recs_rd (RdB.argSl (j := 2) hsz Tryz.underlying23 (hval 2 23 v2 rfl rfl) rfl rfl h2)
  obtain ⟨many, rfl, bmany⟩ := (RdB.argInt (j := 3) hsz Tryz.underlying3 (hval 3 3 v3 rfl rfl) rfl rfl h3).int Tryz.underlying3
  obtain ⟨self0, rfl, bself0⟩ := (RdB.argInt (j := 4) hsz Tryz.underlying3 (hval 4 3 v4 rfl rfl) rfl rfl h4).int Tryz.underlying3
  obtain ⟨turn, rfl, bturn⟩ := (RdB.argInt (j := 5) hsz Tryz.underlying3 (hval 5 3 v5 rfl rfl) rfl rfl h5).int Tryz.underlying3
  refine (healTells rot want l v0 v1 v2 many self0 turn W hrot hwant hl ml zrot zwant zl (handle_of_laid hL)).mono fun e W' ⟨he, hb⟩ => ?_
  subst he
  exact ⟨_, rfl, law_post laidOut hW' rfl (by kernel_rfl) rfl Tryz.underlying4 rfl hb⟩

theorem healTells_said : Rows.HealTellsSaid :=
  OpenClaim.holds_of_cond 3 Tryz.f3 rfl rfl rfl rfl rfl rfl rfl ⟨rfl, rfl, rfl, rfl, rfl⟩ rfl rfl rfl rfl rfl (by kernel_rfl) Tryz.func3 (by kernel_rfl)
    (of_decide_eq_true (by kernel_rfl)) (by unfold Func.isWrapper; first | (rw [if_pos (by decide +kernel)]; kernel_rfl) | (rw [if_neg (by decide +kernel)]; exact ⟨rfl, rfl⟩))
    (fun os started H enc _ F => by rw [OpenClaim.pre_eq_preRow]; exact healTells_lifted os started H enc F)

theorem healTells_plain (f : FuncId) (fn : Func) (hf : Tryz.pinned.checked.prog.funcNamed "limpet/limpetlaw24.HealTells" = some f) (hfn : Tryz.pinned.checked.prog.funcs[f]? = some fn) :
    true = Tryz.pinned.checked.prog.looks [] ∧ ∀ (j : Nat) t, fn.params[j]? = some t → Tryz.pinned.checked.prog.wantsStandIn t = false := by
  obtain rfl : f = 3 := Option.some.inj ((show Tryz.prog.funcNamed "limpet/limpetlaw24.HealTells" = some 3 by kernel_rfl).symm.trans hf) |>.symm
  obtain rfl : fn = Tryz.f3 := (Option.some.inj (Tryz.func3.symm.trans hfn)).symm
  refine ⟨by kernel_rfl, fun j t ht => ?_⟩
  have hall : ∀ x ∈ Tryz.f3.params.toList, Tryz.prog.wantsStandIn x = false := by
    have : (Tryz.f3.params.toList.all fun x => Tryz.prog.wantsStandIn x == false) = true := by kernel_rfl
    intro x hx
    simpa using List.all_eq_true.1 this x hx
  exact hall t (by simpa using Array.mem_of_getElem? ht)

theorem healTells_holds : Rows.HealTellsCardSaid :=
  Claim7.holds_tied_plain_at .later [] _ _ _ _ healTells_said (fun _ h => by cases h) (by kernel_rfl) (fun _ h => by cases h) healTells_row_tie rfl ⟨rfl, rfl⟩ (by kernel_rfl) rfl healTells_plain (by kernel_rfl)
end Go.Proofs.YtglkgmijhdkhpaaGreatDoor
