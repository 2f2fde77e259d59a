/-
  The statement WardTells: for every input the law returns true, and each argument reads behind the call as it read before. No condition.
-/
import Derived.Test.YtnmlmnhgjnkbhaaRows
import Derived.Test.YtnmlmnhgjnkbhaaWardTells
import Derived.Test.YtnmlmnhgjnkbhaaLift
import Derived.Test.YtnmlmnhgjnkbhaaWardOpen
import Derived.WalkKit
set_option linter.unusedVariables false
namespace Go.Proofs.Ytnmlmnhgjnkbhaa
open Go.ChangeShapes Go.WideShapes Go.ChangeAt Go.RowKit Go.Deep

theorem own : ownKnob Try.prog.godebug = none := by kernel_rfl
theorem laidOut : laidOutB Try.prog = true := by kernel_rfl

set_option maxRecDepth 100000 in
theorem wardTells_lifted (os : Os) (started : os.Started) (H : Type) (enc : TypeId × Value → H) :
    ReturnsInHanded {} Try.checked os 3 .any (Rows.wardTellsSpec.pre6 enc Try.prog Try.f3 Rows.wardTellsRow.domain false) (Rows.wardTellsSpec.post enc Try.prog Try.f3 false true false false) := by
  refine returnsInHanded_of_change_sized (C := Try.checked) own started (by kernel_rfl) Try.func3
    (ChangeSpec.witness6 (enc := enc) (C := Try.checked) false ⟨#[], #[.slice none 0 0, .slice none 0 0, .slice none 0 0, .int .i64 0], []⟩ 8 (by kernel_rfl) (by kernel_rfl) (by kernel_rfl) (by kernel_rfl)) ?_
  intro W base args ds gs before hval0 hW hcnd hsz0 _
  have hval : ∀ (j : Nat) t v, Try.f3.params[j]? = some t → args[j]? = some v → Value.okWide Try.prog W .any base t v := hval0
  have hW' := hW
  obtain ⟨p, q, hA0, hV, rfl, hfz, hnd⟩ := hW
  have hA : DataW.TrodAll enc Try.prog W 0 (fun _ => true) true Try.f3.params.toList args.toList ds p := hA0
  have hsz : (DataW.weightsEach Try.prog (Try.f3.params.toList ++ Rows.wardTellsSpec.plain.varTypes Try.prog) (ds ++ gs)).all (· ≤ reachBytes) = true := hsz0
  rw [Try.params3] at hA hval hsz
  obtain ⟨v0, vs0, d0, ds1, p0, q0, hargs0, rfl, rfl, h0, r0⟩ := trodAll_cons hA
  obtain ⟨v1, vs1, d1, ds2, p1, q1, hargs1, rfl, rfl, h1, r1⟩ := trodAll_cons r0
  obtain ⟨v2, vs2, d2, ds3, p2, q2, hargs2, rfl, rfl, h2, r2⟩ := trodAll_cons r1
  obtain ⟨v3, vs3, d3, ds4, p3, q3, hargs3, rfl, rfl, h3, r3⟩ := trodAll_cons r2
  obtain ⟨rfl, rfl, rfl⟩ := trodAll_nil r3
  subst hargs1 hargs2 hargs3
  obtain rfl : args = #[v0, v1, v2, v3] := by cases args; simp_all
  obtain ⟨rfl, rfl⟩ := trodVars_none hV
  obtain ⟨l, hl, ml, zl⟩ := wants_rd (RdB.argSl (j := 0) hsz Try.underlying22 (hval 0 22 v0 rfl rfl) rfl rfl h0)
  obtain ⟨more, hmore, mmore, zmore⟩ := wants_rd (RdB.argSl (j := 1) hsz Try.underlying22 (hval 1 22 v1 rfl rfl) rfl rfl h1)
  obtain ⟨bs, hbs, mbs, zbs⟩ := ints_rd (RdB.argSl (j := 2) hsz Try.underlying23 (hval 2 23 v2 rfl rfl) rfl rfl h2)
  obtain ⟨kd, rfl, bkd⟩ := (RdB.argInt (j := 3) hsz Try.underlying24 (hval 3 24 v3 rfl rfl) rfl rfl h3).int Try.underlying24
  have hgo : Calls Try.prog 3 #[v0, v1, v2, .int .i64 kd] W fun e W' => e = .returned (.bool true) ∧ Below W.heap.size W W' := by
    by_cases hs : 400 < l.length + more.length + bs.length
    · exact tells12_big l more bs v0 v1 v2 kd W hl hmore hbs zl zmore zbs hs
    · exact tells12_go l more bs v0 v1 v2 kd W hl hmore hbs ml mmore mbs (by omega)
  refine (hgo).mono fun e W' ⟨he, hb⟩ => ?_
  subst he
  exact ⟨_, rfl, law_post laidOut hW' rfl (by kernel_rfl) rfl Try.underlying4 rfl hb⟩

theorem wardTells_holds : Rows.WardTellsSaid :=
  OpenClaim.holds_of_wide 3 Try.f3 rfl rfl rfl rfl rfl rfl rfl ⟨rfl, rfl, rfl, rfl, rfl⟩ rfl rfl rfl rfl rfl (by kernel_rfl) Try.func3 (by kernel_rfl)
    (of_decide_eq_true (by kernel_rfl)) (by unfold Func.isWrapper; first | (rw [if_pos (by decide +kernel)]; kernel_rfl) | (rw [if_neg (by decide +kernel)]; exact ⟨rfl, rfl⟩))
    (fun os started H enc _ => wardTells_lifted os started H enc)
end Go.Proofs.Ytnmlmnhgjnkbhaa
