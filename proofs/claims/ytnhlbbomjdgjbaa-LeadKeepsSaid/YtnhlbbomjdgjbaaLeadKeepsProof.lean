/-
  The statement LeadKeepsSaid: for every input the law LeadKeeps returns true, and each argument reads as it did. No condition.
-/
import Derived.Test.YtnhlbbomjdgjbaaRows
import Derived.Test.YtnhlbbomjdgjbaaLeadKeeps
import Derived.Test.YtnhlbbomjdgjbaaLift
set_option linter.unusedVariables false
namespace Go.Proofs.Ytnhlbbomjdgjbaa
open Go.ChangeShapes Go.WideShapes Go.ChangeAt Go.RowKit Go.Deep

theorem own : ownKnob Try.prog.godebug = none := by kernel_rfl
theorem laidOut : laidOutB Try.prog = true := by kernel_rfl

theorem int_elem {H : Type} {enc : TypeId × Value → H} {W : World} (cs : List Value) (n : Nat) (y : DataW H × List MemPlace) (hl : cs.length = 1) (ht : DataW.trod enc Try.prog W 0 (fun _ => true) true n 3 cs = some y) :
    ∃ x : Int, i64Row x = cs ∧ -9223372036854775808 ≤ x ∧ x ≤ 9223372036854775807 := by
  match cs, hl with
  | [c], _ =>
    obtain ⟨x, rfl, h1, h2⟩ := one_int Try.underlying3 ht
    exact ⟨x, rfl, h1, h2⟩
theorem ints_open {H : Type} {enc : TypeId × Value → H} {W : World} {v : Value} {d : DataW H} {p : List MemPlace} {r : Reach} {b0 : Nat} (hv : Value.okWide Try.prog W r b0 22 v) (h : DataW.Trod enc Try.prog W 0 (fun _ => true) true 22 v d p) :
    ∃ l : List Int, Sl 1 i64Row W.heap.size W v l ∧ ∀ x ∈ l, -9223372036854775808 ≤ x ∧ x ≤ 9223372036854775807 :=
  sl_open Try.underlying22 (by kernel_rfl) (by omega) int_elem hv h

theorem evs_open {H : Type} {enc : TypeId × Value → H} {W : World} {v : Value} {d : DataW H} {p : List MemPlace} {r : Reach} {b0 : Nat} (hv : Value.okWide Try.prog W r b0 23 v) (h : DataW.Trod enc Try.prog W 0 (fun _ => true) true 23 v d p) :
    ∃ l : List Ev, Sl 6 evRow W.heap.size W v l ∧ ∀ x ∈ l, Sl 1 i64Row W.heap.size W x.mv x.ms := by
  refine sl_open Try.underlying23 (by kernel_rfl) (by omega) ?_ hv h
  intro cs n y hl ht
  match cs, hl with
  | [c0, c1, c2, c3, c4, c5], _ =>
    obtain ⟨_, _, g0⟩ := fld1 Try.underlying29 ht (i := 0) rfl (by kernel_rfl) rfl
    obtain ⟨_, _, g1⟩ := fld1 Try.underlying29 ht (i := 1) rfl (by kernel_rfl) rfl
    obtain ⟨_, _, g2⟩ := fld1 Try.underlying29 ht (i := 2) rfl (by kernel_rfl) rfl
    obtain ⟨_, _, g3⟩ := fld1 Try.underlying29 ht (i := 3) rfl (by kernel_rfl) rfl
    obtain ⟨_, _, g4⟩ := fld1 Try.underlying29 ht (i := 4) rfl (by kernel_rfl) rfl
    obtain ⟨_, _, g5⟩ := fld1 Try.underlying29 ht (i := 5) rfl (by kernel_rfl) rfl
    obtain ⟨x0, rfl, -, -⟩ := one_int Try.underlying3 g0
    obtain ⟨x1, rfl, -, -⟩ := one_int Try.underlying3 g1
    obtain ⟨x2, rfl, -, -⟩ := one_int Try.underlying3 g2
    obtain ⟨x3, rfl, -, -⟩ := one_int Try.underlying3 g3
    obtain ⟨x4, rfl⟩ := one_bool Try.underlying4 g4
    obtain ⟨ms, hms, -⟩ := sl_cell Try.underlying22 (by kernel_rfl) (by omega) int_elem _ _ g5
    exact ⟨⟨x0, x1, x2, x3, x4, c5, ms⟩, rfl, hms⟩

set_option maxRecDepth 100000 in
theorem keeps_lifted (os : Os) (started : os.Started) (H : Type) (enc : TypeId × Value → H) :
    ReturnsInHanded {} Try.checked os 3 .any (Rows.leadKeepsSpec.pre6 enc Try.prog Try.f3 Rows.leadKeepsRow.domain false) (Rows.leadKeepsSpec.post enc Try.prog Try.f3 false true false false) := by
  refine returnsInHanded_of_change (C := Try.checked) own started (by kernel_rfl) Try.func3
    (ChangeSpec.witness6 (enc := enc) (C := Try.checked) false ⟨#[], #[.slice none 0 0, .int .i64 0, .int .i64 0, .slice none 0 0], []⟩ 8 (by kernel_rfl) (by kernel_rfl) (by kernel_rfl) (by kernel_rfl)) ?_
  intro W base args ds gs before hval0 hW hcnd _
  have hval : ∀ (j : Nat) t v, Try.f3.params[j]? = some t → args[j]? = some v → Value.okWide Try.prog W .any base t v := hval0
  have hW' := hW
  obtain ⟨p, q, hA0, hV, rfl, hfz, hnd⟩ := hW
  have hA : DataW.TrodAll enc Try.prog W 0 (fun _ => true) true Try.f3.params.toList args.toList ds p := hA0
  rw [Try.params3] at hA hval
  obtain ⟨v0, v1, v2, v3, d0, d1, d2, d3, p0, p1, p2, p3, rfl, rfl, rfl, h0, h1, h2, h3⟩ := trodAll_four hA
  obtain ⟨rfl, rfl⟩ := trodVars_none hV
  obtain ⟨ms, hms, -⟩ := ints_open (hval 0 22 v0 rfl rfl) h0
  obtain ⟨self, rfl, -, -⟩ := arg_int Try.underlying3 (hval 1 3 v1 rfl rfl) h1
  obtain ⟨last, rfl, -, -⟩ := arg_int Try.underlying3 (hval 2 3 v2 rfl rfl) h2
  obtain ⟨evs, hevs, hem⟩ := evs_open (hval 3 23 v3 rfl rfl) h3
  refine (keeps_walk ms self last evs v0 v3 W hms hevs hem).mono fun e W' ⟨he, hb⟩ => ?_
  subst he
  exact ⟨_, rfl, law_post laidOut hW' rfl (by kernel_rfl) rfl Try.underlying4 rfl hb⟩

theorem leadKeeps_holds : Rows.LeadKeepsSaid :=
  OpenClaim.holds_of_wide 3 Try.f3 rfl rfl rfl rfl rfl rfl rfl ⟨rfl, rfl, rfl, rfl, rfl⟩ rfl rfl rfl rfl rfl (by kernel_rfl) Try.func3 (by kernel_rfl)
    (of_decide_eq_true (by kernel_rfl)) (by unfold Func.isWrapper; first | (rw [if_pos (by decide +kernel)]; kernel_rfl) | (rw [if_neg (by decide +kernel)]; exact ⟨rfl, rfl⟩))
    (fun os started H enc _ => keeps_lifted os started H enc)
end Go.Proofs.Ytnhlbbomjdgjbaa
