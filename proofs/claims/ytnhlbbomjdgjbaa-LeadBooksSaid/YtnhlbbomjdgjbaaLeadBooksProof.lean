/-
  The statement LeadBooksSaid: for every input the law returns true, and each argument reads as it did. No condition.
-/
import Derived.Test.YtnhlbbomjdgjbaaRows
import Derived.Test.YtnhlbbomjdgjbaaLeadBooks
import Derived.Test.YtnhlbbomjdgjbaaLift2
set_option linter.unusedVariables false
namespace Go.Proofs.Ytnhlbbomjdgjbaa
open Go.ChangeShapes Go.WideShapes Go.ChangeAt Go.RowKit Go.Deep

theorem own : ownKnob Try.prog.godebug = none := by kernel_rfl
theorem laidOut : laidOutB Try.prog = true := by kernel_rfl

theorem int_elem {H : Type} {enc : TypeId × Value → H} {W : World} (cs : List Value) (n : Nat) (y : DataW H × List MemPlace) (hl : cs.length = 1) (ht : DataW.trod enc Try.prog W 0 (fun _ => true) true n 3 cs = some y) :
    ∃ x : Int, i64Row x = cs ∧ -9223372036854775808 ≤ x ∧ x ≤ 9223372036854775807 := by
  match cs, hl with
  | [c], _ =>
    obtain ⟨x, rfl, h1, h2⟩ := one_int Try.underlying3 ht
    exact ⟨x, rfl, h1, h2⟩
theorem ints_open {H : Type} {enc : TypeId × Value → H} {W : World} {v : Value} {d : DataW H} {p : List MemPlace} {r : Reach} {b0 : Nat} (hv : Value.okWide Try.prog W r b0 22 v) (h : DataW.Trod enc Try.prog W 0 (fun _ => true) true 22 v d p) :
    ∃ l : List Int, Sl 1 i64Row W.heap.size W v l ∧ ∀ x ∈ l, -9223372036854775808 ≤ x ∧ x ≤ 9223372036854775807 :=
  sl_open Try.underlying22 (by kernel_rfl) (by omega) int_elem hv h

theorem bks_open {H : Type} {enc : TypeId × Value → H} {W : World} {v : Value} {d : DataW H} {p : List MemPlace} {r : Reach} {b0 : Nat} (hv : Value.okWide Try.prog W r b0 26 v) (h : DataW.Trod enc Try.prog W 0 (fun _ => true) true 26 v d p) :
    ∃ l : List Bk, Sl 4 bkRow W.heap.size W v l ∧ ∀ x ∈ l, True := by
  refine sl_open Try.underlying26 (by kernel_rfl) (by omega) ?_ hv h
  intro cs n y hl ht
  match cs, hl with
  | [c0, c1, c2, c3], _ =>
    obtain ⟨_, _, g0⟩ := fld1 Try.underlying35 ht (i := 0) rfl (by kernel_rfl) rfl
    obtain ⟨_, _, g1⟩ := fld1 Try.underlying35 ht (i := 1) rfl (by kernel_rfl) rfl
    obtain ⟨_, _, g2⟩ := fld1 Try.underlying35 ht (i := 2) rfl (by kernel_rfl) rfl
    obtain ⟨_, _, g3⟩ := fld1 Try.underlying35 ht (i := 3) rfl (by kernel_rfl) rfl
    obtain ⟨x0, rfl, -, -⟩ := one_int Try.underlying3 g0
    obtain ⟨x1, rfl, -, -⟩ := one_int Try.underlying3 g1
    obtain ⟨x2, rfl, -, -⟩ := one_int Try.underlying3 g2
    obtain ⟨x3, rfl, -, -⟩ := one_int Try.underlying3 g3
    exact ⟨⟨x0, x1, x2, x3⟩, rfl, trivial⟩

set_option maxRecDepth 100000 in
theorem books_lifted (os : Os) (started : os.Started) (H : Type) (enc : TypeId × Value → H) :
    ReturnsInHanded {} Try.checked os 4 .any (Rows.leadBooksSpec.pre6 enc Try.prog Try.f4 Rows.leadBooksRow.domain false) (Rows.leadBooksSpec.post enc Try.prog Try.f4 false true false false) := by
  refine returnsInHanded_of_change_sized (C := Try.checked) own started (by kernel_rfl) Try.func4
    (ChangeSpec.witness6 (enc := enc) (C := Try.checked) false ⟨#[], #[.slice none 0 0, .slice none 0 0, .int .i64 0, .int .i64 0, .int .i64 0, .int .i64 0, .bool false], []⟩ 8 (by kernel_rfl) (by kernel_rfl) (by kernel_rfl) (by kernel_rfl)) ?_
  intro W base args ds gs before hval0 hW hcnd hsz0 _
  have hval : ∀ (j : Nat) t v, Try.f4.params[j]? = some t → args[j]? = some v → Value.okWide Try.prog W .any base t v := hval0
  have hW' := hW
  obtain ⟨p, q, hA0, hV, rfl, hfz, hnd⟩ := hW
  have hA : DataW.TrodAll enc Try.prog W 0 (fun _ => true) true Try.f4.params.toList args.toList ds p := hA0
  have hsz : (DataW.weightsEach Try.prog (Try.f4.params.toList ++ Rows.leadBooksSpec.plain.varTypes Try.prog) (ds ++ gs)).all (· ≤ reachBytes) = true := hsz0
  rw [Try.params4] at hA hval hsz
  obtain ⟨v0, vs0, d0, ds1, p0, q0, hargs0, rfl, rfl, h0, r0⟩ := trodAll_cons hA
  obtain ⟨v1, vs1, d1, ds2, p1, q1, hargs1, rfl, rfl, h1, r1⟩ := trodAll_cons r0
  obtain ⟨v2, vs2, d2, ds3, p2, q2, hargs2, rfl, rfl, h2, r2⟩ := trodAll_cons r1
  obtain ⟨v3, vs3, d3, ds4, p3, q3, hargs3, rfl, rfl, h3, r3⟩ := trodAll_cons r2
  obtain ⟨v4, vs4, d4, ds5, p4, q4, hargs4, rfl, rfl, h4, r4⟩ := trodAll_cons r3
  obtain ⟨v5, vs5, d5, ds6, p5, q5, hargs5, rfl, rfl, h5, r5⟩ := trodAll_cons r4
  obtain ⟨v6, vs6, d6, ds7, p6, q6, hargs6, rfl, rfl, h6, r6⟩ := trodAll_cons r5
  obtain ⟨rfl, rfl, rfl⟩ := trodAll_nil r6
  subst hargs1 hargs2 hargs3 hargs4 hargs5 hargs6
  obtain rfl : args = #[v0, v1, v2, v3, v4, v5, v6] := by cases args; simp_all
  obtain ⟨rfl, rfl⟩ := trodVars_none hV
  obtain ⟨l, hl, ml⟩ := bks_open (hval 0 26 v0 rfl rfl) h0
  have zl : l.length ≤ 140737488351232 := by
    obtain ⟨A, cap, rfl, _⟩ := id hl
    exact arg_sized hsz (j := 0) rfl rfl Try.underlying26 h0 (by rw [show Try.prog.bytesOf 35 = 32 by kernel_rfl]; omega)
  obtain ⟨ms, hms, mms⟩ := ints_open (hval 1 22 v1 rfl rfl) h1
  have zms : ms.length ≤ 140737488351232 := by
    obtain ⟨A, cap, rfl, _⟩ := id hms
    exact arg_sized hsz (j := 1) rfl rfl Try.underlying22 h1 (by rw [show Try.prog.bytesOf 3 = 8 by kernel_rfl]; omega)
  obtain ⟨self, rfl, g2, g2'⟩ := arg_int Try.underlying3 (hval 2 3 v2 rfl rfl) h2
  obtain ⟨frm, rfl, g3, g3'⟩ := arg_int Try.underlying3 (hval 3 3 v3 rfl rfl) h3
  obtain ⟨index, rfl, g4, g4'⟩ := arg_int Try.underlying3 (hval 4 3 v4 rfl rfl) h4
  obtain ⟨piece, rfl, g5, g5'⟩ := arg_int Try.underlying3 (hval 5 3 v5 rfl rfl) h5
  obtain ⟨yes, rfl⟩ := arg_bool Try.underlying4 (hval 6 4 v6 rfl rfl) h6
  have hgo : Calls Try.prog 4 #[v0, v1, .int .i64 self, .int .i64 frm, .int .i64 index, .int .i64 piece, .bool yes] W fun e W' => e = .returned (.bool true) ∧ Below W.heap.size W W' := by
    by_cases hs : l.length + ms.length ≤ 300
    · exact books_walk l ms v0 v1 self frm index piece yes W hl hms hs g4
    · exact books_big l ms v0 v1 self frm index piece yes W hl hms (by omega) zl zms
  refine (hgo).mono fun e W' ⟨he, hb⟩ => ?_
  subst he
  exact ⟨_, rfl, law_post laidOut hW' rfl (by kernel_rfl) rfl Try.underlying4 rfl hb⟩

theorem leadBooks_holds : Rows.LeadBooksSaid :=
  OpenClaim.holds_of_wide 4 Try.f4 rfl rfl rfl rfl rfl rfl rfl ⟨rfl, rfl, rfl, rfl, rfl⟩ rfl rfl rfl rfl rfl (by kernel_rfl) Try.func4 (by kernel_rfl)
    (of_decide_eq_true (by kernel_rfl)) (by unfold Func.isWrapper; first | (rw [if_pos (by decide +kernel)]; kernel_rfl) | (rw [if_neg (by decide +kernel)]; exact ⟨rfl, rfl⟩))
    (fun os started H enc _ => books_lifted os started H enc)
end Go.Proofs.Ytnhlbbomjdgjbaa
