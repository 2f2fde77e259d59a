/-
  The statement EntryOrders, and its card: for every input the law returns true, and each argument reads behind the call as it read before. Condition: errors.errorType holds its value (the card ties it to the program's text).
-/
import Derived.Test.YtonidklmnecamaaDoorCards
import Derived.Test.YtonidklmnecamaaDoorTie
import Derived.Test.YtonidklmnecamaaDoorEntOrders
import Derived.Test.YtonidklmnecamaaDoorHandleT
import Derived.Test.YtonidklmnecamaaDoorEntOpen
import Derived.WalkKit
set_option linter.unusedVariables false
namespace Go.Proofs.YtonidklmnecamaaDoor
open Go.ChangeShapes Go.WideShapes Go.ChangeAt Go.RowKit Go.Deep

theorem olderI_self (a : Idt) : olderI a a = false := by unfold olderI; rw [if_pos rfl]; exact decide_eq_false (by omega)
theorem older_lt {a b : Idt} : olderI a b = true ↔ (a.trm < b.trm ∨ a.trm = b.trm ∧ a.idx < b.idx) := by
  unfold olderI
  by_cases h : a.trm = b.trm
  · rw [if_pos h, decide_eq_true_eq]; omega
  · rw [if_neg h, decide_eq_true_eq]; omega
theorem older_no {a b : Idt} : olderI a b = false ↔ ¬ (a.trm < b.trm ∨ a.trm = b.trm ∧ a.idx < b.idx) := by
  rw [← older_lt]; simp
theorem same_yes {a b : Idt} : sameI a b = true ↔ (a.trm = b.trm ∧ a.idx = b.idx) := by unfold sameI; simp
theorem same_no {a b : Idt} : sameI a b = false ↔ ¬ (a.trm = b.trm ∧ a.idx = b.idx) := by rw [← same_yes]; simp

theorem entryOrders_reads (os : Os) {H : Type} (enc : TypeId × Value → H) : ∃ ds places, DataW.whole enc Tryd.prog ((laidWorld os).forCall (fun _ _ => 0) ⟨#[], #[.agg #[.int .i64 0, .int .i64 0, .int .i64 0], .agg #[.int .i64 0, .int .i64 0, .int .i64 0], .agg #[.int .i64 0, .int .i64 0, .int .i64 0], .slice none 0 0, .slice none 0 0], []⟩).memory Tryd.f6.params.toList Rows.entryOrdersSpec.vars false #[(.agg #[.int .i64 0, .int .i64 0, .int .i64 0] : Value), .agg #[.int .i64 0, .int .i64 0, .int .i64 0], .agg #[.int .i64 0, .int .i64 0, .int .i64 0], .slice none 0 0, .slice none 0 0].toList 8 = some (ds, [], places) :=
  ⟨[.agg [.lit (.int .i64 0), .lit (.int .i64 0), .lit (.int .i64 0)], .agg [.lit (.int .i64 0), .lit (.int .i64 0), .lit (.int .i64 0)], .agg [.lit (.int .i64 0), .lit (.int .i64 0), .lit (.int .i64 0)], .nil, .nil], [], by kernel_rfl⟩

set_option maxRecDepth 100000 in
theorem entryOrders_lifted (os : Os) (started : os.Started) (H : Type) (enc : TypeId × Value → H) (F : Stop.Interp) :
    ReturnsInHanded {} Tryd.checked os 6 .any ((OpenSpec.ofChange Rows.entryOrdersSpec).preRow enc Tryd.prog Tryd.f6 Rows.entryOrdersRow.domain false Rows.entryOrdersRow.laid) (((OpenSpec.ofChange Rows.entryOrdersSpec).at F).post enc Tryd.prog Tryd.f6 false true false false) := by
  obtain ⟨ds0, places, hx⟩ := entryOrders_reads os enc
  refine returnsInHanded_of_row (C := Tryd.checked) (s := OpenSpec.ofChange Rows.entryOrdersSpec) own started (by kernel_rfl) Tryd.func6
    (witness_row_at (enc := enc) (C := Tryd.checked) false (laidWorld os) #[.agg #[.int .i64 0, .int .i64 0, .int .i64 0], .agg #[.int .i64 0, .int .i64 0, .int .i64 0], .agg #[.int .i64 0, .int .i64 0, .int .i64 0], .slice none 0 0, .slice none 0 0] rfl (by kernel_rfl) (by kernel_rfl) (by kernel_rfl)
      (OpenSpec.preRow_of_cond 8 hx (by kernel_rfl) (fun k hk => by cases hk) (by kernel_rfl) (laid_met os _))) ?_
  intro W base args ds gs before hval0 hW _ _ hsz0 hL _ _
  have hval : ∀ (j : Nat) t v, Tryd.f6.params[j]? = some t → args[j]? = some v → Value.okWide Tryd.prog W .any base t v := hval0
  have hW' := hW
  obtain ⟨p, q, hA0, hV, rfl, hfz, hnd⟩ := hW
  have hA : DataW.TrodAll enc Tryd.prog W 0 (fun _ => true) true Tryd.f6.params.toList args.toList ds p := hA0
  have hsz : (DataW.weightsEach Tryd.prog (Tryd.f6.params.toList ++ (OpenSpec.ofChange Rows.entryOrdersSpec).bare.plain.varTypes Tryd.prog) (ds ++ gs)).all (· ≤ reachBytes) = true := hsz0
  rw [Tryd.params6] at hA hval hsz
  obtain ⟨v0, vs0, d0, ds1, p0, q0, hargs0, rfl, rfl, h0, r0⟩ := trodAll_cons hA
  obtain ⟨v1, vs1, d1, ds2, p1, q1, hargs1, rfl, rfl, h1, r1⟩ := trodAll_cons r0
  obtain ⟨v2, vs2, d2, ds3, p2, q2, hargs2, rfl, rfl, h2, r2⟩ := trodAll_cons r1
  obtain ⟨v3, vs3, d3, ds4, p3, q3, hargs3, rfl, rfl, h3, r3⟩ := trodAll_cons r2
  obtain ⟨v4, vs4, d4, ds5, p4, q4, hargs4, rfl, rfl, h4, r4⟩ := trodAll_cons r3
  obtain ⟨rfl, rfl, rfl⟩ := trodAll_nil r4
  subst hargs1 hargs2 hargs3 hargs4
  obtain rfl : args = #[v0, v1, v2, v3, v4] := by cases args; simp_all
  obtain ⟨rfl, rfl⟩ := trodVars_none hV
  obtain ⟨cs0, rfl, rd0⟩ := RdB.argAgg (j := 0) hsz Tryd.underlying42 (hval 0 42 v0 rfl rfl) rfl rfl h0
  obtain ⟨a, rfl⟩ := ident_rd rd0
  obtain ⟨cs1, rfl, rd1⟩ := RdB.argAgg (j := 1) hsz Tryd.underlying42 (hval 1 42 v1 rfl rfl) rfl rfl h1
  obtain ⟨b, rfl⟩ := ident_rd rd1
  obtain ⟨cs2, rfl, rd2⟩ := RdB.argAgg (j := 2) hsz Tryd.underlying42 (hval 2 42 v2 rfl rfl) rfl rfl h2
  obtain ⟨c, rfl⟩ := ident_rd rd2
  obtain ⟨ms, hms, mms, zms⟩ := ints_rd (RdB.argSl (j := 3) hsz Tryd.underlying22 (hval 3 22 v3 rfl rfl) rfl rfl h3)
  obtain ⟨bs, hbs, mbs, zbs⟩ := bytes_rd (RdB.argSl (j := 4) hsz Tryd.underlying23 (hval 4 23 v4 rfl rfl) rfl rfl h4)
  have hgo : Calls Tryd.prog 6 #[.agg #[.int .i64 a.idx, .int .i64 a.trm, .int .i64 a.knd], .agg #[.int .i64 b.idx, .int .i64 b.trm, .int .i64 b.knd], .agg #[.int .i64 c.idx, .int .i64 c.trm, .int .i64 c.knd], v3, v4] W fun e W' => e = .returned (.bool true) ∧ Below W.heap.size W W' := by
    by_cases hs : 4000 < ms.length + bs.length
    · exact orders_big a b c ms bs v3 v4 W hms hbs mbs (handle_of_laid hL) hs zms zbs
    · by_cases h1 : a.trm = b.trm ∧ a.idx = b.idx
      · exact orders_same a b c ms bs v3 v4 W hms hbs mbs (handle_of_laid hL) (by omega) (same_yes.2 h1) (olderI_self a) (older_no.2 (by omega)) (older_no.2 (by omega))
      · by_cases h2 : a.trm < b.trm ∨ a.trm = b.trm ∧ a.idx < b.idx
        · by_cases h3 : b.trm < c.trm ∨ b.trm = c.trm ∧ b.idx < c.idx
          · exact orders_lt a b c ms bs v3 v4 W hms hbs mbs (handle_of_laid hL) (by omega) (same_no.2 h1) (olderI_self a) (older_lt.2 h2) (older_no.2 (by omega)) (older_lt.2 h3) (older_lt.2 (by omega))
          · exact orders_lt2 a b c ms bs v3 v4 W hms hbs mbs (handle_of_laid hL) (by omega) (same_no.2 h1) (olderI_self a) (older_lt.2 h2) (older_no.2 (by omega)) (older_no.2 h3)
        · exact orders_gt a b c ms bs v3 v4 W hms hbs mbs (handle_of_laid hL) (by omega) (same_no.2 h1) (olderI_self a) (older_no.2 h2) (older_lt.2 (by omega))
  refine (hgo).mono fun e W' ⟨he, hb⟩ => ?_
  subst he
  exact ⟨_, rfl, law_post laidOut hW' rfl (by kernel_rfl) rfl Tryd.underlying4 rfl hb⟩

theorem entryOrders_said : Rows.EntryOrdersSaid :=
  OpenClaim.holds_of_cond 6 Tryd.f6 rfl rfl rfl rfl rfl rfl rfl ⟨rfl, rfl, rfl, rfl, rfl⟩ rfl rfl rfl rfl rfl (by kernel_rfl) Tryd.func6 (by kernel_rfl)
    (of_decide_eq_true (by kernel_rfl)) (by unfold Func.isWrapper; first | (rw [if_pos (by decide +kernel)]; kernel_rfl) | (rw [if_neg (by decide +kernel)]; exact ⟨rfl, rfl⟩))
    (fun os started H enc _ F => by rw [OpenClaim.pre_eq_preRow]; exact entryOrders_lifted os started H enc F)

theorem entryOrders_plain (f : FuncId) (fn : Func) (hf : Tryd.pinned.checked.prog.funcNamed "limpet/limpetlaw17.EntryOrders" = some f) (hfn : Tryd.pinned.checked.prog.funcs[f]? = some fn) :
    true = Tryd.pinned.checked.prog.looks [] ∧ ∀ (j : Nat) t, fn.params[j]? = some t → Tryd.pinned.checked.prog.wantsStandIn t = false := by
  obtain rfl : f = 6 := Option.some.inj ((show Tryd.prog.funcNamed "limpet/limpetlaw17.EntryOrders" = some 6 by kernel_rfl).symm.trans hf) |>.symm
  obtain rfl : fn = Tryd.f6 := (Option.some.inj (Tryd.func6.symm.trans hfn)).symm
  refine ⟨by kernel_rfl, fun j t ht => ?_⟩
  have hall : ∀ x ∈ Tryd.f6.params.toList, Tryd.prog.wantsStandIn x = false := by
    have : (Tryd.f6.params.toList.all fun x => Tryd.prog.wantsStandIn x == false) = true := by kernel_rfl
    intro x hx
    simpa using List.all_eq_true.1 this x hx
  exact hall t (by simpa using Array.mem_of_getElem? ht)

theorem entryOrders_holds : Rows.EntryOrdersCardSaid :=
  Claim7.holds_tied_plain_at .later [] _ _ _ _ entryOrders_said (fun _ h => by cases h) (by kernel_rfl) (fun _ h => by cases h) entryOrders_row_tie rfl ⟨rfl, rfl⟩ (by kernel_rfl) rfl entryOrders_plain (by kernel_rfl)
end Go.Proofs.YtonidklmnecamaaDoor
