/-
  Merged: HealCompact, SlCut.
-/
import Derived.Test.YtglkgmijhdkhpaaGreatDoorHt17
import Derived.Test.YtglkgmijhdkhpaaGreatDoorHt3
/-
  slices.CompactFunc at identities: contract.
-/
set_option linter.unusedVariables false
set_option linter.unusedSimpArgs false
namespace Go.Proofs.YtglkgmijhdkhpaaGreatDoor
open Go.RowKit

theorem cmpFrom_snoc : ∀ (l : List Idt) (q : Int) (y : Idt), cmpFrom q (l ++ [y]) = cmpFrom q l ++ (if y.idx = (l.getLast?.map Idt.idx).getD q then [] else [y]) := by
  intro l
  induction l with
  | nil => intro q y; by_cases h : y.idx = q <;> simp [cmpFrom, h]
  | cons z l ih =>
    intro q y
    have e : ((z :: l).getLast?.map Idt.idx).getD q = (l.getLast?.map Idt.idx).getD z.idx := by
      cases l with
      | nil => rfl
      | cons a l => simp [List.getLast?_cons]
    rw [List.cons_append, cmpFrom, cmpFrom, ih, e]
    split <;> simp
theorem cmpI_snoc {l : List Idt} {j : Nat} {y p : Idt} (hy : l[j + 1]? = some y) (hp : l[j]? = some p) : cmpI (l.take (j + 2)) = cmpI (l.take (j + 1)) ++ (if y.idx = p.idx then [] else [y]) := by
  obtain ⟨x, r, rfl⟩ : ∃ x r, l = x :: r := by
    cases l with
    | nil => simp at hp
    | cons x r => exact ⟨x, r, rfl⟩
  have hyr : r[j]? = some y := by simpa using hy
  rw [show j + 2 = (j + 1) + 1 from rfl, List.take_succ_cons, List.take_succ_cons, List.take_add_one, hyr, Option.toList_some]
  show x :: cmpFrom x.idx (r.take j ++ [y]) = x :: cmpFrom x.idx (r.take j) ++ _
  rw [cmpFrom_snoc, List.cons_append]
  have : ((r.take j).getLast?.map Idt.idx).getD x.idx = p.idx := by
    cases j with
    | zero => simp at hp; simp [hp]
    | succ j =>
      have hpr : r[j]? = some p := by simpa using hp
      rw [List.take_add_one, hpr, Option.toList_some]; simp
  rw [this]
/-- Compacting: a of L are it; from j - 1 on all is as it was. -/
structure CmpL (l L : List Idt) (a j : Nat) : Prop where
  len : L.length = l.length
  head : L.take a = cmpI (l.take (j + 1))
  cnt : (cmpI (l.take (j + 1))).length = a
  rest : L.drop j = l.drop j
  le : a ≤ j ∧ j < l.length
section
variable {l L : List Idt} {a j : Nat} {y p : Idt}
theorem CmpL.begin_ (h : cmpI (l.take (j + 1)) = l.take (j + 1)) (hy : l[j + 1]? = some y) (hp : l[j]? = some p) (he : y.idx = p.idx) : CmpL l l (j + 1) (j + 1) := by
  have hl := (List.getElem?_eq_some_iff.1 hy).1
  have e : cmpI (l.take (j + 2)) = l.take (j + 1) := by rw [cmpI_snoc hy hp, if_pos he, List.append_nil, h]
  exact ⟨rfl, e.symm, by rw [e, List.length_take]; omega, rfl, by omega, hl⟩
theorem CmpL.at_ (h : CmpL l L a j) (i : Nat) : L[j + i]? = l[j + i]? := by
  have := congrArg (fun z => z[i]?) h.rest
  simpa [List.getElem?_drop] using this
theorem CmpL.skip (h : CmpL l L a j) (hy : l[j + 1]? = some y) (hp : l[j]? = some p) (he : y.idx = p.idx) : CmpL l L a (j + 1) := by
  have hl := (List.getElem?_eq_some_iff.1 hy).1
  have e : cmpI (l.take (j + 2)) = cmpI (l.take (j + 1)) := by rw [cmpI_snoc hy hp, if_pos he, List.append_nil]
  have := h.le
  exact ⟨h.len, by rw [e]; exact h.head, by rw [e]; exact h.cnt, by rw [← List.drop_drop, h.rest, List.drop_drop], by omega, hl⟩
theorem CmpL.take_ (h : CmpL l L a j) (hy : l[j + 1]? = some y) (hp : l[j]? = some p) (he : y.idx ≠ p.idx) : CmpL l (L.set a y) (a + 1) (j + 1) := by
  have hl := (List.getElem?_eq_some_iff.1 hy).1
  have e : cmpI (l.take (j + 2)) = cmpI (l.take (j + 1)) ++ [y] := by rw [cmpI_snoc hy hp, if_neg he]
  have hle := h.le
  have hll := h.len
  refine ⟨by rw [List.length_set, h.len], ?_, by rw [e, List.length_append, h.cnt]; rfl, ?_, by omega, hl⟩
  · rw [e, ← h.head, List.take_add_one, List.getElem?_set_self (by omega), List.take_set_of_le (Nat.le_refl _)]; rfl
  · rw [List.drop_set_of_lt (by omega), ← List.drop_drop, h.rest, List.drop_drop]
end
theorem cmp_go {l : List Idt} {j : Nat} {y p : Idt} (h : cmpI (l.take (j + 1)) = l.take (j + 1)) (hy : l[j + 1]? = some y) (hp : l[j]? = some p) (he : y.idx ≠ p.idx) : cmpI (l.take (j + 2)) = l.take (j + 2) := by
  rw [cmpI_snoc hy hp, if_neg he, h, List.take_add_one (i := j + 1), hy]; rfl
theorem cmpI_short {l : List Idt} (h : l.length < 2) : cmpI l = l := by
  match l, h with
  | [], _ => rfl
  | [x], _ => rfl
set_option maxHeartbeats 1000000 in
theorem wantsEq (x y : Idt) (w : World) : Calls Tryz.prog 65 #[.agg #[.int .i64 x.idx, .int .i64 x.trm, .int .i64 x.knd], .agg #[.int .i64 y.idx, .int .i64 y.trm, .int .i64 y.knd]] w fun e w' => e = .returned (.bool (decide (x.idx = y.idx))) ∧ Below w.heap.size w w' := by
  have HB := Lib.hid (below_call (below_new w (.cells #[.int .i64 x.idx, .int .i64 x.trm, .int .i64 x.knd] 42)) (below_new _ (.cells #[.int .i64 y.idx, .int .i64 y.trm, .int .i64 y.knd] 42)))
  by_cases h : x.idx = y.idx
  · have e1 : (x.idx == y.idx) = true := by simpa using h
    have HD := Lib.hid (decide_eq_true h)
    clear h
    go_enter Tryz.func65, Tryz.ntmps65
    go_wp2_with fail
    go_ret
    exact ⟨ret_bool HD.out.symm, HB.out⟩
  · have e1 : (x.idx == y.idx) = false := by simpa using h
    have HD := Lib.hid (decide_eq_false h)
    clear h
    go_enter Tryz.func65, Tryz.ntmps65
    go_wp2_with fail
    go_ret
    exact ⟨ret_bool HD.out.symm, HB.out⟩

set_option maxRecDepth 100000 in
set_option maxHeartbeats 8000000 in
theorem idtCompact (base : Nat) (l : List Idt) (v : Value) (w : World) (h : Own 3 idRow 42 base w v l) (hn : l.length ≤ 100000) (hB0 : base ≤ w.heap.size) :
    Calls Tryz.prog 64 #[v, .func (.func 65) #[] #[]] w fun e w' => ∃ v', e = .returned v' ∧ Own 3 idRow 42 base w' v' (cmpI l) ∧ Below base w w' := by
  have HO0 := Lib.hid h
  by_cases h2 : l.length < 2
  · obtain ⟨A, c, rfl⟩ := h.len
    have d0 : (l.length : Int) < 2 := by omega
    have HC := Lib.hid (cmpI_short h2)
    clear h
    go_enter Tryz.func64, Tryz.ntmps64
    go_wp2_with fail
    go_ret
    exact ⟨_, rfl, by rw [HC.out]; exact HO0.out, Below.refl _ _⟩
  · obtain ⟨g, c, rfl, hgb, hgl, -⟩ := h.place (by intro hl; subst hl; simp at h2)
    have d0 : ¬ (l.length : Int) < 2 := by omega
    have hlc : l.length ≤ c ∧ c ≤ 9223372036854775807 := by
      obtain ⟨A', c', h1, h2, h3, -⟩ := h.sl idRow_length
      simp only [Value.slice.injEq] at h1
      unfold maxLen at h3
      omega
    have hl2 : (2 : Int) ≤ (l.length : Int) := by omega
    have hl3 : (l.length : Int) ≤ 100000 := by omega
    clear h
    go_enter Tryz.func64, Tryz.ntmps64
    go_wp2_with fail
    go_loopw [5] (fun s wr => ∃ t : Nat, s = .int .i64 ((t : Int) + 1) ∧ t < l.length ∧ cmpI (l.take (t + 1)) = l.take (t + 1) ∧ Own 3 idRow 42 base wr (.slice (some ⟨g, 0, none⟩) l.length c) l ∧ Below base w wr) (fun s _ => l.length - (kOf s).toNat)
    case atStart => exact ⟨0, by simp, by omega, by cases l with | nil => rfl | cons x l => rfl, HO0.out, Below.refl _ _⟩
    case round =>
      clear HO0
      obtain ⟨t, rfl, htl, hc, ho, hB⟩ := hrel
      have HC := Lib.hid hc
      have HO := Lib.hid ho
      have HB := Lib.hid hB
      have hzr : base ≤ wr.heap.size := by have := hB.size; omega
      have t0 : (0 : Int) ≤ (t : Int) := by omega
      have t1 : (t : Int) < (l.length : Int) := by omega
      clear hc hB
      by_cases hlt : t + 1 < l.length
      · have d1 : decide ((t : Int) + 1 < (l.length : Int)) = true := decide_eq_true (by omega)
        have d2 : (t : Int) + 1 < (l.length : Int) := by omega
        have e3 : ((t : Int) + 1).toNat = t + 1 := by omega
        obtain ⟨y, hy⟩ : ∃ y, l[t + 1]? = some y := ⟨_, List.getElem?_eq_getElem hlt⟩
        obtain ⟨p, hp⟩ : ∃ p, l[t]? = some p := ⟨_, List.getElem?_eq_getElem htl⟩
        have HY := Lib.hid hy
        have HP := Lib.hid hp
        obtain ⟨W5, hW5⟩ : ∃ q, q = wr := ⟨_, rfl⟩
        rw [← hW5] at HO HB hzr
        rw [← hW5]
        obtain ⟨g0, g1, g2⟩ := HO.out.extRow hy
        obtain ⟨l0, l1, l2⟩ := HO.out.extRow hp
        clear hW5 ho hy hp
        by_cases hyp : y.idx = p.idx
        · have CC : Hid (∀ x5 : Ext W5, Calls Tryz.prog 65 #[.agg #[.int .i64 y.idx, .int .i64 y.trm, .int .i64 y.knd], .agg #[.int .i64 p.idx, .int .i64 p.trm, .int .i64 p.knd]] x5.wd fun e w' => e = .returned (.bool true) ∧ Below x5.wd.heap.size x5.wd w') := fun x5 => by
            have h := wantsEq y p x5.wd
            rw [decide_eq_true hyp] at h; exact h
          have HYP := Lib.hid hyp
          clear hyp
          go_wp2_with fail
          refine wp_region_ext (by kernel_rfl) (by kernel_rfl) ?_
          repeat (go_big_quiet_step ((rename_i x5; (go_at_call 65; exact ext_of x5 (CC.out x5)))))
          refine wpQuiet_nil ?_
          intro _ hw'
          obtain ⟨x6, hw''⟩ := hw'
          subst hw''
          have HO6 := Lib.hid (HO.out.later x6.low)
          have HB6 := Lib.hid (HB.out.trans (x6.low.mono hzr))
          obtain ⟨W6, hW6⟩ : ∃ q, q = x6.wd := ⟨_, rfl⟩
          rw [← hW6] at HO6 HB6
          rw [← hW6]
          clear hW6 g0 g1 g2 l0 l1 l2
          have hk0 : ¬ c = t + 1 := by omega
          have hk1 : (t : Int) + 1 ≤ (c : Int) := by omega
          go_wp2_with fail
          have HL := Lib.hid (CmpL.begin_ HC.out HY.out HP.out HYP.out)
          clear hk0 hk1 hlt d1
          go_loopw [5, 7] (fun s s2 wr => ∃ (a q : Nat) (L : List Idt), s = .int .i64 (a : Int) ∧ s2 = .int .i64 ((q : Int) + 1) ∧ CmpL l L a (t + 1 + q) ∧ Own 3 idRow 42 base wr (.slice (some ⟨g, 0, none⟩) l.length c) L ∧ Below base w wr) (fun _ s2 _ => l.length - (kOf s2).toNat)
          case atStart => exact ⟨t + 1, 0, l, by go_num, by simp, HL.out, HO6.out, HB6.out⟩
          case round =>
            clear HL HO6 HB6 HO HB HYP HY HP HC hzr
            obtain ⟨a, q, L, rfl, rfl, hL, ho, hB⟩ := hrel
            have HL := Lib.hid hL
            have HO := Lib.hid ho
            have HB := Lib.hid hB
            have hzr : base ≤ wr.heap.size := by have := hB.size; omega
            have hle := hL.le
            have hll := hL.len
            have q0 : (0 : Int) ≤ (q : Int) := by omega
            have a0 : (0 : Int) ≤ (a : Int) := by omega
            have a1 : (a : Int) < (l.length : Int) := by omega
            have q1 : (q : Int) + (t : Int) + 1 < (l.length : Int) := by omega
            clear hL hB
            by_cases hq : t + 1 + q + 1 < l.length
            · have d3 : decide ((q : Int) + 1 < ((l.length - (t + 1) : Nat) : Int)) = true := decide_eq_true (by omega)
              have d4 : (q : Int) + 1 < ((l.length - (t + 1) : Nat) : Int) := by omega
              have d5 : q + 1 < l.length - (t + 1) := by omega
              have d5' : decide (q + 1 < l.length - (t + 1)) = true := decide_eq_true d5
              have e4 : ((q : Int) + 1).toNat = q + 1 := by omega
              obtain ⟨y, hy⟩ : ∃ y, l[t + 1 + q + 1]? = some y := ⟨_, List.getElem?_eq_getElem hq⟩
              obtain ⟨p, hp⟩ : ∃ p, l[t + 1 + q]? = some p := ⟨_, List.getElem?_eq_getElem (by omega)⟩
              obtain ⟨z, hz⟩ : ∃ z, L[a]? = some z := ⟨_, List.getElem?_eq_getElem (by omega)⟩
              have HY := Lib.hid hy
              have HP := Lib.hid hp
              have HZ := Lib.hid hz
              have hy' : L[t + 1 + q + 1]? = some y := (HL.out.at_ 1).trans hy
              have hp' : L[t + 1 + q]? = some p := (HL.out.at_ 0).trans hp
              obtain ⟨W5, hW5⟩ : ∃ q, q = wr := ⟨_, rfl⟩
              rw [← hW5] at HO HB hzr
              rw [← hW5]
              obtain ⟨g0, g1, g2⟩ := HO.out.extRow hy'
              obtain ⟨l0, l1, l2⟩ := HO.out.extRow hp'
              rw [show (t + 1 + q + 1) * 3 = (t + 1) * 3 + (q + 1) * 3 by omega] at g0 g1 g2
              rw [show (t + 1 + q) * 3 = (t + 1) * 3 + q * 3 by omega] at l0 l1 l2
              have HY' := Lib.hid hy'
              clear hW5 ho hy hp hz hy' hp'
              by_cases hyp : y.idx = p.idx
              · have CC : Hid (∀ x5 : Ext W5, Calls Tryz.prog 65 #[.agg #[.int .i64 y.idx, .int .i64 y.trm, .int .i64 y.knd], .agg #[.int .i64 p.idx, .int .i64 p.trm, .int .i64 p.knd]] x5.wd fun e w' => e = .returned (.bool true) ∧ Below x5.wd.heap.size x5.wd w') := fun x5 => by
                  have h := wantsEq y p x5.wd
                  rw [decide_eq_true hyp] at h; exact h
                have HYP := Lib.hid hyp
                clear hyp
                go_wp2_with fail
                refine wp_region_ext (by kernel_rfl) (by kernel_rfl) ?_
                repeat (go_big_quiet_step ((rename_i x5; (go_at_call 65; exact ext_of x5 (CC.out x5)))))
                refine wpQuiet_nil ?_
                intro _ hw'
                obtain ⟨x6, hw''⟩ := hw'
                subst hw''
                have HO6 := Lib.hid (HO.out.later x6.low)
                have HB6 := Lib.hid (HB.out.trans (x6.low.mono hzr))
                obtain ⟨W6, hW6⟩ : ∃ q, q = x6.wd := ⟨_, rfl⟩
                rw [← hW6] at HO6 HB6
                rw [← hW6]
                clear hW6 g0 g1 g2 l0 l1 l2
                go_wp2_with fail
                go_roundw
                case rel => exact ⟨a, q + 1, L, rfl, by go_num, HL.out.skip HY.out HP.out HYP.out, HO6.out, HB6.out⟩
                case measure => first | (simp [kOf]; done) | (simp [kOf]; omega)
              · have CC : Hid (∀ x5 : Ext W5, Calls Tryz.prog 65 #[.agg #[.int .i64 y.idx, .int .i64 y.trm, .int .i64 y.knd], .agg #[.int .i64 p.idx, .int .i64 p.trm, .int .i64 p.knd]] x5.wd fun e w' => e = .returned (.bool false) ∧ Below x5.wd.heap.size x5.wd w') := fun x5 => by
                  have h := wantsEq y p x5.wd
                  rw [decide_eq_false hyp] at h; exact h
                have HYP := Lib.hid hyp
                clear hyp
                go_wp2_with fail
                refine wp_region_ext (by kernel_rfl) (by kernel_rfl) ?_
                repeat (go_big_quiet_step ((rename_i x5; (go_at_call 65; exact ext_of x5 (CC.out x5)))))
                refine wpQuiet_nil ?_
                intro _ hw'
                obtain ⟨x6, hw''⟩ := hw'
                subst hw''
                have HO6 := Lib.hid (HO.out.later x6.low)
                have HB6 := Lib.hid (HB.out.trans (x6.low.mono hzr))
                obtain ⟨W6, hW6⟩ : ∃ q, q = x6.wd := ⟨_, rfl⟩
                rw [← hW6] at HO6 HB6
                rw [← hW6]
                clear hW6 g0 g1 g2 l0 l1 l2
                obtain ⟨f0, z0⟩ := HO6.out.free3
                obtain ⟨c0, c1, c2⟩ := HO6.out.row3 HY'.out
                rw [show (t + 1 + q + 1) * 3 = (t + 1) * 3 + (q + 1) * 3 by omega] at c0 c1 c2
                obtain ⟨b0, b1, b2⟩ := HO6.out.row3 HZ.out
                have HS := Lib.hid (HO6.out.set3i (y := y) HZ.out)
                go_wp2_with fail
                go_roundw
                case rel => exact ⟨a + 1, q + 1, L.set a y, by go_num, by go_num, HL.out.take_ HY.out HP.out HYP.out, HS.out.1, HB6.out.trans HS.out.2⟩
                case measure => first | (simp [kOf]; done) | (simp [kOf]; omega)
            · have d3 : decide ((q : Int) + 1 < ((l.length - (t + 1) : Nat) : Int)) = false := decide_eq_false (by omega)
              have d4 : ¬ (q : Int) + 1 < ((l.length - (t + 1) : Nat) : Int) := by omega
              have d5 : ¬ q + 1 < l.length - (t + 1) := by omega
              have d5' : decide (q + 1 < l.length - (t + 1)) = false := decide_eq_false d5
              have hca : ¬ c = a := by omega
              have hca2 : (a : Int) ≤ (c : Int) := by omega
              obtain ⟨w9, hcl9, ho9, hb9⟩ := own_clear (P := Tryz.prog) (ty := 0) (t := 22) (z := .agg #[.int .i64 0, .int .i64 0, .int .i64 0]) (i := a) idRow_length Tryz.underlying22 idtZero rfl (by simp [Value.cells, Value.oneCell']) HO.out (by omega)
              have HF := Lib.hid (show L.take a = cmpI l by have h := HL.out.head; rwa [List.take_of_length_le (show l.length ≤ t + 1 + q + 1 by omega)] at h)
              have HO9 := Lib.hid ho9
              have HB9 := Lib.hid (HB.out.trans hb9)
              clear ho9 hb9 hq
              go_wp2_with fail
              go_ret
              exact ⟨_, rfl, by rw [← HF.out]; exact HO9.out, HB9.out⟩
        · have CC : Hid (∀ x5 : Ext W5, Calls Tryz.prog 65 #[.agg #[.int .i64 y.idx, .int .i64 y.trm, .int .i64 y.knd], .agg #[.int .i64 p.idx, .int .i64 p.trm, .int .i64 p.knd]] x5.wd fun e w' => e = .returned (.bool false) ∧ Below x5.wd.heap.size x5.wd w') := fun x5 => by
            have h := wantsEq y p x5.wd
            rw [decide_eq_false hyp] at h; exact h
          have HYP := Lib.hid hyp
          clear hyp
          go_wp2_with fail
          refine wp_region_ext (by kernel_rfl) (by kernel_rfl) ?_
          repeat (go_big_quiet_step ((rename_i x5; (go_at_call 65; exact ext_of x5 (CC.out x5)))))
          refine wpQuiet_nil ?_
          intro _ hw'
          obtain ⟨x6, hw''⟩ := hw'
          subst hw''
          have HO6 := Lib.hid (HO.out.later x6.low)
          have HB6 := Lib.hid (HB.out.trans (x6.low.mono hzr))
          obtain ⟨W6, hW6⟩ : ∃ q, q = x6.wd := ⟨_, rfl⟩
          rw [← hW6] at HO6 HB6
          rw [← hW6]
          clear hW6 g0 g1 g2 l0 l1 l2
          go_wp2_with fail
          go_roundw
          case rel => exact ⟨t + 1, by go_num, by omega, cmp_go HC.out HY.out HP.out HYP.out, HO6.out, HB6.out⟩
          case measure => first | (simp [kOf]; done) | (simp [kOf]; omega)
      · have d1 : decide ((t : Int) + 1 < (l.length : Int)) = false := decide_eq_false (by omega)
        have d2 : ¬ (t : Int) + 1 < (l.length : Int) := by omega
        have HF := Lib.hid (show cmpI l = l by have h := HC.out; rwa [List.take_of_length_le (show l.length ≤ t + 1 by omega)] at h)
        go_wp2_with fail
        go_ret
        exact ⟨_, rfl, by rw [HF.out]; exact HO.out, HB.out⟩
end Go.Proofs.YtglkgmijhdkhpaaGreatDoor
/-
  A SLICE CUT IN TWO, as lists: l[:j], l[j:]. It names no program.
-/
set_option linter.unusedVariables false
namespace Go.Proofs.YtglkgmijhdkhpaaGreatDoor
open Go.RowKit

section
variable {α : Type} {k : Nat} {row : α → List Value} {B : Nat} {w : World} {l : List α}
theorem Sl.take_ {A : Option Addr} {n c j : Nat} (h : Sl k row B w (.slice A n c) l) (hj : j ≤ l.length) : Sl k row B w (.slice A j c) (l.take j) := by
  obtain ⟨A', c', hv, h1, h2, h0, h3⟩ := h
  simp only [Value.slice.injEq] at hv
  obtain ⟨rfl, rfl, rfl⟩ := hv
  have e : (l.take j).length = j := by rw [List.length_take]; omega
  refine ⟨A, c, by rw [e], by omega, h2, h0, fun hne => ?_⟩
  obtain ⟨b, off, hA, hb, hc⟩ := h3 (by intro hl; subst hl; simp at hne)
  refine ⟨b, off, hA, hb, fun i x hx j' u hu => hc i x ?_ j' u hu⟩
  have hi := (List.getElem?_eq_some_iff.1 hx).1
  rw [List.getElem?_take] at hx
  split at hx
  · exact hx
  · cases hx
theorem Sl.drop_ {b off n c j : Nat} (h : Sl k row B w (.slice (some ⟨b, off, none⟩) n c) l) (hj : j ≤ l.length) : Sl k row B w (.slice (some ⟨b, off + j * k, none⟩) (l.length - j) (c - j)) (l.drop j) := by
  obtain ⟨A', c', hv, h1, h2, h0, h3⟩ := h
  simp only [Value.slice.injEq] at hv
  obtain ⟨rfl, rfl, rfl⟩ := hv
  have e : (l.drop j).length = l.length - j := by rw [List.length_drop]
  refine ⟨_, c - j, by rw [e], by omega, by omega, fun h => by simp at h, fun hne => ?_⟩
  obtain ⟨b', off', hA, hb, hc⟩ := h3 (by intro hl; subst hl; simp at hne)
  simp only [Option.some.injEq, Addr.mk.injEq, and_true] at hA
  obtain ⟨rfl, rfl⟩ := hA
  refine ⟨b, off + j * k, rfl, hb, fun i x hx j' u hu => ?_⟩
  rw [List.getElem?_drop] at hx
  have := hc (j + i) x hx j' u hu
  rw [Nat.add_mul] at this
  rw [show off + j * k + i * k + j' = off + (j * k + i * k) + j' by omega]; exact this
/-- l[j:], as a walk tells it. -/
theorem Sl.drop2 {ad : Addr} {n c j : Nat} (h : Sl k row B w (.slice (some ad) n c) l) (hj : j ≤ l.length) : Sl k row B w (.slice (if c = j then some ad else some (ad.add (j * k))) (l.length - j) (c - j)) (l.drop j) := by
  obtain ⟨A', c', hv, h1, h2, h0, h3⟩ := h
  simp only [Value.slice.injEq] at hv
  obtain ⟨rfl, rfl, rfl⟩ := hv
  have e : (l.drop j).length = l.length - j := by rw [List.length_drop]
  refine ⟨_, c - j, by rw [e], by omega, by omega, fun h => by split at h <;> simp at h, fun hne => ?_⟩
  have hlt : j < l.length := by
    have : 0 < (l.drop j).length := List.length_pos_iff.2 hne
    omega
  obtain ⟨b', off', hA, hb, hc⟩ := h3 (by intro hl; subst hl; simp at hlt)
  simp only [Option.some.injEq] at hA
  subst hA
  refine ⟨b', off' + j * k, by rw [if_neg (by omega), Addr.add_lit], hb, fun i x hx j' u hu => ?_⟩
  rw [List.getElem?_drop] at hx
  have := hc (j + i) x hx j' u hu
  rw [Nat.add_mul] at this
  rw [show off' + j * k + i * k + j' = off' + (j * k + i * k) + j' by omega]; exact this
end
end Go.Proofs.YtglkgmijhdkhpaaGreatDoor
