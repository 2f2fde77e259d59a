/-
  heal.fits: contract.
-/
import Derived.Test.YtglkgmijhdkhpaaDoorHa8
import Derived.Test.YtglkgmijhdkhpaaDoorHa12
import Derived.Test.YtglkgmijhdkhpaaDoorHa9
import Derived.Deep.DeepCutAuto
import Derived.Deep.RegionHeld3
set_option linter.unusedVariables false
set_option linter.unusedSimpArgs false
namespace Go.Proofs.YtglkgmijhdkhpaaDoor
open Go.RowKit

def H64 (x : Int) : Prop := -9223372036854775808 ≤ x ∧ x ≤ 9223372036854775807
def refuV (n k : Int) : Value := .iface 57 (.agg #[.int .i64 n, .iface 63 (.int .i64 k)])
/-- What fits tells. -/
def fitV (p : Idt) (r : Rec) : Value := if goodR r = true then (if eqI (ofE r.e) p = true then .nilIface else refuV r.e.idx 2) else refuV r.e.idx 1
theorem fit_bad {r : Rec} {p : Idt} (h : goodR r = false) : fitV p r = refuV r.e.idx 1 := by unfold fitV; rw [h]; rfl
theorem fitV_cases (p : Idt) (r : Rec) : (fitR p r = true ∧ fitV p r = .nilIface) ∨ (fitR p r = false ∧ ∃ n : Int, fitV p r = refuV n 1) ∨ (fitR p r = false ∧ ∃ n : Int, fitV p r = refuV n 2) := by
  unfold fitR fitV
  cases goodR r with
  | false => exact .inr (.inl ⟨rfl, _, rfl⟩)
  | true =>
    cases eqI (ofE r.e) p with
    | false => exact .inr (.inr ⟨rfl, _, rfl⟩)
    | true => exact .inl ⟨rfl, rfl⟩
theorem good_first {r : Rec} (h : (decide (r.e.idx = 1) && !eqI r.a zI0) = true) : goodR r = false := by
  rw [Bool.and_eq_true, decide_eq_true_eq, Bool.not_eq_true'] at h
  unfold goodR
  rw [h.2, decide_eq_false (show ¬ 1 < r.e.idx by omega)]
  simp
theorem good_not {r : Rec} (h : goodE r.e = false) : goodR r = false := by unfold goodR; rw [h]; rfl
theorem good_idx {r : Rec} (h : r.a.idx ≠ r.e.idx - 1) : goodR r = false := by unfold goodR; rw [decide_eq_false h]; simp
theorem good_trm {r : Rec} (h : r.e.trm < r.a.trm) : goodR r = false := by unfold goodR; rw [decide_eq_false (show ¬ r.a.trm ≤ r.e.trm by omega)]; simp
theorem goodE_one {x : Ent} (h : goodE x = true) : 1 ≤ x.idx := by
  unfold goodE at h
  rw [Bool.and_eq_true] at h
  have h1 := h.1
  simp [rangeE] at h1
  omega
theorem good_all {r : Rec} (h1 : (decide (r.e.idx = 1) && !eqI r.a zI0) = false) (h2 : goodE r.e = true) (h3 : r.a.idx = r.e.idx - 1) (h4 : r.a.trm ≤ r.e.trm) : goodR r = true := by
  have h5 := goodE_one h2
  unfold goodR
  rw [h2, decide_eq_true h3, decide_eq_true h4]
  by_cases h : r.e.idx = 1
  · rw [decide_eq_true h] at h1
    simp at h1
    rw [h1]; simp
  · rw [decide_eq_true (show 1 < r.e.idx by omega)]; rfl
theorem eq3 (a b : Idt) : eqI a b = ((a.idx == b.idx) && (a.trm == b.trm) && (a.knd == b.knd)) := rfl

set_option maxRecDepth 100000 in
set_option maxHeartbeats 4000000 in
theorem healFits (r : Rec) (p : Idt) (w : World) (hin : EntIn w.heap.size w r.e) (hI : H64 r.e.idx) : Calls Tryd.prog 24 #[.agg #[.int .i64 r.e.idx, .int .i64 r.e.trm, .int .i64 r.e.knd, .slice r.e.ba r.e.bd.length r.e.bc, .int .i64 r.a.idx, .int .i64 r.a.trm, .int .i64 r.a.knd], .agg #[.int .i64 p.idx, .int .i64 p.trm, .int .i64 p.knd]] w fun e w' => e = .returned (fitV p r) ∧ Below w.heap.size w w' := by
  have HB0 := Lib.hid (below_call (below_new w (.cells #[.int .i64 r.e.idx, .int .i64 r.e.trm, .int .i64 r.e.knd, .slice r.e.ba r.e.bd.length r.e.bc, .int .i64 r.a.idx, .int .i64 r.a.trm, .int .i64 r.a.knd] 59)) (below_new _ (.cells #[.int .i64 p.idx, .int .i64 p.trm, .int .i64 p.knd] 31)))
  have HX := Lib.hid ((Box.new w #[.int .i64 r.e.idx, .int .i64 r.e.trm, .int .i64 r.e.knd, .slice r.e.ba r.e.bd.length r.e.bc, .int .i64 r.a.idx, .int .i64 r.a.trm, .int .i64 r.a.knd] 59).alloc (.cells #[.int .i64 p.idx, .int .i64 p.trm, .int .i64 p.knd] 31))
  have HP := Lib.hid (show Box ((w.alloc (.cells #[.int .i64 r.e.idx, .int .i64 r.e.trm, .int .i64 r.e.knd, .slice r.e.ba r.e.bd.length r.e.bc, .int .i64 r.a.idx, .int .i64 r.a.trm, .int .i64 r.a.knd] 59)).alloc (.cells #[.int .i64 p.idx, .int .i64 p.trm, .int .i64 p.knd] 31)) (w.heap.size + 1) #[.int .i64 p.idx, .int .i64 p.trm, .int .i64 p.knd] 31 by
    have h := Box.new (w.alloc (.cells #[.int .i64 r.e.idx, .int .i64 r.e.trm, .int .i64 r.e.knd, .slice r.e.ba r.e.bd.length r.e.bc, .int .i64 r.a.idx, .int .i64 r.a.trm, .int .i64 r.a.knd] 59)) #[.int .i64 p.idx, .int .i64 p.trm, .int .i64 p.knd] 31
    rw [World.size_alloc] at h; exact h)
  have CG : Hid (∀ W, Below w.heap.size w W → Calls Tryd.prog 11 #[.agg #[.int .i64 r.e.idx, .int .i64 r.e.trm, .int .i64 r.e.knd, .slice r.e.ba r.e.bd.length r.e.bc]] W fun e w' => e = .returned (.bool (goodE r.e)) ∧ Below W.heap.size W w') := fun W hv => entGood r.e W (hin.later hv)
  have k1 : wrap64 (r.e.idx - 1) = r.e.idx - 1 ∨ goodE r.e = false := by
    cases hg : goodE r.e with
    | false => exact .inr rfl
    | true => have := goodE_one hg; unfold H64 at hI; left; unfold wrap64; omega
  obtain ⟨W, hW⟩ : ∃ z, z = (w.alloc (.cells #[.int .i64 r.e.idx, .int .i64 r.e.trm, .int .i64 r.e.knd, .slice r.e.ba r.e.bd.length r.e.bc, .int .i64 r.a.idx, .int .i64 r.a.trm, .int .i64 r.a.knd] 59)).alloc (.cells #[.int .i64 p.idx, .int .i64 p.trm, .int .i64 p.knd] 31) := ⟨_, rfl⟩
  have HE := Lib.hid hW
  rw [← hW] at HB0 HX HP
  obtain ⟨kx, fx, zx⟩ := HX.out.facts
  obtain ⟨kp, fp, zp⟩ := HP.out.facts
  clear hin hW
  go_enter Tryd.func24, Tryd.ntmps24
  go_upto_region 1 with fail
  rw [← HE.out]
  go_cut [5] (fun v wx => v = .bool (decide (r.e.idx = 1) && !eqI r.a zI0) ∧ W = wx)
  case first =>
    by_cases h1 : r.e.idx = 1
    · have e1 : (r.e.idx == 1) = true := by simpa using h1
      have HD := Lib.hid (decide_eq_true h1)
      clear h1 k1
      by_cases a1 : r.a.idx = 0
      · have b1 : (r.a.idx == 0) = true := by simpa using a1
        clear a1
        by_cases a2 : r.a.trm = 0
        · have b2 : (r.a.trm == 0) = true := by simpa using a2
          clear a2
          by_cases a3 : r.a.knd = 0
          · have b3 : (r.a.knd == 0) = true := by simpa using a3
            have HZ := Lib.hid (show (decide (r.e.idx = 1) && !eqI r.a zI0) = !((r.a.idx == 0) && (r.a.trm == 0) && (r.a.knd == 0)) by rw [HD.out]; rfl)
            clear a3
            go_wp2_with fail
            go_meet
            exact ⟨congrArg Value.bool (by rw [HZ.out]; simp [*]), rfl⟩
          · have b3 : (r.a.knd == 0) = false := by simpa using a3
            have HZ := Lib.hid (show (decide (r.e.idx = 1) && !eqI r.a zI0) = !((r.a.idx == 0) && (r.a.trm == 0) && (r.a.knd == 0)) by rw [HD.out]; rfl)
            clear a3
            go_wp2_with fail
            go_meet
            exact ⟨congrArg Value.bool (by rw [HZ.out]; simp [*]), rfl⟩
        · have b2 : (r.a.trm == 0) = false := by simpa using a2
          have HZ := Lib.hid (show (decide (r.e.idx = 1) && !eqI r.a zI0) = !((r.a.idx == 0) && (r.a.trm == 0) && (r.a.knd == 0)) by rw [HD.out]; rfl)
          clear a2
          go_wp2_with fail
          go_meet
          exact ⟨congrArg Value.bool (by rw [HZ.out]; simp [*]), rfl⟩
      · have b1 : (r.a.idx == 0) = false := by simpa using a1
        have HZ := Lib.hid (show (decide (r.e.idx = 1) && !eqI r.a zI0) = !((r.a.idx == 0) && (r.a.trm == 0) && (r.a.knd == 0)) by rw [HD.out]; rfl)
        clear a1
        go_wp2_with fail
        go_meet
        exact ⟨congrArg Value.bool (by rw [HZ.out]; simp [*]), rfl⟩
    · have e1 : (r.e.idx == 1) = false := by simpa using h1
      have HD := Lib.hid (decide_eq_false h1)
      clear h1 k1
      go_wp2_with fail
      go_meet
      exact ⟨by rw [HD.out]; rfl, rfl⟩
  case rest =>
    obtain ⟨rfl, rfl⟩ := hcut
    obtain ⟨c1, hc1⟩ : ∃ c1, (decide (r.e.idx = 1) && !eqI r.a zI0) = c1 := ⟨_, rfl⟩
    rw [hc1]
    by_cases hb : c1 = true
    · subst hb
      have HF := Lib.hid (fit_bad (p := p) (good_first hc1))
      clear hc1 k1
      go_wp2_with fail
      go_ret
      exact ⟨by rw [HF.out]; rfl, HB0.out⟩
    · obtain rfl : c1 = false := by simpa using hb
      have HC1 := Lib.hid hc1
      clear hb hc1
      obtain ⟨c2, hc2⟩ : ∃ c2, goodE r.e = c2 := ⟨_, rfl⟩
      rw [hc2] at CG k1
      by_cases hb : c2 = true
      · subst hb
        have k1 : wrap64 (r.e.idx - 1) = r.e.idx - 1 := by rcases k1 with h | h; (exact h); (cases h)
        have HC2 := Lib.hid hc2
        clear hc2
        by_cases a3 : r.a.idx = r.e.idx - 1
        · have b3 : (r.a.idx == r.e.idx - 1) = true := by simpa using a3
          have HA3 := Lib.hid a3
          clear a3
          by_cases a4 : r.e.trm < r.a.trm
          · have b4 : decide (r.e.trm < r.a.trm) = true := decide_eq_true a4
            have HF := Lib.hid (fit_bad (p := p) (good_trm a4))
            clear a4
            go_wp2_with (go_at_call 11; (with_reducible refine (CG.out _ HB0.out).mono ?_); rintro e w7 ⟨rfl, hb⟩; have H7 := Lib.hid (below_call HB0.out hb); have HX7 := Lib.hid (HX.out.later hb); have HP7 := Lib.hid (HP.out.later hb); clear kx fx zx kp fp zp; obtain ⟨kx, fx, zx⟩ := HX7.out.facts; obtain ⟨kp, fp, zp⟩ := HP7.out.facts; clear hb)
            go_ret
            exact ⟨by rw [HF.out]; rfl, H7.out⟩
          · have b4 : decide (r.e.trm < r.a.trm) = false := decide_eq_false a4
            have HG := Lib.hid (good_all HC1.out HC2.out HA3.out (by omega))
            clear a4
            go_upto_region 5 with (go_at_call 11; (with_reducible refine (CG.out _ HB0.out).mono ?_); rintro e w7 ⟨rfl, hb⟩; have H7 := Lib.hid (below_call HB0.out hb); have HX7 := Lib.hid (HX.out.later hb); have HP7 := Lib.hid (HP.out.later hb); clear kx fx zx kp fp zp; obtain ⟨kx, fx, zx⟩ := HX7.out.facts; obtain ⟨kp, fp, zp⟩ := HP7.out.facts; clear hb)
            clear kx fx zx kp fp zp b3 b4 k1
            obtain ⟨V, hV⟩ : ∃ z, z = w7 := ⟨_, rfl⟩
            rw [← hV] at H7 HX7 HP7
            rw [← hV]
            clear hV
            have g0 : ∀ x : Ext V, x.wd.cell? ⟨w.heap.size, 0, none⟩ = some (.int .i64 r.e.idx) := HX7.out.ext 0
            have g1 : ∀ x : Ext V, x.wd.cell? ⟨w.heap.size, 1, none⟩ = some (.int .i64 r.e.trm) := HX7.out.ext 1
            have g2 : ∀ x : Ext V, x.wd.cell? ⟨w.heap.size, 2, none⟩ = some (.int .i64 r.e.knd) := HX7.out.ext 2
            have g3 : ∀ x : Ext V, x.wd.cell? ⟨w.heap.size, 3, none⟩ = some (.slice r.e.ba r.e.bd.length r.e.bc) := HX7.out.ext 3
            have p0 : ∀ x : Ext V, x.wd.cell? ⟨w.heap.size + 1, 0, none⟩ = some (.int .i64 p.idx) := HP7.out.ext 0
            have p1 : ∀ x : Ext V, x.wd.cell? ⟨w.heap.size + 1, 1, none⟩ = some (.int .i64 p.trm) := HP7.out.ext 1
            have p2 : ∀ x : Ext V, x.wd.cell? ⟨w.heap.size + 1, 2, none⟩ = some (.int .i64 p.knd) := HP7.out.ext 2
            have HQ : Hid (∀ c, ((r.e.idx == p.idx) && (r.e.trm == p.trm) && (r.e.knd == p.knd)) = c → fitV p r = if c = true then .nilIface else refuV r.e.idx 2) := fun c hc => by unfold fitV; rw [if_pos HG.out, eq3]; exact congrArg (fun b : Bool => if b = true then Value.nilIface else refuV r.e.idx 2) hc
            by_cases a1 : r.e.idx = p.idx
            · have b1 : (r.e.idx == p.idx) = true := by simpa using a1
              clear a1
              by_cases a2 : r.e.trm = p.trm
              · have b2 : (r.e.trm == p.trm) = true := by simpa using a2
                clear a2
                by_cases a3 : r.e.knd = p.knd
                · have b3 : (r.e.knd == p.knd) = true := by simpa using a3
                  have HF := Lib.hid (HQ.out true (by rw [b1, b2, b3]; rfl))
                  clear a3
                  refine wp_region_ext (by kernel_rfl) (by kernel_rfl) ?_
                  repeat (go_big_quiet_step ((rename_i x5; (go_at_call 10; exact ext_of x5 (entOf r.e x5.wd)))))
                  refine wpQuiet_nil ?_
                  intro _ hw'
                  obtain ⟨x6, hw''⟩ := hw'
                  subst hw''
                  go_wp2_with fail
                  go_ret
                  exact ⟨by rw [HF.out]; rfl, below_call H7.out x6.low⟩
                · have b3 : (r.e.knd == p.knd) = false := by simpa using a3
                  have HF := Lib.hid (HQ.out false (by rw [b1, b2, b3]; rfl))
                  clear a3
                  refine wp_region_ext (by kernel_rfl) (by kernel_rfl) ?_
                  repeat (go_big_quiet_step ((rename_i x5; (go_at_call 10; exact ext_of x5 (entOf r.e x5.wd)))))
                  refine wpQuiet_nil ?_
                  intro _ hw'
                  obtain ⟨x6, hw''⟩ := hw'
                  subst hw''
                  have q0 := g0 x6
                  go_wp2_with fail
                  go_ret
                  exact ⟨by rw [HF.out]; rfl, below_call H7.out x6.low⟩
              · have b2 : (r.e.trm == p.trm) = false := by simpa using a2
                have HF := Lib.hid (HQ.out false (by rw [b1, b2]; rfl))
                clear a2
                refine wp_region_ext (by kernel_rfl) (by kernel_rfl) ?_
                repeat (go_big_quiet_step ((rename_i x5; (go_at_call 10; exact ext_of x5 (entOf r.e x5.wd)))))
                refine wpQuiet_nil ?_
                intro _ hw'
                obtain ⟨x6, hw''⟩ := hw'
                subst hw''
                have q0 := g0 x6
                go_wp2_with fail
                go_ret
                exact ⟨by rw [HF.out]; rfl, below_call H7.out x6.low⟩
            · have b1 : (r.e.idx == p.idx) = false := by simpa using a1
              have HF := Lib.hid (HQ.out false (by rw [b1]; rfl))
              clear a1
              refine wp_region_ext (by kernel_rfl) (by kernel_rfl) ?_
              repeat (go_big_quiet_step ((rename_i x5; (go_at_call 10; exact ext_of x5 (entOf r.e x5.wd)))))
              refine wpQuiet_nil ?_
              intro _ hw'
              obtain ⟨x6, hw''⟩ := hw'
              subst hw''
              have q0 := g0 x6
              go_wp2_with fail
              go_ret
              exact ⟨by rw [HF.out]; rfl, below_call H7.out x6.low⟩
        · have b3 : (r.a.idx == r.e.idx - 1) = false := by simpa using a3
          have HF := Lib.hid (fit_bad (p := p) (good_idx a3))
          clear a3
          go_wp2_with (go_at_call 11; (with_reducible refine (CG.out _ HB0.out).mono ?_); rintro e w7 ⟨rfl, hb⟩; have H7 := Lib.hid (below_call HB0.out hb); have HX7 := Lib.hid (HX.out.later hb); have HP7 := Lib.hid (HP.out.later hb); clear kx fx zx kp fp zp; obtain ⟨kx, fx, zx⟩ := HX7.out.facts; obtain ⟨kp, fp, zp⟩ := HP7.out.facts; clear hb)
          go_ret
          exact ⟨by rw [HF.out]; rfl, H7.out⟩
      · obtain rfl : c2 = false := by simpa using hb
        have HF := Lib.hid (fit_bad (p := p) (good_not hc2))
        clear hc2 hb k1
        go_wp2_with (go_at_call 11; (with_reducible refine (CG.out _ HB0.out).mono ?_); rintro e w7 ⟨rfl, hb⟩; have H7 := Lib.hid (below_call HB0.out hb); have HX7 := Lib.hid (HX.out.later hb); have HP7 := Lib.hid (HP.out.later hb); clear kx fx zx kp fp zp; obtain ⟨kx, fx, zx⟩ := HX7.out.facts; obtain ⟨kp, fp, zp⟩ := HP7.out.facts; clear hb)
        go_ret
        exact ⟨by rw [HF.out]; rfl, H7.out⟩
end Go.Proofs.YtglkgmijhdkhpaaDoor
