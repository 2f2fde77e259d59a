/-
  THE PACKAGE entry, 4: what an entry is known by, whether it is good, whether it follows: contracts.
-/
import Derived.Test.YtglkgmijhdkhpaaDoorHa11
set_option linter.unusedVariables false
set_option linter.unusedSimpArgs false
namespace Go.Proofs.YtglkgmijhdkhpaaDoor
open Go.RowKit

/-- What is known of an entry's bytes, in a world. -/
def EntIn (B : Nat) (w : World) (x : Ent) : Prop := Sl 1 u8Row B w (.slice x.ba x.bd.length x.bc) x.bd ∧ ∀ y ∈ x.bd, 0 ≤ y ∧ y ≤ 255
theorem EntIn.below {B : Nat} {w w' : World} {x : Ent} (h : EntIn B w x) (hb : Below B w w') : EntIn B w' x := ⟨h.1.below hb, h.2⟩
theorem EntIn.later {w w' : World} {x : Ent} (h : EntIn w.heap.size w x) (hb : Below w.heap.size w w') : EntIn w'.heap.size w' x := ⟨h.1.later hb, h.2⟩
theorem EntIn.more {B B' : Nat} {w : World} {x : Ent} (h : EntIn B w x) (hB : B ≤ B') : EntIn B' w x := ⟨h.1.more hB, h.2⟩
theorem EntIn.keep {B : Nat} {w w' : World} {x : Ent} (h : EntIn B w x) (hk : ∀ b o, b < B → w'.cell? ⟨b, o, none⟩ = w.cell? ⟨b, o, none⟩) : EntIn B w' x := ⟨h.1.keep hk, h.2⟩

set_option maxHeartbeats 400000 in
theorem entOf (x : Ent) (w : World) :
    Calls Tryd.prog 10 #[.agg #[.int .i64 x.idx, .int .i64 x.trm, .int .i64 x.knd, .slice x.ba x.bd.length x.bc]] w fun e w' => e = .returned (.agg #[.int .i64 x.idx, .int .i64 x.trm, .int .i64 x.knd]) ∧ Below w.heap.size w w' := by
  go_enter Tryd.func10, Tryd.ntmps10
  go_wp2_with fail
  refine bodyPost_ret (v := .agg #[.int .i64 x.idx, .int .i64 x.trm, .int .i64 x.knd]) (by simp [results, Tryd.results10, go_sem]) rfl ⟨rfl, ?_⟩
  first | exact below_call (below_new _ _) (below_new _ _) | exact below_new _ _ | (repeat (first | exact Below.refl _ _ | refine Below.alloc ?_ (by simp) _ | refine below_set ?_ (by simp)))

theorem good_false {x : Ent} (h : rangeE x = false) : goodE x = false := by unfold goodE; rw [h]; rfl
theorem good_none {x : Ent} (h : rangeE x = true) (hk : x.knd = 1) : goodE x = decide (x.bd.length = 0) := by unfold goodE; rw [h, if_pos hk]; rfl
theorem good_com {x : Ent} (h : rangeE x = true) (hk : x.knd = 2) : goodE x = true := by unfold goodE; rw [h, if_neg (by omega), if_pos hk]; rfl
theorem good_grp {x : Ent} (h : rangeE x = true) (h1 : x.knd ≠ 1) (h2 : x.knd ≠ 2) : goodE x = memOk x.bd := by unfold goodE; rw [h, if_neg h1, if_neg h2]; rfl

set_option maxHeartbeats 2000000 in
theorem entGood (x : Ent) (w : World) (hx : EntIn w.heap.size w x) :
    Calls Tryd.prog 11 #[.agg #[.int .i64 x.idx, .int .i64 x.trm, .int .i64 x.knd, .slice x.ba x.bd.length x.bc]] w fun e w' => e = .returned (.bool (goodE x)) ∧ Below w.heap.size w w' := by
  have HX := Lib.hid hx
  clear hx
  cases hr : rangeE x with
  | false =>
    have HR := Lib.hid hr
    clear hr
    go_enter Tryd.func11, Tryd.ntmps11
    go_wp2_with (go_at_call 29; refine (codeRight x _).mono ?_; rintro e w1 ⟨rfl, hb⟩; rw [HR.out])
    go_ret
    exact ⟨ret_bool (good_false HR.out).symm, below_call (below_new _ _) (by assumption)⟩
  | true =>
    have HR := Lib.hid hr
    clear hr
    have H1 := Lib.hid (fun k => good_none (x := x) HR.out k)
    have H2 := Lib.hid (fun k => good_com (x := x) HR.out k)
    have H3 := Lib.hid (fun k1 k2 => good_grp (x := x) HR.out k1 k2)
    by_cases g1 : x.knd = 1
    · have e1 : (x.knd == 1) = true := by simpa using g1
      have HG := Lib.hid (H1.out g1)
      by_cases g0 : x.bd.length = 0
      · have d0 : decide (0 < x.bd.length) = false := by simp [g0]
        have d0' : x.bd.length ≤ 0 := by omega
        have HG0 := Lib.hid (show goodE x = true by rw [HG.out, g0]; rfl)
        clear g0 g1
        go_enter Tryd.func11, Tryd.ntmps11
        go_wp2_with (go_at_call 29; refine (codeRight x _).mono ?_; rintro e w1 ⟨rfl, hb⟩; rw [HR.out]; obtain ⟨kb, -, zb⟩ := ((Box.new w #[.int .i64 x.idx, .int .i64 x.trm, .int .i64 x.knd, .slice x.ba x.bd.length x.bc] 35).later hb).facts)
        go_ret
        exact ⟨ret_bool HG0.out.symm, below_call (below_new _ _) (by assumption)⟩
      · have d0 : decide (0 < x.bd.length) = true := by simpa using Nat.pos_of_ne_zero g0
        have d0' : 0 < x.bd.length := by omega
        have HG0 := Lib.hid (show goodE x = false by rw [HG.out]; exact decide_eq_false g0)
        clear g0 g1
        go_enter Tryd.func11, Tryd.ntmps11
        go_wp2_with (go_at_call 29; refine (codeRight x _).mono ?_; rintro e w1 ⟨rfl, hb⟩; rw [HR.out]; obtain ⟨kb, -, zb⟩ := ((Box.new w #[.int .i64 x.idx, .int .i64 x.trm, .int .i64 x.knd, .slice x.ba x.bd.length x.bc] 35).later hb).facts)
        go_ret
        exact ⟨ret_bool HG0.out.symm, below_call (below_new _ _) (by assumption)⟩
    · have e1 : (x.knd == 1) = false := by simpa using g1
      by_cases g2 : x.knd = 2
      · have e2 : (x.knd == 2) = true := by simpa using g2
        have HG0 := Lib.hid (H2.out g2)
        clear g1 g2
        go_enter Tryd.func11, Tryd.ntmps11
        go_wp2_with (go_at_call 29; refine (codeRight x _).mono ?_; rintro e w1 ⟨rfl, hb⟩; rw [HR.out]; obtain ⟨kb, -, zb⟩ := ((Box.new w #[.int .i64 x.idx, .int .i64 x.trm, .int .i64 x.knd, .slice x.ba x.bd.length x.bc] 35).later hb).facts)
        go_ret
        exact ⟨ret_bool HG0.out.symm, below_call (below_new _ _) (by assumption)⟩
      · have e2 : (x.knd == 2) = false := by simpa using g2
        have HG0 := Lib.hid (H3.out g1 g2)
        clear g1 g2
        cases hm : memOk x.bd with
        | true =>
          have HM := Lib.hid hm
          clear hm
          go_enter Tryd.func11, Tryd.ntmps11
          go_wp2_with (first
            | (go_at_call 29; refine (codeRight x _).mono ?_; rintro e w1 ⟨rfl, hb⟩; rw [HR.out]; obtain ⟨kb, -, zb⟩ := ((Box.new w #[.int .i64 x.idx, .int .i64 x.trm, .int .i64 x.knd, .slice x.ba x.bd.length x.bc] 35).later hb).facts)
            | (go_at_call 30; refine (entMembers x.bd HX.out.2 _ _ (HX.out.later (below_call (below_new _ _) hb)).1).mono ?_; rintro e w2 ⟨v2, rfl, -, hb2⟩; rw [HM.out]))
          go_ret
          exact ⟨ret_bool (by rw [HG0.out, HM.out]), below_call (below_call (below_new _ _) hb) hb2⟩
        | false =>
          have HM := Lib.hid hm
          clear hm
          go_enter Tryd.func11, Tryd.ntmps11
          go_wp2_with (first
            | (go_at_call 29; refine (codeRight x _).mono ?_; rintro e w1 ⟨rfl, hb⟩; rw [HR.out]; obtain ⟨kb, -, zb⟩ := ((Box.new w #[.int .i64 x.idx, .int .i64 x.trm, .int .i64 x.knd, .slice x.ba x.bd.length x.bc] 35).later hb).facts)
            | (go_at_call 30; refine (entMembers x.bd HX.out.2 _ _ (HX.out.later (below_call (below_new _ _) hb)).1).mono ?_; rintro e w2 ⟨v2, rfl, -, hb2⟩; rw [HM.out]))
          go_ret
          exact ⟨ret_bool (by rw [HG0.out, HM.out]), below_call (below_call (below_new _ _) hb) hb2⟩

/-- An error's number, as an error. -/
def numV (n : Int) : Value := if n = 0 then .nilIface else .iface 78 (.int .i64 n)
theorem step_bad {p : Idt} {x : Ent} (h : goodE x = false) : stepE p x = 4 := by unfold stepE; rw [if_pos h]
theorem step_out {p : Idt} {x : Ent} (h : goodE x = true) (hn : x.idx - 1 ≠ p.idx ∨ x.trm < p.trm) : stepE p x = 12 := by unfold stepE; rw [if_neg (by simp [h]), if_pos hn]
theorem step_ok {p : Idt} {x : Ent} (h : goodE x = true) (hn : ¬ (x.idx - 1 ≠ p.idx ∨ x.trm < p.trm)) : stepE p x = 0 := by unfold stepE; rw [if_neg (by simp [h]), if_neg hn]
theorem good_range {x : Ent} (h : goodE x = true) : 1 ≤ x.idx ∧ x.idx ≤ 1099511627776 ∧ 0 ≤ x.trm ∧ x.trm ≤ 1099511627776 := by
  unfold goodE rangeE at h
  simp only [Bool.and_eq_true, decide_eq_true_eq] at h
  omega

set_option maxHeartbeats 2000000 in
theorem entMeets (p : Idt) (x : Ent) (w : World) (hx : EntIn w.heap.size w x) :
    Calls Tryd.prog 54 #[.agg #[.int .i64 p.idx, .int .i64 p.trm, .int .i64 p.knd], .agg #[.int .i64 x.idx, .int .i64 x.trm, .int .i64 x.knd, .slice x.ba x.bd.length x.bc]] w fun e w' => e = .returned (numV (stepE p x)) ∧ Below w.heap.size w w' := by
  have HX := Lib.hid (hx.later (below_call (below_new w (.cells #[.int .i64 p.idx, .int .i64 p.trm, .int .i64 p.knd] 74)) (below_new _ (.cells #[.int .i64 x.idx, .int .i64 x.trm, .int .i64 x.knd, .slice x.ba x.bd.length x.bc] 35))))
  clear hx
  cases hg : goodE x with
  | false =>
    have HS := Lib.hid (step_bad (p := p) hg)
    have HG := Lib.hid hg
    clear hg
    go_enter Tryd.func54, Tryd.ntmps54
    go_wp2_with (go_at_call 11; refine (entGood x _ HX.out).mono ?_; rintro e w1 ⟨rfl, hb⟩; rw [HG.out])
    go_ret
    exact ⟨by rw [HS.out]; rfl, below_call (below_call (below_new _ _) (below_new _ _)) (by assumption)⟩
  | true =>
    obtain ⟨r1, r2, r3, r4⟩ := good_range hg
    have HG := Lib.hid hg
    by_cases hn : x.idx - 1 = p.idx
    · have e1 : (x.idx - 1 != p.idx) = false := by simpa using hn
      by_cases ht : x.trm < p.trm
      · have e2 : decide (x.trm < p.trm) = true := decide_eq_true ht
        have HS := Lib.hid (step_out (p := p) hg (.inr ht))
        clear hg hn
        go_enter Tryd.func54, Tryd.ntmps54
        go_wp2_with (go_at_call 11; refine (entGood x _ HX.out).mono ?_; rintro e w1 ⟨rfl, hb⟩; rw [HG.out]; obtain ⟨pa, pb, P⟩ := boxes2 _ _ _ _ hb; obtain ⟨ka, -, za⟩ := pa.facts; obtain ⟨kb, -, zb⟩ := pb.facts)
        go_ret
        exact ⟨by rw [HS.out]; rfl, P⟩
      · have e2 : decide (x.trm < p.trm) = false := decide_eq_false ht
        have HS := Lib.hid (step_ok (p := p) hg (by omega))
        clear hg hn
        go_enter Tryd.func54, Tryd.ntmps54
        go_wp2_with (go_at_call 11; refine (entGood x _ HX.out).mono ?_; rintro e w1 ⟨rfl, hb⟩; rw [HG.out]; obtain ⟨pa, pb, P⟩ := boxes2 _ _ _ _ hb; obtain ⟨ka, -, za⟩ := pa.facts; obtain ⟨kb, -, zb⟩ := pb.facts)
        go_ret
        exact ⟨by rw [HS.out]; rfl, P⟩
    · have e1 : (x.idx - 1 != p.idx) = true := by simpa using hn
      have HS := Lib.hid (step_out (p := p) hg (.inl hn))
      clear hg hn
      go_enter Tryd.func54, Tryd.ntmps54
      go_wp2_with (go_at_call 11; refine (entGood x _ HX.out).mono ?_; rintro e w1 ⟨rfl, hb⟩; rw [HG.out]; obtain ⟨pa, pb, P⟩ := boxes2 _ _ _ _ hb; obtain ⟨ka, -, za⟩ := pa.facts; obtain ⟨kb, -, zb⟩ := pb.facts)
      go_ret
      exact ⟨by rw [HS.out]; rfl, P⟩

end Go.Proofs.YtglkgmijhdkhpaaDoor
