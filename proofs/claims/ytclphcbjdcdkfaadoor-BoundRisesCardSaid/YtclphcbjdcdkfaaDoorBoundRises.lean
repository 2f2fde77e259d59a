/-
  BoundRises: true. Condition: errors.errorType holds its value.
-/
import Derived.Test.YtclphcbjdcdkfaaDoorBoundTells
set_option linter.unusedVariables false
set_option linter.unusedSimpArgs false
namespace Go.Proofs.YtclphcbjdcdkfaaDoor
open Go.RowKit

theorem of_is {c t m : Int} {a : Idt} (h : ofI c t m a ≠ c) : c < m ∧ a.idx = m ∧ a.trm = t ∧ ofI c t m a = m := by
  unfold ofI at h ⊢
  by_cases h1 : m ≤ c
  · rw [if_pos h1] at h; exact absurd rfl h
  rw [if_neg h1] at h ⊢
  by_cases h2 : a.idx = m
  · rw [if_neg (fun g => g h2)] at h ⊢
    by_cases h3 : a.trm = t
    · rw [if_neg (fun g => g h3)]; exact ⟨by omega, h2, h3, rfl⟩
    · rw [if_pos h3] at h; exact absurd rfl h
  · rw [if_pos h2] at h; exact absurd rfl h

/-- What the second half asks, of what may be applied. -/
def RisePost (c ap ro ma p q : Int) : Prop := (p = 0 ∧ q = 0 ∧ ¬ appOk c ap ro ma) ∨ (p = ap + 1 ∧ 0 ≤ ap ∧ ap ≤ 1099511627776 ∧ ap + 1 ≤ q ∧ q ≤ c ∧ (ro < 1 ∨ q < ro) ∧ q - (ap + 1) < ma ∧ q ≤ 1099511627776)
theorem rise_is (c ap ro ma : Int) : RisePost c ap ro ma (appV c ap ro ma).1 (appV c ap ro ma).2 := by
  by_cases h : appOk c ap ro ma
  · right
    rw [app_yes h]
    unfold appOk lowI at h
    obtain ⟨h1, h2, h3, h4, h5, h6⟩ := h
    simp only [topI, lowI]
    by_cases hr : 0 < ro
    · rw [if_pos hr] at h6 ⊢
      refine ⟨trivial, h3, h4, ?_, ?_, ?_, ?_, ?_⟩ <;> omega
    · rw [if_neg hr] at h6 ⊢
      refine ⟨trivial, h3, h4, ?_, ?_, ?_, ?_, ?_⟩ <;> omega
  · left; rw [app_no h]; exact ⟨rfl, rfl, h⟩
theorem next_is (c q ro ma : Int) : (appV c q ro ma).1 = 0 ∨ (appV c q ro ma).1 = q + 1 := by
  by_cases h : appOk c q ro ma
  · right; rw [app_yes h]
  · left; rw [app_no h]

set_option maxRecDepth 100000 in
set_option maxHeartbeats 8000000 in
theorem boundRises (l : List Int) (v : Value) (c t : Int) (a : Idt) (ap ro ma : Int) (w : World) (h : Sl 1 i64Row w.heap.size w v l) (hn : l.length ≤ 140737488351232) (hro : I64 ro) (hma : I64 ma) (hG : errTypeIs w) :
    Calls Tryd.prog 8 #[v, .int .i64 c, .int .i64 t, .agg #[.int .i64 a.idx, .int .i64 a.trm, .int .i64 a.knd], .int .i64 ap, .int .i64 ro, .int .i64 ma] w fun e w' => e = .returned (.bool true) ∧ Below w.heap.size w w' := by
  have HL := Lib.hid h
  have HG := Lib.hid hG
  have HX0 := Lib.hid (Box.new w #[.int .i64 a.idx, .int .i64 a.trm, .int .i64 a.knd] 24)
  have HB0 := Lib.hid (below_new w (.cells #[.int .i64 a.idx, .int .i64 a.trm, .int .i64 a.knd] 24))
  have HNN := Lib.hid hn
  obtain ⟨A, cap, rfl, -⟩ := id h
  clear h hG
  by_cases hs : 300 < l.length
  · have d0 : decide ((300 : Int) < (l.length : Int)) = true := decide_eq_true (by omega)
    have d1 : decide (300 < l.length) = true := decide_eq_true hs
    have d2 : (300 : Int) < (l.length : Int) := by omega
    go_enter Tryd.func8, Tryd.ntmps8
    go_wp2_with (go_at_call 20; refine (awake21 _ (errType_later HG.out HB0.out)).mono ?_; rintro e w1 ⟨rfl, hb1⟩; have HB1 := Lib.hid (below_call HB0.out hb1); have HA1 := Lib.hid (HX0.out.later hb1); obtain ⟨ka, fa, za⟩ := (HX0.out.later hb1).facts; clear hb1)
    go_ret
    exact ⟨rfl, HB1.out⟩
  · have d0 : decide ((300 : Int) < (l.length : Int)) = false := decide_eq_false (by omega)
    have d1 : decide (300 < l.length) = false := decide_eq_false hs
    have d2 : (l.length : Int) ≤ 300 := by omega
    have CA := Lib.hid (fun W : World => appliesB c ap ro ma hro hma W)
    have CO := Lib.hid (fun (W : World) (q : Below w.heap.size w W) => ofB c t a l _ W (HL.out.later q) (by omega) (errType_later HG.out q))
    have CM := Lib.hid (fun (W : World) (q : Below w.heap.size w W) => majB l _ W (HL.out.later q) (by omega))
    have HR := Lib.hid (rise_is c ap ro ma)
    have CN := Lib.hid (fun W : World => appliesB c (appV c ap ro ma).2 ro ma hro hma W)
    have HNX := Lib.hid (next_is c (appV c ap ro ma).2 ro ma)
    obtain ⟨p, hp⟩ : ∃ p, (appV c ap ro ma).1 = p := ⟨_, rfl⟩
    obtain ⟨q, hq⟩ : ∃ q, (appV c ap ro ma).2 = q := ⟨_, rfl⟩
    rw [hp, hq] at CA HR
    rw [hq] at CN HNX
    obtain ⟨p2, hp2⟩ : ∃ p, (appV c q ro ma).1 = p := ⟨_, rfl⟩
    obtain ⟨q2, hq2⟩ : ∃ p, (appV c q ro ma).2 = p := ⟨_, rfl⟩
    rw [hp2] at CN HNX
    rw [hq2] at CN
    clear hp hq hp2 hq2
    have HOF := Lib.hid (@of_is c t (medI l) a)
    obtain ⟨m, hm⟩ : ∃ m, medI l = m := ⟨_, rfl⟩
    rw [hm] at CO CM HOF
    obtain ⟨o, ho⟩ : ∃ o, ofI c t m a = o := ⟨_, rfl⟩
    rw [ho] at CO HOF
    clear hm ho
    unfold I64 at hro hma
    go_enter Tryd.func8, Tryd.ntmps8
    by_cases hoc : o = c
    · have o1 : (o == c) = true := by simpa using hoc
      have o2 : (o != c) = false := by simp [hoc]
      clear hoc
      go_upto_region 8 with (first
        | (go_at_call 20; refine (awake21 _ (errType_later HG.out HB0.out)).mono ?_; rintro e w1 ⟨rfl, hb1⟩; have HB1 := Lib.hid (below_call HB0.out hb1); have HA1 := Lib.hid (HX0.out.later hb1); obtain ⟨ka, fa, za⟩ := (HX0.out.later hb1).facts; clear hb1)
        | (go_at_call 26; refine (CO.out w1 HB1.out).mono ?_; rintro e w2 ⟨rfl, hb2⟩; have HB2 := Lib.hid (below_call HB1.out hb2); have HA2 := Lib.hid (HA1.out.later hb2); clear ka fa za; obtain ⟨ka, fa, za⟩ := HA2.out.facts; clear hb2))
      obtain ⟨w3, hw3⟩ : ∃ x, x = w2 := ⟨_, rfl⟩
      have HB3 := Lib.hid HB2.out
      rw [← hw3] at HB3 ⊢
      clear hw3
      rcases HR.out with ⟨r1, r2, r3⟩ | ⟨r1, r2, r3, r4, r5, r6, r7, r8⟩
      · subst r1 r2
        have HNO := Lib.hid r3
        clear r3
        by_cases g3 : 0 < ma
        · have f3 : decide (0 < ma) = true := decide_eq_true g3
          by_cases g4 : 0 ≤ ap
          · have f4 : decide (0 ≤ ap) = true := decide_eq_true g4
            by_cases g5 : ap < c
            · have f5 : decide (ap < c) = true := decide_eq_true g5
              by_cases g6 : c ≤ 1099511627776
              · have f6 : decide (c ≤ 1099511627776) = true := decide_eq_true g6
                by_cases g1 : ro < 1
                · have e1 : decide (ro < 1) = true := decide_eq_true g1
                  exact absurd ⟨by omega, g6, g4, by omega, by omega, by unfold lowI; rw [if_neg (by omega)]; exact g5⟩ HNO.out
                · have e1 : decide (ro < 1) = false := decide_eq_false g1
                  have w1 : wrap64 (ro - 1) = ro - 1 := by unfold wrap64; omega
                  by_cases g2 : ap < ro - 1
                  · have e2 : decide (ap < ro - 1) = true := decide_eq_true g2
                    exact absurd ⟨by omega, g6, g4, by omega, by omega, by unfold lowI; rw [if_pos (by omega)]; omega⟩ HNO.out
                  · have e2 : decide (ap < ro - 1) = false := decide_eq_false g2
                    go_wp2_with (go_at_call 23; with_reducible refine (CA.out w3).mono ?_; rintro e w4 ⟨rfl, hb4⟩; have HB4 := Lib.hid (below_call HB3.out hb4); clear hb4)
                    go_ret
                    exact ⟨rfl, HB4.out⟩
              · have f6 : decide (c ≤ 1099511627776) = false := decide_eq_false g6
                by_cases g1 : ro < 1
                · have e1 : decide (ro < 1) = true := decide_eq_true g1
                  go_wp2_with (go_at_call 23; with_reducible refine (CA.out w3).mono ?_; rintro e w4 ⟨rfl, hb4⟩; have HB4 := Lib.hid (below_call HB3.out hb4); clear hb4)
                  go_ret
                  exact ⟨rfl, HB4.out⟩
                · have e1 : decide (ro < 1) = false := decide_eq_false g1
                  have w1 : wrap64 (ro - 1) = ro - 1 := by unfold wrap64; omega
                  by_cases g2 : ap < ro - 1
                  · have e2 : decide (ap < ro - 1) = true := decide_eq_true g2
                    go_wp2_with (go_at_call 23; with_reducible refine (CA.out w3).mono ?_; rintro e w4 ⟨rfl, hb4⟩; have HB4 := Lib.hid (below_call HB3.out hb4); clear hb4)
                    go_ret
                    exact ⟨rfl, HB4.out⟩
                  · have e2 : decide (ap < ro - 1) = false := decide_eq_false g2
                    go_wp2_with (go_at_call 23; with_reducible refine (CA.out w3).mono ?_; rintro e w4 ⟨rfl, hb4⟩; have HB4 := Lib.hid (below_call HB3.out hb4); clear hb4)
                    go_ret
                    exact ⟨rfl, HB4.out⟩
            · have f5 : decide (ap < c) = false := decide_eq_false g5
              by_cases g1 : ro < 1
              · have e1 : decide (ro < 1) = true := decide_eq_true g1
                go_wp2_with (go_at_call 23; with_reducible refine (CA.out w3).mono ?_; rintro e w4 ⟨rfl, hb4⟩; have HB4 := Lib.hid (below_call HB3.out hb4); clear hb4)
                go_ret
                exact ⟨rfl, HB4.out⟩
              · have e1 : decide (ro < 1) = false := decide_eq_false g1
                have w1 : wrap64 (ro - 1) = ro - 1 := by unfold wrap64; omega
                by_cases g2 : ap < ro - 1
                · have e2 : decide (ap < ro - 1) = true := decide_eq_true g2
                  go_wp2_with (go_at_call 23; with_reducible refine (CA.out w3).mono ?_; rintro e w4 ⟨rfl, hb4⟩; have HB4 := Lib.hid (below_call HB3.out hb4); clear hb4)
                  go_ret
                  exact ⟨rfl, HB4.out⟩
                · have e2 : decide (ap < ro - 1) = false := decide_eq_false g2
                  go_wp2_with (go_at_call 23; with_reducible refine (CA.out w3).mono ?_; rintro e w4 ⟨rfl, hb4⟩; have HB4 := Lib.hid (below_call HB3.out hb4); clear hb4)
                  go_ret
                  exact ⟨rfl, HB4.out⟩
          · have f4 : decide (0 ≤ ap) = false := decide_eq_false g4
            by_cases g1 : ro < 1
            · have e1 : decide (ro < 1) = true := decide_eq_true g1
              go_wp2_with (go_at_call 23; with_reducible refine (CA.out w3).mono ?_; rintro e w4 ⟨rfl, hb4⟩; have HB4 := Lib.hid (below_call HB3.out hb4); clear hb4)
              go_ret
              exact ⟨rfl, HB4.out⟩
            · have e1 : decide (ro < 1) = false := decide_eq_false g1
              have w1 : wrap64 (ro - 1) = ro - 1 := by unfold wrap64; omega
              by_cases g2 : ap < ro - 1
              · have e2 : decide (ap < ro - 1) = true := decide_eq_true g2
                go_wp2_with (go_at_call 23; with_reducible refine (CA.out w3).mono ?_; rintro e w4 ⟨rfl, hb4⟩; have HB4 := Lib.hid (below_call HB3.out hb4); clear hb4)
                go_ret
                exact ⟨rfl, HB4.out⟩
              · have e2 : decide (ap < ro - 1) = false := decide_eq_false g2
                go_wp2_with (go_at_call 23; with_reducible refine (CA.out w3).mono ?_; rintro e w4 ⟨rfl, hb4⟩; have HB4 := Lib.hid (below_call HB3.out hb4); clear hb4)
                go_ret
                exact ⟨rfl, HB4.out⟩
        · have f3 : decide (0 < ma) = false := decide_eq_false g3
          by_cases g1 : ro < 1
          · have e1 : decide (ro < 1) = true := decide_eq_true g1
            go_wp2_with (go_at_call 23; with_reducible refine (CA.out w3).mono ?_; rintro e w4 ⟨rfl, hb4⟩; have HB4 := Lib.hid (below_call HB3.out hb4); clear hb4)
            go_ret
            exact ⟨rfl, HB4.out⟩
          · have e1 : decide (ro < 1) = false := decide_eq_false g1
            have w1 : wrap64 (ro - 1) = ro - 1 := by unfold wrap64; omega
            by_cases g2 : ap < ro - 1
            · have e2 : decide (ap < ro - 1) = true := decide_eq_true g2
              go_wp2_with (go_at_call 23; with_reducible refine (CA.out w3).mono ?_; rintro e w4 ⟨rfl, hb4⟩; have HB4 := Lib.hid (below_call HB3.out hb4); clear hb4)
              go_ret
              exact ⟨rfl, HB4.out⟩
            · have e2 : decide (ap < ro - 1) = false := decide_eq_false g2
              go_wp2_with (go_at_call 23; with_reducible refine (CA.out w3).mono ?_; rintro e w4 ⟨rfl, hb4⟩; have HB4 := Lib.hid (below_call HB3.out hb4); clear hb4)
              go_ret
              exact ⟨rfl, HB4.out⟩
      · subst r1
        have z0 : (ap + 1 == 0) = false := by simp; omega
        have w1 : wrap64 (ap + 1) = ap + 1 := by unfold wrap64; omega
        have w2 : wrap64 (q + 1) = q + 1 := by unfold wrap64; omega
        have w3' : wrap64 (q - (ap + 1)) = q - (ap + 1) := by unfold wrap64; omega
        have z1 : (ap + 1 == ap + 1) = true := by simp
        have e2 : decide (ap + 1 ≤ q) = true := decide_eq_true r4
        have e3 : decide (q ≤ c) = true := decide_eq_true r5
        have e4 : decide (q - (ap + 1) < ma) = true := decide_eq_true r7
        by_cases g1 : ro < 1
        · have e1 : decide (ro < 1) = true := decide_eq_true g1
          clear r6
          rcases HNX.out with n1 | n1
          · subst n1
            go_wp2_with (first | (go_at_call 23; with_reducible refine (CA.out w3).mono ?_; rintro e w4 ⟨rfl, hb4⟩; have HB4 := Lib.hid (below_call HB3.out hb4); clear hb4) | (go_at_call 23; with_reducible refine (CN.out w4).mono ?_; rintro e w5 ⟨rfl, hb5⟩; have HB5 := Lib.hid (below_call HB4.out hb5); clear hb5))
            go_ret
            exact ⟨rfl, HB5.out⟩
          · subst n1
            have z2 : (q + 1 == 0) = false := by simp; omega
            have z3 : (q + 1 == q + 1) = true := by simp
            go_wp2_with (first | (go_at_call 23; with_reducible refine (CA.out w3).mono ?_; rintro e w4 ⟨rfl, hb4⟩; have HB4 := Lib.hid (below_call HB3.out hb4); clear hb4) | (go_at_call 23; with_reducible refine (CN.out w4).mono ?_; rintro e w5 ⟨rfl, hb5⟩; have HB5 := Lib.hid (below_call HB4.out hb5); clear hb5))
            go_ret
            exact ⟨rfl, HB5.out⟩
        · have e1 : decide (ro < 1) = false := decide_eq_false g1
          have g2 : q < ro := by omega
          have e5 : decide (q < ro) = true := decide_eq_true g2
          clear r6
          rcases HNX.out with n1 | n1
          · subst n1
            go_wp2_with (first | (go_at_call 23; with_reducible refine (CA.out w3).mono ?_; rintro e w4 ⟨rfl, hb4⟩; have HB4 := Lib.hid (below_call HB3.out hb4); clear hb4) | (go_at_call 23; with_reducible refine (CN.out w4).mono ?_; rintro e w5 ⟨rfl, hb5⟩; have HB5 := Lib.hid (below_call HB4.out hb5); clear hb5))
            go_ret
            exact ⟨rfl, HB5.out⟩
          · subst n1
            have z2 : (q + 1 == 0) = false := by simp; omega
            have z3 : (q + 1 == q + 1) = true := by simp
            go_wp2_with (first | (go_at_call 23; with_reducible refine (CA.out w3).mono ?_; rintro e w4 ⟨rfl, hb4⟩; have HB4 := Lib.hid (below_call HB3.out hb4); clear hb4) | (go_at_call 23; with_reducible refine (CN.out w4).mono ?_; rintro e w5 ⟨rfl, hb5⟩; have HB5 := Lib.hid (below_call HB4.out hb5); clear hb5))
            go_ret
            exact ⟨rfl, HB5.out⟩
    · obtain ⟨m1, m2, m3, m4⟩ := HOF.out hoc
      have o1 : (o == c) = false := by simpa using hoc
      have o2 : (o != c) = true := by simpa using hoc
      clear hoc
      subst m4
      have o3 : decide (o < c) = false := decide_eq_false (by omega)
      have o4 : (a.idx == o) = true := by simpa using m2
      have o5 : (a.trm == t) = true := by simpa using m3
      have o6 : (a.idx != o) = false := by simp [m2]
      have o7 : (a.trm != t) = false := by simp [m3]
      have o8 : c ≤ o := by omega
      clear m2 m3
      go_upto_region 8 with (first
        | (go_at_call 20; refine (awake21 _ (errType_later HG.out HB0.out)).mono ?_; rintro e w1 ⟨rfl, hb1⟩; have HB1 := Lib.hid (below_call HB0.out hb1); have HA1 := Lib.hid (HX0.out.later hb1); obtain ⟨ka, fa, za⟩ := (HX0.out.later hb1).facts; clear hb1)
        | (go_at_call 26; refine (CO.out w1 HB1.out).mono ?_; rintro e w2 ⟨rfl, hb2⟩; have HB2 := Lib.hid (below_call HB1.out hb2); have HA2 := Lib.hid (HA1.out.later hb2); clear ka fa za; obtain ⟨ka, fa, za⟩ := HA2.out.facts; clear hb2)
        | (go_at_call 21; refine (CM.out w2 HB2.out).mono ?_; rintro e w3 ⟨rfl, hb3⟩; have HB3 := Lib.hid (below_call HB2.out hb3); clear hb3))
      rcases HR.out with ⟨r1, r2, r3⟩ | ⟨r1, r2, r3, r4, r5, r6, r7, r8⟩
      · subst r1 r2
        have HNO := Lib.hid r3
        clear r3
        by_cases g3 : 0 < ma
        · have f3 : decide (0 < ma) = true := decide_eq_true g3
          by_cases g4 : 0 ≤ ap
          · have f4 : decide (0 ≤ ap) = true := decide_eq_true g4
            by_cases g5 : ap < c
            · have f5 : decide (ap < c) = true := decide_eq_true g5
              by_cases g6 : c ≤ 1099511627776
              · have f6 : decide (c ≤ 1099511627776) = true := decide_eq_true g6
                by_cases g1 : ro < 1
                · have e1 : decide (ro < 1) = true := decide_eq_true g1
                  exact absurd ⟨by omega, g6, g4, by omega, by omega, by unfold lowI; rw [if_neg (by omega)]; exact g5⟩ HNO.out
                · have e1 : decide (ro < 1) = false := decide_eq_false g1
                  have w1 : wrap64 (ro - 1) = ro - 1 := by unfold wrap64; omega
                  by_cases g2 : ap < ro - 1
                  · have e2 : decide (ap < ro - 1) = true := decide_eq_true g2
                    exact absurd ⟨by omega, g6, g4, by omega, by omega, by unfold lowI; rw [if_pos (by omega)]; omega⟩ HNO.out
                  · have e2 : decide (ap < ro - 1) = false := decide_eq_false g2
                    go_wp2_with (go_at_call 23; with_reducible refine (CA.out w3).mono ?_; rintro e w4 ⟨rfl, hb4⟩; have HB4 := Lib.hid (below_call HB3.out hb4); clear hb4)
                    go_ret
                    exact ⟨rfl, HB4.out⟩
              · have f6 : decide (c ≤ 1099511627776) = false := decide_eq_false g6
                by_cases g1 : ro < 1
                · have e1 : decide (ro < 1) = true := decide_eq_true g1
                  go_wp2_with (go_at_call 23; with_reducible refine (CA.out w3).mono ?_; rintro e w4 ⟨rfl, hb4⟩; have HB4 := Lib.hid (below_call HB3.out hb4); clear hb4)
                  go_ret
                  exact ⟨rfl, HB4.out⟩
                · have e1 : decide (ro < 1) = false := decide_eq_false g1
                  have w1 : wrap64 (ro - 1) = ro - 1 := by unfold wrap64; omega
                  by_cases g2 : ap < ro - 1
                  · have e2 : decide (ap < ro - 1) = true := decide_eq_true g2
                    go_wp2_with (go_at_call 23; with_reducible refine (CA.out w3).mono ?_; rintro e w4 ⟨rfl, hb4⟩; have HB4 := Lib.hid (below_call HB3.out hb4); clear hb4)
                    go_ret
                    exact ⟨rfl, HB4.out⟩
                  · have e2 : decide (ap < ro - 1) = false := decide_eq_false g2
                    go_wp2_with (go_at_call 23; with_reducible refine (CA.out w3).mono ?_; rintro e w4 ⟨rfl, hb4⟩; have HB4 := Lib.hid (below_call HB3.out hb4); clear hb4)
                    go_ret
                    exact ⟨rfl, HB4.out⟩
            · have f5 : decide (ap < c) = false := decide_eq_false g5
              by_cases g1 : ro < 1
              · have e1 : decide (ro < 1) = true := decide_eq_true g1
                go_wp2_with (go_at_call 23; with_reducible refine (CA.out w3).mono ?_; rintro e w4 ⟨rfl, hb4⟩; have HB4 := Lib.hid (below_call HB3.out hb4); clear hb4)
                go_ret
                exact ⟨rfl, HB4.out⟩
              · have e1 : decide (ro < 1) = false := decide_eq_false g1
                have w1 : wrap64 (ro - 1) = ro - 1 := by unfold wrap64; omega
                by_cases g2 : ap < ro - 1
                · have e2 : decide (ap < ro - 1) = true := decide_eq_true g2
                  go_wp2_with (go_at_call 23; with_reducible refine (CA.out w3).mono ?_; rintro e w4 ⟨rfl, hb4⟩; have HB4 := Lib.hid (below_call HB3.out hb4); clear hb4)
                  go_ret
                  exact ⟨rfl, HB4.out⟩
                · have e2 : decide (ap < ro - 1) = false := decide_eq_false g2
                  go_wp2_with (go_at_call 23; with_reducible refine (CA.out w3).mono ?_; rintro e w4 ⟨rfl, hb4⟩; have HB4 := Lib.hid (below_call HB3.out hb4); clear hb4)
                  go_ret
                  exact ⟨rfl, HB4.out⟩
          · have f4 : decide (0 ≤ ap) = false := decide_eq_false g4
            by_cases g1 : ro < 1
            · have e1 : decide (ro < 1) = true := decide_eq_true g1
              go_wp2_with (go_at_call 23; with_reducible refine (CA.out w3).mono ?_; rintro e w4 ⟨rfl, hb4⟩; have HB4 := Lib.hid (below_call HB3.out hb4); clear hb4)
              go_ret
              exact ⟨rfl, HB4.out⟩
            · have e1 : decide (ro < 1) = false := decide_eq_false g1
              have w1 : wrap64 (ro - 1) = ro - 1 := by unfold wrap64; omega
              by_cases g2 : ap < ro - 1
              · have e2 : decide (ap < ro - 1) = true := decide_eq_true g2
                go_wp2_with (go_at_call 23; with_reducible refine (CA.out w3).mono ?_; rintro e w4 ⟨rfl, hb4⟩; have HB4 := Lib.hid (below_call HB3.out hb4); clear hb4)
                go_ret
                exact ⟨rfl, HB4.out⟩
              · have e2 : decide (ap < ro - 1) = false := decide_eq_false g2
                go_wp2_with (go_at_call 23; with_reducible refine (CA.out w3).mono ?_; rintro e w4 ⟨rfl, hb4⟩; have HB4 := Lib.hid (below_call HB3.out hb4); clear hb4)
                go_ret
                exact ⟨rfl, HB4.out⟩
        · have f3 : decide (0 < ma) = false := decide_eq_false g3
          by_cases g1 : ro < 1
          · have e1 : decide (ro < 1) = true := decide_eq_true g1
            go_wp2_with (go_at_call 23; with_reducible refine (CA.out w3).mono ?_; rintro e w4 ⟨rfl, hb4⟩; have HB4 := Lib.hid (below_call HB3.out hb4); clear hb4)
            go_ret
            exact ⟨rfl, HB4.out⟩
          · have e1 : decide (ro < 1) = false := decide_eq_false g1
            have w1 : wrap64 (ro - 1) = ro - 1 := by unfold wrap64; omega
            by_cases g2 : ap < ro - 1
            · have e2 : decide (ap < ro - 1) = true := decide_eq_true g2
              go_wp2_with (go_at_call 23; with_reducible refine (CA.out w3).mono ?_; rintro e w4 ⟨rfl, hb4⟩; have HB4 := Lib.hid (below_call HB3.out hb4); clear hb4)
              go_ret
              exact ⟨rfl, HB4.out⟩
            · have e2 : decide (ap < ro - 1) = false := decide_eq_false g2
              go_wp2_with (go_at_call 23; with_reducible refine (CA.out w3).mono ?_; rintro e w4 ⟨rfl, hb4⟩; have HB4 := Lib.hid (below_call HB3.out hb4); clear hb4)
              go_ret
              exact ⟨rfl, HB4.out⟩
      · subst r1
        have z0 : (ap + 1 == 0) = false := by simp; omega
        have w1 : wrap64 (ap + 1) = ap + 1 := by unfold wrap64; omega
        have w2 : wrap64 (q + 1) = q + 1 := by unfold wrap64; omega
        have w3' : wrap64 (q - (ap + 1)) = q - (ap + 1) := by unfold wrap64; omega
        have z1 : (ap + 1 == ap + 1) = true := by simp
        have e2 : decide (ap + 1 ≤ q) = true := decide_eq_true r4
        have e3 : decide (q ≤ c) = true := decide_eq_true r5
        have e4 : decide (q - (ap + 1) < ma) = true := decide_eq_true r7
        by_cases g1 : ro < 1
        · have e1 : decide (ro < 1) = true := decide_eq_true g1
          clear r6
          rcases HNX.out with n1 | n1
          · subst n1
            go_wp2_with (first | (go_at_call 23; with_reducible refine (CA.out w3).mono ?_; rintro e w4 ⟨rfl, hb4⟩; have HB4 := Lib.hid (below_call HB3.out hb4); clear hb4) | (go_at_call 23; with_reducible refine (CN.out w4).mono ?_; rintro e w5 ⟨rfl, hb5⟩; have HB5 := Lib.hid (below_call HB4.out hb5); clear hb5))
            go_ret
            exact ⟨rfl, HB5.out⟩
          · subst n1
            have z2 : (q + 1 == 0) = false := by simp; omega
            have z3 : (q + 1 == q + 1) = true := by simp
            go_wp2_with (first | (go_at_call 23; with_reducible refine (CA.out w3).mono ?_; rintro e w4 ⟨rfl, hb4⟩; have HB4 := Lib.hid (below_call HB3.out hb4); clear hb4) | (go_at_call 23; with_reducible refine (CN.out w4).mono ?_; rintro e w5 ⟨rfl, hb5⟩; have HB5 := Lib.hid (below_call HB4.out hb5); clear hb5))
            go_ret
            exact ⟨rfl, HB5.out⟩
        · have e1 : decide (ro < 1) = false := decide_eq_false g1
          have g2 : q < ro := by omega
          have e5 : decide (q < ro) = true := decide_eq_true g2
          clear r6
          rcases HNX.out with n1 | n1
          · subst n1
            go_wp2_with (first | (go_at_call 23; with_reducible refine (CA.out w3).mono ?_; rintro e w4 ⟨rfl, hb4⟩; have HB4 := Lib.hid (below_call HB3.out hb4); clear hb4) | (go_at_call 23; with_reducible refine (CN.out w4).mono ?_; rintro e w5 ⟨rfl, hb5⟩; have HB5 := Lib.hid (below_call HB4.out hb5); clear hb5))
            go_ret
            exact ⟨rfl, HB5.out⟩
          · subst n1
            have z2 : (q + 1 == 0) = false := by simp; omega
            have z3 : (q + 1 == q + 1) = true := by simp
            go_wp2_with (first | (go_at_call 23; with_reducible refine (CA.out w3).mono ?_; rintro e w4 ⟨rfl, hb4⟩; have HB4 := Lib.hid (below_call HB3.out hb4); clear hb4) | (go_at_call 23; with_reducible refine (CN.out w4).mono ?_; rintro e w5 ⟨rfl, hb5⟩; have HB5 := Lib.hid (below_call HB4.out hb5); clear hb5))
            go_ret
            exact ⟨rfl, HB5.out⟩
end Go.Proofs.YtclphcbjdcdkfaaDoor
