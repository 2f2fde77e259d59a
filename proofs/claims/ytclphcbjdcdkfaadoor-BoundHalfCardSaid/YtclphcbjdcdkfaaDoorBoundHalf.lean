/-
  BoundHalf: true. Condition: errors.errorType holds its value.
-/
import Derived.Test.YtclphcbjdcdkfaaDoorBoundAwake
import Derived.Test.YtclphcbjdcdkfaaDoorSlCut
import Derived.Test.YtclphcbjdcdkfaaDoorMatchMath
import Derived.Deep.RegionHeld3
import Derived.Deep.DeepCutAuto
set_option linter.unusedVariables false
set_option linter.unusedSimpArgs false
namespace Go.Proofs.YtclphcbjdcdkfaaDoor
open Go.RowKit

/-- (x % n + n) % n: a place. -/
theorem turn_at (x : Int) (n : Nat) (hn : 0 < n) : ∃ k : Nat, k < n ∧ (x.tmod n + n).tmod n = (k : Int) ∧ -9223372036854775808 ≤ x.tmod n + n ∧ x.tmod n + n ≤ 2 * n ∧ 0 ≤ x.tmod n + n := by
  have h1 : -(n : Int) < x.tmod n := by
    have := Int.lt_tmod_of_pos x (show (0 : Int) < n by omega)
    omega
  have h2 : x.tmod n < n := Int.tmod_lt_of_pos x (by omega)
  refine ⟨((x.tmod n + n) % n).toNat, ?_, ?_, by omega, by omega, by omega⟩
  · have := Int.emod_lt_of_pos (x.tmod n + n) (show (0 : Int) < n by omega)
    have := Int.emod_nonneg (x.tmod n + n) (show (n : Int) ≠ 0 by omega)
    omega
  · rw [Int.tmod_eq_emod_of_nonneg (by omega)]
    have := Int.emod_nonneg (x.tmod n + n) (show (n : Int) ≠ 0 by omega)
    omega

set_option maxRecDepth 100000 in
set_option maxHeartbeats 8000000 in
theorem boundHalf (l : List Int) (v : Value) (tu wh ri : Int) (w : World) (h : Sl 1 i64Row w.heap.size w v l) (hn : l.length ≤ 140737488351232) (htu : I64 tu) (hwh : I64 wh) (hG : errTypeIs w) :
    Calls Tryd.prog 5 #[v, .int .i64 tu, .int .i64 wh, .int .i64 ri] w fun e w' => e = .returned (.bool true) ∧ Below w.heap.size w w' := by
  have HL := Lib.hid h
  have HG := Lib.hid hG
  have HNN := Lib.hid hn
  obtain ⟨A, cap, rfl, -⟩ := id h
  clear h hG
  have CN := Lib.hid (fun W : World => (by have h := majB [] (.slice none 0 0) W (Sl.nil_ _ _ _ _) (by simp); rw [show medI [] = 0 from if_pos rfl] at h; exact h : Calls Tryd.prog 21 #[.slice none 0 0] W fun e w' => e = .returned (.int .i64 0) ∧ Below W.heap.size W w'))
  by_cases hs : 300 < l.length
  · have d0 : decide ((300 : Int) < (l.length : Int)) = true := decide_eq_true (by omega)
    have d1 : decide (300 < l.length) = true := decide_eq_true hs
    have d2 : (300 : Int) < (l.length : Int) := by omega
    go_enter Tryd.func5, Tryd.ntmps5
    go_wp2_with (first
      | (go_at_call 20; refine (awake21 _ HG.out).mono ?_; rintro e w1 ⟨rfl, hb1⟩; have HB1 := Lib.hid hb1; clear hb1)
      | (go_at_call 21; refine (CN.out w1).mono ?_; rintro e w2 ⟨rfl, hb2⟩))
    go_ret
    exact ⟨rfl, below_call HB1.out hb2⟩
  by_cases hz : l.length = 0
  · have hl0 : l = [] := List.eq_nil_of_length_eq_zero hz
    subst hl0
    clear hz hs
    go_enter Tryd.func5, Tryd.ntmps5
    go_wp2_with (first
      | (go_at_call 20; refine (awake21 _ HG.out).mono ?_; rintro e w1 ⟨rfl, hb1⟩; have HB1 := Lib.hid hb1; clear hb1)
      | (go_at_call 21; refine (CN.out w1).mono ?_; rintro e w2 ⟨rfl, hb2⟩))
    go_ret
    exact ⟨rfl, below_call HB1.out hb2⟩
  have hl0 : l ≠ [] := by rintro rfl; exact hz rfl
  have d0 : decide ((300 : Int) < (l.length : Int)) = false := decide_eq_false (by omega)
  have d1 : decide (300 < l.length) = false := decide_eq_false hs
  have d2 : (l.length : Int) ≤ 300 := by omega
  have d3 : ((l.length : Int) == 0) = false := by simp; omega
  have d4 : l.length ≤ 300 := by omega
  have d5 : 0 < l.length := by omega
  have CM := Lib.hid (fun (W : World) (q : Below w.heap.size w W) => majB l _ W (HL.out.later q) (by omega))
  have HMO := Lib.hid (has_more hl0)
  have HAB := Lib.hid (above_less hl0)
  have HIN := Lib.hid (one_in hl0)
  have HTU := Lib.hid (med_turn l)
  have HSE : Hid (∀ (i : Nat) (x v : Int), l[i]? = some x → x ≤ v → medI l ≤ medI (l.set i v)) := fun i x v h1 h2 => med_set h1 h2
  obtain ⟨m, hm⟩ : ∃ m, medI l = m := ⟨_, rfl⟩
  rw [hm] at CM HMO HAB HIN HTU HSE
  clear hm hs hz hl0
  go_enter Tryd.func5, Tryd.ntmps5
  go_wp2_with (first
    | (go_at_call 20; refine (awake21 _ HG.out).mono ?_; rintro e w1 ⟨rfl, hb1⟩; have HB1 := Lib.hid hb1; clear hb1)
    | (go_at_call 21; refine (CM.out w1 HB1.out).mono ?_; rintro e w2 ⟨rfl, hb2⟩; have HB2 := Lib.hid (below_call HB1.out hb2); clear hb2))
  go_loopw [10, 11, 12, 13] (fun ha ab on i wr => ∃ (k : Nat), k ≤ l.length ∧ i = .int .i64 k ∧ ha = .int .i64 (cntG (l.take k) m) ∧ ab = .int .i64 (cntG (l.take k) (m + 1)) ∧ on = .bool (decide (m ∈ l.take k)) ∧ Below w.heap.size w wr) (fun _ _ _ i _ => l.length - (intOf i).toNat)
  case atStart => exact ⟨0, by omega, rfl, by simp [cntG], by simp [cntG], by simp, HB2.out⟩
  case round =>
    obtain ⟨k, hk, rfl, rfl, rfl, rfl, hB⟩ := hrel
    have HB := Lib.hid hB
    have hc1 := cntG_le (l.take k) m
    have hc2 := cntG_le (l.take k) (m + 1)
    rw [List.length_take, Nat.min_eq_left hk] at hc1 hc2
    obtain ⟨c1, e1⟩ : ∃ c, cntG (l.take k) m = c := ⟨_, rfl⟩
    obtain ⟨c2, e2⟩ : ∃ c, cntG (l.take k) (m + 1) = c := ⟨_, rfl⟩
    obtain ⟨on, e3⟩ : ∃ c, decide (m ∈ l.take k) = c := ⟨_, rfl⟩
    rw [e1] at hc1
    rw [e2] at hc2
    rw [e1, e2, e3]
    have HE1 := Lib.hid e1
    have HE2 := Lib.hid e2
    have HE3 := Lib.hid e3
    clear hB e1 e2 e3
    by_cases hlt : k < l.length
    · obtain ⟨bk, off, cap3, e3, hlc3, hcm3, hb3, hcell⟩ := HL.out.cellAt (by intro h; subst h; simp at hlt)
      simp only [Value.slice.injEq] at e3
      obtain ⟨rfl, -, rfl⟩ := e3
      obtain ⟨x, hx⟩ : ∃ x, l[k]? = some x := ⟨_, List.getElem?_eq_getElem hlt⟩
      have HX := Lib.hid hx
      have k0 : wr.cell? ⟨bk, off + k, none⟩ = some (.int .i64 x) := (HB.out.cell (p := ⟨bk, off + k, none⟩) hb3).trans (by simpa using hcell k x hx 0 _ rfl)
      have i0 : (0 : Int) ≤ (k : Int) := by omega
      have i1 : (k : Int) < (l.length : Int) := by omega
      have f0 : decide ((k : Int) < (l.length : Int)) = true := decide_eq_true i1
      have f0' : decide (k < l.length) = true := decide_eq_true hlt
      have w1' : wrap64 ((c1 : Int) + 1) = (c1 : Int) + 1 := by unfold wrap64; omega
      have w2' : wrap64 ((c2 : Int) + 1) = (c2 : Int) + 1 := by unfold wrap64; omega
      have NX1 := Lib.hid (cntG_take hx m)
      have NX2 := Lib.hid (cntG_take hx (m + 1))
      have NX3 := Lib.hid (show decide (m ∈ l.take (k + 1)) = (on || (x == m)) by rw [take_at hx, ← HE3.out]; by_cases g : m ∈ l.take k
                                                                                  · simp [g]
                                                                                  · by_cases g2 : x = m
                                                                                    · simp [g, g2]
                                                                                    · have g3 : ¬ m = x := fun h => g2 h.symm
                                                                                      simp [g, g2, g3])
      clear hcell hx
      rcases Int.lt_trichotomy x m with g | g | g
      · have b1 : decide (m ≤ x) = false := decide_eq_false (by omega)
        have b2 : decide (m < x) = false := decide_eq_false (by omega)
        have b3 : (x == m) = false := by simp; omega
        have NE := Lib.hid (show cntG (l.take (k + 1)) m = c1 ∧ cntG (l.take (k + 1)) (m + 1) = c2 ∧ decide (m ∈ l.take (k + 1)) = on by rw [NX1.out, NX2.out, NX3.out, HE1.out, HE2.out, if_neg (by omega), if_neg (by omega), b3]; simp)
        cases on
        all_goals
          go_wp2_with fail
          go_roundw
          case rel => exact ⟨k + 1, by omega, by go_num, by rw [NE.out.1], by rw [NE.out.2.1], by rw [NE.out.2.2], HB.out⟩
          case measure => simp [intOf]; omega
      · subst g
        have b1 : decide (x ≤ x) = true := decide_eq_true (Int.le_refl _)
        have b2 : decide (x < x) = false := decide_eq_false (by omega)
        have b3 : (x == x) = true := by simp
        have NE := Lib.hid (show cntG (l.take (k + 1)) x = c1 + 1 ∧ cntG (l.take (k + 1)) (x + 1) = c2 ∧ decide (x ∈ l.take (k + 1)) = true by rw [NX1.out, NX2.out, NX3.out, HE1.out, HE2.out, if_pos (by omega), if_neg (by omega), b3]; simp)
        cases on
        all_goals
          go_wp2_with fail
          go_roundw
          case rel => exact ⟨k + 1, by omega, by go_num, by rw [NE.out.1]; go_num, by rw [NE.out.2.1], by rw [NE.out.2.2], HB.out⟩
          case measure => simp [intOf]; omega
      · have b1 : decide (m ≤ x) = true := decide_eq_true (by omega)
        have b2 : decide (m < x) = true := decide_eq_true (by omega)
        have b3 : (x == m) = false := by simp; omega
        have NE := Lib.hid (show cntG (l.take (k + 1)) m = c1 + 1 ∧ cntG (l.take (k + 1)) (m + 1) = c2 + 1 ∧ decide (m ∈ l.take (k + 1)) = on by rw [NX1.out, NX2.out, NX3.out, HE1.out, HE2.out, if_pos (by omega), if_pos (by omega), b3]; simp)
        cases on
        all_goals
          go_wp2_with fail
          go_roundw
          case rel => exact ⟨k + 1, by omega, by go_num, by rw [NE.out.1]; go_num, by rw [NE.out.2.1]; go_num, by rw [NE.out.2.2], HB.out⟩
          case measure => simp [intOf]; omega
    · have hkl : k = l.length := by omega
      have f0 : decide ((k : Int) < (l.length : Int)) = false := decide_eq_false (by omega)
      have f0' : decide (k < l.length) = false := decide_eq_false hlt
      have q1 : l.length < 2 * c1 := by have := HMO.out; have h := HE1.out; rw [hkl, List.take_length] at h; omega
      have q2 : 2 * c2 ≤ l.length := by have := HAB.out; have h := HE2.out; rw [hkl, List.take_length] at h; omega
      have q3 : on = true := by have h := HE3.out; rw [hkl, List.take_length] at h; rw [← h]; exact decide_eq_true HIN.out
      subst q3
      have u1 : wrap64 (2 * (c1 : Int)) = 2 * (c1 : Int) := by unfold wrap64; omega
      have u2 : wrap64 (2 * (c2 : Int)) = 2 * (c2 : Int) := by unfold wrap64; omega
      have t1 : decide (2 * (c1 : Int) ≤ (l.length : Int)) = false := decide_eq_false (by omega)
      have t2 : decide ((l.length : Int) < 2 * (c2 : Int)) = false := decide_eq_false (by omega)
      have t3 : (l.length : Int) < 2 * (c1 : Int) := by omega
      have t4 : 2 * (c2 : Int) ≤ (l.length : Int) := by omega
      obtain ⟨kt, kt1, kt2, kt3, kt4, kt5⟩ := turn_at tu l.length d5
      obtain ⟨kw, kw1, kw2, kw3, kw4, kw5⟩ := turn_at wh l.length d5
      have v1 : wrap64 (tu.tmod (l.length : Int) + (l.length : Int)) = tu.tmod (l.length : Int) + (l.length : Int) := by unfold wrap64; omega
      have v2 : wrap64 (wh.tmod (l.length : Int) + (l.length : Int)) = wh.tmod (l.length : Int) + (l.length : Int) := by unfold wrap64; omega
      have v3 : wrap64 (tu.tmod (l.length : Int)) = tu.tmod (l.length : Int) := by unfold wrap64; omega
      have v4 : wrap64 (wh.tmod (l.length : Int)) = wh.tmod (l.length : Int) := by unfold wrap64; omega
      have v5 : wrap64 (kt : Int) = (kt : Int) := by unfold wrap64; omega
      have v6 : wrap64 (kw : Int) = (kw : Int) := by unfold wrap64; omega
      clear hkl hk hlt f0 kt3 kt4 kt5 kw3 kw4 kw5 q1 q2 hc1 hc2
      go_upto_region 18 with fail
      obtain ⟨bk, off, cap3, e3, hlc3, hcm3, hb3, hcell⟩ := HL.out.cellAt (by intro h; subst h; simp at d5)
      simp only [Value.slice.injEq] at e3
      obtain ⟨rfl, -, rfl⟩ := e3
      clear hcell
      obtain ⟨w4, hw4⟩ : ∃ x, x = wr := ⟨_, rfl⟩
      rw [← hw4] at HB
      rw [← hw4]
      clear hw4
      have KW := Lib.hid (And.intro kw2 (And.intro v2 (And.intro v4 v6)))
      clear kt2 v1 v2 v3 v4 v5 v6 u1 u2 t1 t2 t3 t4 kw2 d0 d1 d3
      have ktl : kt ≤ l.length := Nat.le_of_lt kt1
      have kt0 : (0 : Int) ≤ (kt : Int) := by omega
      have kta : (kt : Int) ≤ (l.length : Int) := by omega
      have ktc : (kt : Int) ≤ (cap : Int) := by omega
      have hck : ¬ cap = kt := by omega
      have SLD : Hid (∀ W, Below w.heap.size w W → Sl 1 i64Row w.heap.size W (.slice (some ⟨bk, off + kt, none⟩) (l.length - kt) (cap - kt)) (l.drop kt)) := fun W q => by have h := (HL.out.below q).drop_ (j := kt) ktl; simpa using h
      have SLT : Hid (∀ W, Below w.heap.size w W → Sl 1 i64Row w.heap.size W (.slice (some ⟨bk, off, none⟩) kt cap) (l.take kt)) := fun W q => (HL.out.below q).take_ ktl
      have O1 := Lib.hid (show Own 1 i64Row 3 w4.heap.size ((w4.alloc (.cells #[] 3)).drew) (.slice (some ⟨w4.heap.size, 0, none⟩) 0 0) [] from (Own.made 1 i64Row 3 w4).drew)
      have P1 := Lib.hid (show Below w4.heap.size w4 ((w4.alloc (.cells #[] 3)).drew) from (below_new _ _).drew)
      have hz4 := HB.out.size
      refine wp_region_held_drew (S := fun _ => True) (by kernel_rfl) trivial (fun hHeld => ?_)
      first
        | (refine wpAnyH_take (i := 1) (v := ?_) rfl (by kernel_rfl) (by kernel_rfl) (by kernel_rfl) (fun _ _ _ h => h) (Or.inl ⟨?_, ?_⟩) (by assumption) ?_; rotate_left; (focus rfl); (focus (intro w hSw; go_split_ands; go_simp; try with_reducible rfl)); skip)
        | (refine wpAnyH_take (i := 1) (v := undef) rfl (by kernel_rfl) (by kernel_rfl) (by kernel_rfl) (fun _ _ _ h => h) (Or.inr ⟨?_, rfl⟩) (by assumption) ?_; (focus rfl))
      try simp only [Act.put, List.setIfInBounds_toArray, List.set_cons_zero, List.set_cons_succ, List.getElem_toArray, List.getElem_cons_zero, List.getElem_cons_succ]
      first
        | (refine wpAnyH_take (i := 2) (v := ?_) rfl (by kernel_rfl) (by kernel_rfl) (by kernel_rfl) (fun _ _ _ h => h) (Or.inl ⟨?_, ?_⟩) (by assumption) ?_; rotate_left; (focus rfl); (focus (intro w hSw; go_split_ands; go_simp; try with_reducible rfl)); skip)
        | (refine wpAnyH_take (i := 2) (v := undef) rfl (by kernel_rfl) (by kernel_rfl) (by kernel_rfl) (fun _ _ _ h => h) (Or.inr ⟨?_, rfl⟩) (by assumption) ?_; (focus rfl))
      try simp only [Act.put, List.setIfInBounds_toArray, List.set_cons_zero, List.set_cons_succ, List.getElem_toArray, List.getElem_cons_zero, List.getElem_cons_succ]
      first
        | (refine wpAnyH_take (i := 3) (v := ?_) rfl (by kernel_rfl) (by kernel_rfl) (by kernel_rfl) (fun _ _ _ h => h) (Or.inl ⟨?_, ?_⟩) (by assumption) ?_; rotate_left; (focus rfl); (focus (intro w hSw; go_split_ands; go_simp; try with_reducible rfl)); skip)
        | (refine wpAnyH_take (i := 3) (v := undef) rfl (by kernel_rfl) (by kernel_rfl) (by kernel_rfl) (fun _ _ _ h => h) (Or.inr ⟨?_, rfl⟩) (by assumption) ?_; (focus rfl))
      try simp only [Act.put, List.setIfInBounds_toArray, List.set_cons_zero, List.set_cons_succ, List.getElem_toArray, List.getElem_cons_zero, List.getElem_cons_succ]
      first
        | (refine wpAnyH_take (i := 5) (v := ?_) rfl (by kernel_rfl) (by kernel_rfl) (by kernel_rfl) (fun _ _ _ h => h) (Or.inl ⟨?_, ?_⟩) (by assumption) ?_; rotate_left; (focus rfl); (focus (intro w hSw; go_split_ands; go_simp; try with_reducible rfl)); skip)
        | (refine wpAnyH_take (i := 5) (v := undef) rfl (by kernel_rfl) (by kernel_rfl) (by kernel_rfl) (fun _ _ _ h => h) (Or.inr ⟨?_, rfl⟩) (by assumption) ?_; (focus rfl))
      try simp only [Act.put, List.setIfInBounds_toArray, List.set_cons_zero, List.set_cons_succ, List.getElem_toArray, List.getElem_cons_zero, List.getElem_cons_succ]
      first
        | (refine wpAnyH_take (i := 6) (v := ?_) rfl (by kernel_rfl) (by kernel_rfl) (by kernel_rfl) (fun _ _ _ h => h) (Or.inl ⟨?_, ?_⟩) (by assumption) ?_; rotate_left; (focus rfl); (focus (intro w hSw; go_split_ands; go_simp; try with_reducible rfl)); skip)
        | (refine wpAnyH_take (i := 6) (v := undef) rfl (by kernel_rfl) (by kernel_rfl) (by kernel_rfl) (fun _ _ _ h => h) (Or.inr ⟨?_, rfl⟩) (by assumption) ?_; (focus rfl))
      try simp only [Act.put, List.setIfInBounds_toArray, List.set_cons_zero, List.set_cons_succ, List.getElem_toArray, List.getElem_cons_zero, List.getElem_cons_succ]
      first
        | (refine wpAnyH_take (i := 7) (v := ?_) rfl (by kernel_rfl) (by kernel_rfl) (by kernel_rfl) (fun _ _ _ h => h) (Or.inl ⟨?_, ?_⟩) (by assumption) ?_; rotate_left; (focus rfl); (focus (intro w hSw; go_split_ands; go_simp; try with_reducible rfl)); skip)
        | (refine wpAnyH_take (i := 7) (v := undef) rfl (by kernel_rfl) (by kernel_rfl) (by kernel_rfl) (fun _ _ _ h => h) (Or.inr ⟨?_, rfl⟩) (by assumption) ?_; (focus rfl))
      try simp only [Act.put, List.setIfInBounds_toArray, List.set_cons_zero, List.set_cons_succ, List.getElem_toArray, List.getElem_cons_zero, List.getElem_cons_succ]
      refine wpAnyH_ready (rs := [0]) (by kernel_rfl) (by simp) ?_
      refine AllReadyH.cons rfl (fun K hK => ?_) AllReadyH.nil
      go_simp
      refine hK.out _ _ trivial (fun hH => ?_)
      clear hK K
      try simp only [Act.put, List.setIfInBounds_toArray, List.set_cons_zero, List.set_cons_succ, List.getElem_toArray, List.getElem_cons_zero, List.getElem_cons_succ]
      refine wpAnyH_ready (rs := [4]) (by kernel_rfl) (by simp) ?_
      refine AllReadyH.cons rfl (fun K hK => ?_) AllReadyH.nil
      refine step_append_all rfl (.tmp 89) (.tmp 92) _ rfl w4.heap.size 3 _ 1 8 Tryd.underlying45 intInfo rfl (Nat.succ_pos 0) i64Row i64Row_length i64Row_one [] _ rfl O1.out (l.drop kt) w.heap.size _ (SLD.out _ (HB.out.trans (P1.out.mono hz4))) rfl (by simp; omega) (by omega) P1.out.size ?_
      intro v1 w5 p1 p2 p3 p4 p5
      have O2 := Lib.hid (show Own 1 i64Row 3 w4.heap.size w5 v1 (l.drop kt) from by simpa using p1)
      have P2 := Lib.hid (P1.out.trans p2)
      clear p1 p2 p3 p4 p5
      refine hK.out _ _ trivial (fun hH => ?_)
      clear hK K
      try simp only [Act.put, List.setIfInBounds_toArray, List.set_cons_zero, List.set_cons_succ, List.getElem_toArray, List.getElem_cons_zero, List.getElem_cons_succ]
      refine wpAnyH_ready (rs := [8]) (by kernel_rfl) (by simp) ?_
      refine AllReadyH.cons rfl (fun K hK => ?_) AllReadyH.nil
      refine step_append_all rfl (.tmp 93) (.tmp 96) _ rfl w4.heap.size 3 _ 1 8 Tryd.underlying45 intInfo rfl (Nat.succ_pos 0) i64Row i64Row_length i64Row_one (l.drop kt) _ rfl O2.out (l.take kt) w.heap.size _ (SLT.out _ (HB.out.trans (P2.out.mono hz4))) rfl (by simp; omega) (by omega) P2.out.size ?_
      intro v2 w6 p1 p2 p3 p4 p5
      have O3 := Lib.hid p1
      have P3 := Lib.hid (P2.out.trans p2)
      clear p1 p2 p3 p4 p5
      refine hK.out _ _ trivial (fun hH => ?_)
      clear hK K
      try simp only [Act.put, List.setIfInBounds_toArray, List.set_cons_zero, List.set_cons_succ, List.getElem_toArray, List.getElem_cons_zero, List.getElem_cons_succ]
      have hHeld2 := hH
      first
        | (refine wpAnyH_take (i := 9) (v := ?_) rfl (by kernel_rfl) (by kernel_rfl) (by kernel_rfl) (fun _ _ _ h => h) (Or.inl ⟨?_, ?_⟩) (by assumption) ?_; rotate_left; (focus rfl); (focus (intro w hSw; go_split_ands; go_simp; try with_reducible rfl)); skip)
        | (refine wpAnyH_take (i := 9) (v := undef) rfl (by kernel_rfl) (by kernel_rfl) (by kernel_rfl) (fun _ _ _ h => h) (Or.inr ⟨?_, rfl⟩) (by assumption) ?_; (focus rfl))
      try simp only [Act.put, List.setIfInBounds_toArray, List.set_cons_zero, List.set_cons_succ, List.getElem_toArray, List.getElem_cons_zero, List.getElem_cons_succ]
      refine wpAnyH_done (by kernel_rfl) ?_ _
      have HB6 := Lib.hid (HB.out.trans (P3.out.mono hz4))
      have HS15 := Lib.hid (O3.out.sl i64Row_length)
      clear O1 O2 O3 P1 P2 P3 SLD SLT kta ktc hck kt0
      have C15 := Lib.hid (fun (V : World) (p : Below w6.heap.size w6 V) => (by have h := majB (l.drop kt ++ l.take kt) v2 V (HS15.out.later p) (by simp; omega); rw [HTU.out kt] at h; exact h : Calls Tryd.prog 21 #[v2] V fun e w' => e = .returned (.int .i64 m) ∧ Below V.heap.size V w'))
      have HL6 := Lib.hid (HL.out.later HB6.out)
      obtain ⟨kw2, v2, v4, v6⟩ := KW.out
      go_upto_region 20 with fail
      clear kw2 v2 v4 v6
      have O4 := Lib.hid (Own.made 1 i64Row 3 w6)
      have hz6 : w6.heap.size ≤ (w6.alloc (.cells #[] 3)).heap.size := (below_new w6 (.cells #[] 3)).size
      go_upto_region 21 with (at_builtin; refine wpList_append_all _ rfl (.tmp 108) (.tmp 109) 45 rfl w6.heap.size 3 _ 1 8 Tryd.underlying45 intInfo rfl (Nat.succ_pos 0) i64Row i64Row_length i64Row_one [] _ rfl O4.out l (w6.alloc (.cells #[] 3)).heap.size _ (HL6.out.alloc (.cells #[] 3)) rfl (by unfold maxLen; simp; omega) (by simp; omega) hz6 ?_; intro v3 w7 q1 q2 q3 q4 q5)
      have O5 := Lib.hid (show Own 1 i64Row 3 w6.heap.size w7 v3 l from by simpa using q1)
      have P7 := Lib.hid (show Below w6.heap.size w6 w7 from (below_new _ _).trans q2)
      clear q1 q2 q3 q4 q5
      obtain ⟨g7, c7, rfl, hg7, hg7l, hfr⟩ := O5.out.place (by intro h; subst h; simp at d5)
      obtain ⟨x, hx⟩ : ∃ x, l[kw]? = some x := ⟨_, List.getElem?_eq_getElem (by omega)⟩
      have hc7 : w7.cell? ⟨g7, kw, none⟩ = some (.int .i64 x) := by
        obtain ⟨b9, off9, cap9, e9, -, -, -, h9⟩ := (O5.out.sl i64Row_length).cellAt (by intro h; subst h; simp at d5)
        simp only [Value.slice.injEq, Option.some.injEq, Addr.mk.injEq, and_true] at e9
        obtain ⟨⟨rfl, rfl⟩, -, -⟩ := e9
        simpa using h9 kw x hx 0 _ rfl
      have kw0 : (0 : Int) ≤ (kw : Int) := by omega
      have kwa : (kw : Int) < (l.length : Int) := by omega
      have HX := Lib.hid hx
      clear hx
      go_upto_region 22 with fail
      have O6 := Lib.hid (show Own 1 i64Row 3 w6.heap.size (w7.setCell ⟨g7, kw, none⟩ (.int .i64 (max x ri))) (.slice (some ⟨g7, 0, none⟩) l.length c7) (l.set kw (max x ri)) from by have h := O5.out.write i64Row_length (i := kw) (j := 0) (y := (max x ri)) (u := .int .i64 (max x ri)) HX.out rfl (by omega); simpa using h)
      have P8 := Lib.hid (show Below w6.heap.size w6 (w7.setCell ⟨g7, kw, none⟩ (.int .i64 (max x ri))) from below_set P7.out hg7)
      obtain ⟨w8, hw8⟩ : ∃ z, z = w7.setCell ⟨g7, kw, none⟩ (.int .i64 (max x ri)) := ⟨_, rfl⟩
      rw [← hw8] at O6 P8
      rw [← hw8]
      clear hw8 hc7 hfr
      obtain ⟨m2, hm2⟩ : ∃ z, medI (l.set kw (max x ri)) = z := ⟨_, rfl⟩
      have hmm : m ≤ m2 := by rw [← hm2]; exact HSE.out kw x (max x ri) HX.out (Int.le_max_left _ _)
      have hmd : decide (m ≤ m2) = true := decide_eq_true hmm
      have HS17 := Lib.hid (show Sl 1 i64Row w8.heap.size w8 (.slice (some ⟨g7, 0, none⟩) l.length c7) (l.set kw (max x ri)) from O6.out.sl i64Row_length)
      have C17 := Lib.hid (fun (V : World) (p : Below w8.heap.size w8 V) => (by have h := majB (l.set kw (max x ri)) _ V (HS17.out.later p) (by rw [List.length_set]; omega); rw [hm2] at h; exact h : Calls Tryd.prog 21 #[.slice (some ⟨g7, 0, none⟩) l.length c7] V fun e w' => e = .returned (.int .i64 m2) ∧ Below V.heap.size V w'))
      clear hm2
      go_wp2_with (first
        | (go_at_call 21; with_reducible refine (C15.out _ P8.out).mono ?_; rintro e w9 ⟨rfl, hb9⟩; have HB9 := Lib.hid hb9; clear hb9)
        | (go_at_call 21; with_reducible refine (C17.out _ HB9.out).mono ?_; rintro e w10 ⟨rfl, hb10⟩; have HBZ := Lib.hid (below_call HB9.out hb10); clear hb10))
      go_ret
      exact ⟨rfl, below_call (HB6.out.trans (P8.out.mono HB6.out.size)) HBZ.out⟩
end Go.Proofs.YtclphcbjdcdkfaaDoor
