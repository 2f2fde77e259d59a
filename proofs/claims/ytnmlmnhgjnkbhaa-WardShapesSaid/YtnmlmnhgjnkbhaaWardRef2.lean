/-
  The document's ward (limpetref12: in, Find, Worst): contracts.
-/
import Derived.Test.YtnmlmnhgjnkbhaaWardRef
import Derived.Test.YtnmlmnhgjnkbhaaWardWorst
import Derived.Test.YtnmlmnhgjnkbhaaKitInts
set_option linter.unusedVariables false
set_option linter.unusedSimpArgs false
namespace Go.Proofs.Ytnmlmnhgjnkbhaa
open Go.RowKit

set_option maxHeartbeats 2000000 in
theorem rIn (l : List Int) (x : Int) (v : Value) (w : World) (h : Sl 1 i64Row w.heap.size w v l) :
    Calls Try.prog 30 #[v, .int .i64 x] w fun e w' => e = .returned (.bool (decide (x ∈ l))) ∧ w = w' := by
  obtain ⟨A, cap, rfl, hlc, hcm, -, hA⟩ := h
  have hn : l.length ≤ 9223372036854775807 := by unfold maxLen at hcm; omega
  have HA := Lib.hid hA
  clear hcm hA
  go_enter Try.func30, Try.ntmps30
  go_wp2_with fail
  go_loop [5] (fun i => ∃ k : Nat, k ≤ l.length ∧ i = .int .i64 (k : Int) ∧ x ∉ l.take k) (fun i => l.length - (kOf i).toNat)
  case atStart => exact ⟨0, by omega, rfl, by simp⟩
  case round =>
    obtain ⟨k, hk, rfl, hno⟩ := hrel
    have HNO := Lib.hid hno
    clear hno
    have i0 : (0 : Int) ≤ (k : Int) := by omega
    by_cases hlt : k < l.length
    · obtain ⟨b, off, rfl, hb, hcell⟩ := HA.out (by intro h; subst h; simp at hlt)
      obtain ⟨y, hy⟩ : ∃ y, l[k]? = some y := ⟨_, List.getElem?_eq_getElem hlt⟩
      have c0 : w.cell? ⟨b, off + k, none⟩ = some (.int .i64 y) := by simpa using hcell k y hy 0 _ rfl
      have i1 : (k : Int) < (l.length : Int) := by omega
      have d0 : decide ((k : Int) < (l.length : Int)) = true := decide_eq_true i1
      have HY := Lib.hid hy
      clear hcell hy
      by_cases hxy : y = x
      · have e1 : (y == x) = true := by simpa using hxy
        have HM := Lib.hid (show x ∈ l by rw [← hxy]; exact List.mem_of_getElem? HY.out)
        clear hxy
        go_wp2_with fail
        go_ret
        exact ⟨ret_bool (decide_eq_true HM.out).symm, rfl⟩
      · have e1 : (y == x) = false := by simpa using hxy
        have HM := Lib.hid (in_step HY.out hxy HNO.out)
        clear hxy
        go_wp2_with fail
        go_roundw
        case rel => exact ⟨k + 1, by omega, by go_num, HM.out⟩
        case measure => simp [kOf]; omega
    · have d0 : decide ((k : Int) < (l.length : Int)) = false := decide_eq_false (by omega)
      have hke : k = l.length := by omega
      have HM := Lib.hid (show x ∉ l by have h := HNO.out; rw [hke, List.take_length] at h; exact h)
      clear hke
      go_wp2_with fail
      go_ret
      exact ⟨ret_bool (decide_eq_false HM.out).symm, rfl⟩

set_option maxRecDepth 100000 in
set_option maxHeartbeats 4000000 in
theorem rFind (l : List Wnt) (v : Value) (n : Int) (w : World) (h : Sl 3 wntRow w.heap.size w v l) :
    Calls Try.prog 21 #[v, .int .i64 n] w fun e w' => e = .returned (.tuple #[wntV (findR l n).1, .int .i64 (findR l n).2]) ∧ Below w.heap.size w w' := by
  obtain ⟨A, cap, rfl, hlc, hcm, -, hA⟩ := id h
  have hln : l.length ≤ 9223372036854775807 := by unfold maxLen at hcm; omega
  have HA := Lib.hid hA
  have HXz := Lib.hid (Box.new w #[.int .i64 0, .int .i64 0, .int .i64 0] 41)
  have HB0 := Lib.hid (below_new w (.cells #[.int .i64 0, .int .i64 0, .int .i64 0] 41))
  obtain ⟨W, hW⟩ : ∃ W, W = w.alloc (.cells #[.int .i64 0, .int .i64 0, .int .i64 0] 41) := ⟨_, rfl⟩
  have HE := Lib.hid hW
  rw [← hW] at HXz HB0
  have hzW : W.heap.size = w.heap.size + 1 := by rw [hW]; simp
  have HC := Lib.hid (rRight l _ W (h.later HB0.out))
  clear h hW hcm hA
  cases hr : rightW l with
  | false =>
    rw [hr] at HC
    have HF := Lib.hid (show findR l n = (⟨0, 0, 0⟩, 2) by unfold findR; rw [hr]; rfl)
    clear hr
    go_enter Try.func21, Try.ntmps21
    go_upto_region 1 with fail
    rw [← HE.out]
    go_wp2_with (go_at_call 17; (with_reducible refine HC.out.mono ?_); rintro e w1 ⟨rfl, hb1⟩; obtain ⟨k1, f1, z1⟩ := (HXz.out.later hb1).facts)
    refine bodyPost_boxW ((HXz.out.later hb1).set3w _ _ _) (below_set3 (below_call HB0.out hb1) (n := w.heap.size) (Nat.le_refl _) _ _ _) ?_
    intro wz hz1 hz2
    obtain ⟨kz, -, -⟩ := hz1.facts
    exact bodyPost_ret (v := .tuple #[.agg #[.int .i64 0, .int .i64 0, .int .i64 0], .int .i64 2]) (by simp [results, Try.results21, go_sem, kz]) rfl ⟨by rw [HF.out]; rfl, hz2⟩
  | true =>
    rw [hr] at HC
    have HR := Lib.hid hr
    clear hr
    go_enter Try.func21, Try.ntmps21
    go_upto_region 1 with fail
    rw [← HE.out]
    go_wp2_with (go_at_call 17; (with_reducible refine HC.out.mono ?_); rintro e w1 ⟨rfl, hb1⟩; have HB1 := Lib.hid (below_call HB0.out hb1); have HX1 := Lib.hid (HXz.out.later hb1); clear hb1)
    obtain ⟨k1, f1, z1⟩ := HX1.out.facts
    clear HC HXz HB0 HE hzW
    go_loopw [6] (fun i wr => ∃ k : Nat, k ≤ l.length ∧ i = .int .i64 (k : Int) ∧ NoB l n k ∧ w1 = wr) (fun i _ => l.length - (kOf i).toNat)
    case atStart => exact ⟨0, by omega, rfl, noB_zero _ _, rfl⟩
    case round =>
      obtain ⟨k, hk, rfl, hno, rfl⟩ := hrel
      have HNO := Lib.hid hno
      have i0 : (0 : Int) ≤ (k : Int) := by omega
      clear hno
      by_cases hlt : k < l.length
      · obtain ⟨b, off, rfl, hb, hcell⟩ := HA.out (by intro h; subst h; simp at hlt)
        obtain ⟨x, hx⟩ : ∃ x, l[k]? = some x := ⟨_, List.getElem?_eq_getElem hlt⟩
        have c0 : w1.cell? ⟨b, off + k * 3, none⟩ = some (.int .i64 x.blk) := (HB1.out.cell (p := ⟨b, off + k * 3 + 0, none⟩) hb).trans (hcell k x hx 0 _ rfl)
        have c1 : w1.cell? ⟨b, off + k * 3 + 1, none⟩ = some (.int .i64 x.knd) := (HB1.out.cell (p := ⟨b, off + k * 3 + 1, none⟩) hb).trans (hcell k x hx 1 _ rfl)
        have c2 : w1.cell? ⟨b, off + k * 3 + 2, none⟩ = some (.int .i64 x.num) := (HB1.out.cell (p := ⟨b, off + k * 3 + 2, none⟩) hb).trans (hcell k x hx 2 _ rfl)
        have i1 : (k : Int) < (l.length : Int) := by omega
        have d0 : decide ((k : Int) < (l.length : Int)) = true := decide_eq_true i1
        have HX := Lib.hid hx
        clear hcell hx
        by_cases hxn : x.blk = n
        · have e1 : (x.blk == n) = true := by simpa using hxn
          have HF := Lib.hid (show findR l n = (x, 0) by unfold findR; rw [HR.out, noB_hit HX.out HNO.out hxn]; rfl)
          clear hxn
          go_wp2_with fail
          refine bodyPost_boxW (HX1.out.set3w _ _ _) (below_set3 HB1.out (n := w.heap.size) (Nat.le_refl _) _ _ _) ?_
          intro wz hz1 hz2
          obtain ⟨kz, -, -⟩ := hz1.facts
          exact bodyPost_ret (v := .tuple #[.agg #[.int .i64 x.blk, .int .i64 x.knd, .int .i64 x.num], .int .i64 0]) (by simp [results, Try.results21, go_sem, kz]) rfl ⟨by rw [HF.out]; rfl, hz2⟩
        · have e1 : (x.blk == n) = false := by simpa using hxn
          have HN2 := Lib.hid (noB_step HX.out HNO.out hxn)
          clear hxn
          go_wp2_with fail
          go_roundw
          case rel => exact ⟨k + 1, by omega, by go_num, HN2.out, by trivial⟩
          case measure => simp [kOf]; omega
      · have d0 : decide ((k : Int) < (l.length : Int)) = false := decide_eq_false (by omega)
        have HF := Lib.hid (show findR l n = (⟨0, 0, 0⟩, 7) by
          have h := HNO.out
          rw [show k = l.length by omega] at h
          unfold findR; rw [HR.out, noB_all h]; rfl)
        go_wp2_with fail
        refine bodyPost_boxW (HX1.out.set3w _ _ _) (below_set3 HB1.out (n := w.heap.size) (Nat.le_refl _) _ _ _) ?_
        intro wz hz1 hz2
        obtain ⟨kz, -, -⟩ := hz1.facts
        exact bodyPost_ret (v := .tuple #[.agg #[.int .i64 0, .int .i64 0, .int .i64 0], .int .i64 7]) (by simp [results, Try.results21, go_sem, kz]) rfl ⟨by rw [HF.out]; rfl, hz2⟩

set_option maxRecDepth 100000 in
set_option maxHeartbeats 4000000 in
theorem rWorst (l : List Wnt) (v : Value) (w : World) (h : Sl 3 wntRow w.heap.size w v l) :
    Calls Try.prog 15 #[v] w fun e w' => e = .returned (.tuple #[.int .i64 (worstR l).1, .int .i64 (worstR l).2]) ∧ Below w.heap.size w w' := by
  obtain ⟨A, cap, rfl, hlc, hcm, -, hA⟩ := id h
  have hln : l.length ≤ 9223372036854775807 := by unfold maxLen at hcm; omega
  have HA := Lib.hid hA
  have HC := Lib.hid (rRight l _ w h)
  clear h hcm hA
  cases hr : rightW l with
  | false =>
    rw [hr] at HC
    have HR := Lib.hid (show worstR l = (0, 2) by unfold worstR; rw [hr]; rfl)
    clear hr
    go_enter Try.func15, Try.ntmps15
    go_wp2_with (go_at_call 17; (with_reducible refine HC.out.mono ?_); rintro e w1 ⟨rfl, hb1⟩)
    go_ret2
    exact ⟨by rw [HR.out]; rfl, hb1⟩
  | true =>
    rw [hr] at HC
    have HR := Lib.hid (show worstR l = (worstV l, 0) by unfold worstR; rw [hr]; rfl)
    clear hr
    go_enter Try.func15, Try.ntmps15
    go_wp2_with (go_at_call 17; (with_reducible refine HC.out.mono ?_); rintro e w1 ⟨rfl, hb1⟩; have HB1 := Lib.hid (below_call hb1 (below_new w1 (.cells #[.int .i64 1, .int .i64 2, .int .i64 3, .int .i64 8, .int .i64 7, .int .i64 5, .int .i64 4, .int .i64 6] 24))); have HX1 := Lib.hid (Box.new w1 #[.int .i64 1, .int .i64 2, .int .i64 3, .int .i64 8, .int .i64 7, .int .i64 5, .int .i64 4, .int .i64 6] 24); clear hb1)
    obtain ⟨W1, hW1⟩ : ∃ z, z = w1.alloc (.cells #[.int .i64 1, .int .i64 2, .int .i64 3, .int .i64 8, .int .i64 7, .int .i64 5, .int .i64 4, .int .i64 6] 24) := ⟨_, rfl⟩
    obtain ⟨gk, hgk⟩ : ∃ z, z = w1.heap.size := ⟨_, rfl⟩
    rw [← hW1] at HX1 HB1
    rw [← hgk] at HX1
    rw [← hW1, ← hgk]
    clear hW1 hgk HC
    go_loopw [5, 6] (fun i _ wr => ∃ k : Nat, k ≤ 8 ∧ i = .int .i64 (k : Int) ∧ (∀ x ∈ kindsW.take k, hasK l x = false) ∧ Box wr gk #[.int .i64 1, .int .i64 2, .int .i64 3, .int .i64 8, .int .i64 7, .int .i64 5, .int .i64 4, .int .i64 6] 24 ∧ Below w.heap.size w wr) (fun i _ _ => 9 - (kOf i).toNat)
    case atStart => exact ⟨0, by omega, rfl, by simp, HX1.out, HB1.out⟩
    case round =>
      clear HX1 HB1
      obtain ⟨k, hk, rfl, hno, hx, hB⟩ := hrel
      have HNO := Lib.hid hno
      have HX := Lib.hid hx
      have HB := Lib.hid hB
      have i0 : (0 : Int) ≤ (k : Int) := by omega
      clear hno hx hB
      by_cases hlt : k < 8
      · have i1 : (k : Int) < 8 := by omega
        have d0 : decide ((k : Int) < 8) = true := decide_eq_true i1
        obtain ⟨c, hc, hcb⟩ : ∃ c, kindsW[k]? = some c ∧ ∀ W, Box W gk #[.int .i64 1, .int .i64 2, .int .i64 3, .int .i64 8, .int .i64 7, .int .i64 5, .int .i64 4, .int .i64 6] 24 → W.cell? ⟨gk, k, none⟩ = some (.int .i64 c) := by
          rcases (show k = 0 ∨ k = 1 ∨ k = 2 ∨ k = 3 ∨ k = 4 ∨ k = 5 ∨ k = 6 ∨ k = 7 by omega) with rfl | rfl | rfl | rfl | rfl | rfl | rfl | rfl
          · exact ⟨1, rfl, fun W h => h.cell 0⟩
          · exact ⟨2, rfl, fun W h => h.cell 1⟩
          · exact ⟨3, rfl, fun W h => h.cell 2⟩
          · exact ⟨8, rfl, fun W h => h.cell 3⟩
          · exact ⟨7, rfl, fun W h => h.cell 4⟩
          · exact ⟨5, rfl, fun W h => h.cell 5⟩
          · exact ⟨4, rfl, fun W h => h.cell 6⟩
          · exact ⟨6, rfl, fun W h => h.cell 7⟩
        have HCK := Lib.hid hc
        have HCB := Lib.hid hcb
        clear hc hcb
        go_wp2_with fail
        go_loopw [6] (fun j wr => ∃ m : Nat, m ≤ l.length ∧ j = .int .i64 (m : Int) ∧ hasK (l.take m) c = false ∧ Box wr gk #[.int .i64 1, .int .i64 2, .int .i64 3, .int .i64 8, .int .i64 7, .int .i64 5, .int .i64 4, .int .i64 6] 24 ∧ Below w.heap.size w wr) (fun j _ => l.length - (kOf j).toNat)
        case atStart => exact ⟨0, by omega, rfl, rfl, HX.out, HB.out⟩
        case round =>
          clear HX HB
          obtain ⟨m, hm, rfl, hh, hx, hB⟩ := hrel
          have HH := Lib.hid hh
          have HX := Lib.hid hx
          have HB := Lib.hid hB
          have j0 : (0 : Int) ≤ (m : Int) := by omega
          clear hh hx hB
          by_cases hml : m < l.length
          · obtain ⟨b, off, rfl, hb, hcell⟩ := HA.out (by intro h; subst h; simp at hml)
            obtain ⟨x, hx⟩ : ∃ x, l[m]? = some x := ⟨_, List.getElem?_eq_getElem hml⟩
            have c0 : wr.cell? ⟨b, off + m * 3 + 1, none⟩ = some (.int .i64 x.knd) := (HB.out.cell (p := ⟨b, off + m * 3 + 1, none⟩) hb).trans (hcell m x hx 1 _ rfl)
            have c1 := HCB.out wr HX.out
            have j1 : (m : Int) < (l.length : Int) := by omega
            have d1 : decide ((m : Int) < (l.length : Int)) = true := decide_eq_true j1
            have HXM := Lib.hid hx
            clear hcell hx
            by_cases hkc : x.knd = c
            · have e1 : (x.knd == c) = true := by simpa using hkc
              have HF := Lib.hid (worst_at HCK.out HNO.out (hasK_yes HXM.out hkc))
              clear hkc
              go_wp2_with fail
              go_quiet (fail)
              go_wp2_with fail
              go_ret2
              exact ⟨by rw [HR.out, HF.out]; rfl, below_drewN HB.out _⟩
            · have e1 : (x.knd == c) = false := by simpa using hkc
              have HS := Lib.hid (show hasK (l.take (m + 1)) c = false by rw [hasK_take HXM.out, HH.out, decide_eq_false hkc]; rfl)
              clear hkc
              go_wp2_with fail
              go_quiet (fail)
              go_wp2_with fail
              go_roundw
              case rel => exact ⟨m + 1, by omega, by go_num, HS.out, HX.out, below_drewN HB.out _⟩
              case measure => simp [kOf]; omega
          · have d1 : decide ((m : Int) < (l.length : Int)) = false := decide_eq_false (by omega)
            have HS := Lib.hid (noK_step HCK.out HNO.out (by have h := HH.out; rw [show m = l.length by omega, List.take_length] at h; exact h))
            go_wp2_with fail
            go_roundw
            case rel => exact ⟨k + 1, by omega, by go_num, HS.out, HX.out, HB.out⟩
            case measure => simp [kOf]; omega
      · have d0 : decide ((k : Int) < 8) = false := decide_eq_false (by omega)
        have HF := Lib.hid (worst_none (l := l) (by have h := HNO.out; rw [show k = kindsW.length by show k = 8; omega, List.take_length] at h; exact h))
        go_wp2_with fail
        go_ret2
        exact ⟨by rw [HR.out, HF.out]; rfl, HB.out⟩
end Go.Proofs.Ytnmlmnhgjnkbhaa
