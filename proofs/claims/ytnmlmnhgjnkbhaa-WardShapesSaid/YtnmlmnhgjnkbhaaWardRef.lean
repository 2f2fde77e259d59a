/-
  The document's ward (limpetref12: Right, in, Find, Worst), limpetlaw12.same: contracts.
-/
import Derived.Test.YtnmlmnhgjnkbhaaWardIdx
import Derived.Test.YtnmlmnhgjnkbhaaWardFind
import Derived.Deep.QuietTactic
set_option linter.unusedVariables false
set_option linter.unusedSimpArgs false
namespace Go.Proofs.Ytnmlmnhgjnkbhaa
open Go.RowKit

theorem belowN {w w' : World} (h : ∃ n, w' = w.drewN n) : Below w.heap.size w w' := by
  obtain ⟨n, rfl⟩ := h; exact below_drewN (Below.refl _ _) n
set_option maxHeartbeats 2000000 in
theorem same12 (l : List Wnt) (v v' : Value) (w : World) (h : Sl 3 wntRow w.heap.size w v l) (h' : Sl 3 wntRow w.heap.size w v' l) :
    Calls Try.prog 18 #[v, v'] w fun e w' => e = .returned (.bool true) ∧ ∃ n, w' = w.drewN n := by
  obtain ⟨A, cap, rfl, hlc, hcm, -, hA⟩ := h
  obtain ⟨A', cap', rfl, hlc', hcm', -, hA'⟩ := h'
  have hn : l.length ≤ 9223372036854775807 := by unfold maxLen at hcm; omega
  clear hcm hcm'
  go_enter Try.func18, Try.ntmps18
  go_wp2_with fail
  go_loopw [5] (fun i wr => ∃ k n : Nat, k ≤ l.length ∧ i = .int .i64 (k : Int) ∧ wr = w.drewN n) (fun i _ => l.length - (kOf i).toNat)
  case atStart => exact ⟨0, 0, by omega, rfl, rfl⟩
  case round =>
    obtain ⟨k, n, hk, rfl, rfl⟩ := hrel
    have i0 : (0 : Int) ≤ (k : Int) := by omega
    by_cases hlt : k < l.length
    · obtain ⟨b, off, rfl, hb, hcell⟩ := hA (by intro h; subst h; simp at hlt)
      obtain ⟨b', off', rfl, hb', hcell'⟩ := hA' (by intro h; subst h; simp at hlt)
      obtain ⟨x, hx⟩ : ∃ x, l[k]? = some x := ⟨_, List.getElem?_eq_getElem hlt⟩
      have c0 := hcell k x hx 0 _ rfl
      have c1 := hcell k x hx 1 _ rfl
      have c2 := hcell k x hx 2 _ rfl
      have e0 := hcell' k x hx 0 _ rfl
      have e1 := hcell' k x hx 1 _ rfl
      have e2 := hcell' k x hx 2 _ rfl
      simp only [Nat.add_zero] at c0 e0
      have i1 : (k : Int) < (l.length : Int) := by omega
      have d0 : decide ((k : Int) < (l.length : Int)) = true := decide_eq_true i1
      clear hcell hcell' hx hA hA'
      go_wp2_with fail
      go_quiet (fail)
      go_wp2_with fail
      go_roundw
      case rel => exact ⟨k + 1, _, by omega, by go_num, rfl⟩
      case measure => simp [kOf]; omega
    · have d0 : decide ((k : Int) < (l.length : Int)) = false := decide_eq_false (by omega)
      go_wp2_with fail
      go_ret
      exact ⟨rfl, n, rfl⟩

set_option maxHeartbeats 4000000 in
theorem rRight (l : List Wnt) (v : Value) (w : World) (h : Sl 3 wntRow w.heap.size w v l) :
    Calls Try.prog 17 #[v] w fun e w' => e = .returned (.bool (rightW l)) ∧ Below w.heap.size w w' := by
  obtain ⟨A, cap, rfl, hlc, hcm, -, hA⟩ := h
  have hn : l.length ≤ 9223372036854775807 := by unfold maxLen at hcm; omega
  have HA := Lib.hid hA
  clear hcm hA
  go_enter Try.func17, Try.ntmps17
  go_wp2_with fail
  go_loopw [3] (fun i wr => ∃ k : Nat, k ≤ l.length ∧ i = .int .i64 (k : Int) ∧ Below w.heap.size w wr ∧ rightW (l.take k) = true) (fun i _ => l.length - (kOf i).toNat)
  case atStart => exact ⟨0, by omega, rfl, Below.refl _ _, rfl⟩
  case round =>
    obtain ⟨k, hk, rfl, hB, hr⟩ := hrel
    have HR := Lib.hid hr
    have HB := Lib.hid hB
    clear hr hB
    have i0 : (0 : Int) ≤ (k : Int) := by omega
    by_cases hlt : k < l.length
    · obtain ⟨b, off, rfl, hb, hcell⟩ := HA.out (by intro h; subst h; simp at hlt)
      obtain ⟨x, hx⟩ : ∃ x, l[k]? = some x := ⟨_, List.getElem?_eq_getElem hlt⟩
      have c0 : wr.cell? ⟨b, off + k * 3, none⟩ = some (.int .i64 x.blk) := (HB.out.cell (p := ⟨b, off + k * 3 + 0, none⟩) hb).trans (hcell k x hx 0 _ rfl)
      have i1 : (k : Int) < (l.length : Int) := by omega
      have d0 : decide ((k : Int) < (l.length : Int)) = true := decide_eq_true i1
      have HX := Lib.hid hx
      by_cases hlow : x.blk < 0
      · have g0 : decide (x.blk < 0) = true := decide_eq_true hlow
        have HF := Lib.hid (rightR_bad_low HX.out hlow)
        clear hcell hx hlow
        go_wp2_with fail
        go_quiet (fail)
        go_wp2_with fail
        go_ret
        exact ⟨ret_bool HF.out.symm, below_drewN HB.out _⟩
      · have g0 : decide (x.blk < 0) = false := decide_eq_false hlow
        have g0' : ¬ x.blk < 0 := hlow
        by_cases hk0 : k = 0
        · have HF := Lib.hid (show rightW (l.take (k + 1)) = true by have h := HX.out; rw [hk0] at h ⊢; exact rightR_first h (by omega))
          have k0 : decide ((0 : Int) < (k : Int)) = false := decide_eq_false (by omega)
          have k0' : (k : Int) ≤ 0 := by omega
          have k0n : decide (0 < k) = false := decide_eq_false (by omega)
          clear hcell hx hlow hk0
          go_wp2_with fail
          go_quiet (fail)
          go_wp2_with fail
          go_roundw
          case rel => exact ⟨k + 1, by omega, by go_num, below_drewN HB.out _, HF.out⟩
          case measure => simp [kOf]; omega
        · obtain ⟨j, rfl⟩ : ∃ j, k = j + 1 := ⟨k - 1, by omega⟩
          obtain ⟨y, hy⟩ : ∃ y, l[j]? = some y := ⟨_, List.getElem?_eq_getElem (by omega)⟩
          have c1 : wr.cell? ⟨b, off + j * 3, none⟩ = some (.int .i64 y.blk) := (HB.out.cell (p := ⟨b, off + j * 3 + 0, none⟩) hb).trans (hcell j y hy 0 _ rfl)
          have HY := Lib.hid hy
          have k0 : decide ((0 : Int) < ((j + 1 : Nat) : Int)) = true := decide_eq_true (by omega)
          have k1 : (0 : Int) < ((j + 1 : Nat) : Int) := by omega
          have k2 : wrap64 (((j + 1 : Nat) : Int) - 1) = (j : Int) := by unfold wrap64; omega
          have k3 : (0 : Int) ≤ (j : Int) := by omega
          have k4 : (j : Int) < (l.length : Int) := by omega
          by_cases hle : x.blk ≤ y.blk
          · have g1 : decide (x.blk ≤ y.blk) = true := decide_eq_true hle
            have HF := Lib.hid (rightR_bad_ris HX.out HY.out hle)
            clear hcell hx hy hlow hle hk0
            go_wp2_with fail
            go_quiet (fail)
            go_wp2_with fail
            go_ret
            exact ⟨ret_bool HF.out.symm, below_drewN HB.out _⟩
          · have g1 : decide (x.blk ≤ y.blk) = false := decide_eq_false hle
            have HF := Lib.hid (rightR_next HX.out HY.out HR.out (by omega))
            clear hcell hx hy hlow hle hk0
            go_wp2_with fail
            go_quiet (fail)
            go_wp2_with fail
            go_roundw
            case rel => exact ⟨j + 2, by omega, by go_num, below_drewN HB.out _, HF.out⟩
            case measure => simp [kOf]; omega
    · have d0 : decide ((k : Int) < (l.length : Int)) = false := decide_eq_false (by omega)
      have hke : k = l.length := by omega
      have HF := Lib.hid (show rightW l = true by have h := HR.out; rw [hke, List.take_length] at h; exact h)
      clear hke
      go_wp2_with fail
      go_ret
      exact ⟨ret_bool HF.out.symm, HB.out⟩
end Go.Proofs.Ytnmlmnhgjnkbhaa
