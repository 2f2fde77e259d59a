/-
  ward's put: contract.
-/
import Derived.Test.YtnmlmnhgjnkbhaaWard
import Derived.Maps.Own
set_option linter.unusedVariables false
set_option linter.unusedSimpArgs false
namespace Go.Proofs.Ytnmlmnhgjnkbhaa
open Go.RowKit

theorem intK : Try.prog.underlying 3 = some (.int .i64) := Try.underlying3
abbrev MapW (w : World) (b n : Nat) (f : WMap) : Prop := MapAt Try.prog 3 w b n f
set_option maxHeartbeats 2000000 in
theorem wardPut (B b n : Nat) (f : WMap) (l : List Wnt) (v : Value) (w : World) (h : Sl 3 wntRow B w v l) (hin : ∀ x ∈ l, J64 x.blk) (hm : MapW w b n f) (hb : B ≤ b) (hn : n + l.length ≤ 100000) :
    Calls Try.prog 27 #[.map (some b), v] w fun e w' => e = .returned (.map (some b)) ∧ MapW w' b (n + l.length) (putF f l) ∧ Below B w w' := by
  obtain ⟨A, cap, rfl, hlc, hcm, -, hA⟩ := id h
  have hln : l.length ≤ 9223372036854775807 := by unfold maxLen at hcm; omega
  have HA := Lib.hid hA
  have HIN := Lib.hid hin
  have HM := Lib.hid hm
  clear h hA hcm hin hm
  go_enter Try.func27, Try.ntmps27
  go_wp2_with fail
  go_loopw [9] (fun i wr => ∃ k : Nat, k ≤ l.length ∧ i = .int .i64 (k : Int) ∧ MapW wr b (n + k) (putF f (l.take k)) ∧ Below B w wr) (fun i _ => l.length - (iOf i).toNat)
  case atStart => exact ⟨0, by omega, rfl, HM.out, Below.refl _ _⟩
  case round =>
    obtain ⟨k, hk, rfl, hmr, hB⟩ := hrel
    have HMR := Lib.hid hmr
    have HB := Lib.hid hB
    clear hmr hB
    have i0 : (0 : Int) ≤ (k : Int) := by omega
    by_cases hlt : k < l.length
    · have i1 : (k : Int) < (l.length : Int) := by omega
      have d0 : decide ((k : Int) < (l.length : Int)) = true := decide_eq_true i1
      have d0' : decide (k < l.length) = true := decide_eq_true hlt
      obtain ⟨b2, off, rfl, hb2, hcell⟩ := HA.out (by intro h; subst h; simp at hlt)
      obtain ⟨x, hx⟩ : ∃ x, l[k]? = some x := ⟨_, List.getElem?_eq_getElem hlt⟩
      have c0 : wr.cell? ⟨b2, off + k * 3, none⟩ = some (.int .i64 x.blk) := (HB.out.cell (p := ⟨b2, off + k * 3 + 0, none⟩) hb2).trans (hcell k x hx 0 _ rfl)
      have c1 : wr.cell? ⟨b2, off + k * 3 + 1, none⟩ = some (.int .i64 x.knd) := (HB.out.cell (p := ⟨b2, off + k * 3 + 1, none⟩) hb2).trans (hcell k x hx 1 _ rfl)
      have c2 : wr.cell? ⟨b2, off + k * 3 + 2, none⟩ = some (.int .i64 x.num) := (HB.out.cell (p := ⟨b2, off + k * 3 + 2, none⟩) hb2).trans (hcell k x hx 2 _ rfl)
      obtain ⟨w2, hr, hm2, ht⟩ := (HMR.out.later (below_new wr (.cells #[.int .i64 x.blk, .int .i64 x.knd, .int .i64 x.num] 41))).store intK (t := 50) (e := 41) Try.underlying50 (by unfold maxLen; omega) x (HIN.out x (List.mem_of_getElem? hx))
      have hrun : (Instr.mapUpdate 50 (.map (some b)) (.int .i64 x.blk) (.agg #[.int .i64 x.blk, .int .i64 x.knd, .int .i64 x.num])).run Try.prog (wr.alloc (.cells #[.int .i64 x.blk, .int .i64 x.knd, .int .i64 x.num] 41)) = .ok () w2 := hr
      have HM2 := Lib.hid (show MapW w2 b (n + (k + 1)) (putF f (l.take (k + 1))) by rw [putF_take hx]; exact hm2)
      have HB2 := Lib.hid (show Below B w w2 from HB.out.trans (((below_new wr _).mono (by have := HB.out.size; have := HM.out.lt; omega)).trans (grown_below ht.grown (by simp; have := HMR.out.lt; omega) (by intro g hg; simp at hg; omega))))
      clear hcell hx hr hm2 ht
      go_wp2_with fail
      go_roundw
      case rel => exact ⟨k + 1, by omega, by go_num, HM2.out, HB2.out⟩
      case measure => simp [iOf]; omega
    · have d0 : decide ((k : Int) < (l.length : Int)) = false := decide_eq_false (by omega)
      have d0' : decide (k < l.length) = false := decide_eq_false hlt
      have hke : k = l.length := by omega
      have HF := Lib.hid (show MapW wr b (n + l.length) (putF f l) by have h := HMR.out; rw [hke, List.take_length] at h; exact h)
      clear hke
      go_wp2_with fail
      go_ret
      exact ⟨rfl, HF.out, HB.out⟩
end Go.Proofs.Ytnmlmnhgjnkbhaa
