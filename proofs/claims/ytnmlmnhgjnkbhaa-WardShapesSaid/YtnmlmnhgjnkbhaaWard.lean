/-
  ward's checked, wrong, Right: contracts.
-/
import Derived.Test.YtnmlmnhgjnkbhaaErrWard
import Derived.Test.YtnmlmnhgjnkbhaaWardMap
import Derived.Test.YtnmlmnhgjnkbhaaAppend
import Derived.Test.YtnmlmnhgjnkbhaaSmallKit
set_option linter.unusedVariables false
set_option linter.unusedSimpArgs false
namespace Go.Proofs.Ytnmlmnhgjnkbhaa
open Go.RowKit

def iOf : Value → Int | .int _ q => q | _ => 0
/-- An error of wants, or none. -/
def chkV (l : List Wnt) (x : Wnt) : Value := if rightW l = true then .nilIface else .iface 78 (.agg #[.int .i64 x.blk, .int .i64 x.knd, .int .i64 x.num, .int .i64 2])
set_option maxHeartbeats 2000000 in
theorem wardChecked (l : List Wnt) (v : Value) (w : World) (h : Sl 3 wntRow w.heap.size w v l) :
    Calls Try.prog 36 #[v] w fun e w' => (∃ x, e = .returned (chkV l x)) ∧ Below w.heap.size w w' := by
  obtain ⟨A, cap, rfl, hlc, hcm, -, hA⟩ := id h
  have hn : l.length ≤ 9223372036854775807 := by unfold maxLen at hcm; omega
  have HA := Lib.hid hA
  clear h hA hcm
  go_enter Try.func36, Try.ntmps36
  go_wp2_with fail
  go_loopw [3, 8] (fun t i wr => ∃ k : Nat, k ≤ l.length ∧ i = .int .i64 (k : Int) ∧ t = .int .i64 (lastB (-1) (l.take k)) ∧ rightF (-1) (l.take k) = true ∧ Below w.heap.size w wr) (fun _ i _ => l.length - (iOf i).toNat)
  case atStart => exact ⟨0, by omega, rfl, rfl, rfl, Below.refl _ _⟩
  case round =>
    obtain ⟨k, hk, rfl, rfl, hr, hB⟩ := hrel
    have HR := Lib.hid hr
    have HB := Lib.hid hB
    clear hr hB
    have i0 : (0 : Int) ≤ (k : Int) := by omega
    obtain ⟨la, hla⟩ : ∃ a, lastB (-1) (l.take k) = a := ⟨_, rfl⟩
    rw [hla]
    have HLA := Lib.hid hla
    clear hla
    by_cases hlt : k < l.length
    · have i1 : (k : Int) < (l.length : Int) := by omega
      have d0 : decide ((k : Int) < (l.length : Int)) = true := decide_eq_true i1
      have d0' : decide (k < l.length) = true := decide_eq_true hlt
      obtain ⟨b, off, rfl, hb, hcell⟩ := HA.out (by intro h; subst h; simp at hlt)
      obtain ⟨x, hx⟩ : ∃ x, l[k]? = some x := ⟨_, List.getElem?_eq_getElem hlt⟩
      have c0 : wr.cell? ⟨b, off + k * 3, none⟩ = some (.int .i64 x.blk) := (HB.out.cell (p := ⟨b, off + k * 3 + 0, none⟩) hb).trans (hcell k x hx 0 _ rfl)
      have c1 : wr.cell? ⟨b, off + k * 3 + 1, none⟩ = some (.int .i64 x.knd) := (HB.out.cell (p := ⟨b, off + k * 3 + 1, none⟩) hb).trans (hcell k x hx 1 _ rfl)
      have c2 : wr.cell? ⟨b, off + k * 3 + 2, none⟩ = some (.int .i64 x.num) := (HB.out.cell (p := ⟨b, off + k * 3 + 2, none⟩) hb).trans (hcell k x hx 2 _ rfl)
      have HX := Lib.hid hx
      have HBn := Lib.hid (below_call HB.out (below_new wr (.cells #[.int .i64 x.blk, .int .i64 x.knd, .int .i64 x.num] 41)))
      clear hcell hx
      by_cases hc : x.blk ≤ la
      · have g0 : decide (x.blk ≤ la) = true := decide_eq_true hc
        have HF := Lib.hid (right_stop HX.out (by rw [HLA.out]; exact hc))
        clear hc
        go_wp2_with fail
        go_ret
        exact ⟨⟨x, by unfold chkV; rw [HF.out]; rfl⟩, HBn.out⟩
      · have g0 : decide (x.blk ≤ la) = false := decide_eq_false hc
        have HS := Lib.hid (right_step HX.out HR.out (by rw [HLA.out]; omega))
        have HL1 := Lib.hid (show lastB (-1) (l.take (k + 1)) = x.blk from HS.out.2)
        clear hc
        go_wp2_with fail
        go_roundw
        case rel => exact ⟨k + 1, by omega, by go_num, by rw [HL1.out], HS.out.1, HBn.out⟩
        case measure => simp [iOf]; omega
    · have d0 : decide ((k : Int) < (l.length : Int)) = false := decide_eq_false (by omega)
      have d0' : decide (k < l.length) = false := decide_eq_false hlt
      have hke : k = l.length := by omega
      have HF := Lib.hid (show rightW l = true by have h := HR.out; rw [hke, List.take_length] at h; exact h)
      clear hke
      go_wp2_with fail
      go_ret
      exact ⟨⟨⟨0, 0, 0⟩, by unfold chkV; rw [HF.out]; rfl⟩, HB.out⟩

set_option maxHeartbeats 1000000 in
theorem wardWrong (l : List Wnt) (v : Value) (w : World) (h : Sl 3 wntRow w.heap.size w v l) :
    Calls Try.prog 25 #[v] w fun e w' => e = .returned (.bool (!rightW l)) ∧ Below w.heap.size w w' := by
  have HS := Lib.hid h
  clear h
  cases hr : rightW l with
  | true =>
    have HR := Lib.hid hr
    clear hr
    have HC : Hid (Calls Try.prog 36 #[v] w fun e w' => e = .returned .nilIface ∧ Below w.heap.size w w') := (wardChecked l v w HS.out).mono fun e w' ⟨⟨x, he⟩, hb⟩ => ⟨by rw [he]; unfold chkV; rw [HR.out]; rfl, hb⟩
    go_enter Try.func25, Try.ntmps25
    go_wp2_with (first
      | (go_at_call 36; (with_reducible refine HC.out.mono ?_); rintro e w1 ⟨rfl, hb1⟩)
      | (go_at_call 35; (with_reducible refine (WarE.is_nil 2 w1).mono ?_); rintro e w2 ⟨rfl, rfl⟩))
    go_ret
    exact ⟨rfl, hb1⟩
  | false =>
    have HR := Lib.hid hr
    clear hr
    have HC : Hid (Calls Try.prog 36 #[v] w fun e w' => ∃ x : Wnt, e = .returned (.iface 78 (.agg #[.int .i64 x.blk, .int .i64 x.knd, .int .i64 x.num, .int .i64 2])) ∧ Below w.heap.size w w') := (wardChecked l v w HS.out).mono fun e w' ⟨⟨x, he⟩, hb⟩ => ⟨x, by rw [he]; unfold chkV; rw [HR.out]; rfl, hb⟩
    go_enter Try.func25, Try.ntmps25
    go_wp2_with (first
      | (go_at_call 36; (with_reducible refine HC.out.mono ?_); rintro e w1 ⟨x, rfl, hb1⟩)
      | (go_at_call 35; (with_reducible refine (WarE.is_wrap x.blk x.knd x.num 2 2 w1).mono ?_); rintro e w2 ⟨rfl, hb2⟩))
    go_ret
    exact ⟨rfl, below_call hb1 hb2⟩

set_option maxHeartbeats 400000 in
theorem wardRight (l : List Wnt) (v : Value) (w : World) (h : Sl 3 wntRow w.heap.size w v l) :
    Calls Try.prog 16 #[v] w fun e w' => e = .returned (.bool (rightW l)) ∧ Below w.heap.size w w' := by
  have HC := Lib.hid (wardWrong l v w h)
  clear h
  cases hr : rightW l with
  | true =>
    rw [hr] at HC
    clear hr
    go_enter Try.func16, Try.ntmps16
    go_wp2_with (go_at_call 25; (with_reducible refine HC.out.mono ?_); rintro e w1 ⟨rfl, hb1⟩)
    go_ret
    exact ⟨rfl, hb1⟩
  | false =>
    rw [hr] at HC
    clear hr
    go_enter Try.func16, Try.ntmps16
    go_wp2_with (go_at_call 25; (with_reducible refine HC.out.mono ?_); rintro e w1 ⟨rfl, hb1⟩)
    go_ret
    exact ⟨rfl, hb1⟩
end Go.Proofs.Ytnmlmnhgjnkbhaa
