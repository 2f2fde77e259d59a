/-
  THE PACKAGE abstain, 2: First, Whole; the document's (limpetref23): contracts.
-/
import Derived.Test.YtaembglohjgkhaaDoorAb
set_option linter.unusedVariables false
namespace Go.Proofs.YtaembglohjgkhaaDoor
open Go.RowKit

/-- The least index of the first k (of none: 0). -/
theorem firstFrom_snoc (l : List Idt) (x : Idt) : ∀ n, firstFrom (l ++ [x]) n = if x.idx < firstFrom l n then x.idx else firstFrom l n := by
  induction l with
  | nil => intro n; rfl
  | cons y l ih => intro n; simp only [List.cons_append, firstFrom]; exact ih _
theorem firstI_one {l : List Idt} {x : Idt} (hx : l[0]? = some x) : firstI (l.take 1) = x.idx := by
  rw [take_at hx]; rfl
theorem firstI_more {l : List Idt} {k : Nat} {x : Idt} (hx : l[k]? = some x) (h0 : 0 < k) : firstI (l.take (k + 1)) = if x.idx < firstI (l.take k) then x.idx else firstI (l.take k) := by
  rw [take_at hx]
  cases l with
  | nil => simp at hx
  | cons y l =>
    obtain ⟨j, rfl⟩ : ∃ j, k = j + 1 := ⟨k - 1, by omega⟩
    simp only [List.take_succ_cons, List.cons_append, firstI]
    exact firstFrom_snoc _ _ _

set_option maxHeartbeats 2000000 in
theorem firstB (lost : Bool) (self : Int) (ms : List Int) (l : List Idt) (Am Ar : Option Addr) (cm cr : Nat) (w : World) (hl : Sl 3 idRow w.heap.size w (.slice Ar l.length cr) l) :
    Calls Tryd.prog 13 #[.agg #[.bool lost, .int .i64 self, .slice Am ms.length cm, .slice Ar l.length cr]] w fun e w' => e = .returned (.int .i64 (firstI l)) ∧ Below w.heap.size w w' := by
  obtain ⟨A0, c0', hv0, hlc, hcm, -, hA⟩ := id hl
  simp only [Value.slice.injEq, true_and] at hv0
  obtain ⟨rfl, rfl⟩ := hv0
  have hn : l.length ≤ 9223372036854775807 := by unfold maxLen at hcm; omega
  clear hcm
  have hbx : Box (w.alloc (.cells #[.bool lost, .int .i64 self, .slice Am ms.length cm, .slice Ar l.length cr] 25)) w.heap.size #[.bool lost, .int .i64 self, .slice Am ms.length cm, .slice Ar l.length cr] 25 := Box.new _ _ _
  go_enter Tryd.func13, Tryd.ntmps13
  go_wp2_with fail
  go_loopw [2, 3, 4, 8] (fun acc _ _ i wr => ∃ k : Nat, k ≤ l.length ∧ i = .int .i64 k ∧ acc = .int .i64 (firstI (l.take k)) ∧ Box wr w.heap.size #[.bool lost, .int .i64 self, .slice Am ms.length cm, .slice Ar l.length cr] 25 ∧ Below w.heap.size w wr) (fun acc _ _ i _ => l.length - (intOf i).toNat)
  case atStart => exact ⟨0, by omega, rfl, rfl, hbx, below_new _ _⟩
  case round =>
    clear hbx
    obtain ⟨k, hk, rfl, rfl, hbx, hB⟩ := hrel
    obtain ⟨kb, -, zb⟩ := hbx.facts
    by_cases hlt : k < l.length
    · obtain ⟨b, off, rfl, hb, hcell⟩ := hA (by intro h; subst h; simp at hlt)
      obtain ⟨x, hx⟩ : ∃ x, l[k]? = some x := ⟨_, List.getElem?_eq_getElem hlt⟩
      have c0 := (hB.cell (p := ⟨b, off + k * 3, none⟩) hb).trans (hcell k x hx 0 _ rfl)
      have c1 := (hB.cell (p := ⟨b, off + k * 3 + 1, none⟩) hb).trans (hcell k x hx 1 _ rfl)
      have c2 := (hB.cell (p := ⟨b, off + k * 3 + 2, none⟩) hb).trans (hcell k x hx 2 _ rfl)
      have HX := Lib.hid hx
      have HBX := Lib.hid hbx
      have HB := Lib.hid hB
      have hz := hB.size
      have hbr : b < wr.heap.size := by omega
      clear hcell hx hA hbx hB
      by_cases hk0 : k = 0
      · have HF := Lib.hid (show firstI (l.take (k + 1)) = x.idx by subst hk0; exact firstI_one HX.out)
        have e1 : ((k : Int) == 0) = true := by simp [hk0]
        clear hk0
        go_wp2_with fail
        go_roundw
        case rel => exact ⟨k + 1, by omega, by go_num, by rw [HF.out], HBX.out.alloc _, HB.out.alloc hz _⟩
        case measure => simp [intOf]; omega
      · have e1 : ((k : Int) == 0) = false := by simpa using hk0
        by_cases hx1 : x.idx < firstI (l.take k)
        · have HF := Lib.hid (show firstI (l.take (k + 1)) = x.idx by rw [firstI_more HX.out (by omega), if_pos hx1])
          have e2 : decide (x.idx < firstI (l.take k)) = true := decide_eq_true hx1
          go_wp2_with fail
          go_roundw
          case rel => exact ⟨k + 1, by omega, by go_num, by rw [HF.out], HBX.out.alloc _, HB.out.alloc hz _⟩
          case measure => simp [intOf]; omega
        · have HF := Lib.hid (show firstI (l.take (k + 1)) = firstI (l.take k) by rw [firstI_more HX.out (by omega), if_neg hx1])
          have e2 : decide (x.idx < firstI (l.take k)) = false := decide_eq_false hx1
          go_wp2_with fail
          go_roundw
          case rel => exact ⟨k + 1, by omega, by go_num, by rw [HF.out], HBX.out.alloc _, HB.out.alloc hz _⟩
          case measure => simp [intOf]; omega
    · have hk' : k = l.length := by omega
      have HF := Lib.hid (show firstI (l.take k) = firstI l by rw [hk', List.take_length])
      have HB := Lib.hid hB
      clear hk' hB hbx
      go_wp2_with fail
      go_ret
      exact ⟨ret_int HF.out, HB.out⟩

set_option maxHeartbeats 2000000 in
theorem rFirst (lost : Bool) (self : Int) (ms : List Int) (l : List Idt) (Am Ar : Option Addr) (cm cr : Nat) (w : World) (hl : Sl 3 idRow w.heap.size w (.slice Ar l.length cr) l) :
    Calls Tryd.prog 14 #[.agg #[.bool lost, .int .i64 self, .slice Am ms.length cm, .slice Ar l.length cr]] w fun e w' => e = .returned (.int .i64 (firstI l)) ∧ Below w.heap.size w w' := by
  obtain ⟨A0, c0', hv0, hlc, hcm, -, hA⟩ := id hl
  simp only [Value.slice.injEq, true_and] at hv0
  obtain ⟨rfl, rfl⟩ := hv0
  have hn : l.length ≤ 9223372036854775807 := by unfold maxLen at hcm; omega
  clear hcm
  have hbx : Box (w.alloc (.cells #[.bool lost, .int .i64 self, .slice Am ms.length cm, .slice Ar l.length cr] 29)) w.heap.size #[.bool lost, .int .i64 self, .slice Am ms.length cm, .slice Ar l.length cr] 29 := Box.new _ _ _
  go_enter Tryd.func14, Tryd.ntmps14
  go_wp2_with fail
  go_loopw [3, 4] (fun acc i wr => ∃ k : Nat, k ≤ l.length ∧ i = .int .i64 k ∧ acc = .int .i64 (firstI (l.take k)) ∧ Box wr w.heap.size #[.bool lost, .int .i64 self, .slice Am ms.length cm, .slice Ar l.length cr] 29 ∧ Below w.heap.size w wr) (fun acc i _ => l.length - (intOf i).toNat)
  case atStart => exact ⟨0, by omega, rfl, rfl, hbx, below_new _ _⟩
  case round =>
    clear hbx
    obtain ⟨k, hk, rfl, rfl, hbx, hB⟩ := hrel
    obtain ⟨kb, -, zb⟩ := hbx.facts
    by_cases hlt : k < l.length
    · obtain ⟨b, off, rfl, hb, hcell⟩ := hA (by intro h; subst h; simp at hlt)
      obtain ⟨x, hx⟩ : ∃ x, l[k]? = some x := ⟨_, List.getElem?_eq_getElem hlt⟩
      have c0 := (hB.cell (p := ⟨b, off + k * 3, none⟩) hb).trans (hcell k x hx 0 _ rfl)
      have c1 := (hB.cell (p := ⟨b, off + k * 3 + 1, none⟩) hb).trans (hcell k x hx 1 _ rfl)
      have c2 := (hB.cell (p := ⟨b, off + k * 3 + 2, none⟩) hb).trans (hcell k x hx 2 _ rfl)
      have HX := Lib.hid hx
      have HBX := Lib.hid hbx
      have HB := Lib.hid hB
      have hz := hB.size
      have hbr : b < wr.heap.size := by omega
      clear hcell hx hA hbx hB
      by_cases hk0 : k = 0
      · have HF := Lib.hid (show firstI (l.take (k + 1)) = x.idx by subst hk0; exact firstI_one HX.out)
        have e1 : ((k : Int) == 0) = true := by simp [hk0]
        clear hk0
        go_wp2_with fail
        go_roundw
        case rel => exact ⟨k + 1, by omega, by go_num, by rw [HF.out], HBX.out, HB.out⟩
        case measure => simp [intOf]; omega
      · have e1 : ((k : Int) == 0) = false := by simpa using hk0
        by_cases hx1 : x.idx < firstI (l.take k)
        · have HF := Lib.hid (show firstI (l.take (k + 1)) = x.idx by rw [firstI_more HX.out (by omega), if_pos hx1])
          have e2 : decide (x.idx < firstI (l.take k)) = true := decide_eq_true hx1
          go_wp2_with fail
          go_roundw
          case rel => exact ⟨k + 1, by omega, by go_num, by rw [HF.out], HBX.out, HB.out⟩
          case measure => simp [intOf]; omega
        · have HF := Lib.hid (show firstI (l.take (k + 1)) = firstI (l.take k) by rw [firstI_more HX.out (by omega), if_neg hx1])
          have e2 : decide (x.idx < firstI (l.take k)) = false := decide_eq_false hx1
          go_wp2_with fail
          go_roundw
          case rel => exact ⟨k + 1, by omega, by go_num, by rw [HF.out], HBX.out, HB.out⟩
          case measure => simp [intOf]; omega
    · have hk' : k = l.length := by omega
      have HF := Lib.hid (show firstI (l.take k) = firstI l by rw [hk', List.take_length])
      have HB := Lib.hid hB
      clear hk' hB hbx
      go_wp2_with fail
      go_ret
      exact ⟨ret_int HF.out, HB.out⟩

end Go.Proofs.YtaembglohjgkhaaDoor
