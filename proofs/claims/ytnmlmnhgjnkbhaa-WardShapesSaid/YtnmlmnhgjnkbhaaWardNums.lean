/-
  ward's Nums: contract.
-/
import Derived.Test.YtnmlmnhgjnkbhaaWardAdd
import Derived.Test.YtnmlmnhgjnkbhaaSortLay
import Derived.Test.YtnmlmnhgjnkbhaaOwnClear
import Derived.Sort.OwnSorted
set_option linter.unusedVariables false
set_option linter.unusedSimpArgs false
namespace Go.Proofs.Ytnmlmnhgjnkbhaa
open Go.RowKit Go.Sort Go.Shelf

def sortI (l : List Int) : List Int := l.mergeSort fun x y => decide (x ≤ y)
theorem sortI_length (l : List Int) : (sortI l).length = l.length := List.length_mergeSort l
theorem intSort (base : Nat) (l : List Int) (v : Value) (w : World) (h : Own 1 i64Row 3 base w v l) (hn : l.length ≤ 4294967296) (hB : base ≤ w.heap.size) :
    Calls Try.prog 31 #[v] w fun e w' => e = .returned (.tuple #[]) ∧ Own 1 i64Row 3 base w' v (sortI l) ∧ Below base w w' := by
  by_cases hl : l = []
  · subst hl
    obtain ⟨A, c, rfl⟩ := h.len
    refine (sortNone A c w).mono ?_
    rintro e w' ⟨rfl, rfl⟩
    exact ⟨rfl, by simpa [sortI] using h, Below.refl _ _⟩
  · have hown := h
    unfold Own at hown
    rw [flat_enc] at hown
    rcases hown.2 with ⟨hv, h0⟩ | ⟨g, cap, cur, rfl, hb, hg, r1, r2, r3, r4⟩
    · exact absurd (List.eq_nil_of_length_eq_zero h0) hl
    · rw [Nat.mul_one] at r4
      refine (sortInts g 0 cap l w (holds_of_block_i hg r4) (Array.getElem?_eq_some_iff.1 hg).1 (by omega)).mono ?_
      rintro e w' ⟨rfl, n, os, rfl⟩
      refine ⟨rfl, ?_, below_grown_own (grownBy_sorted_i _) hb hB⟩
      unfold Own
      rw [flat_enc, sortI_length]
      exact ownsRow_sorted_i (sortI_length l) hb hg r1 r2 r3
/-- What Nums tells. -/
def numsR (l : List Wnt) (k : Int) : List Int := if rightW l = true then numsV l k else []
def NumsPost (l : List Wnt) (k : Int) (w : World) (e : Ending) (w' : World) : Prop :=
  ∃ v, e = .returned (.tuple #[v, .int .i64 (if rightW l = true then 0 else 2)]) ∧ Own 1 i64Row 3 w.heap.size w' v (numsR l k) ∧ Below w.heap.size w w'
set_option maxHeartbeats 2000000 in
theorem wardNums (l : List Wnt) (vl : Value) (kd : Int) (w : World) (hl : Sl 3 wntRow w.heap.size w vl l) (hn : l.length ≤ 100000) :
    Calls Try.prog 12 #[vl, .int .i64 kd] w (NumsPost l kd w) := by
  have HW := Lib.hid (wardWrong l vl w hl)
  obtain ⟨A, cap, rfl, hlc, hcm, -, hA⟩ := id hl
  have HA := Lib.hid hA
  have hln : l.length ≤ 9223372036854775807 := by omega
  clear hl hlc hcm hA
  cases hr : rightW l with
  | false =>
    rw [hr] at HW
    have HR := Lib.hid (show numsR l kd = [] by unfold numsR; rw [hr]; rfl)
    have HR2 := Lib.hid hr
    clear hr
    go_enter Try.func12, Try.ntmps12
    go_wp2_with (go_at_call 25; (with_reducible refine HW.out.mono ?_); rintro e w1 ⟨rfl, hb1⟩)
    go_ret2
    exact ⟨.slice none 0 0, by rw [HR2.out]; rfl, by rw [HR.out]; exact Own.nil_ _ _ _ _ _, hb1⟩
  | true =>
    rw [hr] at HW
    have HR := Lib.hid (show numsR l kd = numsV l kd by unfold numsR; rw [hr]; rfl)
    have HRI := Lib.hid hr
    clear hr
    go_enter Try.func12, Try.ntmps12
    go_wp2_with (go_at_call 25; (with_reducible refine HW.out.mono ?_); rintro e w1 ⟨rfl, hb1⟩; have HB1 := Lib.hid hb1; clear hb1)
    clear HW
    go_loopw [4, 7, 12] (fun o _ i wr => ∃ (k : Nat) (ov : Value), ov = o ∧ k ≤ l.length ∧ i = .int .i64 (k : Int) ∧ Own 1 i64Row 3 w1.heap.size wr ov (numsL (l.take k) kd) ∧ Below w1.heap.size w1 wr) (fun _ _ i _ => l.length - (kOf i).toNat)
    case atStart => exact ⟨0, _, rfl, by omega, rfl, Own.nil_ _ _ _ _ _, Below.refl _ _⟩
    case round =>
      obtain ⟨k, ov, rfl, hk, rfl, hown, hB⟩ := hrel
      have HO := Lib.hid hown
      have HB := Lib.hid hB
      have i0 : (0 : Int) ≤ (k : Int) := by omega
      have hz := hB.size
      clear hown hB
      by_cases hlt : k < l.length
      · have i1 : (k : Int) < (l.length : Int) := by omega
        have d0 : decide ((k : Int) < (l.length : Int)) = true := decide_eq_true i1
        have d0' : decide (k < l.length) = true := decide_eq_true hlt
        obtain ⟨b2, off, rfl, hb2, hcell⟩ := HA.out (by intro h; subst h; simp at hlt)
        obtain ⟨x, hx⟩ : ∃ x, l[k]? = some x := ⟨_, List.getElem?_eq_getElem hlt⟩
        have HBw := Lib.hid (below_call HB1.out (HB.out.mono (Nat.le_refl _)))
        have c0 : wr.cell? ⟨b2, off + k * 3, none⟩ = some (.int .i64 x.blk) := (HBw.out.cell (p := ⟨b2, off + k * 3 + 0, none⟩) hb2).trans (hcell k x hx 0 _ rfl)
        have c1 : wr.cell? ⟨b2, off + k * 3 + 1, none⟩ = some (.int .i64 x.knd) := (HBw.out.cell (p := ⟨b2, off + k * 3 + 1, none⟩) hb2).trans (hcell k x hx 1 _ rfl)
        have c2 : wr.cell? ⟨b2, off + k * 3 + 2, none⟩ = some (.int .i64 x.num) := (HBw.out.cell (p := ⟨b2, off + k * 3 + 2, none⟩) hb2).trans (hcell k x hx 2 _ rfl)
        have hll : (numsL (l.take k) kd).length ≤ 100000 := by have h1 := numsL_len (l.take k) kd; have h2 := List.length_take_le k l; omega
        have HT := Lib.hid (numsL_take (k := kd) hx)
        have HOA := Lib.hid (HO.out.alloc (.cells #[.int .i64 x.blk, .int .i64 x.knd, .int .i64 x.num] 41))
        have HBA := Lib.hid (HB.out.alloc hz (.cells #[.int .i64 x.blk, .int .i64 x.knd, .int .i64 x.num] 41))
        have hza := HBA.out.size
        clear hcell hx HBw
        by_cases hkd : x.knd = kd
        · have e1 : (x.knd == kd) = true := by simpa using hkd
          have HT2 := Lib.hid (show numsL (l.take (k + 1)) kd = numsL (l.take k) kd ++ [x.num] by rw [HT.out, if_pos hkd])
          clear hkd
          go_wp2_with (at_builtin; refine wpList_append_row _ rfl (.tmp 20) (.tmp 23) 23 rfl w1.heap.size 3 _ 1 8 Try.underlying23 intInfo rfl (Nat.succ_pos 0) i64Row i64Row_length i64Row_one _ _ rfl HOA.out x.num _ rfl 3 (wr.heap.size + 1) rfl (by simp) (by omega) (by omega) hza ?_; intro v' w' p1 p2 p3 p4 p5; have P1 := Lib.hid p1; have P2 := Lib.hid p2; clear p1 p2 p3 p4 p5)
          go_roundw
          case rel => exact ⟨k + 1, _, rfl, by omega, by go_num, by rw [HT2.out]; exact P1.out, HBA.out.trans P2.out⟩
          case measure => simp [kOf]; omega
        · have e1 : (x.knd == kd) = false := by simpa using hkd
          have HT2 := Lib.hid (show numsL (l.take (k + 1)) kd = numsL (l.take k) kd by rw [HT.out, if_neg hkd, List.append_nil])
          clear hkd
          go_wp2_with fail
          go_roundw
          case rel => exact ⟨k + 1, _, rfl, by omega, by go_num, by rw [HT2.out]; exact HOA.out, HBA.out⟩
          case measure => simp [kOf]; omega
      · have d0 : decide ((k : Int) < (l.length : Int)) = false := decide_eq_false (by omega)
        have d0' : decide (k < l.length) = false := decide_eq_false hlt
        have hke : k = l.length := by omega
        have HF := Lib.hid (show Own 1 i64Row 3 w1.heap.size wr ov (numsL l kd) by have h := HO.out; rw [hke, List.take_length] at h; exact h)
        have L := Lib.hid (intSort w1.heap.size _ _ wr HF.out (by have := numsL_len l kd; omega) hz)
        clear hke
        go_wp2_with (go_at_call 31; (with_reducible refine L.out.mono ?_); rintro e w5 ⟨rfl, ho5, hb5⟩; have HO5 := Lib.hid ho5; have HB5 := Lib.hid hb5; clear ho5 hb5)
        go_ret2
        exact ⟨ov, by rw [HRI.out]; rfl, by rw [HR.out]; exact HO5.out.less HB1.out.size, HB1.out.trans ((HB.out.trans HB5.out).mono HB1.out.size)⟩
end Go.Proofs.Ytnmlmnhgjnkbhaa
