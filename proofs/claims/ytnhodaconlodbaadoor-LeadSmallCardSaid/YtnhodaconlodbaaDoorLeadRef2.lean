/-
  The document's books (limpetref25), 2: Right, Keep, Begin, with, yes, Ack, Got, Matches; lead's Matches; the law's far.
-/
import Derived.Test.YtnhodaconlodbaaDoorLeadRef
namespace Go.Proofs.YtnhodaconlodbaaDoor
open Go.RowKit
set_option linter.unusedVariables false

set_option maxHeartbeats 4000000 in
theorem rRight (l : List Bk) (v : Value) (w : World) (h : Sl 4 bkRow w.heap.size w v l) :
    Calls Tryd.prog 37 #[v] w fun e w' => e = .returned (.bool (bksRight l)) ∧ Below w.heap.size w w' := by
  obtain ⟨A, cap, rfl, hlc, hcm, -, hA⟩ := h
  have hn : l.length ≤ 9223372036854775807 := by unfold maxLen at hcm; omega
  clear hcm
  go_enter Tryd.func37, Tryd.ntmps37
  go_wp2_with fail
  go_loopw [3, 4] (fun j _ wr => ∃ (k : Nat) (p : Int), k ≤ l.length ∧ j = .int .i64 k ∧ bksFrom 0 l = bksFrom p (l.drop k) ∧ (∀ j, k = j + 1 → ∃ y, l[j]? = some y ∧ y.who = p) ∧ (k = 0 → p = 0) ∧ Below w.heap.size w wr) (fun j _ _ => l.length - (intOf j).toNat)
  case atStart => exact ⟨0, 0, by omega, rfl, by simp, fun j h => by omega, fun _ => rfl, Below.refl _ _⟩
  case round =>
    obtain ⟨k, p, hk, rfl, hq, hpv, hp0, hB⟩ := hrel
    by_cases hlt : k < l.length
    · obtain ⟨b, off, rfl, hb, hcell⟩ := hA (by intro h; subst h; simp at hlt)
      obtain ⟨x, hx⟩ : ∃ x, l[k]? = some x := ⟨_, List.getElem?_eq_getElem hlt⟩
      have c0 := (hB.cell (p := ⟨b, off + k * 4, none⟩) hb).trans (hcell k x hx 0 _ rfl)
      have c1 := (hB.cell (p := ⟨b, off + k * 4 + 1, none⟩) hb).trans (hcell k x hx 1 _ rfl)
      have c2 := (hB.cell (p := ⟨b, off + k * 4 + 2, none⟩) hb).trans (hcell k x hx 2 _ rfl)
      have c3 := (hB.cell (p := ⟨b, off + k * 4 + 3, none⟩) hb).trans (hcell k x hx 3 _ rfl)
      have HM := Lib.hid (show bksFrom 0 l = (okBk p x && bksFrom x.who (l.drop (k + 1))) by rw [hq, drop_at hx]; rfl)
      have HX := Lib.hid hx
      have HP := Lib.hid hp0
      have HB : Hid (Below w.heap.size w (wr.alloc (.cells #[.int .i64 x.who, .int .i64 x.next, .int .i64 x.mat, .int .i64 x.piece] 67))) := hB.alloc hB.size _
      have hbr : b < wr.heap.size := by have := hB.size; omega
      have hfin : ∀ n, Below w.heap.size w ((wr.alloc (.cells #[.int .i64 x.who, .int .i64 x.next, .int .i64 x.mat, .int .i64 x.piece] 67)).drewN n) := fun n => below_drewN HB.out n
      have HFIN := Lib.hid hfin
      have hpv' : ∀ j, k = j + 1 → ∃ q : Int, q = p ∧ wr.cell? ⟨b, off + j * 4, none⟩ = some (.int .i64 q) := by
        intro j hj
        obtain ⟨y, hy, hw⟩ := hpv j hj
        exact ⟨y.who, hw, by simpa using (hB.cell (p := ⟨b, off + j * 4, none⟩) hb).trans (by simpa using hcell j y hy 0 _ rfl)⟩
      have HPV := Lib.hid hpv'
      clear hcell hx hA hq hpv hp0 hB hfin hpv'
      have i0 : (0 : Int) ≤ (k : Int) := by omega
      have i1 : (k : Int) < (l.length : Int) := by omega
      by_cases g0 : x.who < 1
      · have d0 : decide (x.who < 1) = true := decide_eq_true g0
        go_wp2_with fail
        go_quiet (fail)
        go_wp2_with fail
        go_ret
        exact ⟨ret_bool (by rw [bksRight, HM.out, show okBk p x = false from decide_eq_false (by omega)]; rfl), HFIN.out _⟩
      have d0 : decide (x.who < 1) = false := decide_eq_false g0
      by_cases g1 : 7 < x.who
      · have d1 : decide (7 < x.who) = true := decide_eq_true g1
        go_wp2_with fail
        go_quiet (fail)
        go_wp2_with fail
        go_ret
        exact ⟨ret_bool (by rw [bksRight, HM.out, show okBk p x = false from decide_eq_false (by omega)]; rfl), HFIN.out _⟩
      have d1 : decide (7 < x.who) = false := decide_eq_false g1
      by_cases g2 : x.mat < 0
      · have d2 : decide (x.mat < 0) = true := decide_eq_true g2
        go_wp2_with fail
        go_quiet (fail)
        go_wp2_with fail
        go_ret
        exact ⟨ret_bool (by rw [bksRight, HM.out, show okBk p x = false from decide_eq_false (by omega)]; rfl), HFIN.out _⟩
      have d2 : decide (x.mat < 0) = false := decide_eq_false g2
      by_cases g3 : 1099511627776 < x.mat
      · have d3 : decide (1099511627776 < x.mat) = true := decide_eq_true g3
        go_wp2_with fail
        go_quiet (fail)
        go_wp2_with fail
        go_ret
        exact ⟨ret_bool (by rw [bksRight, HM.out, show okBk p x = false from decide_eq_false (by omega)]; rfl), HFIN.out _⟩
      have d3 : decide (1099511627776 < x.mat) = false := decide_eq_false g3
      by_cases g4 : x.next ≤ x.mat
      · have d4 : decide (x.next ≤ x.mat) = true := decide_eq_true g4
        go_wp2_with fail
        go_quiet (fail)
        go_wp2_with fail
        go_ret
        exact ⟨ret_bool (by rw [bksRight, HM.out, show okBk p x = false from decide_eq_false (by omega)]; rfl), HFIN.out _⟩
      have d4 : decide (x.next ≤ x.mat) = false := decide_eq_false g4
      by_cases g5 : 1099511627777 < x.next
      · have d5 : decide (1099511627777 < x.next) = true := decide_eq_true g5
        go_wp2_with fail
        go_quiet (fail)
        go_wp2_with fail
        go_ret
        exact ⟨ret_bool (by rw [bksRight, HM.out, show okBk p x = false from decide_eq_false (by omega)]; rfl), HFIN.out _⟩
      have d5 : decide (1099511627777 < x.next) = false := decide_eq_false g5
      by_cases g6 : x.piece < 0
      · have d6 : decide (x.piece < 0) = true := decide_eq_true g6
        go_wp2_with fail
        go_quiet (fail)
        go_wp2_with fail
        go_ret
        exact ⟨ret_bool (by rw [bksRight, HM.out, show okBk p x = false from decide_eq_false (by omega)]; rfl), HFIN.out _⟩
      have d6 : decide (x.piece < 0) = false := decide_eq_false g6
      by_cases g7 : 48 < x.piece
      · have d7 : decide (48 < x.piece) = true := decide_eq_true g7
        go_wp2_with fail
        go_quiet (fail)
        go_wp2_with fail
        go_ret
        exact ⟨ret_bool (by rw [bksRight, HM.out, show okBk p x = false from decide_eq_false (by omega)]; rfl), HFIN.out _⟩
      have d7 : decide (48 < x.piece) = false := decide_eq_false g7
      by_cases hk0 : k = 0
      · have hp1 : p ≤ 0 := by have := HP.out hk0; omega
        have hp2 : 0 ≤ p := by have := HP.out hk0; omega
        have d9 : decide (0 < k) = false := by simp; omega
        clear hk0
        go_wp2_with fail
        go_quiet (fail)
        go_wp2_with fail
        go_roundw
        case rel => exact ⟨k + 1, x.who, by omega, by go_num, by rw [HM.out, show okBk p x = true from decide_eq_true (by omega)]; rfl, fun j hj => ⟨x, by rw [show j = k by omega]; exact HX.out, rfl⟩, fun h => by omega, HFIN.out _⟩
        case measure => simp [intOf]; omega
      obtain ⟨j, hj⟩ : ∃ j, k = j + 1 := ⟨k - 1, by omega⟩
      obtain ⟨q, hqp, e0⟩ := HPV.out j hj
      have j0 : (0 : Int) ≤ (j : Int) := by omega
      have j1 : (j : Int) < (l.length : Int) := by omega
      have d9 : decide (0 < k) = true := by simp; omega
      have HJ := Lib.hid hj
      have hw : IntKind.i64.wrap ((k : Int) - 1) = (j : Int) := by rw [IntWalk.i64_in _ (by omega)]; omega
      have HQ := Lib.hid hqp
      clear hj hqp
      by_cases g9 : x.who ≤ q
      · have d10 : decide (x.who ≤ q) = true := decide_eq_true g9
        have gp : x.who ≤ p := by have := HQ.out; omega
        go_wp2_with fail
        go_quiet (fail)
        go_wp2_with fail
        go_ret
        exact ⟨ret_bool (by rw [bksRight, HM.out, show okBk p x = false from decide_eq_false (by omega)]; rfl), HFIN.out _⟩
      have d10 : decide (x.who ≤ q) = false := decide_eq_false g9
      have gp : p < x.who := by have := HQ.out; omega
      go_wp2_with fail
      go_quiet (fail)
      go_wp2_with fail
      clear hw
      go_roundw
      case rel => exact ⟨k + 1, x.who, by omega, by go_num, by rw [HM.out, show okBk p x = true from decide_eq_true (by omega)]; rfl, fun j hj => ⟨x, by rw [show j = k by omega]; exact HX.out, rfl⟩, fun h => by omega, HFIN.out _⟩
      case measure => simp [intOf]; omega
    · have hk' : k = l.length := by omega
      have HM := Lib.hid (show bksFrom 0 l = true by rw [hq, hk']; simp [bksFrom])
      clear hq hk' hpv hp0
      go_wp2_with fail
      go_ret
      exact ⟨ret_bool (by rw [bksRight, HM.out]), hB⟩

set_option maxHeartbeats 1000000 in
theorem rKeep (l : List Bk) (ms : List Int) (v vm : Value) (self last : Int) (w : World) (h : Sl 4 bkRow w.heap.size w v l) (hm : Sl 1 i64Row w.heap.size w vm ms) (hn : ms.length ≤ 1000000)
    (hl1 : -9223372036854775808 ≤ last) (hl2 : last ≤ 9223372036854775806) :
    Calls Tryd.prog 42 #[v, vm, .int .i64 self, .int .i64 last] w fun e w' => ∃ v', e = .returned v' ∧ Own 4 bkRow 67 w.heap.size w' v' (keepBks l ms self last) ∧ Below w.heap.size w w' := by
  obtain ⟨A, cap, rfl, hlc, hcm, -, hA⟩ := hm
  clear hcm
  go_enter Tryd.func42, Tryd.ntmps42
  go_wp2_with fail
  go_loopw [9, 10, 11, 12] (fun out j _ _ wr => ∃ k : Nat, k ≤ ms.length ∧ j = .int .i64 k ∧ Own 4 bkRow 67 w.heap.size wr out (keepBks l (ms.take k) self last) ∧ Below w.heap.size w wr) (fun _ j _ _ _ => ms.length - (intOf j).toNat)
  case atStart => exact ⟨0, by omega, rfl, Own.nil_ _ _ _ _ _, Below.refl _ _⟩
  case round =>
    obtain ⟨k, hk, rfl, hown, hB⟩ := hrel
    by_cases hlt : k < ms.length
    · obtain ⟨b, off, rfl, hb, hcell⟩ := hA (by intro h; subst h; simp at hlt)
      obtain ⟨m, hx⟩ : ∃ x, ms[k]? = some x := ⟨_, List.getElem?_eq_getElem hlt⟩
      have c0 : wr.cell? ⟨b, off + k, none⟩ = some (.int .i64 m) := by simpa using (hB.cell (p := ⟨b, off + k * 1 + 0, none⟩) hb).trans (hcell k m hx 0 _ rfl)
      have hle := keepBks_le l (ms.take k) self last
      have hle2 : (ms.take k).length ≤ k := List.length_take_le _ _
      have hbr : b < wr.heap.size := by have := hB.size; omega
      have HX := Lib.hid hx
      have hSl := (h.below hB).more hB.size
      clear hcell hx
      go_wp2_with fail
      refine (rFind m l v _ hSl).mono ?_
      rintro e w1 ⟨rfl, hB1⟩
      have c1 := (hB1.cell (p := ⟨b, off + k, none⟩) hbr).trans c0
      have hb1 : b < w1.heap.size := by have := hB1.size; omega
      have hs : m = self ∨ m ≠ self := Classical.em _
      have HK : Hid (keptBk l last m = if hasBk l m then fndBk l m else ⟨m, last + 1, 0, 0⟩) := by
        show keptBk l last m = _
        unfold keptBk hasBk fndBk
        cases findBk l m <;> rfl
      obtain ⟨y, hy⟩ : ∃ y, fndBk l m = y := ⟨_, rfl⟩
      obtain ⟨s, hs'⟩ : ∃ s, hasBk l m = s := ⟨_, rfl⟩
      rw [hy, hs'] at HK
      rw [hy, hs']
      have hO1 := hown.later hB1
      have hB2 := below_call hB hB1
      clear hy hs' hown hB hB1 hSl c0
      cases s with
      | true =>
        have HK := Lib.hid (show keptBk l last m = y by simpa using HK.out)
        have HO := Lib.hid (hO1.alloc (.cells #[.int .i64 y.who, .int .i64 y.next, .int .i64 y.mat, .int .i64 y.piece] 67))
        have HB := Lib.hid (below_call hB2 (below_new w1 (.cells #[.int .i64 y.who, .int .i64 y.next, .int .i64 y.mat, .int .i64 y.piece] 67)))
        have hz := hB2.size
        clear hO1 hB2
        rcases hs with hs | hs
        · have e1 : (m != self) = false := by simpa using hs
          have HS := Lib.hid hs
          clear hs
          go_wp2_with fail
          go_roundw
          case rel => exact ⟨k + 1, by omega, by go_num, by rw [keepBks_skip HX.out HS.out]; exact HO.out, HB.out⟩
          case measure => simp [intOf]; omega
        · have e1 : (m != self) = true := by simpa using hs
          have HS := Lib.hid hs
          clear hs
          go_wp2_with (at_builtin; refine wpList_append_row _ rfl (.tmp 43) (.tmp 45) 63 rfl w.heap.size 67 _ 4 32 Tryd.underlying63 rbookInfo rfl (by omega) bkRow bkRow_length bkRow_one _ _ rfl HO.out y _ rfl 67 _ rfl (by simp) (by omega) (by omega) (by simp; omega) ?_; intro v' w2 p1 p2 p3 p4 p5)
          have P2 := Lib.hid (HB.out.trans p2)
          clear p2 p3 p4 p5
          go_roundw
          case rel => exact ⟨k + 1, by omega, by go_num, by rw [keepBks_more HX.out HS.out, HK.out]; exact p1, P2.out⟩
          case measure => simp [intOf]; omega
      | false =>
        have HK := Lib.hid (show keptBk l last m = ⟨m, last + 1, 0, 0⟩ by simpa using HK.out)
        have HO := Lib.hid (hO1.alloc (.cells #[.int .i64 m, .int .i64 (last + 1), .int .i64 0, .int .i64 0] 67))
        have HB := Lib.hid (below_call hB2 (below_new w1 (.cells #[.int .i64 m, .int .i64 (last + 1), .int .i64 0, .int .i64 0] 67)))
        have hz := hB2.size
        clear hO1 hB2
        rcases hs with hs | hs
        · have e1 : (m != self) = false := by simpa using hs
          have HS := Lib.hid hs
          clear hs
          go_wp2_with fail
          go_roundw
          case rel => exact ⟨k + 1, by omega, by go_num, by rw [keepBks_skip HX.out HS.out]; exact HO.out, HB.out⟩
          case measure => simp [intOf]; omega
        · have e1 : (m != self) = true := by simpa using hs
          have HS := Lib.hid hs
          clear hs
          go_wp2_with (at_builtin; refine wpList_append_row _ rfl (.tmp 43) (.tmp 45) 63 rfl w.heap.size 67 _ 4 32 Tryd.underlying63 rbookInfo rfl (by omega) bkRow bkRow_length bkRow_one _ _ rfl HO.out ⟨m, last + 1, 0, 0⟩ _ rfl 67 _ rfl (by simp) (by omega) (by omega) (by simp; omega) ?_; intro v' w2 p1 p2 p3 p4 p5)
          have P2 := Lib.hid (HB.out.trans p2)
          clear p2 p3 p4 p5
          go_roundw
          case rel => exact ⟨k + 1, by omega, by go_num, by rw [keepBks_more HX.out HS.out, HK.out]; exact p1, P2.out⟩
          case measure => simp [intOf]; omega
    · have hk' : k = ms.length := by omega
      have HO := Lib.hid (show Own 4 bkRow 67 w.heap.size wr u9 (keepBks l ms self last) by rw [hk', List.take_length] at hown; exact hown)
      clear hown hk'
      go_wp2
      go_ret
      exact ⟨_, rfl, HO.out, hB⟩

set_option maxHeartbeats 400000 in
theorem rBegin (ms : List Int) (vm : Value) (self last : Int) (w : World) (hm : Sl 1 i64Row w.heap.size w vm ms) (hn : ms.length ≤ 1000000)
    (hl1 : -9223372036854775808 ≤ last) (hl2 : last ≤ 9223372036854775806) :
    Calls Tryd.prog 40 #[vm, .int .i64 self, .int .i64 last] w fun e w' => ∃ v', e = .returned v' ∧ Own 4 bkRow 67 w.heap.size w' v' (keepBks [] ms self last) ∧ Below w.heap.size w w' := by
  go_enter Tryd.func40, Tryd.ntmps40
  go_wp2_with fail
  refine (rKeep [] ms _ vm self last w (Sl.nil_ _ _ _ _) hm hn hl1 hl2).mono ?_
  rintro e w1 ⟨v', rfl, ho, hb⟩
  go_wp2_with fail
  go_ret
  exact ⟨_, rfl, ho, hb⟩
end Go.Proofs.YtnhodaconlodbaaDoor
