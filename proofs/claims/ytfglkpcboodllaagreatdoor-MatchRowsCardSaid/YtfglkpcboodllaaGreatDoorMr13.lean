/-
  Merged: Ent7, EntRef, KitSameBytes, KitMark.
-/
import Derived.Test.YtfglkpcboodllaaGreatDoorMr6
import Derived.Test.YtfglkpcboodllaaGreatDoorMr4
import Derived.Test.YtfglkpcboodllaaGreatDoorMr1
import Derived.Test.YtfglkpcboodllaaGreatDoorMr11
/-
  THE PACKAGE entry, 7: members' bytes: contracts.
-/
set_option linter.unusedVariables false
set_option linter.unusedSimpArgs false
namespace Go.Proofs.YtfglkpcboodllaaGreatDoor
open Go.RowKit

theorem u8Info : (Tryz.prog.info? 5).map (fun i => (i.zero, i.size, i.bytes)) = some (some (.int .u8 0), 1, 1) := by kernel_rfl
/-- What Bytes tells: the bytes, or error 2. -/
def BytPost (ms : List Int) (w : World) (e : Ending) (w' : World) : Prop :=
  ∃ v', e = .returned (.tuple #[v', .int .i64 (if memRight ms then 0 else 2)]) ∧ (if memRight ms then Own 1 u8Row 5 w.heap.size w' v' ms ∧ v' ≠ .slice none 0 0 else v' = .slice none 0 0) ∧ Below w.heap.size w w'
theorem bytPost_yes {ms : List Int} {w w' : World} {v' : Value} (h : memRight ms = true) (ho : Own 1 u8Row 5 w.heap.size w' v' ms) (hv : v' ≠ .slice none 0 0) (hb : Below w.heap.size w w') : BytPost ms w (.returned (.tuple #[v', .int .i64 0])) w' :=
  ⟨v', by rw [h]; rfl, by rw [h]; exact ⟨ho, hv⟩, hb⟩
theorem bytPost_no {ms : List Int} {w : World} (h : memRight ms = false) : BytPost ms w (.returned (.tuple #[.slice none 0 0, .int .i64 2])) w :=
  ⟨_, by rw [h]; rfl, by rw [h]; rfl, Below.refl _ _⟩
theorem memFrom_at : ∀ {l : List Int} {q : Int} {k : Nat} {x : Int}, memFrom q l = true → l[k]? = some x → 1 ≤ x ∧ x ≤ 7 := by
  intro l
  induction l with
  | nil => intro q k x _ h; simp at h
  | cons y l ih =>
    intro q k x h hx
    have h' : (decide (1 ≤ y ∧ y ≤ 7 ∧ q < y) && memFrom y l) = true := h
    simp only [Bool.and_eq_true, decide_eq_true_eq] at h'
    cases k with
    | zero => simp at hx; subst hx; exact ⟨h'.1.1, h'.1.2.1⟩
    | succ k => exact ih h'.2 (by simpa using hx)
theorem memFrom_len : ∀ {l : List Int} {q : Int}, 0 ≤ q → memFrom q l = true → (l.length : Int) ≤ 7 - q ∨ l = [] := by
  intro l
  induction l with
  | nil => intro q _ _; exact .inr rfl
  | cons y l ih =>
    intro q hq h
    have h' : (decide (1 ≤ y ∧ y ≤ 7 ∧ q < y) && memFrom y l) = true := h
    simp only [Bool.and_eq_true, decide_eq_true_eq] at h'
    rcases ih (by omega) h'.2 with h1 | h1
    · left; simp only [List.length_cons]; omega
    · left; subst h1; simp; omega
theorem memRight_short {l : List Int} (h : memRight l = true) : l.length ≤ 7 := by
  simp only [memRight, Bool.and_eq_true] at h
  rcases memFrom_len (by omega) h.1 with h1 | h1
  · omega
  · subst h1; simp

set_option maxHeartbeats 1000000 in
theorem entBytes (ms : List Int) (v : Value) (w : World) (h : Sl 1 i64Row w.heap.size w v ms) :
    Calls Tryz.prog 63 #[v] w (BytPost ms w) := by
  have HSL := Lib.hid h
  obtain ⟨A, cap, rfl, hlc, hcm, -, hA⟩ := h
  have hn : ms.length ≤ 9223372036854775807 := by unfold maxLen at hcm; omega
  clear hcm
  have HA := Lib.hid hA
  clear hA
  cases hm : memRight ms with
  | false =>
    have HM := Lib.hid hm
    clear hm
    go_enter Tryz.func63, Tryz.ntmps63
    go_wp2_with (go_at_call 67; refine (entryRight ms _ _ HSL.out).mono ?_; rintro e w' ⟨rfl, rfl⟩; rw [HM.out])
    go_ret2
    exact bytPost_no HM.out
  | true =>
    have HM := Lib.hid hm
    have hs := memRight_short hm
    have hne : ms ≠ [] := by intro h; subst h; simp [memRight] at hm
    have HNE := Lib.hid hne
    clear hm hne
    go_enter Tryz.func63, Tryz.ntmps63
    go_wp2_with (go_at_call 67; refine (entryRight ms _ _ HSL.out).mono ?_; rintro e w' ⟨rfl, rfl⟩; rw [HM.out])
    go_loopw [2, 11] (fun o i wr => ∃ k : Nat, k ≤ ms.length ∧ i = .int .i64 k ∧ Own 1 u8Row 5 w.heap.size wr o (ms.take k) ∧ (o = .slice none 0 0 → k = 0) ∧ Below w.heap.size w wr) (fun _ i _ => ms.length - (intOf i).toNat)
    case atStart => exact ⟨0, by omega, rfl, Own.nil_ _ _ _ _ _, fun _ => rfl, Below.refl _ _⟩
    case round =>
      obtain ⟨k, hk, rfl, hown, hnn, hB⟩ := hrel
      by_cases hlt : k < ms.length
      · obtain ⟨bb, off, rfl, hbl, hcell⟩ := HA.out (by intro h; subst h; simp at hlt)
        obtain ⟨x, hx⟩ : ∃ x, ms[k]? = some x := ⟨_, List.getElem?_eq_getElem hlt⟩
        have c0 : wr.cell? ⟨bb, off + k, none⟩ = some (.int .i64 x) := by
          have := (hB.cell (p := ⟨bb, off + k * 1 + 0, none⟩) hbl).trans (hcell k x hx 0 _ rfl)
          simpa using this
        have hxb : 1 ≤ x ∧ x ≤ 7 := memFrom_at (by have := HM.out; simp only [memRight, Bool.and_eq_true] at this; exact this.1) hx
        obtain ⟨x0, x1⟩ := hxb
        have hwx : IntKind.u8.wrap x = x := by simp [IntKind.wrap, IntKind.signed, IntKind.bits]; omega
        have HX := Lib.hid hx
        have HO := Lib.hid hown
        have HB := Lib.hid hB
        have hz := hB.size
        have hle : (ms.take k).length ≤ 7 := by have := List.length_take_le k ms; omega
        have i0 : (0 : Int) ≤ (k : Int) := by omega
        have i1 : (k : Int) < (ms.length : Int) := by omega
        clear hcell hx hown hB hnn
        go_wp2_with (at_builtin; refine wpList_append_row _ rfl (.tmp 15) (.tmp 18) 26 rfl w.heap.size 5 _ 1 1 Tryz.underlying26 u8Info rfl (Nat.succ_pos 0) u8Row u8Row_length u8Row_one _ _ rfl HO.out x _ rfl 5 _ rfl rfl (by omega) (by omega) hz ?_; intro v' w' p1 p2 p3 p4 p5)
        have HP := Lib.hid p1
        have HB2 := Lib.hid (HB.out.trans p2)
        have HV := Lib.hid p5
        clear p1 p2 p3 p4 p5
        go_roundw
        case rel => exact ⟨k + 1, by omega, by go_num, by rw [take_at HX.out]; exact HP.out, fun h => absurd h HV.out, HB2.out⟩
        case measure => simp [intOf]; omega
      · have hk' : k = ms.length := by omega
        have HO := Lib.hid (show Own 1 u8Row 5 w.heap.size wr u2 ms by rw [hk', List.take_length] at hown; exact hown)
        have HV := Lib.hid (show u2 ≠ .slice none 0 0 from fun h => HNE.out (List.eq_nil_of_length_eq_zero (by have := hnn h; omega)))
        have HB := Lib.hid hB
        clear hk' hown hnn hB
        go_wp2_with fail
        go_ret2
        exact bytPost_yes HM.out HO.out HV.out HB.out
end Go.Proofs.YtfglkpcboodllaaGreatDoor
/-
  limpetref17, 1: Of, Right, Members, Good, Older: contracts.
-/
set_option linter.unusedVariables false
set_option linter.unusedSimpArgs false
namespace Go.Proofs.YtfglkpcboodllaaGreatDoor
open Go.RowKit

set_option maxHeartbeats 400000 in
theorem refOf (x : Ent) (w : World) :
    Calls Tryz.prog 52 #[.agg #[.int .i64 x.idx, .int .i64 x.trm, .int .i64 x.knd, .slice x.ba x.bd.length x.bc]] w fun e w' => e = .returned (.agg #[.int .i64 x.idx, .int .i64 x.trm, .int .i64 x.knd]) ∧ Below w.heap.size w w' := by
  go_enter Tryz.func52, Tryz.ntmps52
  go_wp2_with fail
  refine bodyPost_ret (v := .agg #[.int .i64 x.idx, .int .i64 x.trm, .int .i64 x.knd]) (by simp [results, Tryz.results52, go_sem]) rfl ⟨rfl, ?_⟩
  first | exact below_call (below_new _ _) (below_new _ _) | exact below_new _ _ | (repeat (first | exact Below.refl _ _ | refine Below.alloc ?_ (by simp) _ | refine below_set ?_ (by simp)))

theorem memFrom_next {p x : Int} {l : List Int} {k : Nat} (hp : 0 ≤ p) (hm : memFrom 0 l = memFrom p (l.drop k)) (hx : l[k]? = some x) : memFrom 0 l = (decide (p < x ∧ x ≤ 7) && memFrom x (l.drop (k + 1))) := by
  rw [hm, drop_at hx]
  show (decide (1 ≤ x ∧ x ≤ 7 ∧ p < x) && memFrom x (l.drop (k + 1))) = _
  congr 1
  rw [decide_eq_decide]; omega

set_option maxHeartbeats 400000 in
theorem refRight (l : List Int) (v : Value) (w : World) (h : Sl 1 i64Row w.heap.size w v l) :
    Calls Tryz.prog 68 #[v] w fun e w' => e = .returned (.bool (memRight l)) ∧ w = w' := by
  obtain ⟨A, cap, rfl, hlc, hcm, -, hA⟩ := h
  have hn : l.length ≤ 9223372036854775807 := by unfold maxLen at hcm; omega
  clear hcm
  go_enter Tryz.func68, Tryz.ntmps68
  go_wp2_with fail
  go_loop [3, 4] (fun q j => ∃ (k : Nat) (p : Int), k ≤ l.length ∧ j = .int .i64 k ∧ q = .int .i64 p ∧ 0 ≤ p ∧ memFrom 0 l = memFrom p (l.drop k)) (fun _ j => l.length - (intOf j).toNat)
  case atStart => exact ⟨0, 0, by omega, rfl, rfl, by omega, by simp⟩
  case round =>
    obtain ⟨k, p, hk, rfl, rfl, hp, hm⟩ := hrel
    by_cases hlt : k < l.length
    · obtain ⟨b, off, rfl, hb, hcell⟩ := hA (by intro h; subst h; simp at hlt)
      obtain ⟨x, hx⟩ : ∃ x, l[k]? = some x := ⟨_, List.getElem?_eq_getElem hlt⟩
      have c0 : w.cell? ⟨b, off + k, none⟩ = some (.int .i64 x) := by simpa using hcell k x hx 0 _ rfl
      have HM := Lib.hid (memFrom_next hp hm hx)
      have i0 : (0 : Int) ≤ (k : Int) := by omega
      have i1 : (k : Int) < (l.length : Int) := by omega
      have d0 : decide ((k : Int) < (l.length : Int)) = true := decide_eq_true i1
      have d0' : decide (k < l.length) = true := decide_eq_true hlt
      clear hcell hx hm
      by_cases g1 : x ≤ p
      · have d1 : decide (x ≤ p) = true := decide_eq_true g1
        go_wp2_with fail
        go_ret
        exact ⟨ret_bool (by rw [memRight, HM.out, decide_eq_false (by omega)]; rfl), rfl⟩
      · have d1 : decide (x ≤ p) = false := decide_eq_false g1
        by_cases g2 : 7 < x
        · have d2 : decide (7 < x) = true := decide_eq_true g2
          go_wp2_with fail
          go_ret
          exact ⟨ret_bool (by rw [memRight, HM.out, decide_eq_false (by omega)]; rfl), rfl⟩
        · have d2 : decide (7 < x) = false := decide_eq_false g2
          have HM2 := Lib.hid (show memFrom 0 l = memFrom x (l.drop (k + 1)) by rw [HM.out, decide_eq_true (by omega)]; rfl)
          have hx0 : 0 ≤ x := by omega
          clear HM
          go_wp2_with fail
          go_round
          case rel => exact ⟨k + 1, x, by omega, by go_num, rfl, hx0, HM2.out⟩
          case measure => simp [intOf]; omega
    · have hk' : k = l.length := by omega
      have d0 : decide ((k : Int) < (l.length : Int)) = false := decide_eq_false (by omega)
      have d0' : decide (k < l.length) = false := decide_eq_false hlt
      have HM := Lib.hid (show memFrom 0 l = true by rw [hm, hk']; simp [memFrom])
      clear hm hp hk'
      go_wp2_with fail
      go_ret
      exact ⟨ret_bool (by rw [memRight, HM.out]; cases l <;> simp), rfl⟩

theorem memOk_take {b : List Int} {k : Nat} (hk : k = b.length ∧ k ≤ 8 ∨ k = 8 ∧ 8 ≤ b.length) : memRight (b.take k) = memOk b := by
  unfold memOk
  rcases hk with ⟨rfl, h8⟩ | ⟨rfl, h8⟩
  · rw [List.take_length]
    by_cases h : b.length ≤ 7
    · rw [decide_eq_true h]; rfl
    · rw [decide_eq_false h]
      cases hm : memRight b with
      | false => rfl
      | true => exact absurd (memRight_short hm) h
  · rw [decide_eq_false (by omega)]
    cases hm : memRight (b.take 8) with
    | false => rfl
    | true => have := memRight_short hm; rw [List.length_take] at this; omega
theorem memOk_len {b : List Int} (h : memOk b = true) : b.length ≤ 7 := by unfold memOk at h; simp only [Bool.and_eq_true, decide_eq_true_eq] at h; exact h.1

set_option maxHeartbeats 1000000 in
theorem refMembers (b : List Int) (hbb : ∀ x ∈ b, 0 ≤ x ∧ x ≤ 255) (v : Value) (w : World) (h : Sl 1 u8Row w.heap.size w v b) :
    Calls Tryz.prog 66 #[v] w (MemPost b w) := by
  obtain ⟨A, cap, rfl, hlc, hcm, -, hA⟩ := h
  have hn : b.length ≤ 9223372036854775807 := by unfold maxLen at hcm; omega
  clear hcm
  have HA := Lib.hid hA
  have HBB := Lib.hid hbb
  clear hA hbb
  go_enter Tryz.func66, Tryz.ntmps66
  go_wp2_with fail
  go_loopw [4, 5] (fun o i wr => ∃ k : Nat, k ≤ b.length ∧ k ≤ 8 ∧ i = .int .i64 k ∧ Own 1 i64Row 3 w.heap.size wr o (b.take k) ∧ Below w.heap.size w wr) (fun _ i _ => b.length - (intOf i).toNat)
  case atStart => exact ⟨0, by omega, by omega, rfl, Own.nil_ _ _ _ _ _, Below.refl _ _⟩
  case round =>
    obtain ⟨k, hk, hk8, rfl, hown, hB⟩ := hrel
    have i0 : (0 : Int) ≤ (k : Int) := by omega
    by_cases hlt : k < b.length
    · have i1 : (k : Int) < (b.length : Int) := by omega
      have d0 : decide ((k : Int) < (b.length : Int)) = true := decide_eq_true i1
      have d0' : decide (k < b.length) = true := decide_eq_true hlt
      by_cases h7 : k ≤ 7
      · have d1 : decide ((k : Int) ≤ 7) = true := decide_eq_true (by omega)
        have d1' : decide (k ≤ 7) = true := decide_eq_true h7
        have i7 : (k : Int) ≤ 7 := by omega
        obtain ⟨bb, off, rfl, hbl, hcell⟩ := HA.out (by intro h; subst h; simp at hlt)
        obtain ⟨x, hx⟩ : ∃ x, b[k]? = some x := ⟨_, List.getElem?_eq_getElem hlt⟩
        have c0 : wr.cell? ⟨bb, off + k, none⟩ = some (.int .u8 x) := by
          have := (hB.cell (p := ⟨bb, off + k * 1 + 0, none⟩) hbl).trans (hcell k x hx 0 _ rfl)
          simpa using this
        obtain ⟨x0, x1⟩ := HBB.out x (List.mem_of_getElem? hx)
        have hwx : IntKind.i64.wrap x = x := IntWalk.i64_in _ (by omega)
        have HX := Lib.hid hx
        have HO := Lib.hid hown
        have HB := Lib.hid hB
        have hz := hB.size
        have hle : (b.take k).length ≤ 8 := by have := List.length_take_le k b; omega
        clear hcell hx hown hB
        go_wp2_with (at_builtin; refine wpList_append_row _ rfl (.tmp 16) (.tmp 22) 22 rfl w.heap.size 3 _ 1 8 Tryz.underlying22 intInfo rfl (Nat.succ_pos 0) i64Row i64Row_length i64Row_one _ _ rfl HO.out x _ rfl 3 _ rfl rfl (by omega) (by omega) hz ?_; intro v' w' p1 p2 p3 p4 p5)
        have HP := Lib.hid p1
        have HB2 := Lib.hid (HB.out.trans p2)
        clear p1 p2 p3 p4 p5
        go_roundw
        case rel => exact ⟨k + 1, by omega, by omega, by go_num, by rw [take_at HX.out]; exact HP.out, HB2.out⟩
        case measure => simp [intOf]; omega
      · have d1 : decide ((k : Int) ≤ 7) = false := decide_eq_false (by omega)
        have d1' : decide (k ≤ 7) = false := decide_eq_false h7
        have i7 : (7 : Int) < (k : Int) := by omega
        have HK := Lib.hid (memOk_take (b := b) (k := k) (.inr (by omega)))
        have HNO := Lib.hid (show memOk b = false by cases hm : memOk b with | false => rfl | true => have := memOk_len hm; omega)
        have HS := Lib.hid (hown.sl i64Row_length)
        have HB := Lib.hid hB
        clear hown hB
        go_wp2_with (go_at_call 68; refine (refRight (b.take k) _ _ HS.out).mono ?_; rintro e w2 ⟨rfl, rfl⟩; rw [HK.out, HNO.out])
        go_ret2
        exact memPost_no HNO.out HB.out
    · have d0 : decide ((k : Int) < (b.length : Int)) = false := decide_eq_false (by omega)
      have d0' : decide (k < b.length) = false := decide_eq_false hlt
      have i1 : (b.length : Int) ≤ (k : Int) := by omega
      have HK := Lib.hid (memOk_take (b := b) (k := k) (.inl (by omega)))
      have HTK := Lib.hid (show b.take k = b by rw [show k = b.length by omega, List.take_length])
      have HO := Lib.hid hown
      have HS := Lib.hid (hown.sl i64Row_length)
      have HB := Lib.hid hB
      clear hown hB
      cases hm : memOk b with
      | false =>
        have HNO := Lib.hid hm
        clear hm
        go_wp2_with (go_at_call 68; refine (refRight (b.take k) _ _ HS.out).mono ?_; rintro e w2 ⟨rfl, rfl⟩; rw [HK.out, HNO.out])
        go_ret2
        exact memPost_no HNO.out HB.out
      | true =>
        have HNO := Lib.hid hm
        clear hm
        go_wp2_with (go_at_call 68; refine (refRight (b.take k) _ _ HS.out).mono ?_; rintro e w2 ⟨rfl, rfl⟩; rw [HK.out, HNO.out])
        go_ret2
        exact memPost_yes HNO.out (by have := HO.out; rw [HTK.out] at this; exact this) HB.out

set_option maxHeartbeats 2000000 in
theorem refGood (x : Ent) (w : World) (hx : EntIn w.heap.size w x) :
    Calls Tryz.prog 54 #[.agg #[.int .i64 x.idx, .int .i64 x.trm, .int .i64 x.knd, .slice x.ba x.bd.length x.bc]] w fun e w' => e = .returned (.bool (goodE x)) ∧ Below w.heap.size w w' := by
  have HX := Lib.hid hx
  clear hx
  by_cases g0 : x.idx < 1
  · have d0 : decide (x.idx < 1) = true := decide_eq_true g0
    have HGD := Lib.hid (show goodE x = false from good_false (by unfold rangeE; simp only [Bool.and_eq_false_iff, decide_eq_false_iff_not]; omega))
    go_enter Tryz.func54, Tryz.ntmps54
    go_wp2_with fail
    go_ret
    exact ⟨ret_bool HGD.out.symm, below_new _ _⟩
  · have d0 : decide (x.idx < 1) = false := decide_eq_false g0
    by_cases g1 : 1099511627776 < x.idx
    · have d1 : decide (1099511627776 < x.idx) = true := decide_eq_true g1
      have HGD := Lib.hid (show goodE x = false from good_false (by unfold rangeE; simp only [Bool.and_eq_false_iff, decide_eq_false_iff_not]; omega))
      go_enter Tryz.func54, Tryz.ntmps54
      go_wp2_with fail
      go_ret
      exact ⟨ret_bool HGD.out.symm, below_new _ _⟩
    · have d1 : decide (1099511627776 < x.idx) = false := decide_eq_false g1
      by_cases g2 : x.trm < 0
      · have d2 : decide (x.trm < 0) = true := decide_eq_true g2
        have HGD := Lib.hid (show goodE x = false from good_false (by unfold rangeE; simp only [Bool.and_eq_false_iff, decide_eq_false_iff_not]; omega))
        go_enter Tryz.func54, Tryz.ntmps54
        go_wp2_with fail
        go_ret
        exact ⟨ret_bool HGD.out.symm, below_new _ _⟩
      · have d2 : decide (x.trm < 0) = false := decide_eq_false g2
        by_cases g3 : 1099511627776 < x.trm
        · have d3 : decide (1099511627776 < x.trm) = true := decide_eq_true g3
          have HGD := Lib.hid (show goodE x = false from good_false (by unfold rangeE; simp only [Bool.and_eq_false_iff, decide_eq_false_iff_not]; omega))
          go_enter Tryz.func54, Tryz.ntmps54
          go_wp2_with fail
          go_ret
          exact ⟨ret_bool HGD.out.symm, below_new _ _⟩
        · have d3 : decide (1099511627776 < x.trm) = false := decide_eq_false g3
          by_cases g4 : 200 < x.bd.length
          · have d4 : decide (200 < x.bd.length) = true := decide_eq_true g4
            have d9 : decide (200 < (x.bd.length : Int)) = true := decide_eq_true (by omega)
            have HGD := Lib.hid (show goodE x = false from good_false (by unfold rangeE; simp only [Bool.and_eq_false_iff, decide_eq_false_iff_not]; omega))
            go_enter Tryz.func54, Tryz.ntmps54
            go_wp2_with fail
            go_ret
            exact ⟨ret_bool HGD.out.symm, below_new _ _⟩
          · have d4 : decide (200 < x.bd.length) = false := decide_eq_false g4
            have d9 : decide (200 < (x.bd.length : Int)) = false := decide_eq_false (by omega)
            by_cases k1 : x.knd = 1
            · have e1 : (x.knd == 1) = true := by simpa using k1
              have HR := Lib.hid (show rangeE x = true by unfold rangeE; simp only [Bool.and_eq_true, decide_eq_true_eq]; omega)
              have HGD := Lib.hid (good_none HR.out k1)
              by_cases z : x.bd.length = 0
              · have ez : ((x.bd.length : Int) == 0) = true := by rw [beq_iff_eq]; omega
                have ez2 : decide (x.bd.length = 0) = true := decide_eq_true z
                have HGD := Lib.hid (HGD.out.trans ez2)
                clear z k1
                go_enter Tryz.func54, Tryz.ntmps54
                go_wp2_with fail
                go_ret
                exact ⟨ret_bool HGD.out.symm, below_new _ _⟩
              · have ez : ((x.bd.length : Int) == 0) = false := by rw [beq_eq_false_iff_ne]; omega
                have ez2 : decide (x.bd.length = 0) = false := decide_eq_false z
                have HGD := Lib.hid (HGD.out.trans ez2)
                clear z k1
                go_enter Tryz.func54, Tryz.ntmps54
                go_wp2_with fail
                go_ret
                exact ⟨ret_bool HGD.out.symm, below_new _ _⟩
            · have e1 : (x.knd == 1) = false := by simpa using k1
              by_cases k2 : x.knd = 2
              · have e2 : (x.knd == 2) = true := by simpa using k2
                have HR := Lib.hid (show rangeE x = true by unfold rangeE; simp only [Bool.and_eq_true, decide_eq_true_eq]; omega)
                have HGD := Lib.hid (good_com HR.out k2)
                clear k1 k2
                go_enter Tryz.func54, Tryz.ntmps54
                go_wp2_with fail
                go_ret
                exact ⟨ret_bool HGD.out.symm, below_new _ _⟩
              · have e2 : (x.knd == 2) = false := by simpa using k2
                by_cases k3 : x.knd = 3
                · have e3 : (x.knd == 3) = true := by simpa using k3
                  have HR := Lib.hid (show rangeE x = true by unfold rangeE; simp only [Bool.and_eq_true, decide_eq_true_eq]; omega)
                  have HGD := Lib.hid (good_grp HR.out k1 k2)
                  clear k1 k2 k3
                  cases hm : memOk x.bd with
                  | true =>
                    have HM := Lib.hid hm
                    have HGD := Lib.hid (HGD.out.trans hm)
                    clear hm
                    go_enter Tryz.func54, Tryz.ntmps54
                    go_wp2_with (go_at_call 66; refine (refMembers x.bd HX.out.2 _ _ (HX.out.later (below_new _ _)).1).mono ?_; rintro e w2 ⟨v2, rfl, -, hb2⟩; rw [HM.out])
                    go_ret
                    exact ⟨ret_bool HGD.out.symm, below_call (below_new _ _) hb2⟩
                  | false =>
                    have HM := Lib.hid hm
                    have HGD := Lib.hid (HGD.out.trans hm)
                    clear hm
                    go_enter Tryz.func54, Tryz.ntmps54
                    go_wp2_with (go_at_call 66; refine (refMembers x.bd HX.out.2 _ _ (HX.out.later (below_new _ _)).1).mono ?_; rintro e w2 ⟨v2, rfl, -, hb2⟩; rw [HM.out])
                    go_ret
                    exact ⟨ret_bool HGD.out.symm, below_call (below_new _ _) hb2⟩
                · have e3 : (x.knd == 3) = false := by simpa using k3
                  have HGD := Lib.hid (show goodE x = false from good_false (by unfold rangeE; simp only [Bool.and_eq_false_iff, decide_eq_false_iff_not]; omega))
                  clear k1 k2 k3
                  go_enter Tryz.func54, Tryz.ntmps54
                  go_wp2_with fail
                  go_ret
                  exact ⟨ret_bool HGD.out.symm, below_new _ _⟩

set_option maxHeartbeats 1000000 in
theorem refOlder (a b : Idt) (w : World) :
    Calls Tryz.prog 60 #[.agg #[.int .i64 a.idx, .int .i64 a.trm, .int .i64 a.knd], .agg #[.int .i64 b.idx, .int .i64 b.trm, .int .i64 b.knd]] w fun e w' => e = .returned (.bool (olderI a b)) ∧ Below w.heap.size w w' := by
  by_cases h1 : a.trm < b.trm
  · have d1 : decide (a.trm < b.trm) = true := decide_eq_true h1
    have HR := Lib.hid (show olderI a b = true by unfold olderI; rw [if_neg (by omega)]; exact d1)
    go_enter Tryz.func60, Tryz.ntmps60
    go_wp2_with fail
    go_ret
    exact ⟨ret_bool HR.out.symm, below_call (below_new _ _) (below_new _ _)⟩
  · have d1 : decide (a.trm < b.trm) = false := decide_eq_false h1
    by_cases h2 : a.trm = b.trm
    · have e1 : (a.trm == b.trm) = true := by simpa using h2
      have HR := Lib.hid (show olderI a b = decide (a.idx < b.idx) by unfold olderI; rw [if_pos h2])
      clear h1 h2
      go_enter Tryz.func60, Tryz.ntmps60
      go_wp2_with fail
      go_ret
      exact ⟨ret_bool HR.out.symm, below_call (below_new _ _) (below_new _ _)⟩
    · have e1 : (a.trm == b.trm) = false := by simpa using h2
      have HR := Lib.hid (show olderI a b = false by unfold olderI; rw [if_neg h2]; exact d1)
      clear h1 h2
      go_enter Tryz.func60, Tryz.ntmps60
      go_wp2_with fail
      go_ret
      exact ⟨ret_bool HR.out.symm, below_call (below_new _ _) (below_new _ _)⟩
end Go.Proofs.YtfglkpcboodllaaGreatDoor
/-
  limpetkit's SameBytes: contract.
-/
namespace Go.Proofs.YtfglkpcboodllaaGreatDoor
open Go.RowKit
set_option linter.unusedVariables false

set_option maxHeartbeats 1000000 in
theorem sameBytes (l : List Int) (v v' : Value) (w : World) (h : Sl 1 u8Row w.heap.size w v l) (h' : Sl 1 u8Row w.heap.size w v' l) :
    Calls Tryz.prog 69 #[v, v'] w fun e w' => e = .returned (.bool true) ∧ ∃ n, w' = w.drewN n := by
  obtain ⟨A, cap, rfl, hlc, hcm, -, hA⟩ := h
  obtain ⟨A', cap', rfl, hlc', hcm', -, hA'⟩ := h'
  have hn : l.length ≤ 9223372036854775807 := by unfold maxLen at hcm; omega
  clear hcm hcm'
  go_enter Tryz.func69, Tryz.ntmps69
  go_wp2_with fail
  go_loopw [5] (fun i wr => ∃ k n : Nat, k ≤ l.length ∧ i = .int .i64 k ∧ wr = w.drewN n) (fun i _ => l.length - (intOf i).toNat)
  case atStart => exact ⟨0, 0, by omega, rfl, rfl⟩
  case round =>
    obtain ⟨k, n, hk, rfl, rfl⟩ := hrel
    by_cases hlt : k < l.length
    · obtain ⟨b, off, rfl, hb, hcell⟩ := hA (by intro h; subst h; simp at hlt)
      obtain ⟨b', off', rfl, hb', hcell'⟩ := hA' (by intro h; subst h; simp at hlt)
      obtain ⟨x, hx⟩ : ∃ x, l[k]? = some x := ⟨_, List.getElem?_eq_getElem hlt⟩
      have c0 : w.cell? ⟨b, off + k, none⟩ = some (.int .u8 x) := by simpa using hcell k x hx 0 _ rfl
      have c1 : w.cell? ⟨b', off' + k, none⟩ = some (.int .u8 x) := by simpa using hcell' k x hx 0 _ rfl
      have i0 : (0 : Int) ≤ (k : Int) := by omega
      have i1 : (k : Int) < (l.length : Int) := by omega
      clear hcell hcell' hx hA hA'
      go_wp2_with fail
      go_quiet (fail)
      go_wp2_with fail
      go_roundw
      case rel => exact ⟨k + 1, _, by omega, by go_num, rfl⟩
      case measure => simp [intOf]; omega
    · go_wp2_with fail
      go_ret
      exact ⟨rfl, n, rfl⟩
end Go.Proofs.YtfglkpcboodllaaGreatDoor
/-
  limpetkit's marks: contracts.
-/
set_option linter.unusedVariables false
set_option linter.unusedSimpArgs false
namespace Go.Proofs.YtfglkpcboodllaaGreatDoor
open Go.RowKit

def mkI (k x : Int) : Int := 1000003 * (k + 7) + x
def mkB (k x : Int) : Int := IntKind.u64.wrap ((1000003 * (k + 7) + x) * 11400714819323198485) / 72057594037927936 % 256
theorem mkB_byte (k x : Int) : 0 ≤ mkB k x ∧ mkB k x ≤ 255 := by unfold mkB; omega
set_option maxHeartbeats 400000 in
theorem markAny (k x : Int) (w : World) (k0 : 0 ≤ k) (k1 : k ≤ 1000000) (h0 : 0 ≤ x) (h1 : x ≤ 1000000) : Calls Tryz.prog 115 #[.int .i64 k, .int .i64 x] w fun e w' => e = .returned (.int .i64 (mkI k x)) ∧ w = w' := by
  go_enter Tryz.func115, Tryz.ntmps115
  go_wp2
  go_ret
  exact ⟨rfl, rfl⟩
set_option maxHeartbeats 400000 in
theorem markByteAny (k x : Int) (w : World) (k0 : 0 ≤ k) (k1 : k ≤ 1000000) (h0 : 0 ≤ x) (h1 : x ≤ 1000000) : Calls Tryz.prog 116 #[.int .i64 k, .int .i64 x] w fun e w' => e = .returned (.int .u8 (mkB k x)) ∧ w = w' := by
  go_enter Tryz.func116, Tryz.ntmps116
  go_wp2_with (go_at_call 115; refine (markAny k x _ k0 k1 h0 h1).mono ?_; unfold mkI; rintro e w2 ⟨rfl, rfl⟩)
  go_ret
  exact ⟨rfl, rfl⟩
set_option maxHeartbeats 400000 in
theorem markEntryAny (k x : Int) (w : World) (k0 : 0 ≤ k) (k1 : k ≤ 1000000) (h0 : 0 ≤ x) (h1 : x ≤ 1000000) : Calls Tryz.prog 78 #[.int .i64 k, .int .i64 x] w fun e w' => e = .returned (.agg #[.int .i64 (mkI k x), .int .i64 0, .int .i64 0, .slice none 0 0]) ∧ Below w.heap.size w w' := by
  go_enter Tryz.func78, Tryz.ntmps78
  go_wp2_with (go_at_call 115; refine (markAny k x _ k0 k1 h0 h1).mono ?_; rintro e w2 ⟨rfl, rfl⟩)
  refine bodyPost_ret (v := .agg #[.int .i64 (mkI k x), .int .i64 0, .int .i64 0, .slice none 0 0]) (by simp [results, Tryz.results78, go_sem]) rfl ⟨rfl, ?_⟩
  repeat refine below_set ?_ (by simp)
  exact below_new _ _
end Go.Proofs.YtfglkpcboodllaaGreatDoor
