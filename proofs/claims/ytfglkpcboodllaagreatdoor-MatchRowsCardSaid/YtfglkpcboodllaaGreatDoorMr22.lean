/-
  limpetref20's At: contract.
-/
import Derived.Test.YtfglkpcboodllaaGreatDoorMr5
set_option linter.unusedVariables false
set_option linter.unusedSimpArgs false
namespace Go.Proofs.YtfglkpcboodllaaGreatDoor
open Go.RowKit

set_option maxRecDepth 100000 in
set_option maxHeartbeats 2000000 in
theorem ref20At (b : Idt) (l : List Idt) (A : Option Addr) (c : Nat) (i : Int) (w : World) (h : Sl 3 idRow w.heap.size w (.slice A l.length c) l) (hb : I64 b.idx) (hi : I64 i) :
    Calls Tryz.prog 20 #[.agg #[.int .i64 b.idx, .int .i64 b.trm, .int .i64 b.knd, .slice A l.length c], .int .i64 i] w (AtPost b l i w) := by
  obtain ⟨A', cap, hv, hlc, hcm, -, hA⟩ := h
  simp only [Value.slice.injEq] at hv
  obtain ⟨rfl, -, rfl⟩ := hv
  have hn : l.length ≤ 9223372036854775807 := by unfold maxLen at hcm; omega
  have HA := Lib.hid hA
  obtain ⟨b0, b1⟩ := hb
  obtain ⟨i0, i1⟩ := hi
  have HX := Lib.hid (Box.new w #[.int .i64 b.idx, .int .i64 b.trm, .int .i64 b.knd, .slice A l.length c] 48)
  clear hcm hA
  by_cases g1 : i = b.idx
  · have e1 : (i == b.idx) = true := by simpa using g1
    have HF := Lib.hid (atV_base (l := l) g1)
    clear g1
    go_enter Tryz.func20, Tryz.ntmps20
    go_wp2_with fail
    refine bodyPost_ret (v := .tuple #[.agg #[.int .i64 b.idx, .int .i64 b.trm, .int .i64 b.knd], .bool true]) (by simp [results, Tryz.results20, go_sem]) rfl (atPost_some HF.out ?_)
    first | exact below_call (below_new _ _) (below_new _ _) | (repeat (first | exact Below.refl _ _ | exact HB.out | refine Below.alloc ?_ (by simp) _ | refine below_set ?_ (by simp)))
  have e1 : (i == b.idx) = false := by simpa using g1
  by_cases g2 : b.idx < i
  · have d2 : decide (b.idx < i) = true := decide_eq_true g2
    by_cases g3 : i - b.idx ≤ 9223372036854775807
    · obtain ⟨j, hj⟩ : ∃ j : Nat, i - b.idx - 1 = (j : Int) := ⟨(i - b.idx - 1).toNat, by omega⟩
      have j0 : (0 : Int) ≤ (j : Int) := by omega
      by_cases hlt0 : j < l.length
      · obtain ⟨bb, off, rfl, hbl, hcell⟩ := HA.out (by intro h; subst h; simp at hlt0)
        obtain ⟨x, hx⟩ : ∃ x, l[j]? = some x := ⟨_, List.getElem?_eq_getElem hlt0⟩
        have hc0 : w.cell? ⟨bb, off + j * 3, none⟩ = _ := hcell j x hx 0 _ rfl
        have hc1 := hcell j x hx 1 _ rfl
        have hc2 := hcell j x hx 2 _ rfl
        by_cases hk : x.knd = 0
        · have ek : (x.knd != 0) = false := by simpa using hk
          have HF := Lib.hid (show atV b l i = none by rw [atV_in hj hx, if_pos hk])
          clear hcell hx hk
          go_enter Tryz.func20, Tryz.ntmps20
          go_wp2_with fail
          have HXO := Lib.hid (HX.out.alloc (.cells #[.int .i64 0, .int .i64 0, .int .i64 0] 25))
          have HBO := Lib.hid (below_call (below_new w (.cells #[.int .i64 b.idx, .int .i64 b.trm, .int .i64 b.knd, .slice (some ⟨bb, off, none⟩) l.length c] 48)) (below_new _ (.cells #[.int .i64 0, .int .i64 0, .int .i64 0] 25)))
          have HO := Lib.hid (Box.new (w.alloc (.cells #[.int .i64 b.idx, .int .i64 b.trm, .int .i64 b.knd, .slice (some ⟨bb, off, none⟩) l.length c] 48)) #[.int .i64 0, .int .i64 0, .int .i64 0] 25)
          have hsz : (w.alloc (.cells #[.int .i64 b.idx, .int .i64 b.trm, .int .i64 b.knd, .slice (some ⟨bb, off, none⟩) l.length c] 48)).heap.size = w.heap.size + 1 := by simp
          rw [hsz] at HO
          obtain ⟨wo, hwo⟩ : ∃ wo, wo = ((w.alloc (.cells #[.int .i64 b.idx, .int .i64 b.trm, .int .i64 b.knd, .slice (some ⟨bb, off, none⟩) l.length c] 48)).alloc (.cells #[.int .i64 0, .int .i64 0, .int .i64 0] 25)) := ⟨_, rfl⟩
          rw [← hwo] at HXO HBO HO
          rw [← hwo]
          clear hwo hsz
          obtain ⟨kv, fv, zv⟩ := HXO.out.facts
          obtain ⟨ko, fo, zo⟩ := HO.out.facts
          go_loop [6] (fun q => ∃ k : Nat, k ≤ l.length ∧ q = .int .i64 k) (fun q => l.length - (intOf q).toNat)
          case atStart => exact ⟨0, by omega, rfl⟩
          case round =>
            obtain ⟨k, hk, rfl⟩ := hrel
            have k0 : (0 : Int) ≤ (k : Int) := by omega
            by_cases hlt : k < l.length
            · have d0 : decide ((k : Int) < (l.length : Int)) = true := decide_eq_true (by omega)
              have d0' : decide (k < l.length) = true := decide_eq_true hlt
              have k1 : (k : Int) < (l.length : Int) := by omega
              by_cases hjk : j = k
              · have ee : ((j : Int) == (k : Int)) = true := by simp; omega
                obtain rfl : k = j := by omega
                have c0 : wo.cell? ⟨bb, off + k * 3, none⟩ = some (.int .i64 x.idx) := (HBO.out.cell (p := ⟨bb, off + k * 3, none⟩) hbl).trans hc0
                have c1 : wo.cell? ⟨bb, off + k * 3 + 1, none⟩ = some (.int .i64 x.trm) := (HBO.out.cell (p := ⟨bb, off + k * 3 + 1, none⟩) hbl).trans hc1
                have c2 : wo.cell? ⟨bb, off + k * 3 + 2, none⟩ = some (.int .i64 x.knd) := (HBO.out.cell (p := ⟨bb, off + k * 3 + 2, none⟩) hbl).trans hc2
                have hbo : bb < wo.heap.size := Nat.lt_of_lt_of_le hbl HBO.out.size
                go_wp2_with fail
                go_round
                case rel => exact ⟨k + 1, by omega, by go_num⟩
                case measure => simp [intOf]; omega
              · have ee : ((j : Int) == (k : Int)) = false := by simp; omega
                clear hjk
                go_wp2_with fail
                go_round
                case rel => exact ⟨k + 1, by omega, by go_num⟩
                case measure => simp [intOf]; omega
            · have d0 : decide ((k : Int) < (l.length : Int)) = false := decide_eq_false (by omega)
              have d0' : decide (k < l.length) = false := decide_eq_false hlt
              have k1 : (l.length : Int) ≤ (k : Int) := by omega
              go_wp2_with fail
              refine bodyPost_ret (v := .tuple #[.agg #[.int .i64 0, .int .i64 0, .int .i64 0], .bool false]) (by simp [results, Tryz.results20, go_sem, ko]) rfl (atPost_none HF.out ?_)
              repeat refine below_set ?_ (by simp)
              exact HBO.out
        · have ek : (x.knd != 0) = true := by simpa using hk
          have HF := Lib.hid (show atV b l i = some x by rw [atV_in hj hx, if_neg hk])
          clear hcell hx hk
          go_enter Tryz.func20, Tryz.ntmps20
          go_wp2_with fail
          have HXO := Lib.hid (HX.out.alloc (.cells #[.int .i64 0, .int .i64 0, .int .i64 0] 25))
          have HBO := Lib.hid (below_call (below_new w (.cells #[.int .i64 b.idx, .int .i64 b.trm, .int .i64 b.knd, .slice (some ⟨bb, off, none⟩) l.length c] 48)) (below_new _ (.cells #[.int .i64 0, .int .i64 0, .int .i64 0] 25)))
          have HO := Lib.hid (Box.new (w.alloc (.cells #[.int .i64 b.idx, .int .i64 b.trm, .int .i64 b.knd, .slice (some ⟨bb, off, none⟩) l.length c] 48)) #[.int .i64 0, .int .i64 0, .int .i64 0] 25)
          have hsz : (w.alloc (.cells #[.int .i64 b.idx, .int .i64 b.trm, .int .i64 b.knd, .slice (some ⟨bb, off, none⟩) l.length c] 48)).heap.size = w.heap.size + 1 := by simp
          rw [hsz] at HO
          obtain ⟨wo, hwo⟩ : ∃ wo, wo = ((w.alloc (.cells #[.int .i64 b.idx, .int .i64 b.trm, .int .i64 b.knd, .slice (some ⟨bb, off, none⟩) l.length c] 48)).alloc (.cells #[.int .i64 0, .int .i64 0, .int .i64 0] 25)) := ⟨_, rfl⟩
          rw [← hwo] at HXO HBO HO
          rw [← hwo]
          clear hwo hsz
          obtain ⟨kv, fv, zv⟩ := HXO.out.facts
          obtain ⟨ko, fo, zo⟩ := HO.out.facts
          go_loop [6] (fun q => ∃ k : Nat, k ≤ l.length ∧ q = .int .i64 k ∧ k ≤ j) (fun q => l.length - (intOf q).toNat)
          case atStart => exact ⟨0, by omega, rfl, by omega⟩
          case round =>
            obtain ⟨k, hk, rfl, hinv⟩ := hrel
            have k0 : (0 : Int) ≤ (k : Int) := by omega
            by_cases hlt : k < l.length
            · have d0 : decide ((k : Int) < (l.length : Int)) = true := decide_eq_true (by omega)
              have d0' : decide (k < l.length) = true := decide_eq_true hlt
              have k1 : (k : Int) < (l.length : Int) := by omega
              by_cases hjk : j = k
              · have ee : ((j : Int) == (k : Int)) = true := by simp; omega
                obtain rfl : k = j := by omega
                have c0 : wo.cell? ⟨bb, off + k * 3, none⟩ = some (.int .i64 x.idx) := (HBO.out.cell (p := ⟨bb, off + k * 3, none⟩) hbl).trans hc0
                have c1 : wo.cell? ⟨bb, off + k * 3 + 1, none⟩ = some (.int .i64 x.trm) := (HBO.out.cell (p := ⟨bb, off + k * 3 + 1, none⟩) hbl).trans hc1
                have c2 : wo.cell? ⟨bb, off + k * 3 + 2, none⟩ = some (.int .i64 x.knd) := (HBO.out.cell (p := ⟨bb, off + k * 3 + 2, none⟩) hbl).trans hc2
                have hbo : bb < wo.heap.size := Nat.lt_of_lt_of_le hbl HBO.out.size
                go_wp2_with fail
                refine bodyPost_ret (v := .tuple #[.agg #[.int .i64 x.idx, .int .i64 x.trm, .int .i64 x.knd], .bool true]) (by simp [results, Tryz.results20, go_sem, ko]) rfl (atPost_some HF.out ?_)
                repeat refine below_set ?_ (by simp)
                exact HBO.out
              · have ee : ((j : Int) == (k : Int)) = false := by simp; omega
                go_wp2_with fail
                go_round
                case rel => exact ⟨k + 1, by omega, by go_num, by omega⟩
                case measure => simp [intOf]; omega
            · have d0 : decide ((k : Int) < (l.length : Int)) = false := decide_eq_false (by omega)
              have d0' : decide (k < l.length) = false := decide_eq_false hlt
              have k1 : (l.length : Int) ≤ (k : Int) := by omega
              omega
      · have HF := Lib.hid (atV_out (b := b) (l := l) (i := i) (by omega))
        go_enter Tryz.func20, Tryz.ntmps20
        go_wp2_with fail
        have HXO := Lib.hid (HX.out.alloc (.cells #[.int .i64 0, .int .i64 0, .int .i64 0] 25))
        have HBO := Lib.hid (below_call (below_new w (.cells #[.int .i64 b.idx, .int .i64 b.trm, .int .i64 b.knd, .slice A l.length c] 48)) (below_new _ (.cells #[.int .i64 0, .int .i64 0, .int .i64 0] 25)))
        have HO := Lib.hid (Box.new (w.alloc (.cells #[.int .i64 b.idx, .int .i64 b.trm, .int .i64 b.knd, .slice A l.length c] 48)) #[.int .i64 0, .int .i64 0, .int .i64 0] 25)
        have hsz : (w.alloc (.cells #[.int .i64 b.idx, .int .i64 b.trm, .int .i64 b.knd, .slice A l.length c] 48)).heap.size = w.heap.size + 1 := by simp
        rw [hsz] at HO
        obtain ⟨wo, hwo⟩ : ∃ wo, wo = ((w.alloc (.cells #[.int .i64 b.idx, .int .i64 b.trm, .int .i64 b.knd, .slice A l.length c] 48)).alloc (.cells #[.int .i64 0, .int .i64 0, .int .i64 0] 25)) := ⟨_, rfl⟩
        rw [← hwo] at HXO HBO HO
        rw [← hwo]
        clear hwo hsz
        obtain ⟨kv, fv, zv⟩ := HXO.out.facts
        obtain ⟨ko, fo, zo⟩ := HO.out.facts
        go_loop [6] (fun q => ∃ k : Nat, k ≤ l.length ∧ q = .int .i64 k) (fun q => l.length - (intOf q).toNat)
        case atStart => exact ⟨0, by omega, rfl⟩
        case round =>
          obtain ⟨k, hk, rfl⟩ := hrel
          have k0 : (0 : Int) ≤ (k : Int) := by omega
          by_cases hlt : k < l.length
          · have d0 : decide ((k : Int) < (l.length : Int)) = true := decide_eq_true (by omega)
            have d0' : decide (k < l.length) = true := decide_eq_true hlt
            have k1 : (k : Int) < (l.length : Int) := by omega
            have ee : ((j : Int) == (k : Int)) = false := by simp; omega
            go_wp2_with fail
            go_round
            case rel => exact ⟨k + 1, by omega, by go_num⟩
            case measure => simp [intOf]; omega
          · have d0 : decide ((k : Int) < (l.length : Int)) = false := decide_eq_false (by omega)
            have d0' : decide (k < l.length) = false := decide_eq_false hlt
            have k1 : (l.length : Int) ≤ (k : Int) := by omega
            go_wp2_with fail
            refine bodyPost_ret (v := .tuple #[.agg #[.int .i64 0, .int .i64 0, .int .i64 0], .bool false]) (by simp [results, Tryz.results20, go_sem, ko]) rfl (atPost_none HF.out ?_)
            repeat refine below_set ?_ (by simp)
            exact HBO.out
    · have HF := Lib.hid (atV_out (b := b) (l := l) (i := i) (by omega))
      go_enter Tryz.func20, Tryz.ntmps20
      go_wp2_with fail
      have HXO := Lib.hid (HX.out.alloc (.cells #[.int .i64 0, .int .i64 0, .int .i64 0] 25))
      have HBO := Lib.hid (below_call (below_new w (.cells #[.int .i64 b.idx, .int .i64 b.trm, .int .i64 b.knd, .slice A l.length c] 48)) (below_new _ (.cells #[.int .i64 0, .int .i64 0, .int .i64 0] 25)))
      have HO := Lib.hid (Box.new (w.alloc (.cells #[.int .i64 b.idx, .int .i64 b.trm, .int .i64 b.knd, .slice A l.length c] 48)) #[.int .i64 0, .int .i64 0, .int .i64 0] 25)
      have hsz : (w.alloc (.cells #[.int .i64 b.idx, .int .i64 b.trm, .int .i64 b.knd, .slice A l.length c] 48)).heap.size = w.heap.size + 1 := by simp
      rw [hsz] at HO
      obtain ⟨wo, hwo⟩ : ∃ wo, wo = ((w.alloc (.cells #[.int .i64 b.idx, .int .i64 b.trm, .int .i64 b.knd, .slice A l.length c] 48)).alloc (.cells #[.int .i64 0, .int .i64 0, .int .i64 0] 25)) := ⟨_, rfl⟩
      rw [← hwo] at HXO HBO HO
      rw [← hwo]
      clear hwo hsz
      obtain ⟨kv, fv, zv⟩ := HXO.out.facts
      obtain ⟨ko, fo, zo⟩ := HO.out.facts
      go_loop [6] (fun q => ∃ k : Nat, k ≤ l.length ∧ q = .int .i64 k) (fun q => l.length - (intOf q).toNat)
      case atStart => exact ⟨0, by omega, rfl⟩
      case round =>
        obtain ⟨k, hk, rfl⟩ := hrel
        have k0 : (0 : Int) ≤ (k : Int) := by omega
        by_cases hlt : k < l.length
        · have d0 : decide ((k : Int) < (l.length : Int)) = true := decide_eq_true (by omega)
          have d0' : decide (k < l.length) = true := decide_eq_true hlt
          have k1 : (k : Int) < (l.length : Int) := by omega
          have ew : (wrap64 (wrap64 (i - b.idx) - 1) == (k : Int)) = false := by simp [wrap64]; omega
          go_wp2_with fail
          go_round
          case rel => exact ⟨k + 1, by omega, by go_num⟩
          case measure => simp [intOf]; omega
        · have d0 : decide ((k : Int) < (l.length : Int)) = false := decide_eq_false (by omega)
          have d0' : decide (k < l.length) = false := decide_eq_false hlt
          have k1 : (l.length : Int) ≤ (k : Int) := by omega
          go_wp2_with fail
          refine bodyPost_ret (v := .tuple #[.agg #[.int .i64 0, .int .i64 0, .int .i64 0], .bool false]) (by simp [results, Tryz.results20, go_sem, ko]) rfl (atPost_none HF.out ?_)
          repeat refine below_set ?_ (by simp)
          exact HBO.out
  · have d2 : decide (b.idx < i) = false := decide_eq_false g2
    have HF := Lib.hid (atV_low (b := b) (l := l) (i := i) (by omega))
    go_enter Tryz.func20, Tryz.ntmps20
    go_wp2_with fail
    have HXO := Lib.hid (HX.out.alloc (.cells #[.int .i64 0, .int .i64 0, .int .i64 0] 25))
    have HBO := Lib.hid (below_call (below_new w (.cells #[.int .i64 b.idx, .int .i64 b.trm, .int .i64 b.knd, .slice A l.length c] 48)) (below_new _ (.cells #[.int .i64 0, .int .i64 0, .int .i64 0] 25)))
    have HO := Lib.hid (Box.new (w.alloc (.cells #[.int .i64 b.idx, .int .i64 b.trm, .int .i64 b.knd, .slice A l.length c] 48)) #[.int .i64 0, .int .i64 0, .int .i64 0] 25)
    have hsz : (w.alloc (.cells #[.int .i64 b.idx, .int .i64 b.trm, .int .i64 b.knd, .slice A l.length c] 48)).heap.size = w.heap.size + 1 := by simp
    rw [hsz] at HO
    obtain ⟨wo, hwo⟩ : ∃ wo, wo = ((w.alloc (.cells #[.int .i64 b.idx, .int .i64 b.trm, .int .i64 b.knd, .slice A l.length c] 48)).alloc (.cells #[.int .i64 0, .int .i64 0, .int .i64 0] 25)) := ⟨_, rfl⟩
    rw [← hwo] at HXO HBO HO
    rw [← hwo]
    clear hwo hsz
    obtain ⟨kv, fv, zv⟩ := HXO.out.facts
    obtain ⟨ko, fo, zo⟩ := HO.out.facts
    go_loop [6] (fun q => ∃ k : Nat, k ≤ l.length ∧ q = .int .i64 k) (fun q => l.length - (intOf q).toNat)
    case atStart => exact ⟨0, by omega, rfl⟩
    case round =>
      obtain ⟨k, hk, rfl⟩ := hrel
      have k0 : (0 : Int) ≤ (k : Int) := by omega
      by_cases hlt : k < l.length
      · have d0 : decide ((k : Int) < (l.length : Int)) = true := decide_eq_true (by omega)
        have d0' : decide (k < l.length) = true := decide_eq_true hlt
        have k1 : (k : Int) < (l.length : Int) := by omega
        go_wp2_with fail
        go_round
        case rel => exact ⟨k + 1, by omega, by go_num⟩
        case measure => simp [intOf]; omega
      · have d0 : decide ((k : Int) < (l.length : Int)) = false := decide_eq_false (by omega)
        have d0' : decide (k < l.length) = false := decide_eq_false hlt
        have k1 : (l.length : Int) ≤ (k : Int) := by omega
        go_wp2_with fail
        refine bodyPost_ret (v := .tuple #[.agg #[.int .i64 0, .int .i64 0, .int .i64 0], .bool false]) (by simp [results, Tryz.results20, go_sem, ko]) rfl (atPost_none HF.out ?_)
        repeat refine below_set ?_ (by simp)
        exact HBO.out

end Go.Proofs.YtfglkpcboodllaaGreatDoor
