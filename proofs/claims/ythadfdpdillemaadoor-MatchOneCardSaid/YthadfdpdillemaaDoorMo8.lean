/-
  match's Right: contract.
-/
import Derived.Test.YthadfdpdillemaaDoorMo3
import Derived.Test.YthadfdpdillemaaDoorMo6
import Derived.Test.YthadfdpdillemaaDoorMo7
import Derived.Test.YthadfdpdillemaaDoorMo2
set_option linter.unusedVariables false
set_option linter.unusedSimpArgs false
namespace Go.Proofs.YthadfdpdillemaaDoor
open Go.RowKit

set_option maxRecDepth 100000 in
set_option maxHeartbeats 2000000 in
theorem matchRight (b : Idt) (l : List Idt) (A : Option Addr) (c : Nat) (w : World) (h : Sl 3 idRow w.heap.size w (.slice A l.length c) l) (hb : I64 b.idx) (hin : ∀ p ∈ l, I64 p.idx) :
    Calls Tryd.prog 40 #[.agg #[.int .i64 b.idx, .int .i64 b.trm, .int .i64 b.knd, .slice A l.length c]] w fun e w' => e = .returned (.bool (rightV b l)) ∧ Below w.heap.size w w' := by
  obtain ⟨A', cap, hv, hlc, hcm, -, hA⟩ := h
  simp only [Value.slice.injEq] at hv
  obtain ⟨rfl, -, rfl⟩ := hv
  have hn : l.length ≤ 9223372036854775807 := by unfold maxLen at hcm; omega
  have HA := Lib.hid hA
  have HIN := Lib.hid hin
  obtain ⟨b0, b1⟩ := hb
  have HX0 := Lib.hid (Box.new w #[.int .i64 b.idx, .int .i64 b.trm, .int .i64 b.knd, .slice A l.length c] 29)
  clear hcm hA hin
  by_cases g1 : b.idx < 0
  · have d1 : decide (b.idx < 0) = true := decide_eq_true g1
    have HF := Lib.hid (headOk_no (b := b) (l := l) (by omega))
    go_enter Tryd.func40, Tryd.ntmps40
    go_wp2_with fail
    go_ret
    exact ⟨ret_bool HF.out.symm, below_new _ _⟩
  have d1 : decide (b.idx < 0) = false := decide_eq_false g1
  by_cases g2 : 1099511627776 < b.idx
  · have d2 : decide (1099511627776 < b.idx) = true := decide_eq_true g2
    have HF := Lib.hid (headOk_no (b := b) (l := l) (by omega))
    go_enter Tryd.func40, Tryd.ntmps40
    go_wp2_with fail
    go_ret
    exact ⟨ret_bool HF.out.symm, below_new _ _⟩
  have d2 : decide (1099511627776 < b.idx) = false := decide_eq_false g2
  by_cases g3 : 1099511627776 - b.idx < (l.length : Int)
  · have d3 : decide (1099511627776 - b.idx < (l.length : Int)) = true := decide_eq_true g3
    have HF := Lib.hid (headOk_no (b := b) (l := l) (by omega))
    go_enter Tryd.func40, Tryd.ntmps40
    go_wp2_with fail
    go_ret
    exact ⟨ret_bool HF.out.symm, below_new _ _⟩
  have d3 : decide (1099511627776 - b.idx < (l.length : Int)) = false := decide_eq_false g3
  have HR := Lib.hid (rightV_of (b := b) (l := l) (by omega))
  go_enter Tryd.func40, Tryd.ntmps40
  go_wp2_with fail
  go_loopw [3, 32] (fun tv i wr => ∃ (k : Nat) (tm : Int), k ≤ l.length ∧ i = .int .i64 k ∧ tv = .int .i64 tm ∧ vRun b.idx b.trm 0 l = vRun b.idx tm k (l.drop k) ∧ (k = l.length → endOk l = true) ∧ Below (w.alloc (.cells #[.int .i64 b.idx, .int .i64 b.trm, .int .i64 b.knd, .slice A l.length c] 29)).heap.size (w.alloc (.cells #[.int .i64 b.idx, .int .i64 b.trm, .int .i64 b.knd, .slice A l.length c] 29)) wr) (fun _ i _ => l.length - (intOf i).toNat)
  case atStart => exact ⟨0, b.trm, by omega, rfl, rfl, by simp, fun h => by rw [List.eq_nil_of_length_eq_zero h.symm]; rfl, Below.refl _ _⟩
  case round =>
    obtain ⟨k, tm, hk, rfl, rfl, hv, hend, hB⟩ := hrel
    have HV := Lib.hid hv
    have HB := Lib.hid hB
    have hz := hB.size
    have i0 : (0 : Int) ≤ (k : Int) := by omega
    have HE := Lib.hid hend
    have hbw : w.heap.size < wr.heap.size := by have := (HX0.out.later HB.out).lt; omega
    obtain ⟨kv, fv, zv⟩ := (HX0.out.later HB.out).facts
    clear hv hB hend
    by_cases hlt : k < l.length
    · obtain ⟨bb, off, rfl, hbl, hcell⟩ := HA.out (by intro h; subst h; simp at hlt)
      obtain ⟨x, hx⟩ : ∃ x, l[k]? = some x := ⟨_, List.getElem?_eq_getElem hlt⟩
      have c0 := ((below_call (below_new _ _) HB.out).cell (p := ⟨bb, off + k * 3, none⟩) hbl).trans (hcell k x hx 0 _ rfl)
      have c1 := ((below_call (below_new _ _) HB.out).cell (p := ⟨bb, off + k * 3 + 1, none⟩) hbl).trans (hcell k x hx 1 _ rfl)
      have c2 := ((below_call (below_new _ _) HB.out).cell (p := ⟨bb, off + k * 3 + 2, none⟩) hbl).trans (hcell k x hx 2 _ rfl)
      have i1 : (k : Int) < (l.length : Int) := by omega
      have d0 : decide ((k : Int) < (l.length : Int)) = true := decide_eq_true i1
      have d0' : decide (k < l.length) = true := decide_eq_true hlt
      have hbr : bb < wr.heap.size := by omega
      obtain ⟨x0, x1⟩ := HIN.out x (List.mem_of_getElem? hx)
      have HXX := Lib.hid hx
      clear hcell hx
      by_cases hk0 : x.knd = 0
      · have e0 : (x.knd == 0) = true := by simpa using hk0
        have HV1 := Lib.hid (HV.out.trans (vRun_zero HXX.out hk0))
        have w1 : (l.length : Int) - 1 = ((l.length - 1 : Nat) : Int) := by omega
        by_cases hk1 : k = l.length - 1
        · have e1 : ((k : Int) == (l.length : Int) - 1) = true := by simp; omega
          have HF := Lib.hid (show rightV b l = false by rw [HR.out, endOk_at (show l[l.length - 1]? = some x by rw [← hk1]; exact HXX.out), decide_eq_false (by simp [hk0]), Bool.and_false])
          clear hk1 w1 hk0
          go_wp2_with fail
          go_ret
          exact ⟨ret_bool HF.out.symm, below_call (below_new _ _) (below_call HB.out (below_new _ _))⟩
        · have e1 : ((k : Int) == (l.length : Int) - 1) = false := by simp; omega
          have HV2 := HV1
          have hk2 : k + 1 < l.length := by omega
          clear hk1 w1 hk0
          have HB2 := Lib.hid (below_call HB.out (below_new wr (.cells #[.int .i64 x.idx, .int .i64 x.trm, .int .i64 x.knd] 26)))
          go_wp2_with fail
          go_roundw
          case rel => exact ⟨k + 1, tm, by omega, by go_num, rfl, HV2.out, fun h => by omega, HB2.out⟩
          case measure => simp [intOf]; omega
      · have e0 : (x.knd == 0) = false := by simpa using hk0
        have HV1 := Lib.hid (HV.out.trans (vRun_known HXX.out hk0))
        have HNOT : Hid (¬ (x.idx = b.idx + 1 + (k : Int) ∧ tm ≤ x.trm) → rightV b l = false) := fun hno => by rw [HR.out, HV1.out, decide_eq_false hno]; rfl
        by_cases ht : x.trm < tm
        · have dt : decide (x.trm < tm) = true := decide_eq_true ht
          have HF := Lib.hid (HNOT.out (by omega))
          clear ht
          go_wp2_with fail
          go_ret
          exact ⟨ret_bool HF.out.symm, below_call (below_new _ _) (below_call HB.out (below_new _ _))⟩
        · have dt : decide (x.trm < tm) = false := decide_eq_false ht
          by_cases hi : x.idx = b.idx + 1 + (k : Int)
          · have HV2 := Lib.hid (show vRun b.idx b.trm 0 l = vRun b.idx x.trm (k + 1) (l.drop (k + 1)) by rw [HV1.out, decide_eq_true ⟨hi, by omega⟩]; rfl)
            have ei : (x.idx - (k : Int) - 1 != b.idx) = false := by simp; omega
            have ei2 : x.idx - (k : Int) - 1 = b.idx := by omega
            clear hk0 ht hi
            have HB2 := Lib.hid (below_call HB.out (below_new wr (.cells #[.int .i64 x.idx, .int .i64 x.trm, .int .i64 x.knd] 26)))
            go_wp2_with fail
            go_roundw
            case rel => exact ⟨k + 1, x.trm, by omega, by go_num, rfl, HV2.out, fun h => by rw [endOk_at (show l[l.length - 1]? = some x by rw [show l.length - 1 = k by omega]; exact HXX.out)]; exact decide_eq_true (by simpa using e0), HB2.out⟩
            case measure => simp [intOf]; omega
          · have HF := Lib.hid (HNOT.out (by omega))
            by_cases hfar : x.idx < -4611686018427387904
            · have ei : (wrap64 (wrap64 (x.idx - (k : Int)) - 1) != b.idx) = true := by simp [wrap64]; omega
              clear hi ht hk0
              go_wp2_with fail
              go_ret
              exact ⟨ret_bool HF.out.symm, below_call (below_new _ _) (below_call HB.out (below_new _ _))⟩
            · have ei : (x.idx - (k : Int) - 1 != b.idx) = true := by simp; omega
              have ei2 : x.idx - (k : Int) - 1 ≠ b.idx := by omega
              clear ht hk0
              go_wp2_with fail
              go_ret
              exact ⟨ret_bool HF.out.symm, below_call (below_new _ _) (below_call HB.out (below_new _ _))⟩
    · have hk' : k = l.length := by omega
      have d0 : decide ((k : Int) < (l.length : Int)) = false := decide_eq_false (by omega)
      have d0' : decide (k < l.length) = false := decide_eq_false hlt
      have i1 : (l.length : Int) ≤ (k : Int) := by omega
      have HF := Lib.hid (show rightV b l = true by rw [HR.out, HV.out, vRun_end _ _ _ _ (by omega), HE.out hk']; rfl)
      clear hk'
      go_wp2_with fail
      go_ret
      exact ⟨ret_bool HF.out.symm, below_call (below_new _ _) HB.out⟩

end Go.Proofs.YthadfdpdillemaaDoor
