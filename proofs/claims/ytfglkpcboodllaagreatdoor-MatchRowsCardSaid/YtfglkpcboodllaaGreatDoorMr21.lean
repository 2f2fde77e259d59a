/-
  Merged: RefFitMath, Ref20.
-/
import Derived.Test.YtfglkpcboodllaaGreatDoorMr9
import Derived.Test.YtfglkpcboodllaaGreatDoorMr1
import Derived.Test.YtfglkpcboodllaaGreatDoorMr4
/-
  WHAT THE DOCUMENT'S VIEW HAS of an append's entries: plain Lean, no program.
-/
set_option linter.unusedVariables false
namespace Go.Proofs.YtfglkpcboodllaaGreatDoor
open Go.RowKit

section
variable {b prev : Idt} {l : List Idt} {es : List Ent}
/-- Does the view have the same at an entry's index above one? -/
def shownR (b : Idt) (l : List Idt) (es : List Ent) (a : Int) : Bool := es.any fun e => decide (a < e.idx) && showsE b l e
theorem shownR_step {k : Nat} {e : Ent} {a : Int} (hx : es[k]? = some e) (h : (decide (a < e.idx) && showsE b l e) = false) (hk : shownR b l (es.take k) a = false) : shownR b l (es.take (k + 1)) a = false := by
  unfold shownR at *
  rw [take_at hx, List.any_append, hk]
  simpa using h
theorem shownR_stop {k : Nat} {e : Ent} {a : Int} (hx : es[k]? = some e) (h : (decide (a < e.idx) && showsE b l e) = true) : shownR b l es a = true := by
  unfold shownR
  rw [List.any_eq_true]
  exact ⟨e, List.mem_of_getElem? hx, h⟩
theorem shownR_fit (hb : 0 ≤ b.idx) (hf : folE prev es = 0) {a : Int} (ha : b.idx < a) : shownR b l es a = decide (a < shownV b l 0 es) := by
  rw [Bool.eq_iff_iff, decide_eq_true_eq, shown_above hb hf ha]
  unfold shownR
  rw [List.any_eq_true]
  constructor
  · rintro ⟨e, he, h⟩
    obtain ⟨i, hi⟩ := List.getElem?_of_mem he
    rw [Bool.and_eq_true, decide_eq_true_eq] at h
    exact ⟨i, e, hi, h.1, h.2⟩
  · rintro ⟨i, e, hi, h1, h2⟩
    exact ⟨e, List.mem_of_getElem? hi, by rw [Bool.and_eq_true, decide_eq_true_eq]; exact ⟨h1, h2⟩⟩
def hasR (b : Idt) (l : List Idt) (es : List Ent) (i t : Int) : Int :=
  if lastI b l < i then 3 else match atV b l i with
    | some p => if p.trm = t then 1 else 2
    | none => if shownR b l es i then 1 else 4
theorem hasR_far {i t : Int} (h : lastI b l < i) : hasR b l es i t = 3 := by unfold hasR; rw [if_pos h]
theorem hasR_some {i t : Int} {p : Idt} (h : ¬ lastI b l < i) (ha : atV b l i = some p) : hasR b l es i t = if p.trm = t then 1 else 2 := by unfold hasR; rw [if_neg h, ha]
theorem hasR_none {i t : Int} (h : ¬ lastI b l < i) (ha : atV b l i = none) : hasR b l es i t = if shownR b l es i then 1 else 4 := by unfold hasR; rw [if_neg h, ha]
theorem hasR_fit (hb : 0 ≤ b.idx) (hf : folE prev es = 0) {i t : Int} (h : b.idx < i) :
    (fitK b l (shownV b l 0 es) i t = 0 ∧ hasR b l es i t = 1) ∨ (fitK b l (shownV b l 0 es) i t = 1 ∧ hasR b l es i t = 3) ∨ (fitK b l (shownV b l 0 es) i t = 2 ∧ hasR b l es i t = 2) ∨ (fitK b l (shownV b l 0 es) i t = 3 ∧ hasR b l es i t = 4) := by
  have h0 : ¬ i ≤ b.idx := by omega
  by_cases h1 : lastI b l < i
  · exact .inr (.inl ⟨fitK_far h0 h1, hasR_far h1⟩)
  · cases ha : atV b l i with
    | some p =>
      rw [fitK_some h0 h1 ha, hasR_some h1 ha]
      by_cases ht : p.trm = t
      · exact .inl ⟨by rw [if_pos ht], by rw [if_pos ht]⟩
      · exact .inr (.inr (.inl ⟨by rw [if_neg ht], by rw [if_neg ht]⟩))
    | none =>
      rw [fitK_none h0 h1 ha, hasR_none h1 ha, shownR_fit hb hf h]
      by_cases hs : i < shownV b l 0 es
      · exact .inl ⟨by rw [if_pos hs], by rw [decide_eq_true hs]; rfl⟩
      · exact .inr (.inr (.inr ⟨by rw [if_neg hs], by rw [decide_eq_false hs]; rfl⟩))
/-- Whether what stands ahead fits, as the document asks it. -/
theorem prev_fit (hb : 0 ≤ b.idx) (hf : folE prev es = 0) (hp : ¬ lastI b l < prev.idx) : fitK b l (shownV b l 0 es) prev.idx prev.trm = 0 ↔
    ¬ (b.idx < prev.idx ∧ ((∃ p, atV b l prev.idx = some p ∧ p.trm ≠ prev.trm) ∨ (atV b l prev.idx = none ∧ shownR b l es prev.idx = false))) := by
  by_cases h0 : prev.idx ≤ b.idx
  · rw [fitK_low h0]
    constructor
    · rintro - ⟨h, -⟩; omega
    · intro _; rfl
  · cases ha : atV b l prev.idx with
    | some p =>
      rw [fitK_some h0 hp ha]
      by_cases ht : p.trm = prev.trm
      · rw [if_pos ht]
        constructor
        · rintro - ⟨-, ⟨q, h1, h2⟩ | ⟨h1, -⟩⟩
          · injection h1 with h1; subst h1; exact h2 ht
          · cases h1
        · intro _; rfl
      · rw [if_neg ht]
        constructor
        · intro h; cases h
        · intro h; exact absurd ⟨by omega, .inl ⟨p, rfl, ht⟩⟩ h
    | none =>
      rw [fitK_none h0 hp ha, shownR_fit hb hf (by omega)]
      by_cases hs : prev.idx < shownV b l 0 es
      · rw [if_pos hs]
        constructor
        · rintro - ⟨-, ⟨q, h1, -⟩ | ⟨-, h1⟩⟩
          · cases h1
          · rw [decide_eq_true hs] at h1; cases h1
        · intro _; rfl
      · rw [if_neg hs]
        constructor
        · intro h; cases h
        · intro h; exact absurd ⟨by omega, .inr ⟨rfl, decide_eq_false hs⟩⟩ h
end
end Go.Proofs.YtfglkpcboodllaaGreatDoor
/-
  limpetref20's Right: contract.
-/
set_option linter.unusedVariables false
set_option linter.unusedSimpArgs false
namespace Go.Proofs.YtfglkpcboodllaaGreatDoor
open Go.RowKit

set_option maxRecDepth 100000 in
set_option maxHeartbeats 2000000 in
theorem ref20Right (b : Idt) (l : List Idt) (A : Option Addr) (c : Nat) (w : World) (h : Sl 3 idRow w.heap.size w (.slice A l.length c) l) (hb : I64 b.idx) (hin : ∀ p ∈ l, I64 p.idx) :
    Calls Tryz.prog 22 #[.agg #[.int .i64 b.idx, .int .i64 b.trm, .int .i64 b.knd, .slice A l.length c]] w fun e w' => e = .returned (.bool (rightV b l)) ∧ Below w.heap.size w w' := by
  obtain ⟨A', cap, hv, hlc, hcm, -, hA⟩ := h
  simp only [Value.slice.injEq] at hv
  obtain ⟨rfl, -, rfl⟩ := hv
  have hn : l.length ≤ 9223372036854775807 := by unfold maxLen at hcm; omega
  have HA := Lib.hid hA
  have HIN := Lib.hid hin
  obtain ⟨b0, b1⟩ := hb
  have HX0 := Lib.hid (Box.new w #[.int .i64 b.idx, .int .i64 b.trm, .int .i64 b.knd, .slice A l.length c] 48)
  clear hcm hA hin
  by_cases g1 : b.idx < 0
  · have d1 : decide (b.idx < 0) = true := decide_eq_true g1
    have HF := Lib.hid (headOk_no (b := b) (l := l) (by omega))
    go_enter Tryz.func22, Tryz.ntmps22
    go_wp2_with fail
    go_ret
    exact ⟨ret_bool HF.out.symm, below_new _ _⟩
  have d1 : decide (b.idx < 0) = false := decide_eq_false g1
  by_cases g2 : 1099511627776 < b.idx
  · have d2 : decide (1099511627776 < b.idx) = true := decide_eq_true g2
    have HF := Lib.hid (headOk_no (b := b) (l := l) (by omega))
    go_enter Tryz.func22, Tryz.ntmps22
    go_wp2_with fail
    go_ret
    exact ⟨ret_bool HF.out.symm, below_new _ _⟩
  have d2 : decide (1099511627776 < b.idx) = false := decide_eq_false g2
  by_cases g3 : 1099511627776 - b.idx < (l.length : Int)
  · have d3 : decide (1099511627776 - b.idx < (l.length : Int)) = true := decide_eq_true g3
    have HF := Lib.hid (headOk_no (b := b) (l := l) (by omega))
    go_enter Tryz.func22, Tryz.ntmps22
    go_wp2_with fail
    go_ret
    exact ⟨ret_bool HF.out.symm, below_new _ _⟩
  have d3 : decide (1099511627776 - b.idx < (l.length : Int)) = false := decide_eq_false g3
  have HR := Lib.hid (rightV_of (b := b) (l := l) (by omega))
  go_enter Tryz.func22, Tryz.ntmps22
  go_wp2_with fail
  go_loopw [3, 4] (fun tv i wr => ∃ (k : Nat) (tm : Int), k ≤ l.length ∧ i = .int .i64 k ∧ tv = .int .i64 tm ∧ vRun b.idx b.trm 0 l = vRun b.idx tm k (l.drop k) ∧ (k = l.length → True) ∧ Below (w.alloc (.cells #[.int .i64 b.idx, .int .i64 b.trm, .int .i64 b.knd, .slice A l.length c] 48)).heap.size (w.alloc (.cells #[.int .i64 b.idx, .int .i64 b.trm, .int .i64 b.knd, .slice A l.length c] 48)) wr) (fun _ i _ => l.length - (intOf i).toNat)
  case atStart => exact ⟨0, b.trm, by omega, rfl, rfl, by simp, fun _ => trivial, Below.refl _ _⟩
  case round =>
    obtain ⟨k, tm, hk, rfl, rfl, hv, hend, hB⟩ := hrel
    have HV := Lib.hid hv
    have HB := Lib.hid hB
    have hz := hB.size
    have i0 : (0 : Int) ≤ (k : Int) := by omega
    have HE := Lib.hid hend
    have hbw : w.heap.size < wr.heap.size := by have := (HX0.out.later HB.out).lt; omega
    obtain ⟨kv, fv, zv⟩ := (HX0.out.later HB.out).facts
    clear hv hB hend
    by_cases hlt : k < l.length
    · obtain ⟨bb, off, rfl, hbl, hcell⟩ := HA.out (by intro h; subst h; simp at hlt)
      obtain ⟨x, hx⟩ : ∃ x, l[k]? = some x := ⟨_, List.getElem?_eq_getElem hlt⟩
      have c0 := ((below_call (below_new _ _) HB.out).cell (p := ⟨bb, off + k * 3, none⟩) hbl).trans (hcell k x hx 0 _ rfl)
      have c1 := ((below_call (below_new _ _) HB.out).cell (p := ⟨bb, off + k * 3 + 1, none⟩) hbl).trans (hcell k x hx 1 _ rfl)
      have c2 := ((below_call (below_new _ _) HB.out).cell (p := ⟨bb, off + k * 3 + 2, none⟩) hbl).trans (hcell k x hx 2 _ rfl)
      have i1 : (k : Int) < (l.length : Int) := by omega
      have d0 : decide ((k : Int) < (l.length : Int)) = true := decide_eq_true i1
      have d0' : decide (k < l.length) = true := decide_eq_true hlt
      have hbr : bb < wr.heap.size := by omega
      obtain ⟨x0, x1⟩ := HIN.out x (List.mem_of_getElem? hx)
      have HXX := Lib.hid hx
      clear hcell hx
      by_cases hk0 : x.knd = 0
      · have e0 : (x.knd == 0) = true := by simpa using hk0
        have HV1 := Lib.hid (HV.out.trans (vRun_zero HXX.out hk0))
        have HV2 := HV1
        clear hk0
        have HB2 := Lib.hid (below_call HB.out (below_new wr (.cells #[.int .i64 x.idx, .int .i64 x.trm, .int .i64 x.knd] 25)))
        go_wp2_with fail
        go_roundw
        case rel => exact ⟨k + 1, tm, by omega, by go_num, rfl, HV2.out, fun h => trivial, HB2.out⟩
        case measure => simp [intOf]; omega
      · have e0 : (x.knd == 0) = false := by simpa using hk0
        have HV1 := Lib.hid (HV.out.trans (vRun_known HXX.out hk0))
        have HNOT : Hid (¬ (x.idx = b.idx + 1 + (k : Int) ∧ tm ≤ x.trm) → rightV b l = false) := fun hno => by rw [HR.out, HV1.out, decide_eq_false hno]; rfl
        by_cases ht : x.trm < tm
        · have dt : decide (x.trm < tm) = true := decide_eq_true ht
          have HF := Lib.hid (HNOT.out (by omega))
          by_cases hi : x.idx = b.idx + 1 + (k : Int)
          · have ei : (x.idx != b.idx + 1 + (k : Int)) = false := by simpa using hi
            clear ht
            go_wp2_with fail
            go_ret
            exact ⟨ret_bool HF.out.symm, below_call (below_new _ _) (below_call HB.out (below_new _ _))⟩
          · have ei : (x.idx != b.idx + 1 + (k : Int)) = true := by simpa using hi
            clear ht
            go_wp2_with fail
            go_ret
            exact ⟨ret_bool HF.out.symm, below_call (below_new _ _) (below_call HB.out (below_new _ _))⟩
        · have dt : decide (x.trm < tm) = false := decide_eq_false ht
          by_cases hi : x.idx = b.idx + 1 + (k : Int)
          · have HV2 := Lib.hid (show vRun b.idx b.trm 0 l = vRun b.idx x.trm (k + 1) (l.drop (k + 1)) by rw [HV1.out, decide_eq_true ⟨hi, by omega⟩]; rfl)
            have ei : (x.idx != b.idx + 1 + (k : Int)) = false := by simpa using hi
            clear hk0 ht hi
            have HB2 := Lib.hid (below_call HB.out (below_new wr (.cells #[.int .i64 x.idx, .int .i64 x.trm, .int .i64 x.knd] 25)))
            go_wp2_with fail
            go_roundw
            case rel => exact ⟨k + 1, x.trm, by omega, by go_num, rfl, HV2.out, fun h => trivial, HB2.out⟩
            case measure => simp [intOf]; omega
          · have HF := Lib.hid (HNOT.out (by omega))
            have ei : (x.idx != b.idx + 1 + (k : Int)) = true := by simpa using hi
            clear ht hk0
            go_wp2_with fail
            go_ret
            exact ⟨ret_bool HF.out.symm, below_call (below_new _ _) (below_call HB.out (below_new _ _))⟩
    · have hk' : k = l.length := by omega
      have d0 : decide ((k : Int) < (l.length : Int)) = false := decide_eq_false (by omega)
      have d0' : decide (k < l.length) = false := decide_eq_false hlt
      have i1 : (l.length : Int) ≤ (k : Int) := by omega
      by_cases hl0 : l.length = 0
      · have e1 : ((l.length : Int) == 0) = true := by rw [beq_iff_eq]; omega
        have HF := Lib.hid (show rightV b l = true by rw [HR.out, HV.out, vRun_end _ _ _ _ (by omega), List.eq_nil_of_length_eq_zero hl0]; rfl)
        clear hk' hl0
        go_wp2_with fail
        go_ret
        exact ⟨ret_bool HF.out.symm, below_call (below_new _ _) HB.out⟩
      · have e1 : ((l.length : Int) == 0) = false := by rw [beq_eq_false_iff_ne]; omega
        obtain ⟨bb, off, rfl, hbl, hcell⟩ := HA.out (by intro h; subst h; simp at hl0)
        obtain ⟨j, hj⟩ : ∃ j, j = l.length - 1 := ⟨_, rfl⟩
        obtain ⟨x, hx⟩ : ∃ x, l[j]? = some x := ⟨_, List.getElem?_eq_getElem (by omega)⟩
        have c2 := ((below_call (below_new _ _) HB.out).cell (p := ⟨bb, off + j * 3 + 2, none⟩) hbl).trans (hcell j x hx 2 _ rfl)
        have w1 : IntKind.i64.wrap ((l.length : Int) - 1) = (j : Int) := by rw [IntWalk.i64_in _ (by omega)]; omega
        have w2 : (l.length : Int) - 1 = (j : Int) := by omega
        have j0 : (0 : Int) ≤ (j : Int) := by omega
        have j1 : (j : Int) < (l.length : Int) := by omega
        have HF := Lib.hid (show rightV b l = (x.knd != 0) by rw [HR.out, HV.out, vRun_end _ _ _ _ (by omega), endOk_at (by rw [← hj]; exact hx)]; cases hq : (x.knd == 0) <;> simp_all [bne])
        have hbr : bb < wr.heap.size := by omega
        clear hk' hl0 hcell hx hj
        go_wp2_with fail
        go_ret
        exact ⟨ret_bool HF.out.symm, below_call (below_new _ _) HB.out⟩

end Go.Proofs.YtfglkpcboodllaaGreatDoor
