/-
  limpetlaw24's of, great, among: contracts.
-/
import Derived.Test.YtglkgmijhdkhpaaDoorHa36
import Derived.Deep.DeepCutAuto
import Derived.BigRegion
import Derived.RegionTactic
set_option linter.unusedVariables false
set_option linter.unusedSimpArgs false
namespace Go.Proofs.YtglkgmijhdkhpaaDoor
open Go.RowKit

set_option maxHeartbeats 400000 in
theorem of24 (a b c x y z : Int) (w : World) :
    Calls Tryd.prog 19 #[.int .i64 a, .int .i64 b, .int .i64 c, .agg #[.int .i64 x, .int .i64 y, .int .i64 z]] w fun e w' => e = .returned (.agg #[.int .i64 a, .int .i64 b, .int .i64 c, .slice none 0 0, .int .i64 x, .int .i64 y, .int .i64 z]) ∧ Below w.heap.size w w' := by
  go_enter Tryd.func19, Tryd.ntmps19
  go_wp2_with fail
  refine bodyPost_ret (v := .agg #[.int .i64 a, .int .i64 b, .int .i64 c, .slice none 0 0, .int .i64 x, .int .i64 y, .int .i64 z]) (by simp [results, Tryd.results19, go_sem]) rfl ⟨rfl, ?_⟩
  first | exact below_new _ _ | (repeat (first | exact Below.refl _ _ | refine Below.alloc ?_ (by simp) _ | refine below_set ?_ (by simp)))

def sizeR (l : List Rec) : Nat := (l.map fun r => r.e.bd.length + 1).sum
theorem sizeR_take {l : List Rec} {k : Nat} {x : Rec} (h : l[k]? = some x) : sizeR (l.take (k + 1)) = sizeR (l.take k) + (x.e.bd.length + 1) := by
  unfold sizeR; rw [List.take_add_one, h, List.map_append, List.sum_append]; simp
theorem sizeR_mem : ∀ {l : List Rec} {x : Rec}, x ∈ l → x.e.bd.length + 1 ≤ sizeR l := by
  intro l
  induction l with
  | nil => intro x h; simp at h
  | cons a l ih =>
    intro x h
    have hs : sizeR (a :: l) = (a.e.bd.length + 1) + sizeR l := by simp [sizeR]
    rcases List.mem_cons.1 h with rfl | h
    · omega
    · have := ih h; omega
theorem sizeR_len : ∀ (l : List Rec), l.length ≤ sizeR l := by
  intro l
  induction l with
  | nil => simp
  | cons a l ih =>
    have hs : sizeR (a :: l) = (a.e.bd.length + 1) + sizeR l := by simp [sizeR]
    simp only [List.length_cons]; omega

def greatR (rot : List Idt) (l : List Rec) : Bool := decide (600 < rot.length + sizeR l)
theorem sizeR_take_le : ∀ (l : List Rec) (k : Nat), sizeR (l.take k) ≤ sizeR l := by
  intro l
  induction l with
  | nil => intro k; simp
  | cons a l ih =>
    intro k
    cases k with
    | zero => simp [sizeR]
    | succ k =>
      have hs : sizeR (a :: l) = (a.e.bd.length + 1) + sizeR l := by simp [sizeR]
      have ht : sizeR ((a :: l).take (k + 1)) = (a.e.bd.length + 1) + sizeR (l.take k) := by simp [sizeR]
      have := ih k; omega
set_option maxHeartbeats 2000000 in
theorem great24 (rot : List Idt) (l : List Rec) (vr vl : Value) (w : World) (hr : Sl 3 idRow w.heap.size w vr rot) (hl : Sl 7 recRow w.heap.size w vl l) (hbig : ∀ r ∈ l, r.e.bd.length ≤ 140737488351232) (hn : l.length ≤ 140737488351232 ∧ rot.length ≤ 140737488351232) :
    Calls Tryd.prog 6 #[vl, vr] w fun e w' => e = .returned (.bool (greatR rot l)) ∧ w = w' := by
  obtain ⟨Ar, cr, rfl, -⟩ := hr
  obtain ⟨Al, cl, rfl, hlc, hcm, -, hA⟩ := hl
  have HA := Lib.hid hA
  have HBG := Lib.hid hbig
  have hn1 := hn.1
  have hn2 := hn.2
  clear hA hn hbig hlc hcm
  go_enter Tryd.func6, Tryd.ntmps6
  go_wp2_with fail
  go_loopw [5, 6] (fun n i wr => ∃ (k m : Nat), k ≤ l.length ∧ i = .int .i64 (k : Int) ∧ n = .int .i64 (m : Int) ∧ m = rot.length + sizeR (l.take k) ∧ m ≤ 290000000000000 ∧ w = wr) (fun _ i _ => l.length - (kOf i).toNat)
  case atStart => exact ⟨0, rot.length, by omega, rfl, rfl, by simp [sizeR], by omega, rfl⟩
  case round =>
    obtain ⟨k, m, hk, rfl, rfl, hm, hmb, rfl⟩ := hrel
    have i0 : (0 : Int) ≤ (k : Int) := by omega
    by_cases hlt : k < l.length
    · have i1 : (k : Int) < (l.length : Int) := by omega
      have d0 : decide ((k : Int) < (l.length : Int)) = true := decide_eq_true i1
      by_cases hs : (m : Int) ≤ 600
      · have d1 : decide ((m : Int) ≤ 600) = true := decide_eq_true hs
        obtain ⟨b, off, rfl, hb, hcell⟩ := HA.out (by intro h; subst h; simp at hlt)
        obtain ⟨x, hx⟩ : ∃ x, l[k]? = some x := ⟨_, List.getElem?_eq_getElem hlt⟩
        have hxb := HBG.out x (List.mem_of_getElem? hx)
        have c3 : w.cell? ⟨b, off + k * 7 + 3, none⟩ = some (.slice x.e.ba x.e.bd.length x.e.bc) := hcell k x hx 3 _ rfl
        have HM := Lib.hid hm
        have HX := Lib.hid hx
        have HTK := Lib.hid (sizeR_take hx)
        clear hcell hx hm
        go_wp2_with fail
        go_roundw
        case rel => exact ⟨k + 1, m + (x.e.bd.length + 1), by omega, by go_num, by go_num, by rw [HM.out, HTK.out]; omega, by omega, by trivial⟩
        case measure => first | (simp [kOf]; done) | (simp [kOf]; omega)
      · have d1 : decide ((m : Int) ≤ 600) = false := decide_eq_false hs
        have d2 : decide ((600 : Int) < (m : Int)) = true := decide_eq_true (by omega)
        have HGR := Lib.hid (show true = greatR rot l by unfold greatR; have := sizeR_take_le l k; exact (decide_eq_true (by omega)).symm)
        clear hm
        go_wp2_with fail
        go_ret
        exact ⟨ret_bool HGR.out, rfl⟩
    · have d0 : decide ((k : Int) < (l.length : Int)) = false := decide_eq_false (by omega)
      have hke : k = l.length := by omega
      have HR := Lib.hid (show decide ((600 : Int) < (m : Int)) = greatR rot l by
        rw [hke, List.take_length] at hm
        unfold greatR
        by_cases h : 600 < rot.length + sizeR l
        · rw [decide_eq_true h]; exact decide_eq_true (by omega)
        · rw [decide_eq_false h]; exact decide_eq_false (by omega))
      clear hke hm
      go_wp2_with fail
      go_ret
      exact ⟨ret_bool HR.out, rfl⟩

def amongI (l : List Idt) (p : Idt) : Bool := l.any fun q => eqI q p
theorem amongI_mem {l : List Idt} {p : Idt} (h : p ∈ l) : amongI l p = true := List.any_eq_true.2 ⟨p, h, eqI_iff.2 rfl⟩
theorem amongI_none {l : List Idt} {p : Idt} (h : NoP (fun q => eqI q p) l l.length) : amongI l p = false := by
  cases hc : amongI l p with
  | false => rfl
  | true =>
    obtain ⟨q, hq, he⟩ := List.any_eq_true.1 hc
    have : eqI q p = false := h q (by rw [List.take_length]; exact hq)
    rw [this] at he; cases he
theorem eqI_parts (x y : Idt) : eqI x y = (decide (x.idx = y.idx) && decide (x.trm = y.trm) && decide (x.knd = y.knd)) := rfl
set_option maxHeartbeats 2000000 in
theorem among24 (l : List Idt) (p : Idt) (v : Value) (w : World) (h : Sl 3 idRow w.heap.size w v l) (hn : l.length ≤ 140737488351232) :
    Calls Tryd.prog 12 #[v, .agg #[.int .i64 p.idx, .int .i64 p.trm, .int .i64 p.knd]] w fun e w' => e = .returned (.bool (amongI l p)) ∧ Below w.heap.size w w' := by
  obtain ⟨Al, cl, rfl, hlc, hcm, -, hA⟩ := h
  have HA := Lib.hid hA
  have HB0 := Lib.hid (below_new w (.cells #[.int .i64 p.idx, .int .i64 p.trm, .int .i64 p.knd] 31))
  have HX := Lib.hid (Box.new w #[.int .i64 p.idx, .int .i64 p.trm, .int .i64 p.knd] 31)
  obtain ⟨W, hW⟩ : ∃ z, z = w.alloc (.cells #[.int .i64 p.idx, .int .i64 p.trm, .int .i64 p.knd] 31) := ⟨_, rfl⟩
  obtain ⟨gp, hgp⟩ : ∃ z, z = w.heap.size := ⟨_, rfl⟩
  have HE := Lib.hid hW
  have HE2 := Lib.hid hgp
  have hgl : w.heap.size ≤ gp := by omega
  rw [← hW] at HB0 HX
  rw [← hgp] at HX
  clear hA hlc hcm hW hgp
  go_enter Tryd.func12, Tryd.ntmps12
  go_upto_region 1 with fail
  rw [← HE.out, ← HE2.out]
  go_wp2_with fail
  go_loopw [5] (fun i wr => ∃ (k : Nat), k ≤ l.length ∧ i = .int .i64 (k : Int) ∧ NoP (fun q => eqI q p) l k ∧ Below w.heap.size w wr ∧ Box wr gp #[.int .i64 p.idx, .int .i64 p.trm, .int .i64 p.knd] 31) (fun i _ => l.length - (kOf i).toNat)
  case atStart => exact ⟨0, by omega, rfl, noP_zero, HB0.out, HX.out⟩
  case round =>
    obtain ⟨k, hk, rfl, hno, hbw, hxw⟩ := hrel
    have HBW := Lib.hid hbw
    have HXW := Lib.hid hxw
    obtain ⟨kx, fx, zx⟩ := hxw.facts
    have HNO := Lib.hid hno
    have i0 : (0 : Int) ≤ (k : Int) := by omega
    clear hno hbw hxw
    by_cases hlt : k < l.length
    · have i1 : (k : Int) < (l.length : Int) := by omega
      have d0 : decide ((k : Int) < (l.length : Int)) = true := decide_eq_true i1
      obtain ⟨b, off, rfl, hb, hcell⟩ := HA.out (by intro h; subst h; simp at hlt)
      obtain ⟨x, hx⟩ : ∃ x, l[k]? = some x := ⟨_, List.getElem?_eq_getElem hlt⟩
      have c0 : wr.cell? ⟨b, off + k * 3, none⟩ = some (.int .i64 x.idx) := (HBW.out.cell (p := ⟨b, off + k * 3 + 0, none⟩) hb).trans (hcell k x hx 0 _ rfl)
      have c1 : wr.cell? ⟨b, off + k * 3 + 1, none⟩ = some (.int .i64 x.trm) := (HBW.out.cell (p := ⟨b, off + k * 3 + 1, none⟩) hb).trans (hcell k x hx 1 _ rfl)
      have c2 : wr.cell? ⟨b, off + k * 3 + 2, none⟩ = some (.int .i64 x.knd) := (HBW.out.cell (p := ⟨b, off + k * 3 + 2, none⟩) hb).trans (hcell k x hx 2 _ rfl)
      have HXX := Lib.hid hx
      clear hcell hx
      by_cases q1 : x.idx = p.idx
      · by_cases q2 : x.trm = p.trm
        · by_cases q3 : x.knd = p.knd
          · have HY := Lib.hid (show amongI l p = true from amongI_mem (by have h1 := List.mem_of_getElem? HXX.out; have h2 : x = p := eqI_iff.1 (by rw [eqI_parts, decide_eq_true q1, decide_eq_true q2, decide_eq_true q3]; rfl); rw [← h2]; exact h1))
            have e1 : (x.idx == p.idx) = true := by simpa using q1
            have e2 : (x.trm == p.trm) = true := by simpa using q2
            have e3 : (x.knd == p.knd) = true := by simpa using q3
            clear q1 q2 q3
            go_upto_region 4 with fail
            go_region
            go_wp2_with fail
            go_ret
            exact ⟨ret_bool HY.out.symm, (by first | exact HBW.out | exact HBW.out.drew)⟩
          · have HNN := Lib.hid (noP_step HNO.out HXX.out (by show eqI x p = false; rw [eqI_parts, decide_eq_false q3]; simp))
            have e1 : (x.idx == p.idx) = true := by simpa using q1
            have e2 : (x.trm == p.trm) = true := by simpa using q2
            have e3 : (x.knd == p.knd) = false := by simpa using q3
            clear q1 q2 q3
            go_upto_region 4 with fail
            go_region
            go_wp2_with fail
            go_roundw
            case rel => exact ⟨k + 1, by omega, by go_num, HNN.out, HBW.out.drew, HXW.out⟩
            case measure => first | (simp [kOf]; done) | (simp [kOf]; omega)
        · have HNN := Lib.hid (noP_step HNO.out HXX.out (by show eqI x p = false; rw [eqI_parts, decide_eq_false q2]; simp))
          have e1 : (x.idx == p.idx) = true := by simpa using q1
          have e2 : (x.trm == p.trm) = false := by simpa using q2
          clear q1 q2
          go_upto_region 4 with fail
          go_region
          go_wp2_with fail
          go_roundw
          case rel => exact ⟨k + 1, by omega, by go_num, HNN.out, HBW.out.drew, HXW.out⟩
          case measure => first | (simp [kOf]; done) | (simp [kOf]; omega)
      · have HNN := Lib.hid (noP_step HNO.out HXX.out (by show eqI x p = false; rw [eqI_parts, decide_eq_false q1]; rfl))
        have e1 : (x.idx == p.idx) = false := by simpa using q1
        clear q1
        go_upto_region 4 with fail
        go_region
        go_wp2_with fail
        go_roundw
        case rel => exact ⟨k + 1, by omega, by go_num, HNN.out, HBW.out.drew, HXW.out⟩
        case measure => first | (simp [kOf]; done) | (simp [kOf]; omega)
    · have d0 : decide ((k : Int) < (l.length : Int)) = false := decide_eq_false (by omega)
      have hke : k = l.length := by omega
      have HN := Lib.hid (show amongI l p = false from amongI_none (by rw [← hke]; exact HNO.out))
      clear hke
      go_wp2_with fail
      go_ret
      exact ⟨ret_bool HN.out.symm, (by first | exact HBW.out | exact HBW.out.drew)⟩
end Go.Proofs.YtglkgmijhdkhpaaDoor
