/-
  limpetref24's known, good, has, copied: contracts.
-/
import Derived.Test.YtglkgmijhdkhpaaGreatDoorHt32
import Derived.Test.YtglkgmijhdkhpaaGreatDoorHt19
set_option linter.unusedVariables false
set_option linter.unusedSimpArgs false
namespace Go.Proofs.YtglkgmijhdkhpaaGreatDoor
open Go.RowKit

set_option maxHeartbeats 1000000 in
theorem ref24Known (p : Idt) (w : World) :
    Calls Tryz.prog 74 #[.agg #[.int .i64 p.idx, .int .i64 p.trm, .int .i64 p.knd]] w fun e w' => e = .returned (.bool (knownI p)) ∧ Below w.heap.size w w' := by
  by_cases h0 : 0 < p.idx
  · have d0 : decide (0 < p.idx) = true := decide_eq_true h0
    by_cases h1 : 1 ≤ p.knd
    · have d1 : decide (1 ≤ p.knd) = true := decide_eq_true h1
      have HK := Lib.hid (show knownI p = decide (p.knd ≤ 3) by unfold knownI; rw [d0, d1]; rfl)
      by_cases h2 : p.knd ≤ 3
      · have d2 : decide (p.knd ≤ 3) = true := decide_eq_true h2
        go_enter Tryz.func74, Tryz.ntmps74
        go_wp2_with fail
        go_ret
        exact ⟨ret_bool (by rw [HK.out, d2]), below_new _ _⟩
      · have d2 : decide (p.knd ≤ 3) = false := decide_eq_false h2
        have h3 : 3 < p.knd := by omega
        go_enter Tryz.func74, Tryz.ntmps74
        go_wp2_with fail
        go_ret
        exact ⟨ret_bool (by rw [HK.out, d2]), below_new _ _⟩
    · have d1 : decide (1 ≤ p.knd) = false := decide_eq_false h1
      have h3 : p.knd < 1 := by omega
      have HK := Lib.hid (show knownI p = false by unfold knownI; rw [d1]; simp)
      go_enter Tryz.func74, Tryz.ntmps74
      go_wp2_with fail
      go_ret
      exact ⟨ret_bool HK.out.symm, below_new _ _⟩
  · have d0 : decide (0 < p.idx) = false := decide_eq_false h0
    have h3 : p.idx ≤ 0 := by omega
    have HK := Lib.hid (show knownI p = false by unfold knownI; rw [d0]; rfl)
    go_enter Tryz.func74, Tryz.ntmps74
    go_wp2_with fail
    go_ret
    exact ⟨ret_bool HK.out.symm, below_new _ _⟩
theorem eqI_parts3 (x y : Idt) : eqI x y = (decide (x.idx = y.idx) && decide (x.trm = y.trm) && decide (x.knd = y.knd)) := rfl
set_option maxRecDepth 100000 in
set_option maxHeartbeats 2000000 in
theorem ref24Good (r : Rec) (w : World) (hx : EntIn w.heap.size w r.e) :
    Calls Tryz.prog 41 #[.agg #[.int .i64 r.e.idx, .int .i64 r.e.trm, .int .i64 r.e.knd, .slice r.e.ba r.e.bd.length r.e.bc, .int .i64 r.a.idx, .int .i64 r.a.trm, .int .i64 r.a.knd]] w fun e w' => e = .returned (.bool (goodR r)) ∧ Below w.heap.size w w' := by
  have HB0 := Lib.hid (below_call (below_new w (.cells #[.int .i64 r.e.idx, .int .i64 r.e.trm, .int .i64 r.e.knd, .slice r.e.ba r.e.bd.length r.e.bc, .int .i64 r.a.idx, .int .i64 r.a.trm, .int .i64 r.a.knd] 76)) (below_new _ (.cells #[.int .i64 r.e.idx, .int .i64 r.e.trm, .int .i64 r.e.knd, .slice r.e.ba r.e.bd.length r.e.bc] 54)))
  have HX := Lib.hid ((Box.new w #[.int .i64 r.e.idx, .int .i64 r.e.trm, .int .i64 r.e.knd, .slice r.e.ba r.e.bd.length r.e.bc, .int .i64 r.a.idx, .int .i64 r.a.trm, .int .i64 r.a.knd] 76).alloc (.cells #[.int .i64 r.e.idx, .int .i64 r.e.trm, .int .i64 r.e.knd, .slice r.e.ba r.e.bd.length r.e.bc] 54))
  have HE := Lib.hid (Box.new (w.alloc (.cells #[.int .i64 r.e.idx, .int .i64 r.e.trm, .int .i64 r.e.knd, .slice r.e.ba r.e.bd.length r.e.bc, .int .i64 r.a.idx, .int .i64 r.a.trm, .int .i64 r.a.knd] 76)) #[.int .i64 r.e.idx, .int .i64 r.e.trm, .int .i64 r.e.knd, .slice r.e.ba r.e.bd.length r.e.bc] 54)
  rw [World.size_alloc] at HE
  obtain ⟨W, hW⟩ : ∃ z, z = (w.alloc (.cells #[.int .i64 r.e.idx, .int .i64 r.e.trm, .int .i64 r.e.knd, .slice r.e.ba r.e.bd.length r.e.bc, .int .i64 r.a.idx, .int .i64 r.a.trm, .int .i64 r.a.knd] 76)).alloc (.cells #[.int .i64 r.e.idx, .int .i64 r.e.trm, .int .i64 r.e.knd, .slice r.e.ba r.e.bd.length r.e.bc] 54) := ⟨_, rfl⟩
  obtain ⟨g0, hg0⟩ : ∃ z, z = w.heap.size := ⟨_, rfl⟩
  obtain ⟨g1, hg1⟩ : ∃ z, z = w.heap.size + 1 := ⟨_, rfl⟩
  have HW := Lib.hid hW
  have H0 := Lib.hid hg0
  have H1 := Lib.hid hg1
  rw [← hW] at HB0 HX HE
  rw [← hg0] at HX
  rw [← hg1] at HE
  have CG := Lib.hid (refGood r.e W (hx.later HB0.out))
  clear hW hg0 hg1
  go_enter Tryz.func41, Tryz.ntmps41
  go_upto_region 2 with fail
  rw [← HW.out, ← H1.out, ← H0.out]
  obtain ⟨kx, fx, zx⟩ := HE.out.facts
  by_cases hg : goodE r.e = true
  case neg =>
    have hg' : goodE r.e = false := by simpa using hg
    have HR := Lib.hid (show goodR r = false by unfold goodR; rw [hg']; rfl)
    rw [hg'] at CG
    clear hg hg'
    go_wp2_with (go_at_call 76; (with_reducible refine CG.out.mono ?_); rintro e w2 ⟨rfl, hb2⟩; have HB2 := Lib.hid (below_call HB0.out hb2); obtain ⟨ka, fa, za⟩ := (HX.out.later hb2).facts; obtain ⟨kb, fb, zb⟩ := (HE.out.later hb2).facts; clear hb2)
    go_ret
    exact ⟨ret_bool HR.out.symm, HB2.out⟩
  have hgb := goodE_bounds hg
  have HG := Lib.hid hg
  have hrg : r.e.idx ≤ 1099511627776 := by unfold goodE rangeE at hg; simp only [Bool.and_eq_true, decide_eq_true_eq] at hg; omega
  rw [hg] at CG
  obtain ⟨hi1, -, -, -⟩ := hgb
  have w1 : wrap64 (r.e.idx - 1) = r.e.idx - 1 := by unfold wrap64; omega
  clear hg
  by_cases ha : r.a.idx = r.e.idx - 1
  case neg =>
    have e0 : (r.a.idx != r.e.idx - 1) = true := by simpa using ha
    have HR := Lib.hid (show goodR r = false by unfold goodR; rw [decide_eq_false ha]; simp)
    clear ha
    go_wp2_with (go_at_call 76; (with_reducible refine CG.out.mono ?_); rintro e w2 ⟨rfl, hb2⟩; have HB2 := Lib.hid (below_call HB0.out hb2); obtain ⟨ka, fa, za⟩ := (HX.out.later hb2).facts; obtain ⟨kb, fb, zb⟩ := (HE.out.later hb2).facts; clear hb2)
    go_ret
    exact ⟨ret_bool HR.out.symm, HB2.out⟩
  have e0 : (r.a.idx != r.e.idx - 1) = false := by simpa using ha
  have HA := Lib.hid ha
  clear ha
  by_cases ht : r.a.trm ≤ r.e.trm
  case neg =>
    have d0 : decide (r.e.trm < r.a.trm) = true := decide_eq_true (by omega)
    have HR := Lib.hid (show goodR r = false by unfold goodR; rw [decide_eq_false ht]; simp)
    have ht' : r.e.trm < r.a.trm := by omega
    clear ht
    go_wp2_with (go_at_call 76; (with_reducible refine CG.out.mono ?_); rintro e w2 ⟨rfl, hb2⟩; have HB2 := Lib.hid (below_call HB0.out hb2); obtain ⟨ka, fa, za⟩ := (HX.out.later hb2).facts; obtain ⟨kb, fb, zb⟩ := (HE.out.later hb2).facts; clear hb2)
    go_ret
    exact ⟨ret_bool HR.out.symm, HB2.out⟩
  have d0 : decide (r.e.trm < r.a.trm) = false := decide_eq_false (by omega)
  have HRG := Lib.hid (show goodR r = (decide (1 < r.e.idx) || eqI r.a zI0) by unfold goodR; rw [HG.out, decide_eq_true HA.out, decide_eq_true ht]; rfl)
  by_cases h1 : 1 < r.e.idx
  · have d1 : decide (1 < r.e.idx) = true := decide_eq_true h1
    have HR := Lib.hid (show goodR r = true by rw [HRG.out, d1]; rfl)
    go_wp2_with (go_at_call 76; (with_reducible refine CG.out.mono ?_); rintro e w2 ⟨rfl, hb2⟩; have HB2 := Lib.hid (below_call HB0.out hb2); obtain ⟨ka, fa, za⟩ := (HX.out.later hb2).facts; obtain ⟨kb, fb, zb⟩ := (HE.out.later hb2).facts; clear hb2)
    go_ret
    exact ⟨ret_bool HR.out.symm, HB2.out⟩
  have d1 : decide (1 < r.e.idx) = false := decide_eq_false h1
  have HR := Lib.hid (show goodR r = (decide (r.a.trm = 0) && decide (r.a.knd = 0)) by
    have h0 : r.a.idx = 0 := by have := HA.out; omega
    rw [HRG.out, d1, eqI_parts3]; simp only [zI0, h0, decide_true, Bool.true_and, Bool.false_or]; try rfl)
  have e3 : (r.a.idx == 0) = true := by have := HA.out; simp; omega
  by_cases h2 : r.a.trm = 0
  · have e4 : (r.a.trm == 0) = true := by simpa using h2
    by_cases h3 : r.a.knd = 0
    · have e5 : (r.a.knd == 0) = true := by simpa using h3
      have HQ := Lib.hid (show goodR r = true by rw [HR.out, decide_eq_true h2, decide_eq_true h3]; rfl)
      clear h2 h3
      go_wp2_with (go_at_call 76; (with_reducible refine CG.out.mono ?_); rintro e w2 ⟨rfl, hb2⟩; have HB2 := Lib.hid (below_call HB0.out hb2); obtain ⟨ka, fa, za⟩ := (HX.out.later hb2).facts; obtain ⟨kb, fb, zb⟩ := (HE.out.later hb2).facts; clear hb2)
      go_ret
      exact ⟨ret_bool HQ.out.symm, HB2.out⟩
    · have e5 : (r.a.knd == 0) = false := by simpa using h3
      have HQ := Lib.hid (show goodR r = false by rw [HR.out, decide_eq_false h3]; simp)
      clear h2 h3
      go_wp2_with (go_at_call 76; (with_reducible refine CG.out.mono ?_); rintro e w2 ⟨rfl, hb2⟩; have HB2 := Lib.hid (below_call HB0.out hb2); obtain ⟨ka, fa, za⟩ := (HX.out.later hb2).facts; obtain ⟨kb, fb, zb⟩ := (HE.out.later hb2).facts; clear hb2)
      go_ret
      exact ⟨ret_bool HQ.out.symm, HB2.out⟩
  · have e4 : (r.a.trm == 0) = false := by simpa using h2
    have HQ := Lib.hid (show goodR r = false by rw [HR.out, decide_eq_false h2]; rfl)
    clear h2
    go_wp2_with (go_at_call 76; (with_reducible refine CG.out.mono ?_); rintro e w2 ⟨rfl, hb2⟩; have HB2 := Lib.hid (below_call HB0.out hb2); obtain ⟨ka, fa, za⟩ := (HX.out.later hb2).facts; obtain ⟨kb, fb, zb⟩ := (HE.out.later hb2).facts; clear hb2)
    go_ret
    exact ⟨ret_bool HQ.out.symm, HB2.out⟩

set_option maxHeartbeats 2000000 in
theorem ref24Has (l : List Rec) (i : Int) (v : Value) (w : World) (h : Sl 7 recRow w.heap.size w v l) :
    Calls Tryz.prog 47 #[v, .int .i64 i] w fun e w' => (∃ r : Int, e = .returned (.int .i64 r) ∧ FndPost (fun x : Rec => decide (x.e.idx = i)) l r) ∧ w = w' := by
  obtain ⟨Al, cl, rfl, hlc, hcm, -, hA⟩ := h
  have hn : l.length ≤ 9223372036854775807 := by unfold maxLen at hcm; omega
  have HA := Lib.hid hA
  clear hA hcm hlc
  go_enter Tryz.func47, Tryz.ntmps47
  go_wp2_with fail
  go_loopw [5] (fun j wr => ∃ k : Nat, k ≤ l.length ∧ j = .int .i64 (k : Int) ∧ NoP (fun x : Rec => decide (x.e.idx = i)) l k ∧ w = wr) (fun j _ => l.length - (kOf j).toNat)
  case atStart => exact ⟨0, by omega, rfl, noP_zero, rfl⟩
  case round =>
    obtain ⟨k, hk, rfl, hno, rfl⟩ := hrel
    have HNO := Lib.hid hno
    have i0 : (0 : Int) ≤ (k : Int) := by omega
    clear hno
    by_cases hlt : k < l.length
    · have i1 : (k : Int) < (l.length : Int) := by omega
      have d0 : decide ((k : Int) < (l.length : Int)) = true := decide_eq_true i1
      obtain ⟨b, off, rfl, hb, hcell⟩ := HA.out (by intro h; subst h; simp at hlt)
      obtain ⟨x, hx⟩ : ∃ x, l[k]? = some x := ⟨_, List.getElem?_eq_getElem hlt⟩
      have c0 : w.cell? ⟨b, off + k * 7, none⟩ = some (.int .i64 x.e.idx) := hcell k x hx 0 _ rfl
      have HX := Lib.hid hx
      clear hcell hx
      by_cases he : x.e.idx = i
      · have e0 : (x.e.idx == i) = true := by simpa using he
        have HY := Lib.hid (fnd_yes (p := fun x : Rec => decide (x.e.idx = i)) HNO.out HX.out (decide_eq_true he))
        clear he
        go_wp2_with fail
        go_ret
        exact ⟨⟨_, rfl, HY.out⟩, by trivial⟩
      · have e0 : (x.e.idx == i) = false := by simpa using he
        have HY := Lib.hid (noP_step (p := fun x : Rec => decide (x.e.idx = i)) HNO.out HX.out (decide_eq_false he))
        clear he
        go_wp2_with fail
        go_roundw
        case rel => exact ⟨k + 1, by omega, by go_num, HY.out, by trivial⟩
        case measure => first | (simp [kOf]; done) | (simp [kOf]; omega)
    · have d0 : decide ((k : Int) < (l.length : Int)) = false := decide_eq_false (by omega)
      have HF := Lib.hid (show NoP (fun x : Rec => decide (x.e.idx = i)) l l.length by have h := HNO.out; rw [show k = l.length by omega] at h; exact h)
      go_wp2_with fail
      go_ret
      exact ⟨⟨_, rfl, fnd_no HF.out⟩, by trivial⟩

theorem bodyPost_box7 {P : Program} {f : Func} {Q : Ending → World → Prop} {x : Exit} {a : Act} {W w : World} {g B : Nat} {cs : Array Value} {t : TypeId} (hb : Box W g cs t) (hB : Below B w W) (k : ∀ W', W' = W → Box W' g cs t → Below B w W' → bodyPost P f Q x a W') : bodyPost P f Q x a W := k W rfl hb hB
set_option maxHeartbeats 1000000 in
theorem Box.set7 {w : World} {n : Nat} {a b c d e f g : Value} {t : TypeId} (h : Box w n #[a, b, c, d, e, f, g] t) (x y z u v s q : Value) :
    Box (((((((w.setCell ⟨n, 0, none⟩ x).setCell ⟨n, 1, none⟩ y).setCell ⟨n, 2, none⟩ z).setCell ⟨n, 3, none⟩ u).setCell ⟨n, 4, none⟩ v).setCell ⟨n, 5, none⟩ s).setCell ⟨n, 6, none⟩ q) n #[x, y, z, u, v, s, q] t := ((((((h.set_ 0 x).set_ 1 y).set_ 2 z).set_ 3 u).set_ 4 v).set_ 5 s).set_ 6 q
theorem below_set7 {B : Nat} {a w : World} {n : Nat} (h : Below B a w) (hn : B ≤ n) (x y z u v s q : Value) :
    Below B a (((((((w.setCell ⟨n, 0, none⟩ x).setCell ⟨n, 1, none⟩ y).setCell ⟨n, 2, none⟩ z).setCell ⟨n, 3, none⟩ u).setCell ⟨n, 4, none⟩ v).setCell ⟨n, 5, none⟩ s).setCell ⟨n, 6, none⟩ q) :=
  below_set (below_set (below_set (below_set (below_set (below_set (below_set h hn) hn) hn) hn) hn) hn) hn
theorem Own.set7b {α : Type} {k : Nat} {row : α → List Value} {e : TypeId} {base n : Nat} {w : World} {v : Value} {l : List α} (h : Own k row e base w v l) (hn : n < base) (x y z u s q t : Value) :
    Own k row e base (((((((w.setCell ⟨n, 0, none⟩ x).setCell ⟨n, 1, none⟩ y).setCell ⟨n, 2, none⟩ z).setCell ⟨n, 3, none⟩ u).setCell ⟨n, 4, none⟩ s).setCell ⟨n, 5, none⟩ q).setCell ⟨n, 6, none⟩ t) v l :=
  ((((((h.set_below hn).set_below hn).set_below hn).set_below hn).set_below hn).set_below hn).set_below hn
set_option maxRecDepth 100000 in
set_option maxHeartbeats 4000000 in
/-- A record in memory of its own. -/
theorem ref24Copied (r : Rec) (w : World) (hx : Sl 1 u8Row w.heap.size w (.slice r.e.ba r.e.bd.length r.e.bc) r.e.bd) (hn : r.e.bd.length ≤ 100000) :
    Calls Tryz.prog 43 #[.agg #[.int .i64 r.e.idx, .int .i64 r.e.trm, .int .i64 r.e.knd, .slice r.e.ba r.e.bd.length r.e.bc, .int .i64 r.a.idx, .int .i64 r.a.trm, .int .i64 r.a.knd]] w fun e w' => ∃ A c, e = .returned (.agg #[.int .i64 r.e.idx, .int .i64 r.e.trm, .int .i64 r.e.knd, .slice A r.e.bd.length c, .int .i64 r.a.idx, .int .i64 r.a.trm, .int .i64 r.a.knd]) ∧ Own 1 u8Row 5 w.heap.size w' (.slice A r.e.bd.length c) r.e.bd ∧ Below w.heap.size w w' := by
  have HB0 := Lib.hid (below_call (below_new w (.cells #[.int .i64 r.e.idx, .int .i64 r.e.trm, .int .i64 r.e.knd, .slice r.e.ba r.e.bd.length r.e.bc, .int .i64 r.a.idx, .int .i64 r.a.trm, .int .i64 r.a.knd] 76)) (below_new _ (.cells #[.int .i64 0, .int .i64 0, .int .i64 0, .slice none 0 0, .int .i64 0, .int .i64 0, .int .i64 0] 76)))
  have HX := Lib.hid ((Box.new w #[.int .i64 r.e.idx, .int .i64 r.e.trm, .int .i64 r.e.knd, .slice r.e.ba r.e.bd.length r.e.bc, .int .i64 r.a.idx, .int .i64 r.a.trm, .int .i64 r.a.knd] 76).alloc (.cells #[.int .i64 0, .int .i64 0, .int .i64 0, .slice none 0 0, .int .i64 0, .int .i64 0, .int .i64 0] 76))
  have HE := Lib.hid (Box.new (w.alloc (.cells #[.int .i64 r.e.idx, .int .i64 r.e.trm, .int .i64 r.e.knd, .slice r.e.ba r.e.bd.length r.e.bc, .int .i64 r.a.idx, .int .i64 r.a.trm, .int .i64 r.a.knd] 76)) #[.int .i64 0, .int .i64 0, .int .i64 0, .slice none 0 0, .int .i64 0, .int .i64 0, .int .i64 0] 76)
  rw [World.size_alloc] at HE
  obtain ⟨W, hW⟩ : ∃ z, z = (w.alloc (.cells #[.int .i64 r.e.idx, .int .i64 r.e.trm, .int .i64 r.e.knd, .slice r.e.ba r.e.bd.length r.e.bc, .int .i64 r.a.idx, .int .i64 r.a.trm, .int .i64 r.a.knd] 76)).alloc (.cells #[.int .i64 0, .int .i64 0, .int .i64 0, .slice none 0 0, .int .i64 0, .int .i64 0, .int .i64 0] 76) := ⟨_, rfl⟩
  obtain ⟨g0, hg0⟩ : ∃ z, z = w.heap.size := ⟨_, rfl⟩
  obtain ⟨g1, hg1⟩ : ∃ z, z = w.heap.size + 1 := ⟨_, rfl⟩
  have hz : W.heap.size = w.heap.size + 2 := by rw [hW]; simp
  have HW := Lib.hid hW
  have H0 := Lib.hid hg0
  have H1 := Lib.hid hg1
  rw [← hW] at HB0 HX HE
  rw [← hg0] at HX
  rw [← hg1] at HE
  have HS := Lib.hid (hx.later HB0.out)
  clear hW hx
  go_enter Tryz.func43, Tryz.ntmps43
  go_upto_region 1 with fail
  rw [← HW.out, ← H1.out, ← H0.out]
  have hl0 : w.heap.size ≤ g0 := by omega
  have hl1 : w.heap.size ≤ g1 := by omega
  have h01 : g0 < W.heap.size := by omega
  have h02 : g1 < W.heap.size := by omega
  have hne : g0 ≠ g1 := by omega
  clear hg0 hg1 hz
  obtain ⟨k0, f0, z0⟩ := (HX.out.alloc (.cells #[] 5)).facts
  go_upto_region 2 with (at_builtin; refine wpList_append_all _ rfl (.tmp 3) (.tmp 6) 52 rfl W.heap.size 5 _ 1 1 Tryz.underlying52 u8Info rfl (Nat.succ_pos 0) u8Row u8Row_length u8Row_one [] _ rfl (Own.made 1 u8Row 5 W) r.e.bd W.heap.size _ (HS.out.below (below_new _ _)) rfl (by unfold maxLen; simp; omega) (by simp; omega) (by simp) ?_; intro v' w' p1 p2 p3 p4 p5; have HO := Lib.hid p1; have HB2 := Lib.hid ((below_new W (.cells #[] 5)).trans p2); clear p1 p2 p3 p4 p5; obtain ⟨A2, c2, hv2⟩ := HO.out.len; rw [List.nil_append] at hv2; subst hv2; obtain ⟨k1, f1, z1⟩ := (HX.out.later HB2.out).facts)
  clear k0 f0 z0 k1 f1 z1
  have HX3 := Lib.hid (show Box (w'.setCell ⟨g0, 3, none⟩ (.slice A2 r.e.bd.length c2)) g0 #[.int .i64 r.e.idx, .int .i64 r.e.trm, .int .i64 r.e.knd, .slice A2 r.e.bd.length c2, .int .i64 r.a.idx, .int .i64 r.a.trm, .int .i64 r.a.knd] 76 from (HX.out.later HB2.out).set_ 3 (.slice A2 r.e.bd.length c2))
  have HE3 := Lib.hid ((HE.out.later HB2.out).far (p := ⟨g0, 3, none⟩) (fun h => hne h.symm) (.slice A2 r.e.bd.length c2))
  have HO3 := Lib.hid (HO.out.set_below (i := 3) (u := .slice A2 r.e.bd.length c2) h01)
  have HB3 := Lib.hid (below_set (i := 3) (u := .slice A2 r.e.bd.length c2) (below_call HB0.out HB2.out) hl0)
  obtain ⟨V, hV⟩ : ∃ z, z = w'.setCell ⟨g0, 3, none⟩ (.slice A2 r.e.bd.length c2) := ⟨_, rfl⟩
  rw [← hV] at HX3 HE3 HO3 HB3
  rw [← hV]
  clear hV
  obtain ⟨k2, f2, z2⟩ := HX3.out.facts
  obtain ⟨k3, f3, z3⟩ := HE3.out.facts
  go_wp2_with fail
  refine bodyPost_box7 (HE3.out.set7 (.int .i64 r.e.idx) (.int .i64 r.e.trm) (.int .i64 r.e.knd) (.slice A2 r.e.bd.length c2) (.int .i64 r.a.idx) (.int .i64 r.a.trm) (.int .i64 r.a.knd)) (below_set7 HB3.out hl1 _ _ _ _ _ _ _) ?_
  intro wz hwz hz1 hz2
  obtain ⟨kz, -, -⟩ := hz1.facts
  refine bodyPost_ret (v := .agg #[.int .i64 r.e.idx, .int .i64 r.e.trm, .int .i64 r.e.knd, .slice A2 r.e.bd.length c2, .int .i64 r.a.idx, .int .i64 r.a.trm, .int .i64 r.a.knd]) (by simp [results, Tryz.results43, go_sem, kz]) rfl ⟨A2, c2, rfl, ?_, hz2⟩
  have h9 := HO3.out.set7b h02 (.int .i64 r.e.idx) (.int .i64 r.e.trm) (.int .i64 r.e.knd) (.slice A2 r.e.bd.length c2) (.int .i64 r.a.idx) (.int .i64 r.a.trm) (.int .i64 r.a.knd)
  rw [List.nil_append, ← hwz] at h9
  exact h9.less HB0.out.size
end Go.Proofs.YtglkgmijhdkhpaaGreatDoor
