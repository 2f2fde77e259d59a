/-
  slices.ContainsFunc at wants, with Add's and Worst's closures: contracts.
-/
import Derived.Test.YtnmlmnhgjnkbhaaWard
import Derived.Test.YtnmlmnhgjnkbhaaWardMath3
import Derived.Test.YtnmlmnhgjnkbhaaIdxMath
import Derived.Deep.RegionHeld3
import Derived.Deep.DeepCutAuto
set_option linter.unusedVariables false
set_option linter.unusedSimpArgs false
namespace Go.Proofs.Ytnmlmnhgjnkbhaa
open Go.RowKit

def kOf : Value → Int | .int _ q => q | _ => 0
set_option maxHeartbeats 400000 in
theorem wardLow (x : Wnt) (w : World) : Calls Try.prog 24 #[.agg #[.int .i64 x.blk, .int .i64 x.knd, .int .i64 x.num]] w fun e w' => e = .returned (.bool (decide (x.blk < 0))) ∧ Below w.heap.size w w' := by
  have HB := Lib.hid (below_new w (.cells #[.int .i64 x.blk, .int .i64 x.knd, .int .i64 x.num] 41))
  go_enter Try.func24, Try.ntmps24
  go_wp2_with fail
  go_ret
  exact ⟨rfl, HB.out⟩
set_option maxHeartbeats 400000 in
theorem wardKnd (g : Nat) (k : Int) (x : Wnt) (w : World) (h : w.cell? ⟨g, 0, none⟩ = some (.int .i64 k)) (hg : g < w.heap.size) : Calls Try.prog 33 #[.agg #[.int .i64 x.blk, .int .i64 x.knd, .int .i64 x.num], .pointer (some ⟨g, 0, none⟩)] w fun e w' => e = .returned (.bool (decide (x.knd = k))) ∧ Below w.heap.size w w' := by
  have HB := Lib.hid (below_new w (.cells #[.int .i64 x.blk, .int .i64 x.knd, .int .i64 x.num] 41))
  have h2 := (HB.out.cell (p := ⟨g, 0, none⟩) hg).trans h
  have hd : (x.knd == k) = decide (x.knd = k) := rfl
  obtain ⟨W, hW⟩ : ∃ W, W = w.alloc (.cells #[.int .i64 x.blk, .int .i64 x.knd, .int .i64 x.num] 41) := ⟨_, rfl⟩
  have HX := Lib.hid (Box.new w #[.int .i64 x.blk, .int .i64 x.knd, .int .i64 x.num] 41)
  rw [← hW] at HB h2 HX
  obtain ⟨k1, f1, z1⟩ := HX.out.facts
  have HE := Lib.hid hW
  clear hW h
  by_cases hk : x.knd = k
  · have e1 : (x.knd == k) = true := by simpa using hk
    have HD := Lib.hid (show decide (x.knd = k) = true from decide_eq_true hk)
    clear hk hd
    go_enter Try.func33, Try.ntmps33
    go_upto_region 1 with fail
    rw [← HE.out]
    go_wp2_with fail
    go_ret
    exact ⟨ret_bool HD.out.symm, HB.out⟩
  · have e1 : (x.knd == k) = false := by simpa using hk
    have HD := Lib.hid (show decide (x.knd = k) = false from decide_eq_false hk)
    clear hk hd
    go_enter Try.func33, Try.ntmps33
    go_upto_region 1 with fail
    rw [← HE.out]
    go_wp2_with fail
    go_ret
    exact ⟨ret_bool HD.out.symm, HB.out⟩

set_option maxHeartbeats 1000000 in
theorem wardLowIndex  (p : Wnt → Bool) (l : List Wnt) (v : Value) (w : World) (h : Sl 3 wntRow w.heap.size w v l) (hcl : ∀ x ∈ l, ∀ W, Below w.heap.size w W → Calls Try.prog 24 #[.agg #[.int .i64 x.blk, .int .i64 x.knd, .int .i64 x.num]] W fun e W' => e = .returned (.bool (p x)) ∧ Below W.heap.size W W') :
    Calls Try.prog 37 #[v, .func (.func 24) #[] #[]] w fun e w' => (∃ r : Int, e = .returned (.int .i64 r) ∧ FndPost p l r) ∧ Below w.heap.size w w' := by
  obtain ⟨A, cap, rfl, hlc, hcm, -, hA⟩ := h
  have hn : l.length ≤ 9223372036854775807 := by unfold maxLen at hcm; omega
  have HA := Lib.hid hA
  have HC := Lib.hid hcl
  clear hcm hA hcl
  go_enter Try.func37, Try.ntmps37
  go_wp2_with fail
  go_loopw [4, 5, 8] (fun _ _ j wr => ∃ k : Nat, k ≤ l.length ∧ j = .int .i64 (k : Int) ∧ NoP p l k ∧ Below w.heap.size w wr) (fun _ _ j _ => l.length - (kOf j).toNat)
  case atStart => exact ⟨0, by omega, rfl, noP_zero, Below.refl _ _⟩
  case round =>
    obtain ⟨k, hk, rfl, hno, hB⟩ := hrel
    have HNO := Lib.hid hno
    have HB := Lib.hid hB
    have i0 : (0 : Int) ≤ (k : Int) := by omega
    clear hno hB
    by_cases hlt : k < l.length
    · have i1 : (k : Int) < (l.length : Int) := by omega
      have d0 : decide ((k : Int) < (l.length : Int)) = true := decide_eq_true i1
      have d0' : decide (k < l.length) = true := decide_eq_true hlt
      obtain ⟨b, off, rfl, hb, hcell⟩ := HA.out (by intro h; subst h; simp at hlt)
      obtain ⟨x, hx⟩ : ∃ x, l[k]? = some x := ⟨_, List.getElem?_eq_getElem hlt⟩
      have c0 : wr.cell? ⟨b, off + k * 3, none⟩ = some (.int .i64 x.blk) := by simpa using (HB.out.cell (p := ⟨b, off + k * 3 + 0, none⟩) hb).trans (hcell k x hx 0 _ rfl)
      have c1 : wr.cell? ⟨b, off + k * 3 + 1, none⟩ = some (.int .i64 x.knd) := by simpa using (HB.out.cell (p := ⟨b, off + k * 3 + 1, none⟩) hb).trans (hcell k x hx 1 _ rfl)
      have c2 : wr.cell? ⟨b, off + k * 3 + 2, none⟩ = some (.int .i64 x.num) := by simpa using (HB.out.cell (p := ⟨b, off + k * 3 + 2, none⟩) hb).trans (hcell k x hx 2 _ rfl)
      have HX := Lib.hid hx
      have HCX := Lib.hid (HC.out x (List.mem_of_getElem? hx) wr HB.out)
      clear hcell hx
      cases hp : p x with
      | true =>
        rw [hp] at HCX
        have HP := Lib.hid hp
        clear hp
        go_wp2_with (go_at_call 24; (with_reducible refine HCX.out.mono ?_); rintro e w2 ⟨rfl, hb2⟩)
        go_ret
        exact ⟨⟨_, rfl, fnd_yes HNO.out HX.out HP.out⟩, below_call HB.out hb2⟩
      | false =>
        rw [hp] at HCX
        have HP := Lib.hid hp
        clear hp
        go_wp2_with (go_at_call 24; (with_reducible refine HCX.out.mono ?_); rintro e w2 ⟨rfl, hb2⟩; have HB2 := Lib.hid (below_call HB.out hb2); clear hb2)
        go_roundw
        case rel => exact ⟨k + 1, by omega, by go_num, noP_step HNO.out HX.out HP.out, HB2.out⟩
        case measure => simp [kOf]; omega
    · have d0 : decide ((k : Int) < (l.length : Int)) = false := decide_eq_false (by omega)
      have d0' : decide (k < l.length) = false := decide_eq_false hlt
      have HF := Lib.hid (show NoP p l l.length by have h := HNO.out; rw [show k = l.length by omega] at h; exact h)
      go_wp2_with fail
      go_ret
      exact ⟨⟨_, rfl, fnd_no HF.out⟩, HB.out⟩

set_option maxHeartbeats 1000000 in
theorem wardLowContains  (p : Wnt → Bool) (l : List Wnt) (v : Value) (w : World) (h : Sl 3 wntRow w.heap.size w v l) (hcl : ∀ x ∈ l, ∀ W, Below w.heap.size w W → Calls Try.prog 24 #[.agg #[.int .i64 x.blk, .int .i64 x.knd, .int .i64 x.num]] W fun e W' => e = .returned (.bool (p x)) ∧ Below W.heap.size W W') :
    Calls Try.prog 26 #[v, .func (.func 24) #[] #[]] w fun e w' => e = .returned (.bool (l.any p)) ∧ Below w.heap.size w w' := by
  obtain ⟨c, hc⟩ : ∃ c, l.any p = c := ⟨_, rfl⟩
  have CC : Hid (Calls Try.prog 37 #[v, .func (.func 24) #[] #[]] w fun e w' => (∃ r : Int, e = .returned (.int .i64 r) ∧ decide (0 ≤ r) = c) ∧ Below w.heap.size w w') :=
    (wardLowIndex  p l v w h hcl).mono fun e w' ⟨⟨r, he, hr⟩, hb⟩ => ⟨⟨r, he, hr.any.trans hc⟩, hb⟩
  rw [hc]
  clear hc h hcl
  go_enter Try.func26, Try.ntmps26
  go_wp2_with (go_at_call 37; (with_reducible refine CC.out.mono ?_); rintro e w2 ⟨⟨r, rfl, hr⟩, hb2⟩)
  go_ret
  exact ⟨rfl, hb2⟩

set_option maxHeartbeats 1000000 in
theorem wardKndIndex (g : Nat) (p : Wnt → Bool) (l : List Wnt) (v : Value) (w : World) (h : Sl 3 wntRow w.heap.size w v l) (hcl : ∀ x ∈ l, ∀ W, Below w.heap.size w W → Calls Try.prog 33 #[.agg #[.int .i64 x.blk, .int .i64 x.knd, .int .i64 x.num], .pointer (some ⟨g, 0, none⟩)] W fun e W' => e = .returned (.bool (p x)) ∧ Below W.heap.size W W') :
    Calls Try.prog 37 #[v, .func (.func 33) #[] #[.pointer (some ⟨g, 0, none⟩)]] w fun e w' => (∃ r : Int, e = .returned (.int .i64 r) ∧ FndPost p l r) ∧ Below w.heap.size w w' := by
  obtain ⟨A, cap, rfl, hlc, hcm, -, hA⟩ := h
  have hn : l.length ≤ 9223372036854775807 := by unfold maxLen at hcm; omega
  have HA := Lib.hid hA
  have HC := Lib.hid hcl
  clear hcm hA hcl
  go_enter Try.func37, Try.ntmps37
  go_wp2_with fail
  go_loopw [4, 5, 8] (fun _ _ j wr => ∃ k : Nat, k ≤ l.length ∧ j = .int .i64 (k : Int) ∧ NoP p l k ∧ Below w.heap.size w wr) (fun _ _ j _ => l.length - (kOf j).toNat)
  case atStart => exact ⟨0, by omega, rfl, noP_zero, Below.refl _ _⟩
  case round =>
    obtain ⟨k, hk, rfl, hno, hB⟩ := hrel
    have HNO := Lib.hid hno
    have HB := Lib.hid hB
    have i0 : (0 : Int) ≤ (k : Int) := by omega
    clear hno hB
    by_cases hlt : k < l.length
    · have i1 : (k : Int) < (l.length : Int) := by omega
      have d0 : decide ((k : Int) < (l.length : Int)) = true := decide_eq_true i1
      have d0' : decide (k < l.length) = true := decide_eq_true hlt
      obtain ⟨b, off, rfl, hb, hcell⟩ := HA.out (by intro h; subst h; simp at hlt)
      obtain ⟨x, hx⟩ : ∃ x, l[k]? = some x := ⟨_, List.getElem?_eq_getElem hlt⟩
      have c0 : wr.cell? ⟨b, off + k * 3, none⟩ = some (.int .i64 x.blk) := by simpa using (HB.out.cell (p := ⟨b, off + k * 3 + 0, none⟩) hb).trans (hcell k x hx 0 _ rfl)
      have c1 : wr.cell? ⟨b, off + k * 3 + 1, none⟩ = some (.int .i64 x.knd) := by simpa using (HB.out.cell (p := ⟨b, off + k * 3 + 1, none⟩) hb).trans (hcell k x hx 1 _ rfl)
      have c2 : wr.cell? ⟨b, off + k * 3 + 2, none⟩ = some (.int .i64 x.num) := by simpa using (HB.out.cell (p := ⟨b, off + k * 3 + 2, none⟩) hb).trans (hcell k x hx 2 _ rfl)
      have HX := Lib.hid hx
      have HCX := Lib.hid (HC.out x (List.mem_of_getElem? hx) wr HB.out)
      clear hcell hx
      cases hp : p x with
      | true =>
        rw [hp] at HCX
        have HP := Lib.hid hp
        clear hp
        go_wp2_with (go_at_call 33; (with_reducible refine HCX.out.mono ?_); rintro e w2 ⟨rfl, hb2⟩)
        go_ret
        exact ⟨⟨_, rfl, fnd_yes HNO.out HX.out HP.out⟩, below_call HB.out hb2⟩
      | false =>
        rw [hp] at HCX
        have HP := Lib.hid hp
        clear hp
        go_wp2_with (go_at_call 33; (with_reducible refine HCX.out.mono ?_); rintro e w2 ⟨rfl, hb2⟩; have HB2 := Lib.hid (below_call HB.out hb2); clear hb2)
        go_roundw
        case rel => exact ⟨k + 1, by omega, by go_num, noP_step HNO.out HX.out HP.out, HB2.out⟩
        case measure => simp [kOf]; omega
    · have d0 : decide ((k : Int) < (l.length : Int)) = false := decide_eq_false (by omega)
      have d0' : decide (k < l.length) = false := decide_eq_false hlt
      have HF := Lib.hid (show NoP p l l.length by have h := HNO.out; rw [show k = l.length by omega] at h; exact h)
      go_wp2_with fail
      go_ret
      exact ⟨⟨_, rfl, fnd_no HF.out⟩, HB.out⟩

set_option maxHeartbeats 1000000 in
theorem wardKndContains (g : Nat) (p : Wnt → Bool) (l : List Wnt) (v : Value) (w : World) (h : Sl 3 wntRow w.heap.size w v l) (hcl : ∀ x ∈ l, ∀ W, Below w.heap.size w W → Calls Try.prog 33 #[.agg #[.int .i64 x.blk, .int .i64 x.knd, .int .i64 x.num], .pointer (some ⟨g, 0, none⟩)] W fun e W' => e = .returned (.bool (p x)) ∧ Below W.heap.size W W') :
    Calls Try.prog 26 #[v, .func (.func 33) #[] #[.pointer (some ⟨g, 0, none⟩)]] w fun e w' => e = .returned (.bool (l.any p)) ∧ Below w.heap.size w w' := by
  obtain ⟨c, hc⟩ : ∃ c, l.any p = c := ⟨_, rfl⟩
  have CC : Hid (Calls Try.prog 37 #[v, .func (.func 33) #[] #[.pointer (some ⟨g, 0, none⟩)]] w fun e w' => (∃ r : Int, e = .returned (.int .i64 r) ∧ decide (0 ≤ r) = c) ∧ Below w.heap.size w w') :=
    (wardKndIndex g p l v w h hcl).mono fun e w' ⟨⟨r, he, hr⟩, hb⟩ => ⟨⟨r, he, hr.any.trans hc⟩, hb⟩
  rw [hc]
  clear hc h hcl
  go_enter Try.func26, Try.ntmps26
  go_wp2_with (go_at_call 37; (with_reducible refine CC.out.mono ?_); rintro e w2 ⟨⟨r, rfl, hr⟩, hb2⟩)
  go_ret
  exact ⟨rfl, hb2⟩

end Go.Proofs.Ytnmlmnhgjnkbhaa
