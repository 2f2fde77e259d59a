/-
  Merged: SortIdt, SortIdt2.
-/
import Derived.Test.YtglkgmijhdkhpaaGreatDoorHt4
import Derived.Test.YtglkgmijhdkhpaaGreatDoorHt10
import Derived.Test.YtglkgmijhdkhpaaGreatDoorHt12
import Derived.BigRegion
import Derived.RegionTactic
import Derived.Test.YtglkgmijhdkhpaaGreatDoorHt2
/-
  slices.SortStableFunc's swapRange, rotate at identities: contracts.
-/
set_option linter.unusedVariables false
set_option linter.unusedSimpArgs false
namespace Go.Proofs.YtglkgmijhdkhpaaGreatDoor
open Go.RowKit

def sOf : Value → Int | .int _ q => q | _ => 0
theorem Own.writeI {e : TypeId} {base g cap n k : Nat} {w : World} {l : List Idt} {x y : Idt} (h : Own 3 idRow e base w (.slice (some ⟨g, 0, none⟩) n cap) l) (hx : l[k]? = some x) :
    Own 3 idRow e base (((w.setCell ⟨g, k * 3, none⟩ (.int .i64 y.idx)).setCell ⟨g, k * 3 + 1, none⟩ (.int .i64 y.trm)).setCell ⟨g, k * 3 + 2, none⟩ (.int .i64 y.knd)) (.slice (some ⟨g, 0, none⟩) n cap) (l.set k y) := by
  have hk := (List.getElem?_eq_some_iff.1 hx).1
  have h1 := h.write idRow_length (i := k) (j := 0) (y := ⟨y.idx, x.trm, x.knd⟩) (u := .int .i64 y.idx) hx rfl (by omega)
  have h2 := h1.write idRow_length (i := k) (j := 1) (y := ⟨y.idx, y.trm, x.knd⟩) (u := .int .i64 y.trm) (x := ⟨y.idx, x.trm, x.knd⟩) (by simp [hk]) rfl (by omega)
  rw [List.set_set] at h2
  have h3 := h2.write idRow_length (i := k) (j := 2) (y := y) (u := .int .i64 y.knd) (x := ⟨y.idx, y.trm, x.knd⟩) (by simp [hk]) rfl (by omega)
  rw [List.set_set] at h3
  exact h3
def set3 (w : World) (g o : Nat) (y : Idt) : World := ((w.setCell ⟨g, o, none⟩ (.int .i64 y.idx)).setCell ⟨g, o + 1, none⟩ (.int .i64 y.trm)).setCell ⟨g, o + 2, none⟩ (.int .i64 y.knd)
/-- Two rows of an owned slice change places. -/
theorem Own.swap {e : TypeId} {base g cap n i j : Nat} {w : World} {l : List Idt} {x y : Idt} (h : Own 3 idRow e base w (.slice (some ⟨g, 0, none⟩) n cap) l) (hx : l[i]? = some x) (hy : l[j]? = some y) (hij : i ≠ j) :
    Own 3 idRow e base (set3 (set3 w g (i * 3) y) g (j * 3) x) (.slice (some ⟨g, 0, none⟩) n cap) (swp l i j x y) ∧ Below base w (set3 (set3 w g (i * 3) y) g (j * 3) x) := by
  have h1 := h.writeI (y := y) hx
  have h2 := h1.writeI (k := j) (x := y) (y := x) (by rw [List.getElem?_set_ne hij]; exact hy)
  have hg := (h.block (x := g) rfl).1
  exact ⟨h2, below_set (below_set (below_set (below_set (below_set (below_set (Below.refl _ _) hg) hg) hg) hg) hg) hg⟩
/-- What a walk wants of row i. -/
theorem Own.row3 {e : TypeId} {base g cap n i : Nat} {w : World} {l : List Idt} {x : Idt} (h : Own 3 idRow e base w (.slice (some ⟨g, 0, none⟩) n cap) l) (hx : l[i]? = some x) :
    w.cell? ⟨g, i * 3, none⟩ = some (.int .i64 x.idx) ∧ w.cell? ⟨g, i * 3 + 1, none⟩ = some (.int .i64 x.trm) ∧ w.cell? ⟨g, i * 3 + 2, none⟩ = some (.int .i64 x.knd) := by
  obtain ⟨b, o, c, hv, -, -, -, hc⟩ := (h.sl idRow_length).cellAt (by intro hl; subst hl; simp at hx)
  simp only [Value.slice.injEq, Option.some.injEq, Addr.mk.injEq, and_true] at hv
  obtain ⟨⟨rfl, rfl⟩, -, rfl⟩ := hv
  exact ⟨by simpa using hc i x hx 0 _ rfl, by simpa using hc i x hx 1 _ rfl, by simpa using hc i x hx 2 _ rfl⟩
theorem Own.free3 {e : TypeId} {base g cap n : Nat} {w : World} {l : List Idt} (h : Own 3 idRow e base w (.slice (some ⟨g, 0, none⟩) n cap) l) : (∀ o, w.frozen? ⟨g, o, none⟩ = false) ∧ g < w.heap.size := by
  have hlt := (h.block (x := g) rfl).2
  rcases h.2 with ⟨hv, _⟩ | ⟨g', cap', cur, hv, hg, hh, _⟩
  · simp at hv
  · simp only [Value.slice.injEq, Option.some.injEq, Addr.mk.injEq, and_true] at hv
    obtain ⟨rfl, -, -⟩ := hv
    exact ⟨fun o => by simp [World.frozen?, hh], hlt⟩
theorem Own.capLen {e : TypeId} {base g cap n : Nat} {w : World} {l : List Idt} (h : Own 3 idRow e base w (.slice (some ⟨g, 0, none⟩) n cap) l) : n = l.length := by
  obtain ⟨A, c, hv⟩ := h.len
  simp only [Value.slice.injEq] at hv
  exact hv.2.1

set_option maxRecDepth 100000 in
set_option maxHeartbeats 8000000 in
theorem idtSwap (base g n c : Nat) (fv : Value) (P X M Y S : List Idt) (a b k : Nat) (w : World) (h : Own 3 idRow 42 base w (.slice (some ⟨g, 0, none⟩) n c) (P ++ X ++ M ++ Y ++ S)) (hX : X.length = k) (hY : Y.length = k) (ha : P.length = a) (hb : (P ++ X ++ M).length = b) (hn : n ≤ 100000) :
    Calls Tryz.prog 125 #[.slice (some ⟨g, 0, none⟩) n c, .int .i64 (a : Int), .int .i64 (b : Int), .int .i64 (k : Int), fv] w fun e w' => e = .returned (.tuple #[]) ∧ Own 3 idRow 42 base w' (.slice (some ⟨g, 0, none⟩) n c) (P ++ Y ++ M ++ X ++ S) ∧ Below base w w' := by
  have hnl := h.capLen
  have hl := hnl
  simp only [List.length_append] at hl hb
  have HO0 := Lib.hid h
  have hab : a + k ≤ b := by omega
  have hbk : b + k ≤ n := by omega
  have HB' := Lib.hid (show (P ++ X ++ M).length = b by simp only [List.length_append]; exact hb)
  clear h hb hl hnl
  go_enter Tryz.func125, Tryz.ntmps125
  go_wp2_with fail
  go_loopw [10] (fun i wr => ∃ j : Nat, j ≤ k ∧ i = .int .i64 (j : Int) ∧ Own 3 idRow 42 base wr (.slice (some ⟨g, 0, none⟩) n c) (swK P X M Y S j) ∧ Below base w wr) (fun i _ => k - (sOf i).toNat)
  case atStart => exact ⟨0, by omega, rfl, by rw [swK_zero]; exact HO0.out, Below.refl _ _⟩
  case round =>
    obtain ⟨j, hj, rfl, ho, hB⟩ := hrel
    have HO := Lib.hid ho
    have HB := Lib.hid hB
    have i0 : (0 : Int) ≤ (j : Int) := by omega
    by_cases hlt : j < k
    · have i1 : (j : Int) < (k : Int) := by omega
      have d0 : decide ((j : Int) < (k : Int)) = true := decide_eq_true i1
      obtain ⟨x, y, -, -, hx, hy, hs⟩ := swK_step (P := P) (M := M) (S := S) hX hY hlt ha HB'.out
      obtain ⟨W, hW⟩ : ∃ z, z = wr := ⟨_, rfl⟩
      rw [← hW] at ho HO HB
      rw [← hW]
      obtain ⟨c0, c1, c2⟩ := ho.row3 hx
      obtain ⟨e0, e1, e2⟩ := ho.row3 hy
      obtain ⟨f0, z0⟩ := ho.free3
      have HSW := Lib.hid (ho.swap hx hy (by omega))
      have HS := Lib.hid hs
      have p0 : (0 : Int) ≤ (a : Int) + (j : Int) := by omega
      have p1 : (a : Int) + (j : Int) < (n : Int) := by omega
      have p2 : (0 : Int) ≤ (b : Int) + (j : Int) := by omega
      have p3 : (b : Int) + (j : Int) < (n : Int) := by omega
      have p4 : ((a : Int) + (j : Int)).toNat = a + j := by omega
      have p5 : ((b : Int) + (j : Int)).toNat = b + j := by omega
      clear hW ho hx hy hs
      go_wp2_with fail
      go_region
      go_wp2_with fail
      go_roundw
      case rel => exact ⟨j + 1, by omega, by go_num, by rw [← HS.out]; exact HSW.out.1.drew, HB.out.trans HSW.out.2.drew⟩
      case measure => simp [sOf]; omega
    · have d0 : decide ((j : Int) < (k : Int)) = false := decide_eq_false (by omega)
      have hke : j = k := by omega
      have HF := Lib.hid (show Own 3 idRow 42 base wr (.slice (some ⟨g, 0, none⟩) n c) (P ++ Y ++ M ++ X ++ S) by have h := ho; rw [hke, swK_all hX hY] at h; exact h)
      clear ho hke
      go_wp2_with fail
      go_end0
      exact ⟨rfl, HF.out, HB.out⟩

set_option maxRecDepth 100000 in
set_option maxHeartbeats 8000000 in
theorem idtRot (base g n c : Nat) (fv : Value) (D E : List Idt) (a m b i0 j0 : Nat) (w : World) (h : Own 3 idRow 42 base w (.slice (some ⟨g, 0, none⟩) n c) D) (hi : m - a = i0) (hj : b - m = j0) (ham : a < m) (hmb : m < b) (hr : Rot E m i0 j0 D) (hn : n ≤ 100000) :
    Calls Tryz.prog 124 #[.slice (some ⟨g, 0, none⟩) n c, .int .i64 (a : Int), .int .i64 (m : Int), .int .i64 (b : Int), fv] w fun e w' => e = .returned (.tuple #[]) ∧ Own 3 idRow 42 base w' (.slice (some ⟨g, 0, none⟩) n c) E ∧ Below base w w' := by
  have HO0 := Lib.hid h
  have HR0 := Lib.hid hr
  have hbn := hr.bound
  have hnl := h.capLen
  have hmn : m ≤ 100000 := by omega
  have hbn2 : b ≤ 100000 := by omega
  have z1 := Lib.hid (show (m : Int) - (a : Int) = (i0 : Int) by omega)
  have z2 := Lib.hid (show (b : Int) - (m : Int) = (j0 : Int) by omega)
  have z3 : (a : Int) < (m : Int) := by omega
  have z4 : (m : Int) < (b : Int) := by omega
  have z5 : (b : Int) ≤ 100000 := by omega
  have z6 : (0 : Int) ≤ (a : Int) := by omega
  have hi1 : 0 < i0 := by omega
  have hj1 : 0 < j0 := by omega
  clear h hr hi hj hbn hnl
  go_enter Tryz.func124, Tryz.ntmps124
  go_wp2_with fail
  go_loopw [10, 11] (fun s t wr => ∃ (i j : Nat) (D : List Idt), s = .int .i64 (i : Int) ∧ t = .int .i64 (j : Int) ∧ 0 < i ∧ 0 < j ∧ Rot E m i j D ∧ Own 3 idRow 42 base wr (.slice (some ⟨g, 0, none⟩) n c) D ∧ Below base w wr) (fun s t _ => (sOf s).toNat + (sOf t).toNat)
  case atStart => exact ⟨i0, j0, D, congrArg (Value.int .i64) z1.out, congrArg (Value.int .i64) z2.out, hi1, hj1, HR0.out, HO0.out, Below.refl _ _⟩
  case round =>
    clear HO0 HR0 hi1 hj1
    obtain ⟨i, j, D, rfl, rfl, hi1, hj1, hr, ho, hB⟩ := hrel
    have HR := Lib.hid hr
    have HO := Lib.hid ho
    have HB := Lib.hid hB
    obtain ⟨b1, b2, b3⟩ := hr.bound
    have hnl := ho.capLen
    have hjn : m + j ≤ n := by omega
    have k0 : (0 : Int) < (i : Int) := by omega
    have k1 : (0 : Int) < (j : Int) := by omega
    have k2 : (i : Int) ≤ (m : Int) := by omega
    clear b2 b3 hnl hB hr ho
    by_cases hij : i = j
    · have e1 : ((i : Int) == (j : Int)) = true := by simp [hij]
      have HIJ := Lib.hid hij
      obtain ⟨P, X, M, Y, S, hD, r1, r2, r3, r4, r5⟩ := (show Rot E m i i D by have h := HR.out; rw [← hij] at h; exact h).eq
      have L : Hid (Calls Tryz.prog 125 #[.slice (some ⟨g, 0, none⟩) n c, .int .i64 ((m : Int) - (i : Int)), .int .i64 (m : Int), .int .i64 (i : Int), fv] wr fun e w' => e = .returned (.tuple #[]) ∧ Own 3 idRow 42 base w' (.slice (some ⟨g, 0, none⟩) n c) E ∧ Below base wr w') := by
        have h := idtSwap base g n c fv P X M Y S (m - i) m i wr (by rw [← hD]; exact HO.out) r2 r3 r1 r4 hn
        rw [show ((m - i : Nat) : Int) = (m : Int) - (i : Int) by omega, ← r5] at h
        exact h
      clear hij hD r1 r2 r3 r4 r5
      go_wp2_with (go_at_call 125; (with_reducible refine L.out.mono ?_); rintro e w3 ⟨rfl, ho3, hb3⟩; have HO3 := Lib.hid ho3; have HB3 := Lib.hid (HB.out.trans hb3); clear ho3 hb3)
      go_end0
      exact ⟨rfl, HO3.out, HB3.out⟩
    · have e1 : ((i : Int) == (j : Int)) = false := by simpa using (show ¬ (i : Int) = (j : Int) by omega)
      by_cases hlt : j < i
      · have e2 : decide ((j : Int) < (i : Int)) = true := decide_eq_true (by omega)
        have e3 : (j : Int) < (i : Int) := by omega
        obtain ⟨P, X, M, Y, S, hD, r1, r2, r3, r4, r5⟩ := HR.out.gt hlt
        have L : Hid (Calls Tryz.prog 125 #[.slice (some ⟨g, 0, none⟩) n c, .int .i64 ((m : Int) - (i : Int)), .int .i64 (m : Int), .int .i64 (j : Int), fv] wr fun e w' => e = .returned (.tuple #[]) ∧ (∃ D', Own 3 idRow 42 base w' (.slice (some ⟨g, 0, none⟩) n c) D' ∧ Rot E m (i - j) j D') ∧ Below base wr w') := by
          have h := idtSwap base g n c fv P X M Y S (m - i) m j wr (by rw [← hD]; exact HO.out) r2 r3 r1 r4 hn
          rw [show ((m - i : Nat) : Int) = (m : Int) - (i : Int) by omega] at h
          exact h.mono fun e w' ⟨q1, q2, q3⟩ => ⟨q1, ⟨_, q2, r5⟩, q3⟩
        clear hij hD r1 r2 r3 r4 r5
        go_wp2_with (go_at_call 125; (with_reducible refine L.out.mono ?_); rintro e w3 ⟨rfl, ⟨D3, ho3, hr3⟩, hb3⟩; have HO3 := Lib.hid ho3; have HR3 := Lib.hid hr3; have HB3 := Lib.hid (HB.out.trans hb3); clear ho3 hb3 hr3)
        go_roundw
        case rel => exact ⟨i - j, j, D3, by go_num, rfl, by omega, by omega, HR3.out, HO3.out, HB3.out⟩
        case measure => simp [sOf]; omega
      · have e2 : decide ((j : Int) < (i : Int)) = false := decide_eq_false (by omega)
        have e3 : (i : Int) < (j : Int) := by omega
        obtain ⟨P, X, M, Y, S, hD, r1, r2, r3, r4, r5⟩ := HR.out.lt (by omega)
        have L : Hid (Calls Tryz.prog 125 #[.slice (some ⟨g, 0, none⟩) n c, .int .i64 ((m : Int) - (i : Int)), .int .i64 ((m : Int) + (j : Int) - (i : Int)), .int .i64 (i : Int), fv] wr fun e w' => e = .returned (.tuple #[]) ∧ (∃ D', Own 3 idRow 42 base w' (.slice (some ⟨g, 0, none⟩) n c) D' ∧ Rot E m i (j - i) D') ∧ Below base wr w') := by
          have h := idtSwap base g n c fv P X M Y S (m - i) (m + j - i) i wr (by rw [← hD]; exact HO.out) r2 r3 r1 r4 hn
          rw [show ((m - i : Nat) : Int) = (m : Int) - (i : Int) by omega, show ((m + j - i : Nat) : Int) = (m : Int) + (j : Int) - (i : Int) by omega] at h
          exact h.mono fun e w' ⟨q1, q2, q3⟩ => ⟨q1, ⟨_, q2, r5⟩, q3⟩
        clear hij hD r1 r2 r3 r4 r5
        go_wp2_with (go_at_call 125; (with_reducible refine L.out.mono ?_); rintro e w3 ⟨rfl, ⟨D3, ho3, hr3⟩, hb3⟩; have HO3 := Lib.hid ho3; have HR3 := Lib.hid hr3; have HB3 := Lib.hid (HB.out.trans hb3); clear ho3 hb3 hr3)
        go_roundw
        case rel => exact ⟨i, j - i, D3, rfl, by go_num, by omega, by omega, HR3.out, HO3.out, HB3.out⟩
        case measure => simp [sOf]; omega
end Go.Proofs.YtglkgmijhdkhpaaGreatDoor
/-
  slices.SortStableFunc's comparison, insertionSort at identities: contracts.
-/
set_option linter.unusedVariables false
set_option linter.unusedSimpArgs false
namespace Go.Proofs.YtglkgmijhdkhpaaGreatDoor
open Go.RowKit

def cmpN (a b : Int) : Int := if a < b then -1 else if b < a then 1 else 0
theorem cmpN_lt {a b : Int} (h : a < b) : cmpN a b = -1 := by unfold cmpN; rw [if_pos h]
theorem cmpN_ge {a b : Int} (h : b ≤ a) : 0 ≤ cmpN a b := by
  unfold cmpN
  rw [if_neg (by omega)]
  split <;> omega
set_option maxHeartbeats 400000 in
theorem notNan (a : Int) (w : World) : Calls Tryz.prog 98 #[.int .i64 a] w fun e w' => e = .returned (.bool false) ∧ w = w' := by
  have e1 : (a == a) = true := by simp
  go_enter Tryz.func98, Tryz.ntmps98
  go_wp2_with fail
  go_ret
  exact ⟨rfl, rfl⟩
set_option maxHeartbeats 1000000 in
theorem cmpInt (a b : Int) (w : World) : Calls Tryz.prog 63 #[.int .i64 a, .int .i64 b] w fun e w' => e = .returned (.int .i64 (cmpN a b)) ∧ w = w' := by
  have n1 := notNan a
  have n2 := notNan b
  by_cases h : a < b
  · have d : decide (a < b) = true := decide_eq_true h
    have HC := Lib.hid (cmpN_lt h)
    go_enter Tryz.func63, Tryz.ntmps63
    go_wp2_with (first
      | (go_at_call 98; (with_reducible refine (n1 _).mono ?_); rintro e w2 ⟨rfl, rfl⟩)
      | (go_at_call 98; (with_reducible refine (n2 _).mono ?_); rintro e w2 ⟨rfl, rfl⟩))
    go_ret
    exact ⟨by rw [HC.out]; rfl, rfl⟩
  · have d : decide (a < b) = false := decide_eq_false h
    by_cases h2 : b < a
    · have d2 : decide (b < a) = true := decide_eq_true h2
      have HC := Lib.hid (show cmpN a b = 1 by unfold cmpN; rw [if_neg h, if_pos h2])
      clear h
      go_enter Tryz.func63, Tryz.ntmps63
      go_wp2_with (first
        | (go_at_call 98; (with_reducible refine (n1 _).mono ?_); rintro e w2 ⟨rfl, rfl⟩)
        | (go_at_call 98; (with_reducible refine (n2 _).mono ?_); rintro e w2 ⟨rfl, rfl⟩))
      go_ret
      exact ⟨by rw [HC.out]; rfl, rfl⟩
    · have d2 : decide (b < a) = false := decide_eq_false h2
      have HC := Lib.hid (show cmpN a b = 0 by unfold cmpN; rw [if_neg h, if_neg h2])
      clear h h2
      go_enter Tryz.func63, Tryz.ntmps63
      go_wp2_with (first
        | (go_at_call 98; (with_reducible refine (n1 _).mono ?_); rintro e w2 ⟨rfl, rfl⟩)
        | (go_at_call 98; (with_reducible refine (n2 _).mono ?_); rintro e w2 ⟨rfl, rfl⟩))
      go_ret
      exact ⟨by rw [HC.out]; rfl, rfl⟩
set_option maxHeartbeats 1000000 in
theorem idtCmp (p q : Idt) (w : World) : Calls Tryz.prog 62 #[.agg #[.int .i64 p.idx, .int .i64 p.trm, .int .i64 p.knd], .agg #[.int .i64 q.idx, .int .i64 q.trm, .int .i64 q.knd]] w fun e w' => e = .returned (.int .i64 (cmpN p.idx q.idx)) ∧ Below w.heap.size w w' := by
  have HB := Lib.hid (below_call (below_new w (.cells #[.int .i64 p.idx, .int .i64 p.trm, .int .i64 p.knd] 42)) (below_new _ (.cells #[.int .i64 q.idx, .int .i64 q.trm, .int .i64 q.knd] 42)))
  go_enter Tryz.func62, Tryz.ntmps62
  go_wp2_with (go_at_call 63; (with_reducible refine (cmpInt _ _ _).mono ?_); rintro e w2 ⟨rfl, rfl⟩)
  go_ret
  exact ⟨rfl, HB.out⟩

def ut (T : List (Idt × Nat)) : List Idt := T.map (·.1)
theorem ut_length (T : List (Idt × Nat)) : (ut T).length = T.length := List.length_map _
theorem ut_append (T U : List (Idt × Nat)) : ut (T ++ U) = ut T ++ ut U := List.map_append
theorem own_drewNI {α : Type} {k : Nat} {row : α → List Value} {e : TypeId} {base : Nat} {w : World} {v : Value} {l : List α} (h : Own k row e base w v l) (n : Nat) : Own k row e base (w.drewN n) v l := h
theorem insU_begin' (U : List (Idt × Nat)) : InsU Idt.idx U (U.take 1) 1 := by
  cases U with
  | nil => exact ⟨by simp [SL], by simp⟩
  | cons x U => exact insU_begin (by simp)
theorem insU_end {U R : List (Idt × Nat)} {k : Nat} (h : InsU Idt.idx U R k) (hk : U.length ≤ k) : SL Idt.idx R ∧ R.Perm U := by
  refine ⟨h.sl, ?_⟩
  have := h.perm
  rwa [List.take_of_length_le hk] at this

set_option maxRecDepth 100000 in
set_option maxHeartbeats 8000000 in
theorem idtIns (base g n c : Nat) (P S : List Idt) (U : List (Idt × Nat)) (a b : Nat) (w : World) (h : Own 3 idRow 42 base w (.slice (some ⟨g, 0, none⟩) n c) (P ++ ut U ++ S)) (hU : U.Pairwise fun x y => x.2 < y.2) (ha : P.length = a) (hb : a + U.length = b) (hn : n ≤ 100000) :
    Calls Tryz.prog 116 #[.slice (some ⟨g, 0, none⟩) n c, .int .i64 (a : Int), .int .i64 (b : Int), .func (.func 62) #[] #[]] w fun e w' => e = .returned (.tuple #[]) ∧ (∃ R, SL Idt.idx R ∧ R.Perm U ∧ Own 3 idRow 42 base w' (.slice (some ⟨g, 0, none⟩) n c) (P ++ ut R ++ S)) ∧ Below base w w' := by
  have HO0 := Lib.hid h
  have HU := Lib.hid hU
  have HA := Lib.hid ha
  have hnl := h.capLen
  simp only [List.length_append, ut_length] at hnl
  have hbn : b ≤ n := by omega
  have hbn' : (b : Int) ≤ 100000 := by omega
  have ha0 : (0 : Int) ≤ (a : Int) := by omega
  have hab : (a : Int) ≤ (b : Int) := by omega
  have HBL := Lib.hid hb
  have HO1' := Lib.hid (show Own 3 idRow 42 base w (.slice (some ⟨g, 0, none⟩) n c) (P ++ ut (U.take 1) ++ ut (U.drop 1) ++ S) by
    have e : ut U = ut (U.take 1) ++ ut (U.drop 1) := by rw [← ut_append, List.take_append_drop]
    have h := HO0.out
    rw [e] at h; simpa [List.append_assoc] using h)
  clear h hU ha hb hnl
  go_enter Tryz.func116, Tryz.ntmps116
  go_wp2_with fail
  go_loopw [8, 9] (fun s _ wr => ∃ (k : Nat) (R : List (Idt × Nat)), s = .int .i64 ((a : Int) + (k : Int)) ∧ 1 ≤ k ∧ k ≤ U.length + 1 ∧ InsU Idt.idx U R k ∧ Own 3 idRow 42 base wr (.slice (some ⟨g, 0, none⟩) n c) (P ++ ut R ++ ut (U.drop k) ++ S) ∧ Below base w wr) (fun s _ _ => b + 1 - (sOf s).toNat)
  case atStart => exact ⟨1, U.take 1, rfl, by omega, by omega, insU_begin' U, by simpa [List.append_assoc] using HO1'.out, Below.refl _ _⟩
  case round =>
    clear HO0 HO1'
    obtain ⟨k, R, rfl, hk1, hk2, hI, ho, hB⟩ := hrel
    have HI := Lib.hid hI
    have HO := Lib.hid ho
    have HB := Lib.hid hB
    have k0 : (1 : Int) ≤ (k : Int) := by omega
    have k1 : (k : Int) ≤ 100001 := by have := HBL.out; omega
    clear hI ho hB
    by_cases hlt : k < U.length
    · have i1 : (a : Int) + (k : Int) < (b : Int) := by have := HBL.out; omega
      have d0 : decide ((a : Int) + (k : Int) < (b : Int)) = true := decide_eq_true i1
      obtain ⟨x, hx⟩ : ∃ x, U[k]? = some x := ⟨_, List.getElem?_eq_getElem hlt⟩
      have HX := Lib.hid hx
      have hRl : R.length = k := by have := HI.out.perm.length_eq; rw [this, List.length_take]; omega
      have hdr : U.drop k = x :: U.drop (k + 1) := by
        obtain ⟨h, rfl⟩ := List.getElem?_eq_some_iff.1 hx
        exact List.drop_eq_getElem_cons h
      obtain ⟨Z, hZ⟩ : ∃ Z, Z = ut (U.drop (k + 1)) ++ S := ⟨_, rfl⟩
      have HZ := Lib.hid hZ
      have HO1 := Lib.hid (show Own 3 idRow 42 base wr (.slice (some ⟨g, 0, none⟩) n c) (P ++ ut R ++ x.1 :: (ut [] ++ Z)) by
        have h := HO.out
        rw [hdr] at h
        rw [hZ]
        simpa [ut] using h)
      have HRL := Lib.hid hRl
      obtain ⟨W0, hW0⟩ : ∃ z, z = wr := ⟨_, rfl⟩
      rw [← hW0] at HO1 HB
      rw [← hW0]
      clear hx hdr hZ HO hRl hW0
      go_wp2_with fail
      go_loopw [9] (fun s wr => ∃ (A B : List (Idt × Nat)), s = .int .i64 ((a : Int) + (A.length : Int)) ∧ Ins Idt.idx R A B x ∧ Own 3 idRow 42 base wr (.slice (some ⟨g, 0, none⟩) n c) (P ++ ut A ++ x.1 :: (ut B ++ Z)) ∧ Below base W0 wr) (fun s _ => (sOf s).toNat)
      case atStart => exact ⟨R, [], by rw [HRL.out], ins_begin R x, HO1.out, Below.refl _ _⟩
      case round =>
        clear HO1
        obtain ⟨A, B, rfl, hI2, ho2, hB2⟩ := hrel
        have HI2 := Lib.hid hI2
        have HO2 := Lib.hid ho2
        have HB2 := Lib.hid hB2
        have hAl : A.length ≤ k := by have h := congrArg List.length hI2.ab; simp only [List.length_append] at h; have := HRL.out; omega
        have q0 : (0 : Int) ≤ (A.length : Int) := by omega
        have q1 : (a : Int) + (A.length : Int) < (n : Int) := by omega
        clear hI2 ho2 hB2
        rcases List.eq_nil_or_concat A with hA | ⟨A', y, hA⟩
        · have d1 : decide ((a : Int) < (a : Int) + (A.length : Int)) = false := decide_eq_false (by rw [hA]; simp)
          have d2 : ¬ (a : Int) < (a : Int) + (A.length : Int) := by rw [hA]; simp
          have d3 : decide (0 < A.length) = false := decide_eq_false (by rw [hA]; simp)
          have d4 : decide ((0 : Int) < (A.length : Int)) = false := decide_eq_false (by rw [hA]; simp)
          have d5 : ¬ (0 : Int) < (A.length : Int) := by rw [hA]; simp
          have HAE := Lib.hid hA
          clear hA
          go_wp2_with fail
          go_quiet (fail)
          go_wp2_with fail
          go_roundw
          case rel => exact ⟨k + 1, A ++ x :: B, by go_num, by omega, by omega, HI.out.step HU.out HX.out HI2.out (.inl HAE.out), by have h := HO2.out; rw [HZ.out] at h; simpa [ut] using own_drewNI h _, HB.out.trans (below_drewN HB2.out _)⟩
          case measure => first | (simp [sOf]; done) | (simp [sOf]; omega)
        · rw [List.concat_eq_append] at hA
          have HAE := Lib.hid hA
          have hq : A.length = A'.length + 1 := by rw [hA]; simp
          obtain ⟨q, hqq⟩ : ∃ q, a + A'.length = q := ⟨_, rfl⟩
          have hjq : (a : Int) + (A.length : Int) = (q : Int) + 1 := by omega
          rw [hjq]
          rw [hjq] at q1
          obtain ⟨bx, by_, bs⟩ := back_step (P := P) (A := ut A') (B := ut B) (S := Z) (x := x.1) (y := y.1) (j := q + 1) (by simp only [List.length_append, ut_length]; have := HA.out; omega)
          have hdat : P ++ ut A ++ x.1 :: (ut B ++ Z) = P ++ (ut A' ++ [y.1]) ++ x.1 :: (ut B ++ Z) := by rw [hA]; simp [ut]
          have HO3 := Lib.hid (show Own 3 idRow 42 base wr (.slice (some ⟨g, 0, none⟩) n c) (P ++ (ut A' ++ [y.1]) ++ x.1 :: (ut B ++ Z)) by rw [← hdat]; exact HO2.out)
          rw [Nat.add_sub_cancel] at by_ bs
          have HBX := Lib.hid bx
          have HBY := Lib.hid by_
          have HBS := Lib.hid bs
          have hQ := Lib.hid hqq
          have HQ2 := Lib.hid hq
          have aq : (a : Int) ≤ (q : Int) := by omega
          have d1 : decide ((a : Int) < (q : Int) + 1) = true := decide_eq_true (by omega)
          have d2 : (a : Int) < (q : Int) + 1 := by omega
          have e1 : ((q : Int) + 1).toNat = q + 1 := by omega
          have q2 : (0 : Int) ≤ (q : Int) := by omega
          have q3 : (q : Int) < (n : Int) := by omega
          obtain ⟨c0, c1, c2⟩ := HO3.out.row3 HBX.out
          obtain ⟨e0, e10, e2⟩ := HO3.out.row3 HBY.out
          have hgl := HO3.out.free3.2
          obtain ⟨V, hV⟩ : ∃ z, z = wr := ⟨_, rfl⟩
          rw [← hV] at c0 c1 c2 e0 e10 e2 hgl HO3 HB2
          rw [← hV]
          have x0 : ∀ x5 : Ext V, x5.wd.cell? ⟨g, (q + 1) * 3, none⟩ = some (.int .i64 x.1.idx) := fun x5 => (x5.low.cell (p := ⟨g, (q + 1) * 3, none⟩) hgl).trans c0
          have x1 : ∀ x5 : Ext V, x5.wd.cell? ⟨g, (q + 1) * 3 + 1, none⟩ = some (.int .i64 x.1.trm) := fun x5 => (x5.low.cell (p := ⟨g, (q + 1) * 3 + 1, none⟩) hgl).trans c1
          have x2 : ∀ x5 : Ext V, x5.wd.cell? ⟨g, (q + 1) * 3 + 2, none⟩ = some (.int .i64 x.1.knd) := fun x5 => (x5.low.cell (p := ⟨g, (q + 1) * 3 + 2, none⟩) hgl).trans c2
          have y0 : ∀ x5 : Ext V, x5.wd.cell? ⟨g, q * 3, none⟩ = some (.int .i64 y.1.idx) := fun x5 => (x5.low.cell (p := ⟨g, q * 3, none⟩) hgl).trans e0
          have y1 : ∀ x5 : Ext V, x5.wd.cell? ⟨g, q * 3 + 1, none⟩ = some (.int .i64 y.1.trm) := fun x5 => (x5.low.cell (p := ⟨g, q * 3 + 1, none⟩) hgl).trans e10
          have y2 : ∀ x5 : Ext V, x5.wd.cell? ⟨g, q * 3 + 2, none⟩ = some (.int .i64 y.1.knd) := fun x5 => (x5.low.cell (p := ⟨g, q * 3 + 2, none⟩) hgl).trans e2
          clear hV c0 c1 c2 e0 e10 e2 bx by_ bs hqq hq hjq hdat hA HO2
          by_cases hxy : x.1.idx < y.1.idx
          · have CC : Hid (∀ x5 : Ext V, Calls Tryz.prog 62 #[.agg #[.int .i64 x.1.idx, .int .i64 x.1.trm, .int .i64 x.1.knd], .agg #[.int .i64 y.1.idx, .int .i64 y.1.trm, .int .i64 y.1.knd]] x5.wd fun e w' => e = .returned (.int .i64 (-1)) ∧ Below x5.wd.heap.size x5.wd w') := fun x5 => by
              have h := idtCmp x.1 y.1 x5.wd
              rw [cmpN_lt hxy] at h; exact h
            have HXY := Lib.hid hxy
            clear hxy
            go_wp2_with fail
            refine wp_region_ext (by kernel_rfl) (by kernel_rfl) ?_
            repeat (go_big_quiet_step ((rename_i x5; (go_at_call 62; exact ext_of x5 (CC.out x5)))))
            refine wpQuiet_nil ?_
            intro _ hw'
            obtain ⟨x6, hw''⟩ := hw'
            subst hw''
            go_wp2_with fail
            have HO4 := Lib.hid (HO3.out.later x6.low)
            have HB4 := Lib.hid (HB2.out.trans (x6.low.mono (by have := HB2.out.size; have := (HO3.out.block (x := g) rfl).1; omega)))
            obtain ⟨U2, hU2⟩ : ∃ z, z = x6.wd := ⟨_, rfl⟩
            rw [← hU2] at HO4 HB4
            rw [← hU2]
            clear hU2 x0 x1 x2 y0 y1 y2
            obtain ⟨c0, c1, c2⟩ := HO4.out.row3 HBX.out
            obtain ⟨e0, e10, e2⟩ := HO4.out.row3 HBY.out
            obtain ⟨f0, z0⟩ := HO4.out.free3
            have HSW := Lib.hid (HO4.out.swap HBX.out HBY.out (by omega))
            go_region
            go_wp2_with fail
            go_roundw
            case rel => exact ⟨A', y :: B, by rw [← hQ.out]; go_num, Ins.step (y := y) (by have h := HI2.out; rw [HAE.out] at h; exact h) HXY.out, by rw [show P ++ ut A' ++ x.1 :: (ut (y :: B) ++ Z) = P ++ ut A' ++ x.1 :: (y.1 :: ut B ++ Z) from rfl, ← HBS.out]; exact HSW.out.1.drew, HB4.out.trans HSW.out.2.drew⟩
            case measure => first | (simp [sOf]; done) | (simp [sOf]; omega)
          · have CC : Hid (∃ v : Int, 0 ≤ v ∧ ∀ x5 : Ext V, Calls Tryz.prog 62 #[.agg #[.int .i64 x.1.idx, .int .i64 x.1.trm, .int .i64 x.1.knd], .agg #[.int .i64 y.1.idx, .int .i64 y.1.trm, .int .i64 y.1.knd]] x5.wd fun e w' => e = .returned (.int .i64 v) ∧ Below x5.wd.heap.size x5.wd w') := ⟨cmpN x.1.idx y.1.idx, cmpN_ge (by omega), fun x5 => idtCmp x.1 y.1 x5.wd⟩
            obtain ⟨v, hv0, hcc⟩ := CC.out
            have CD := Lib.hid hcc
            have dv : decide (v < 0) = false := decide_eq_false (by omega)
            have HXY := Lib.hid (show y.1.idx ≤ x.1.idx by omega)
            clear hxy hcc CC
            go_wp2_with fail
            refine wp_region_ext (by kernel_rfl) (by kernel_rfl) ?_
            repeat (go_big_quiet_step ((rename_i x5; (go_at_call 62; exact ext_of x5 (CD.out x5)))))
            refine wpQuiet_nil ?_
            intro _ hw'
            obtain ⟨x6, hw''⟩ := hw'
            subst hw''
            go_wp2_with fail
            go_roundw
            case rel => exact ⟨k + 1, A ++ x :: B, by go_num, by omega, by omega, HI.out.step HU.out HX.out HI2.out (.inr ⟨A', y, HAE.out, HXY.out⟩), by have h := HO3.out.later x6.low; rw [HZ.out] at h; rw [HAE.out]; simpa [ut] using h, HB.out.trans (HB2.out.trans (x6.low.mono (by have := HB2.out.size; have := (HO3.out.block (x := g) rfl).1; omega)))⟩
            case measure => first | (simp [sOf]; done) | (simp [sOf]; omega)
    · have d0 : decide ((a : Int) + (k : Int) < (b : Int)) = false := decide_eq_false (by have := HBL.out; omega)
      have d0' : ¬ (a : Int) + (k : Int) < (b : Int) := by have := HBL.out; omega
      obtain ⟨s1, s2⟩ := insU_end HI.out (by omega)
      have HF := Lib.hid (show Own 3 idRow 42 base wr (.slice (some ⟨g, 0, none⟩) n c) (P ++ ut R ++ S) by
        have h := HO.out
        rw [List.drop_eq_nil_of_le (by omega)] at h
        simpa [ut] using h)
      go_wp2_with fail
      go_end0
      exact ⟨rfl, ⟨R, s1, s2, by simpa [List.append_assoc] using HF.out⟩, HB.out⟩
end Go.Proofs.YtglkgmijhdkhpaaGreatDoor
