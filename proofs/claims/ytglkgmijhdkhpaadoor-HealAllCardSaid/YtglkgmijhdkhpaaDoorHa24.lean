/-
  slices.SortStableFunc's swapRange, rotate at identities: contracts.
-/
import Derived.Test.YtglkgmijhdkhpaaDoorHa8
import Derived.Test.YtglkgmijhdkhpaaDoorHa20
import Derived.Test.YtglkgmijhdkhpaaDoorHa23
import Derived.BigRegion
import Derived.RegionTactic
set_option linter.unusedVariables false
set_option linter.unusedSimpArgs false
namespace Go.Proofs.YtglkgmijhdkhpaaDoor
open Go.RowKit

def sOf : Value → Int | .int _ q => q | _ => 0
theorem Own.writeI {e : TypeId} {base g cap n k : Nat} {w : World} {l : List Idt} {x y : Idt} (h : Own 3 idRow e base w (.slice (some ⟨g, 0, none⟩) n cap) l) (hx : l[k]? = some x) :
    Own 3 idRow e base (((w.setCell ⟨g, k * 3, none⟩ (.int .i64 y.idx)).setCell ⟨g, k * 3 + 1, none⟩ (.int .i64 y.trm)).setCell ⟨g, k * 3 + 2, none⟩ (.int .i64 y.knd)) (.slice (some ⟨g, 0, none⟩) n cap) (l.set k y) := by
  have hk := (List.getElem?_eq_some_iff.1 hx).1
  have h1 := h.write idRow_length (i := k) (j := 0) (y := ⟨y.idx, x.trm, x.knd⟩) (u := .int .i64 y.idx) hx rfl (by omega)
  have h2 := h1.write idRow_length (i := k) (j := 1) (y := ⟨y.idx, y.trm, x.knd⟩) (u := .int .i64 y.trm) (x := ⟨y.idx, x.trm, x.knd⟩) (by simp [hk]) rfl (by omega)
  rw [List.set_set] at h2
  have h3 := h2.write idRow_length (i := k) (j := 2) (y := y) (u := .int .i64 y.knd) (x := ⟨y.idx, y.trm, x.knd⟩) (by simp [hk]) rfl (by omega)
  rw [List.set_set] at h3
  exact h3
def set3 (w : World) (g o : Nat) (y : Idt) : World := ((w.setCell ⟨g, o, none⟩ (.int .i64 y.idx)).setCell ⟨g, o + 1, none⟩ (.int .i64 y.trm)).setCell ⟨g, o + 2, none⟩ (.int .i64 y.knd)
/-- Two rows of an owned slice change places. -/
theorem Own.swap {e : TypeId} {base g cap n i j : Nat} {w : World} {l : List Idt} {x y : Idt} (h : Own 3 idRow e base w (.slice (some ⟨g, 0, none⟩) n cap) l) (hx : l[i]? = some x) (hy : l[j]? = some y) (hij : i ≠ j) :
    Own 3 idRow e base (set3 (set3 w g (i * 3) y) g (j * 3) x) (.slice (some ⟨g, 0, none⟩) n cap) (swp l i j x y) ∧ Below base w (set3 (set3 w g (i * 3) y) g (j * 3) x) := by
  have h1 := h.writeI (y := y) hx
  have h2 := h1.writeI (k := j) (x := y) (y := x) (by rw [List.getElem?_set_ne hij]; exact hy)
  have hg := (h.block (x := g) rfl).1
  exact ⟨h2, below_set (below_set (below_set (below_set (below_set (below_set (Below.refl _ _) hg) hg) hg) hg) hg) hg⟩
/-- What a walk wants of row i. -/
theorem Own.row3 {e : TypeId} {base g cap n i : Nat} {w : World} {l : List Idt} {x : Idt} (h : Own 3 idRow e base w (.slice (some ⟨g, 0, none⟩) n cap) l) (hx : l[i]? = some x) :
    w.cell? ⟨g, i * 3, none⟩ = some (.int .i64 x.idx) ∧ w.cell? ⟨g, i * 3 + 1, none⟩ = some (.int .i64 x.trm) ∧ w.cell? ⟨g, i * 3 + 2, none⟩ = some (.int .i64 x.knd) := by
  obtain ⟨b, o, c, hv, -, -, -, hc⟩ := (h.sl idRow_length).cellAt (by intro hl; subst hl; simp at hx)
  simp only [Value.slice.injEq, Option.some.injEq, Addr.mk.injEq, and_true] at hv
  obtain ⟨⟨rfl, rfl⟩, -, rfl⟩ := hv
  exact ⟨by simpa using hc i x hx 0 _ rfl, by simpa using hc i x hx 1 _ rfl, by simpa using hc i x hx 2 _ rfl⟩
theorem Own.free3 {e : TypeId} {base g cap n : Nat} {w : World} {l : List Idt} (h : Own 3 idRow e base w (.slice (some ⟨g, 0, none⟩) n cap) l) : (∀ o, w.frozen? ⟨g, o, none⟩ = false) ∧ g < w.heap.size := by
  have hlt := (h.block (x := g) rfl).2
  rcases h.2 with ⟨hv, _⟩ | ⟨g', cap', cur, hv, hg, hh, _⟩
  · simp at hv
  · simp only [Value.slice.injEq, Option.some.injEq, Addr.mk.injEq, and_true] at hv
    obtain ⟨rfl, -, -⟩ := hv
    exact ⟨fun o => by simp [World.frozen?, hh], hlt⟩
theorem Own.capLen {e : TypeId} {base g cap n : Nat} {w : World} {l : List Idt} (h : Own 3 idRow e base w (.slice (some ⟨g, 0, none⟩) n cap) l) : n = l.length := by
  obtain ⟨A, c, hv⟩ := h.len
  simp only [Value.slice.injEq] at hv
  exact hv.2.1

set_option maxRecDepth 100000 in
set_option maxHeartbeats 8000000 in
theorem idtSwap (base g n c : Nat) (fv : Value) (P X M Y S : List Idt) (a b k : Nat) (w : World) (h : Own 3 idRow 31 base w (.slice (some ⟨g, 0, none⟩) n c) (P ++ X ++ M ++ Y ++ S)) (hX : X.length = k) (hY : Y.length = k) (ha : P.length = a) (hb : (P ++ X ++ M).length = b) (hn : n ≤ 100000) :
    Calls Tryd.prog 63 #[.slice (some ⟨g, 0, none⟩) n c, .int .i64 (a : Int), .int .i64 (b : Int), .int .i64 (k : Int), fv] w fun e w' => e = .returned (.tuple #[]) ∧ Own 3 idRow 31 base w' (.slice (some ⟨g, 0, none⟩) n c) (P ++ Y ++ M ++ X ++ S) ∧ Below base w w' := by
  have hnl := h.capLen
  have hl := hnl
  simp only [List.length_append] at hl hb
  have HO0 := Lib.hid h
  have hab : a + k ≤ b := by omega
  have hbk : b + k ≤ n := by omega
  have HB' := Lib.hid (show (P ++ X ++ M).length = b by simp only [List.length_append]; exact hb)
  clear h hb hl hnl
  go_enter Tryd.func63, Tryd.ntmps63
  go_wp2_with fail
  go_loopw [10] (fun i wr => ∃ j : Nat, j ≤ k ∧ i = .int .i64 (j : Int) ∧ Own 3 idRow 31 base wr (.slice (some ⟨g, 0, none⟩) n c) (swK P X M Y S j) ∧ Below base w wr) (fun i _ => k - (sOf i).toNat)
  case atStart => exact ⟨0, by omega, rfl, by rw [swK_zero]; exact HO0.out, Below.refl _ _⟩
  case round =>
    obtain ⟨j, hj, rfl, ho, hB⟩ := hrel
    have HO := Lib.hid ho
    have HB := Lib.hid hB
    have i0 : (0 : Int) ≤ (j : Int) := by omega
    by_cases hlt : j < k
    · have i1 : (j : Int) < (k : Int) := by omega
      have d0 : decide ((j : Int) < (k : Int)) = true := decide_eq_true i1
      obtain ⟨x, y, -, -, hx, hy, hs⟩ := swK_step (P := P) (M := M) (S := S) hX hY hlt ha HB'.out
      obtain ⟨W, hW⟩ : ∃ z, z = wr := ⟨_, rfl⟩
      rw [← hW] at ho HO HB
      rw [← hW]
      obtain ⟨c0, c1, c2⟩ := ho.row3 hx
      obtain ⟨e0, e1, e2⟩ := ho.row3 hy
      obtain ⟨f0, z0⟩ := ho.free3
      have HSW := Lib.hid (ho.swap hx hy (by omega))
      have HS := Lib.hid hs
      have p0 : (0 : Int) ≤ (a : Int) + (j : Int) := by omega
      have p1 : (a : Int) + (j : Int) < (n : Int) := by omega
      have p2 : (0 : Int) ≤ (b : Int) + (j : Int) := by omega
      have p3 : (b : Int) + (j : Int) < (n : Int) := by omega
      have p4 : ((a : Int) + (j : Int)).toNat = a + j := by omega
      have p5 : ((b : Int) + (j : Int)).toNat = b + j := by omega
      clear hW ho hx hy hs
      go_wp2_with fail
      go_region
      go_wp2_with fail
      go_roundw
      case rel => exact ⟨j + 1, by omega, by go_num, by rw [← HS.out]; exact HSW.out.1.drew, HB.out.trans HSW.out.2.drew⟩
      case measure => simp [sOf]; omega
    · have d0 : decide ((j : Int) < (k : Int)) = false := decide_eq_false (by omega)
      have hke : j = k := by omega
      have HF := Lib.hid (show Own 3 idRow 31 base wr (.slice (some ⟨g, 0, none⟩) n c) (P ++ Y ++ M ++ X ++ S) by have h := ho; rw [hke, swK_all hX hY] at h; exact h)
      clear ho hke
      go_wp2_with fail
      go_end0
      exact ⟨rfl, HF.out, HB.out⟩

set_option maxRecDepth 100000 in
set_option maxHeartbeats 8000000 in
theorem idtRot (base g n c : Nat) (fv : Value) (D E : List Idt) (a m b i0 j0 : Nat) (w : World) (h : Own 3 idRow 31 base w (.slice (some ⟨g, 0, none⟩) n c) D) (hi : m - a = i0) (hj : b - m = j0) (ham : a < m) (hmb : m < b) (hr : Rot E m i0 j0 D) (hn : n ≤ 100000) :
    Calls Tryd.prog 62 #[.slice (some ⟨g, 0, none⟩) n c, .int .i64 (a : Int), .int .i64 (m : Int), .int .i64 (b : Int), fv] w fun e w' => e = .returned (.tuple #[]) ∧ Own 3 idRow 31 base w' (.slice (some ⟨g, 0, none⟩) n c) E ∧ Below base w w' := by
  have HO0 := Lib.hid h
  have HR0 := Lib.hid hr
  have hbn := hr.bound
  have hnl := h.capLen
  have hmn : m ≤ 100000 := by omega
  have hbn2 : b ≤ 100000 := by omega
  have z1 := Lib.hid (show (m : Int) - (a : Int) = (i0 : Int) by omega)
  have z2 := Lib.hid (show (b : Int) - (m : Int) = (j0 : Int) by omega)
  have z3 : (a : Int) < (m : Int) := by omega
  have z4 : (m : Int) < (b : Int) := by omega
  have z5 : (b : Int) ≤ 100000 := by omega
  have z6 : (0 : Int) ≤ (a : Int) := by omega
  have hi1 : 0 < i0 := by omega
  have hj1 : 0 < j0 := by omega
  clear h hr hi hj hbn hnl
  go_enter Tryd.func62, Tryd.ntmps62
  go_wp2_with fail
  go_loopw [10, 11] (fun s t wr => ∃ (i j : Nat) (D : List Idt), s = .int .i64 (i : Int) ∧ t = .int .i64 (j : Int) ∧ 0 < i ∧ 0 < j ∧ Rot E m i j D ∧ Own 3 idRow 31 base wr (.slice (some ⟨g, 0, none⟩) n c) D ∧ Below base w wr) (fun s t _ => (sOf s).toNat + (sOf t).toNat)
  case atStart => exact ⟨i0, j0, D, congrArg (Value.int .i64) z1.out, congrArg (Value.int .i64) z2.out, hi1, hj1, HR0.out, HO0.out, Below.refl _ _⟩
  case round =>
    clear HO0 HR0 hi1 hj1
    obtain ⟨i, j, D, rfl, rfl, hi1, hj1, hr, ho, hB⟩ := hrel
    have HR := Lib.hid hr
    have HO := Lib.hid ho
    have HB := Lib.hid hB
    obtain ⟨b1, b2, b3⟩ := hr.bound
    have hnl := ho.capLen
    have hjn : m + j ≤ n := by omega
    have k0 : (0 : Int) < (i : Int) := by omega
    have k1 : (0 : Int) < (j : Int) := by omega
    have k2 : (i : Int) ≤ (m : Int) := by omega
    clear b2 b3 hnl hB hr ho
    by_cases hij : i = j
    · have e1 : ((i : Int) == (j : Int)) = true := by simp [hij]
      have HIJ := Lib.hid hij
      obtain ⟨P, X, M, Y, S, hD, r1, r2, r3, r4, r5⟩ := (show Rot E m i i D by have h := HR.out; rw [← hij] at h; exact h).eq
      have L : Hid (Calls Tryd.prog 63 #[.slice (some ⟨g, 0, none⟩) n c, .int .i64 ((m : Int) - (i : Int)), .int .i64 (m : Int), .int .i64 (i : Int), fv] wr fun e w' => e = .returned (.tuple #[]) ∧ Own 3 idRow 31 base w' (.slice (some ⟨g, 0, none⟩) n c) E ∧ Below base wr w') := by
        have h := idtSwap base g n c fv P X M Y S (m - i) m i wr (by rw [← hD]; exact HO.out) r2 r3 r1 r4 hn
        rw [show ((m - i : Nat) : Int) = (m : Int) - (i : Int) by omega, ← r5] at h
        exact h
      clear hij hD r1 r2 r3 r4 r5
      go_wp2_with (go_at_call 63; (with_reducible refine L.out.mono ?_); rintro e w3 ⟨rfl, ho3, hb3⟩; have HO3 := Lib.hid ho3; have HB3 := Lib.hid (HB.out.trans hb3); clear ho3 hb3)
      go_end0
      exact ⟨rfl, HO3.out, HB3.out⟩
    · have e1 : ((i : Int) == (j : Int)) = false := by simpa using (show ¬ (i : Int) = (j : Int) by omega)
      by_cases hlt : j < i
      · have e2 : decide ((j : Int) < (i : Int)) = true := decide_eq_true (by omega)
        have e3 : (j : Int) < (i : Int) := by omega
        obtain ⟨P, X, M, Y, S, hD, r1, r2, r3, r4, r5⟩ := HR.out.gt hlt
        have L : Hid (Calls Tryd.prog 63 #[.slice (some ⟨g, 0, none⟩) n c, .int .i64 ((m : Int) - (i : Int)), .int .i64 (m : Int), .int .i64 (j : Int), fv] wr fun e w' => e = .returned (.tuple #[]) ∧ (∃ D', Own 3 idRow 31 base w' (.slice (some ⟨g, 0, none⟩) n c) D' ∧ Rot E m (i - j) j D') ∧ Below base wr w') := by
          have h := idtSwap base g n c fv P X M Y S (m - i) m j wr (by rw [← hD]; exact HO.out) r2 r3 r1 r4 hn
          rw [show ((m - i : Nat) : Int) = (m : Int) - (i : Int) by omega] at h
          exact h.mono fun e w' ⟨q1, q2, q3⟩ => ⟨q1, ⟨_, q2, r5⟩, q3⟩
        clear hij hD r1 r2 r3 r4 r5
        go_wp2_with (go_at_call 63; (with_reducible refine L.out.mono ?_); rintro e w3 ⟨rfl, ⟨D3, ho3, hr3⟩, hb3⟩; have HO3 := Lib.hid ho3; have HR3 := Lib.hid hr3; have HB3 := Lib.hid (HB.out.trans hb3); clear ho3 hb3 hr3)
        go_roundw
        case rel => exact ⟨i - j, j, D3, by go_num, rfl, by omega, by omega, HR3.out, HO3.out, HB3.out⟩
        case measure => simp [sOf]; omega
      · have e2 : decide ((j : Int) < (i : Int)) = false := decide_eq_false (by omega)
        have e3 : (i : Int) < (j : Int) := by omega
        obtain ⟨P, X, M, Y, S, hD, r1, r2, r3, r4, r5⟩ := HR.out.lt (by omega)
        have L : Hid (Calls Tryd.prog 63 #[.slice (some ⟨g, 0, none⟩) n c, .int .i64 ((m : Int) - (i : Int)), .int .i64 ((m : Int) + (j : Int) - (i : Int)), .int .i64 (i : Int), fv] wr fun e w' => e = .returned (.tuple #[]) ∧ (∃ D', Own 3 idRow 31 base w' (.slice (some ⟨g, 0, none⟩) n c) D' ∧ Rot E m i (j - i) D') ∧ Below base wr w') := by
          have h := idtSwap base g n c fv P X M Y S (m - i) (m + j - i) i wr (by rw [← hD]; exact HO.out) r2 r3 r1 r4 hn
          rw [show ((m - i : Nat) : Int) = (m : Int) - (i : Int) by omega, show ((m + j - i : Nat) : Int) = (m : Int) + (j : Int) - (i : Int) by omega] at h
          exact h.mono fun e w' ⟨q1, q2, q3⟩ => ⟨q1, ⟨_, q2, r5⟩, q3⟩
        clear hij hD r1 r2 r3 r4 r5
        go_wp2_with (go_at_call 63; (with_reducible refine L.out.mono ?_); rintro e w3 ⟨rfl, ⟨D3, ho3, hr3⟩, hb3⟩; have HO3 := Lib.hid ho3; have HR3 := Lib.hid hr3; have HB3 := Lib.hid (HB.out.trans hb3); clear ho3 hb3 hr3)
        go_roundw
        case rel => exact ⟨i, j - i, D3, rfl, by go_num, by omega, by omega, HR3.out, HO3.out, HB3.out⟩
        case measure => simp [sOf]; omega
end Go.Proofs.YtglkgmijhdkhpaaDoor
