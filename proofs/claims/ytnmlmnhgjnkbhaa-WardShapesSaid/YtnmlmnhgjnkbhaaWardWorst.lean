/-
  ward's Worst: contract.
-/
import Derived.Test.YtnmlmnhgjnkbhaaWardIdx
import Derived.Test.YtnmlmnhgjnkbhaaWardFind
import Derived.Laws.EntriesVeiled
set_option linter.unusedVariables false
set_option linter.unusedSimpArgs false
namespace Go.Proofs.Ytnmlmnhgjnkbhaa
open Go.RowKit

set_option maxHeartbeats 400000 in
theorem wardHas (gl : Nat) (l : List Wnt) (v : Value) (k : Int) (w : World) (hc : w.cell? ⟨gl, 0, none⟩ = some v) (hg : gl < w.heap.size) (h : Sl 3 wntRow w.heap.size w v l) :
    Calls Try.prog 32 #[.int .i64 k, .pointer (some ⟨gl, 0, none⟩)] w fun e w' => e = .returned (.bool (hasK l k)) ∧ Below w.heap.size w w' := by
  have HB := Lib.hid (below_new w (.cells #[.int .i64 k] 24))
  obtain ⟨A, cap, rfl, -⟩ := id h
  have h2 := (HB.out.cell (p := ⟨gl, 0, none⟩) hg).trans hc
  obtain ⟨W, hW⟩ : ∃ W, W = w.alloc (.cells #[.int .i64 k] 24) := ⟨_, rfl⟩
  have HX := Lib.hid (Box.new w #[.int .i64 k] 24)
  have HS := Lib.hid (h.later HB.out)
  rw [← hW] at HB h2 HX HS
  have CC := Lib.hid (wardKndContains w.heap.size (fun x => decide (x.knd = k)) l _ W HS.out fun x hx W' hb => wardKnd w.heap.size k x W' (((HX.out.later hb).cell 0).trans rfl) (HX.out.later hb).lt)
  have HE := Lib.hid hW
  clear hW h hc
  go_enter Try.func32, Try.ntmps32
  go_upto_region 1 with fail
  rw [← HE.out]
  go_wp2_with (go_at_call 26; (with_reducible refine CC.out.mono ?_); rintro e w2 ⟨rfl, hb2⟩)
  go_ret
  exact ⟨rfl, below_call HB.out hb2⟩

/-- One kind asked for. -/
def TakeK (gw : Nat) (u : Int) (w : World) (e : Ending) (w' : World) : Prop := e = .returned (.tuple #[]) ∧ Box w' gw #[.int .i64 u] 24 ∧ But gw w w'
set_option maxHeartbeats 400000 in
theorem wardTakeK (gl gh gw : Nat) (l : List Wnt) (v : Value) (u k : Int) (w : World) (hc : w.cell? ⟨gl, 0, none⟩ = some v) (hg : gl < w.heap.size) (h : Sl 3 wntRow w.heap.size w v l)
    (hh : w.cell? ⟨gh, 0, none⟩ = some (.func (.func 32) #[] #[.pointer (some ⟨gl, 0, none⟩)])) (hx : Box w gw #[.int .i64 u] 24) :
    Calls Try.prog 34 #[.int .i64 k, .pointer (some ⟨gw, 0, none⟩), .pointer (some ⟨gh, 0, none⟩)] w (TakeK gw (wstep l u k) w) := by
  obtain ⟨kx, fx, zx⟩ := hx.facts
  have HX := Lib.hid hx
  have CC := Lib.hid (wardHas gl l v k w hc hg h)
  clear hc h hx
  by_cases hu : u = 0
  · subst hu
    cases hk : hasK l k with
    | true =>
      rw [wstep_zero hk]
      rw [hk] at CC
      clear hk
      go_enter Try.func34, Try.ntmps34
      go_wp2_with (go_at_call 32; (with_reducible refine CC.out.mono ?_); rintro e w2 ⟨rfl, hb2⟩; have HX2 := Lib.hid (HX.out.later hb2); have HB2 := Lib.hid hb2; clear kx fx zx hb2; obtain ⟨kx, fx, zx⟩ := HX2.out.facts)
      go_end0
      exact ⟨rfl, HX2.out.set_ 0 _, (But.of_below HB2.out).trans (But.set_ w2)⟩
    | false =>
      rw [wstep_no hk]
      rw [hk] at CC
      clear hk
      go_enter Try.func34, Try.ntmps34
      go_wp2_with (go_at_call 32; (with_reducible refine CC.out.mono ?_); rintro e w2 ⟨rfl, hb2⟩; have HX2 := Lib.hid (HX.out.later hb2); have HB2 := Lib.hid hb2; clear kx fx zx hb2; obtain ⟨kx, fx, zx⟩ := HX2.out.facts)
      go_end0
      exact ⟨rfl, HX2.out, But.of_below HB2.out⟩
  · rw [wstep_set hu]
    have e0 : (u == 0) = false := by simpa using hu
    clear hu
    go_enter Try.func34, Try.ntmps34
    go_wp2_with fail
    go_end0
    exact ⟨rfl, HX.out, But.refl _ _⟩

theorem worst_next {l : List Wnt} {i : Nat} {c : Int} (hc : kindsW[i]? = some c) : (kindsW.take (i + 1)).foldl (wstep l) 0 = wstep l ((kindsW.take i).foldl (wstep l) 0) c := by
  rw [List.take_add_one, hc, List.foldl_append]; rfl
/-- What stands in Worst's way: the three boxes, the argument. -/
structure WorI (B gl gh gw i : Nat) (l : List Wnt) (v : Value) (w : World) : Prop where
  sl : Sl 3 wntRow B w v l
  n0 : B ≤ gl
  n1 : gl < gh
  n2 : gh < gw
  cl : w.cell? ⟨gl, 0, none⟩ = some v
  ch : w.cell? ⟨gh, 0, none⟩ = some (.func (.func 32) #[] #[.pointer (some ⟨gl, 0, none⟩)])
  bx : Box w gw #[.int .i64 ((kindsW.take i).foldl (wstep l) 0)] 24
theorem cell_but {g : Nat} {w w' : World} {b o : Nat} (h : But g w w') (hb : b < w.heap.size) (hn : b ≠ g) : w'.cell? ⟨b, o, none⟩ = w.cell? ⟨b, o, none⟩ := by
  simp [World.cell?, h.2.2.2.2 b hb hn]
theorem WorI.turn {B gl gh gw i j : Nat} {l : List Wnt} {v : Value} {w w' : World} (h : WorI B gl gh gw i l v w) (hB : But gw w w') (hx : Box w' gw #[.int .i64 ((kindsW.take j).foldl (wstep l) 0)] 24) : WorI B gl gh gw j l v w' := by
  have hlt := h.bx.lt
  have a0 := h.n0
  have a1 := h.n1
  have a2 := h.n2
  exact ⟨h.sl.keep fun b o hb => cell_but hB (by omega) (by omega), a0, a1, a2, (cell_but hB (by omega) (by omega)).trans h.cl, (cell_but hB (by omega) (by omega)).trans h.ch, hx⟩
theorem WorI.later {B gl gh gw i : Nat} {l : List Wnt} {v : Value} {w w' : World} (h : WorI B gl gh gw i l v w) (hb : Below w.heap.size w w') : WorI B gl gh gw i l v w' := by
  have hlt := h.bx.lt
  have a0 := h.n0
  have a1 := h.n1
  have a2 := h.n2
  exact ⟨h.sl.keep fun b o hbb => hb.cell (p := ⟨b, o, none⟩) (by show b < _; omega), a0, a1, a2, (hb.cell (p := ⟨gl, 0, none⟩) (by show gl < _; omega)).trans h.cl, (hb.cell (p := ⟨gh, 0, none⟩) (by show gh < _; omega)).trans h.ch, h.bx.later hb⟩
theorem WorI.take {B gl gh gw i : Nat} {l : List Wnt} {v : Value} {w : World} {c : Int} (h : WorI B gl gh gw i l v w) (hc : kindsW[i]? = some c) :
    Calls Try.prog 34 #[.int .i64 c, .pointer (some ⟨gw, 0, none⟩), .pointer (some ⟨gh, 0, none⟩)] w fun e w' => e = .returned (.tuple #[]) ∧ WorI B gl gh gw (i + 1) l v w' ∧ But gw w w' := by
  have hlt := h.bx.lt
  have a0 := h.n0
  have a1 := h.n1
  have a2 := h.n2
  refine (wardTakeK gl gh gw l v _ c w h.cl (by omega) (h.sl.more (by omega)) h.ch h.bx).mono ?_
  rintro e w' ⟨he, hx, hB⟩
  exact ⟨he, h.turn hB (by rw [worst_next hc]; exact hx), hB⟩
/-- What Worst tells. -/
def worstR (l : List Wnt) : Int × Int := if rightW l = true then (worstV l, 0) else (0, 2)
set_option maxHeartbeats 2000000 in
theorem wardWorst (l : List Wnt) (v : Value) (w : World) (h : Sl 3 wntRow w.heap.size w v l) :
    Calls Try.prog 14 #[v] w fun e w' => e = .returned (.tuple #[.int .i64 (worstR l).1, .int .i64 (worstR l).2]) ∧ Below w.heap.size w w' := by
  have hbl := below_new w (.cells #[v] 22)
  have hbx := Box.new w #[v] 22
  obtain ⟨W, hW⟩ : ∃ W, W = w.alloc (.cells #[v] 22) := ⟨_, rfl⟩
  have hzW : W.heap.size = w.heap.size + 1 := by rw [hW]; simp
  rw [← hW] at hbl hbx
  have HB := Lib.hid hbl
  have HX := Lib.hid hbx
  have HS := Lib.hid (h.later hbl)
  have HS0 := Lib.hid h
  have HE := Lib.hid hW
  obtain ⟨A, cap, rfl, -⟩ := id h
  obtain ⟨k0, f0, z0⟩ := hbx.facts
  have HC := Lib.hid (wardWrong l _ W HS.out)
  clear hW h hbl hbx
  cases hr : rightW l with
  | false =>
    rw [hr] at HC
    have HR := Lib.hid (show worstR l = (0, 2) by unfold worstR; rw [hr]; rfl)
    clear hr
    go_enter Try.func14, Try.ntmps14
    go_upto_region 1 with fail
    rw [← HE.out]
    go_wp2_with (go_at_call 25; (with_reducible refine HC.out.mono ?_); rintro e w1 ⟨rfl, hb1⟩)
    go_ret2
    exact ⟨by rw [HR.out]; rfl, below_call HB.out hb1⟩
  | true =>
    rw [hr] at HC
    have HR := Lib.hid (show worstR l = (worstV l, 0) by unfold worstR; rw [hr]; rfl)
    clear hr
    go_enter Try.func14, Try.ntmps14
    go_upto_region 1 with fail
    rw [← HE.out]
    go_upto_region 11 with (go_at_call 25; (with_reducible refine HC.out.mono ?_); rintro e w1 ⟨rfl, hb1⟩; have HB1 := Lib.hid hb1; clear hb1)
    have hz1 := HB1.out.size
    have hn0 := HX.out.lt
    have HB2 := Lib.hid (show Below w.heap.size w ((w1.alloc (.cells #[.func (.func 32) #[] #[.pointer (some ⟨w.heap.size, 0, none⟩)]] 56)).alloc (.cells #[.int .i64 0] 24)) from below_call (below_call (below_call HB.out HB1.out) (below_new _ _)) (below_new _ _))
    have HI0 := Lib.hid (show WorI w.heap.size w.heap.size w1.heap.size (w1.heap.size + 1) 0 l (.slice A l.length cap) ((w1.alloc (.cells #[.func (.func 32) #[] #[.pointer (some ⟨w.heap.size, 0, none⟩)]] 56)).alloc (.cells #[.int .i64 0] 24)) from by
      have hb := below_call (below_call HB1.out (below_new w1 (.cells #[.func (.func 32) #[] #[.pointer (some ⟨w.heap.size, 0, none⟩)]] 56))) (below_new _ (.cells #[.int .i64 0] 24))
      refine ⟨HS0.out.below HB2.out, Nat.le_refl _, by omega, by omega, ((HX.out.later hb).cell 0).trans rfl, (((Box.new w1 _ 56).alloc _).cell 0).trans rfl, ?_⟩
      have hbx := Box.new (w1.alloc (.cells #[.func (.func 32) #[] #[.pointer (some ⟨w.heap.size, 0, none⟩)]] 56)) #[.int .i64 0] 24
      rw [World.size_alloc] at hbx
      exact hbx)
    obtain ⟨W3, hW3⟩ : ∃ z, z = (w1.alloc (.cells #[.func (.func 32) #[] #[.pointer (some ⟨w.heap.size, 0, none⟩)]] 56)).alloc (.cells #[.int .i64 0] 24) := ⟨_, rfl⟩
    obtain ⟨gw, hgw⟩ : ∃ z, z = w1.heap.size + 1 := ⟨_, rfl⟩
    obtain ⟨gh, hgh⟩ : ∃ z, z = w1.heap.size := ⟨_, rfl⟩
    rw [← hW3, ← hgw, ← hgh] at HI0
    rw [← hW3] at HB2
    rw [← hW3, ← hgw, ← hgh]
    have hgwl : w.heap.size ≤ gw := by omega
    clear hW3 hgw hgh HB1 hz1 hn0 HX HS HC HE k0 f0 z0 hzW
    have L1 := Lib.hid (HI0.out.take (c := 1) rfl)
    go_upto_region 14 with (first
      | (go_at_call 34; (with_reducible refine L1.out.mono ?_); rintro e w4 ⟨rfl, hi4, hb4⟩; have HI4 := Lib.hid hi4; have HB4 := Lib.hid (HB2.out.trans (hb4.below hgwl HB2.out.size)); have L2 := Lib.hid (hi4.take (c := 2) rfl); clear hi4 hb4)
      | (go_at_call 34; (with_reducible refine L2.out.mono ?_); rintro e w5 ⟨rfl, hi5, hb5⟩; have HI5 := Lib.hid hi5; have HB5 := Lib.hid (HB4.out.trans (hb5.below hgwl HB4.out.size)); have L3 := Lib.hid (hi5.take (c := 3) rfl); clear hi5 hb5)
      | (go_at_call 34; (with_reducible refine L3.out.mono ?_); rintro e w6 ⟨rfl, hi6, hb6⟩; have HI6 := Lib.hid hi6; have HB6 := Lib.hid (HB5.out.trans (hb6.below hgwl HB5.out.size)); clear hi6 hb6))
    clear L1 L2 L3 HI0 HI4 HI5 HB2 HB4 HB5
    go_wp2_with fail
    have HI7 := Lib.hid (HI6.out.later (below_new w6 (.cells #[.int .i64 8, .int .i64 7, .int .i64 5, .int .i64 4, .int .i64 6] 24)))
    have HK7 := Lib.hid (Box.new w6 #[.int .i64 8, .int .i64 7, .int .i64 5, .int .i64 4, .int .i64 6] 24)
    have HB7 := Lib.hid (HB6.out.trans ((below_new w6 (.cells #[.int .i64 8, .int .i64 7, .int .i64 5, .int .i64 4, .int .i64 6] 24)).mono HB6.out.size))
    obtain ⟨W7, hW7⟩ : ∃ z, z = w6.alloc (.cells #[.int .i64 8, .int .i64 7, .int .i64 5, .int .i64 4, .int .i64 6] 24) := ⟨_, rfl⟩
    obtain ⟨gk, hgk⟩ : ∃ z, z = w6.heap.size := ⟨_, rfl⟩
    have hgkw : gk ≠ gw := by have := HI6.out.bx.lt; omega
    rw [← hW7] at HI7 HK7 HB7
    rw [← hgk] at HK7
    rw [← hW7, ← hgk]
    clear hW7 hgk HI6 HB6
    go_loopw [9, 29] (fun _ i wr => ∃ k : Nat, k ≤ 5 ∧ i = .int .i64 (k : Int) ∧ WorI w.heap.size w.heap.size gh gw (3 + k) l (.slice A l.length cap) wr ∧ Box wr gk #[.int .i64 8, .int .i64 7, .int .i64 5, .int .i64 4, .int .i64 6] 24 ∧ Below w.heap.size w wr) (fun _ i _ => 6 - (kOf i).toNat)
    case atStart => exact ⟨0, by omega, rfl, HI7.out, HK7.out, HB7.out⟩
    case round =>
      clear HI7 HK7 HB7
      obtain ⟨k, hk, rfl, hI, hK, hB⟩ := hrel
      have HI := Lib.hid hI
      have HK := Lib.hid hK
      have HB := Lib.hid hB
      clear hI hK hB
      have i0 : (0 : Int) ≤ (k : Int) := by omega
      by_cases hlt : k < 5
      · have i1 : (k : Int) < 5 := by omega
        have d0 : decide ((k : Int) < 5) = true := decide_eq_true i1
        obtain ⟨c, hc, c0⟩ : ∃ c, kindsW[3 + k]? = some c ∧ wr.cell? ⟨gk, k, none⟩ = some (.int .i64 c) := by
          rw [HK.out.cell]
          rcases (show k = 0 ∨ k = 1 ∨ k = 2 ∨ k = 3 ∨ k = 4 by omega) with rfl | rfl | rfl | rfl | rfl
          · exact ⟨8, rfl, rfl⟩
          · exact ⟨7, rfl, rfl⟩
          · exact ⟨5, rfl, rfl⟩
          · exact ⟨4, rfl, rfl⟩
          · exact ⟨6, rfl, rfl⟩
        have L := Lib.hid (HI.out.take hc)
        clear hc
        go_wp2_with (go_at_call 34; (with_reducible refine L.out.mono ?_); rintro e w9 ⟨rfl, hi9, hb9⟩; have HI9 := Lib.hid hi9; have HB9 := Lib.hid (HB.out.trans (hb9.below hgwl HB.out.size)); have HK9 := Lib.hid (HK.out.but hb9 hgkw); clear hi9 hb9)
        go_roundw
        case rel => exact ⟨k + 1, by omega, by go_num, HI9.out, HK9.out, HB9.out⟩
        case measure => simp [kOf]; omega
      · have d0 : decide ((k : Int) < 5) = false := decide_eq_false (by omega)
        have hke : k = 5 := by omega
        have HI8 := Lib.hid (show Box wr gw #[.int .i64 (worstV l)] 24 by have h := HI.out.bx; rw [hke, show (3 + 5 : Nat) = kindsW.length from rfl, List.take_length, worst_fold] at h; exact h)
        obtain ⟨kx, fx, zx⟩ := HI8.out.facts
        clear hke
        go_wp2_with fail
        go_ret2
        exact ⟨by rw [HR.out]; rfl, HB.out⟩

end Go.Proofs.Ytnmlmnhgjnkbhaa
