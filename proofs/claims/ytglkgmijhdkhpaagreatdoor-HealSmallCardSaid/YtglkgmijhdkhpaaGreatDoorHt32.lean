/-
  Merged: HealLeft, HealKit24.
-/
import Derived.Test.YtglkgmijhdkhpaaGreatDoorHt11
import Derived.Test.YtglkgmijhdkhpaaGreatDoorHt19
import Derived.Deep.DeepCutAuto
import Derived.BigRegion
import Derived.RegionTactic
/-
  heal's Take, Left: contracts.
-/
set_option linter.unusedVariables false
set_option linter.unusedSimpArgs false
namespace Go.Proofs.YtglkgmijhdkhpaaGreatDoor
open Go.RowKit

set_option maxHeartbeats 2000000 in
theorem healTake (rot : List Idt) (l : List Rec) (vr vl : Value) (w : World) (hr : Sl 3 idRow w.heap.size w vr rot) (hl : Sl 7 recRow w.heap.size w vl l) (hin : ∀ r ∈ l, RecIn w r) (hG : errTypeIs w) (hn : l.length ≤ 100000 ∧ rot.length ≤ 100000) :
    Calls Tryz.prog 11 #[vr, vl] w (GivePost (takeV rot l) w) := by
  have C1 := Lib.hid (healWants0 rot vr w hr hn.2)
  have hwl := wants_len rot
  have C2 : Hid (∀ w2 v2, Below w.heap.size w w2 → Own 3 idRow 42 w.heap.size w2 v2 (wantsV rot) → Calls Tryz.prog 10 #[vl, v2, .int .i64 (rot.length : Int)] w2 (GivePost (takeV rot l) w2)) := fun w2 v2 hb ho =>
    healGive l (wantsV rot) vl v2 rot.length w2 (hl.later hb) (ho.sl idRow_length) (fun r hr => (hin r hr).later hb) (errType_later hG hb) (by omega)
  obtain ⟨A, c, rfl, -⟩ := hr
  obtain ⟨Al, cl, rfl, -⟩ := hl
  clear hin hG
  go_enter Tryz.func11, Tryz.ntmps11
  go_wp2_with (first
    | (go_at_call 30; (with_reducible refine C1.out.mono ?_); rintro e w2 ⟨v2, rfl, ho2, hb2⟩; have HB2 := Lib.hid hb2; have L2 := Lib.hid (C2.out w2 v2 hb2 ho2); clear ho2 hb2)
    | (go_at_call 10; (with_reducible refine L2.out.mono ?_); rintro e w3 ⟨A3, c3, m, rfl, hrs, hb3⟩))
  go_ret
  exact ⟨A3, c3, m, rfl, ⟨hrs.key, hrs.own.less HB2.out.size, ⟨fun i x hx => (hrs.bod.own i x hx).less HB2.out.size, hrs.bod.far, hrs.bod.out⟩⟩, below_call HB2.out hb3⟩

theorem leftIn (gp : Nat) (p : Idt) (x : Rec) (w : World) (hp : Box w gp #[.int .i64 p.idx, .int .i64 p.trm, .int .i64 p.knd] 42) :
    Calls Tryz.prog 45 #[.agg #[.int .i64 x.e.idx, .int .i64 x.e.trm, .int .i64 x.e.knd, .slice x.e.ba x.e.bd.length x.e.bc, .int .i64 x.a.idx, .int .i64 x.a.trm, .int .i64 x.a.knd], .pointer (some ⟨gp, 0, none⟩)] w fun e w' => e = .returned (.bool (decide (x.e.idx = p.idx))) ∧ Below w.heap.size w w' := by
  have HB0 := Lib.hid (below_new w (.cells #[.int .i64 x.e.idx, .int .i64 x.e.trm, .int .i64 x.e.knd, .slice x.e.ba x.e.bd.length x.e.bc, .int .i64 x.a.idx, .int .i64 x.a.trm, .int .i64 x.a.knd] 56))
  have HX := Lib.hid (Box.new w #[.int .i64 x.e.idx, .int .i64 x.e.trm, .int .i64 x.e.knd, .slice x.e.ba x.e.bd.length x.e.bc, .int .i64 x.a.idx, .int .i64 x.a.trm, .int .i64 x.a.knd] 56)
  have HP := Lib.hid (hp.later HB0.out)
  obtain ⟨W, hW⟩ : ∃ z, z = w.alloc (.cells #[.int .i64 x.e.idx, .int .i64 x.e.trm, .int .i64 x.e.knd, .slice x.e.ba x.e.bd.length x.e.bc, .int .i64 x.a.idx, .int .i64 x.a.trm, .int .i64 x.a.knd] 56) := ⟨_, rfl⟩
  have HE := Lib.hid hW
  rw [← hW] at HB0 HX HP
  obtain ⟨kx, fx, zx⟩ := HX.out.facts
  obtain ⟨kp, fp, zp⟩ := HP.out.facts
  clear hW hp
  by_cases h : x.e.idx = p.idx
  · have e1 : (x.e.idx == p.idx) = true := by simpa using h
    have HD := Lib.hid (decide_eq_true h)
    clear h
    go_enter Tryz.func45, Tryz.ntmps45
    go_upto_region 1 with fail
    rw [← HE.out]
    go_wp2_with fail
    go_ret
    exact ⟨ret_bool HD.out.symm, HB0.out⟩
  · have e1 : (x.e.idx == p.idx) = false := by simpa using h
    have HD := Lib.hid (decide_eq_false h)
    clear h
    go_enter Tryz.func45, Tryz.ntmps45
    go_upto_region 1 with fail
    rw [← HE.out]
    go_wp2_with fail
    go_ret
    exact ⟨ret_bool HD.out.symm, HB0.out⟩
def aheadP (p : Idt) (r : Rec) : Bool := decide (r.a.idx = p.idx) && !decide (r.a.knd = 0)
set_option maxHeartbeats 2000000 in
theorem leftAhead (gp : Nat) (p : Idt) (x : Rec) (w : World) (hp : Box w gp #[.int .i64 p.idx, .int .i64 p.trm, .int .i64 p.knd] 42) :
    Calls Tryz.prog 46 #[.agg #[.int .i64 x.e.idx, .int .i64 x.e.trm, .int .i64 x.e.knd, .slice x.e.ba x.e.bd.length x.e.bc, .int .i64 x.a.idx, .int .i64 x.a.trm, .int .i64 x.a.knd], .pointer (some ⟨gp, 0, none⟩)] w fun e w' => e = .returned (.bool (aheadP p x)) ∧ Below w.heap.size w w' := by
  have HB0 := Lib.hid (below_new w (.cells #[.int .i64 x.e.idx, .int .i64 x.e.trm, .int .i64 x.e.knd, .slice x.e.ba x.e.bd.length x.e.bc, .int .i64 x.a.idx, .int .i64 x.a.trm, .int .i64 x.a.knd] 56))
  have HX := Lib.hid (Box.new w #[.int .i64 x.e.idx, .int .i64 x.e.trm, .int .i64 x.e.knd, .slice x.e.ba x.e.bd.length x.e.bc, .int .i64 x.a.idx, .int .i64 x.a.trm, .int .i64 x.a.knd] 56)
  have HP := Lib.hid (hp.later HB0.out)
  obtain ⟨W, hW⟩ : ∃ z, z = w.alloc (.cells #[.int .i64 x.e.idx, .int .i64 x.e.trm, .int .i64 x.e.knd, .slice x.e.ba x.e.bd.length x.e.bc, .int .i64 x.a.idx, .int .i64 x.a.trm, .int .i64 x.a.knd] 56) := ⟨_, rfl⟩
  have HE := Lib.hid hW
  rw [← hW] at HB0 HX HP
  obtain ⟨kx, fx, zx⟩ := HX.out.facts
  obtain ⟨kp, fp, zp⟩ := HP.out.facts
  clear hW hp
  by_cases h : x.a.idx = p.idx
  · have e1 : (x.a.idx == p.idx) = true := by simpa using h
    by_cases h2 : x.a.knd = 0
    · have e2 : (x.a.knd == 0) = true := by simpa using h2
      have HD := Lib.hid (show (x.a.knd != 0) = aheadP p x by unfold aheadP; rw [decide_eq_true h, decide_eq_true h2]; simp [h2])
      clear h h2
      go_enter Tryz.func46, Tryz.ntmps46
      go_upto_region 1 with fail
      rw [← HE.out]
      go_wp2_with fail
      go_ret
      exact ⟨ret_bool HD.out, HB0.out⟩
    · have e2 : (x.a.knd == 0) = false := by simpa using h2
      have HD := Lib.hid (show (x.a.knd != 0) = aheadP p x by unfold aheadP; rw [decide_eq_true h, decide_eq_false h2]; simp [h2])
      clear h h2
      go_enter Tryz.func46, Tryz.ntmps46
      go_upto_region 1 with fail
      rw [← HE.out]
      go_wp2_with fail
      go_ret
      exact ⟨ret_bool HD.out, HB0.out⟩
  · have e1 : (x.a.idx == p.idx) = false := by simpa using h
    have HD := Lib.hid (show aheadP p x = false by unfold aheadP; rw [decide_eq_false h]; rfl)
    clear h
    go_enter Tryz.func46, Tryz.ntmps46
    go_upto_region 1 with fail
    rw [← HE.out]
    go_wp2_with fail
    go_ret
    exact ⟨ret_bool HD.out.symm, HB0.out⟩

set_option maxHeartbeats 1000000 in
theorem recInIndex (gp : Nat) (p : Rec → Bool) (l : List Rec) (v : Value) (w : World) (h : Sl 7 recRow w.heap.size w v l) (hcl : ∀ x ∈ l, ∀ W, Below w.heap.size w W → Calls Tryz.prog 45 #[.agg #[.int .i64 x.e.idx, .int .i64 x.e.trm, .int .i64 x.e.knd, .slice x.e.ba x.e.bd.length x.e.bc, .int .i64 x.a.idx, .int .i64 x.a.trm, .int .i64 x.a.knd], .pointer (some ⟨gp, 0, none⟩)] W fun e W' => e = .returned (.bool (p x)) ∧ Below W.heap.size W W') :
    Calls Tryz.prog 32 #[v, .func (.func 45) #[] #[.pointer (some ⟨gp, 0, none⟩)]] w fun e w' => (∃ r : Int, e = .returned (.int .i64 r) ∧ FndPost p l r) ∧ Below w.heap.size w w' := by
  obtain ⟨A, cap, rfl, hlc, hcm, -, hA⟩ := h
  have hn : l.length ≤ 9223372036854775807 := by unfold maxLen at hcm; omega
  have HA := Lib.hid hA
  have HC := Lib.hid hcl
  clear hcm hA hcl
  go_enter Tryz.func32, Tryz.ntmps32
  go_wp2_with fail
  go_loopw [4, 5, 8] (fun _ _ j wr => ∃ k : Nat, k ≤ l.length ∧ j = .int .i64 (k : Int) ∧ NoP p l k ∧ Below w.heap.size w wr) (fun _ _ j _ => l.length - (kOf j).toNat)
  case atStart => exact ⟨0, by omega, rfl, noP_zero, Below.refl _ _⟩
  case round =>
    obtain ⟨k, hk, rfl, hno, hB⟩ := hrel
    have HNO := Lib.hid hno
    have HB := Lib.hid hB
    have i0 : (0 : Int) ≤ (k : Int) := by omega
    clear hno hB
    by_cases hlt : k < l.length
    · have i1 : (k : Int) < (l.length : Int) := by omega
      have d0 : decide ((k : Int) < (l.length : Int)) = true := decide_eq_true i1
      have d0' : decide (k < l.length) = true := decide_eq_true hlt
      obtain ⟨b, off, rfl, hb, hcell⟩ := HA.out (by intro h; subst h; simp at hlt)
      obtain ⟨x, hx⟩ : ∃ x, l[k]? = some x := ⟨_, List.getElem?_eq_getElem hlt⟩
      have c0 : wr.cell? ⟨b, off + k * 7, none⟩ = some (.int .i64 x.e.idx) := by simpa using (HB.out.cell (p := ⟨b, off + k * 7 + 0, none⟩) hb).trans (hcell k x hx 0 _ rfl)
      have c1 : wr.cell? ⟨b, off + k * 7 + 1, none⟩ = some (.int .i64 x.e.trm) := by simpa using (HB.out.cell (p := ⟨b, off + k * 7 + 1, none⟩) hb).trans (hcell k x hx 1 _ rfl)
      have c2 : wr.cell? ⟨b, off + k * 7 + 2, none⟩ = some (.int .i64 x.e.knd) := by simpa using (HB.out.cell (p := ⟨b, off + k * 7 + 2, none⟩) hb).trans (hcell k x hx 2 _ rfl)
      have c3 : wr.cell? ⟨b, off + k * 7 + 3, none⟩ = some (.slice x.e.ba x.e.bd.length x.e.bc) := by simpa using (HB.out.cell (p := ⟨b, off + k * 7 + 3, none⟩) hb).trans (hcell k x hx 3 _ rfl)
      have c4 : wr.cell? ⟨b, off + k * 7 + 4, none⟩ = some (.int .i64 x.a.idx) := by simpa using (HB.out.cell (p := ⟨b, off + k * 7 + 4, none⟩) hb).trans (hcell k x hx 4 _ rfl)
      have c5 : wr.cell? ⟨b, off + k * 7 + 5, none⟩ = some (.int .i64 x.a.trm) := by simpa using (HB.out.cell (p := ⟨b, off + k * 7 + 5, none⟩) hb).trans (hcell k x hx 5 _ rfl)
      have c6 : wr.cell? ⟨b, off + k * 7 + 6, none⟩ = some (.int .i64 x.a.knd) := by simpa using (HB.out.cell (p := ⟨b, off + k * 7 + 6, none⟩) hb).trans (hcell k x hx 6 _ rfl)
      have HX := Lib.hid hx
      have HCX := Lib.hid (HC.out x (List.mem_of_getElem? hx) wr HB.out)
      clear hcell hx
      cases hp : p x with
      | true =>
        rw [hp] at HCX
        have HP := Lib.hid hp
        clear hp
        go_wp2_with (go_at_call 45; (with_reducible refine HCX.out.mono ?_); rintro e w2 ⟨rfl, hb2⟩)
        go_ret
        exact ⟨⟨_, rfl, fnd_yes HNO.out HX.out HP.out⟩, below_call HB.out hb2⟩
      | false =>
        rw [hp] at HCX
        have HP := Lib.hid hp
        clear hp
        go_wp2_with (go_at_call 45; (with_reducible refine HCX.out.mono ?_); rintro e w2 ⟨rfl, hb2⟩; have HB2 := Lib.hid (below_call HB.out hb2); clear hb2)
        go_roundw
        case rel => exact ⟨k + 1, by omega, by go_num, noP_step HNO.out HX.out HP.out, HB2.out⟩
        case measure => simp [kOf]; omega
    · have d0 : decide ((k : Int) < (l.length : Int)) = false := decide_eq_false (by omega)
      have d0' : decide (k < l.length) = false := decide_eq_false hlt
      have HF := Lib.hid (show NoP p l l.length by have h := HNO.out; rw [show k = l.length by omega] at h; exact h)
      go_wp2_with fail
      go_ret
      exact ⟨⟨_, rfl, fnd_no HF.out⟩, HB.out⟩

set_option maxHeartbeats 1000000 in
theorem recInContains (gp : Nat) (p : Rec → Bool) (l : List Rec) (v : Value) (w : World) (h : Sl 7 recRow w.heap.size w v l) (hcl : ∀ x ∈ l, ∀ W, Below w.heap.size w W → Calls Tryz.prog 45 #[.agg #[.int .i64 x.e.idx, .int .i64 x.e.trm, .int .i64 x.e.knd, .slice x.e.ba x.e.bd.length x.e.bc, .int .i64 x.a.idx, .int .i64 x.a.trm, .int .i64 x.a.knd], .pointer (some ⟨gp, 0, none⟩)] W fun e W' => e = .returned (.bool (p x)) ∧ Below W.heap.size W W') :
    Calls Tryz.prog 44 #[v, .func (.func 45) #[] #[.pointer (some ⟨gp, 0, none⟩)]] w fun e w' => e = .returned (.bool (l.any p)) ∧ Below w.heap.size w w' := by
  obtain ⟨c, hc⟩ : ∃ c, l.any p = c := ⟨_, rfl⟩
  have CC : Hid (Calls Tryz.prog 32 #[v, .func (.func 45) #[] #[.pointer (some ⟨gp, 0, none⟩)]] w fun e w' => (∃ r : Int, e = .returned (.int .i64 r) ∧ decide (0 ≤ r) = c) ∧ Below w.heap.size w w') :=
    (recInIndex gp p l v w h hcl).mono fun e w' ⟨⟨r, he, hr⟩, hb⟩ => ⟨⟨r, he, hr.any.trans hc⟩, hb⟩
  rw [hc]
  clear hc h hcl
  go_enter Tryz.func44, Tryz.ntmps44
  go_wp2_with (go_at_call 32; (with_reducible refine CC.out.mono ?_); rintro e w2 ⟨⟨r, rfl, hr⟩, hb2⟩)
  go_ret
  exact ⟨rfl, hb2⟩

set_option maxHeartbeats 1000000 in
theorem recAheadIndex (gp : Nat) (p : Rec → Bool) (l : List Rec) (v : Value) (w : World) (h : Sl 7 recRow w.heap.size w v l) (hcl : ∀ x ∈ l, ∀ W, Below w.heap.size w W → Calls Tryz.prog 46 #[.agg #[.int .i64 x.e.idx, .int .i64 x.e.trm, .int .i64 x.e.knd, .slice x.e.ba x.e.bd.length x.e.bc, .int .i64 x.a.idx, .int .i64 x.a.trm, .int .i64 x.a.knd], .pointer (some ⟨gp, 0, none⟩)] W fun e W' => e = .returned (.bool (p x)) ∧ Below W.heap.size W W') :
    Calls Tryz.prog 32 #[v, .func (.func 46) #[] #[.pointer (some ⟨gp, 0, none⟩)]] w fun e w' => (∃ r : Int, e = .returned (.int .i64 r) ∧ FndPost p l r) ∧ Below w.heap.size w w' := by
  obtain ⟨A, cap, rfl, hlc, hcm, -, hA⟩ := h
  have hn : l.length ≤ 9223372036854775807 := by unfold maxLen at hcm; omega
  have HA := Lib.hid hA
  have HC := Lib.hid hcl
  clear hcm hA hcl
  go_enter Tryz.func32, Tryz.ntmps32
  go_wp2_with fail
  go_loopw [4, 5, 8] (fun _ _ j wr => ∃ k : Nat, k ≤ l.length ∧ j = .int .i64 (k : Int) ∧ NoP p l k ∧ Below w.heap.size w wr) (fun _ _ j _ => l.length - (kOf j).toNat)
  case atStart => exact ⟨0, by omega, rfl, noP_zero, Below.refl _ _⟩
  case round =>
    obtain ⟨k, hk, rfl, hno, hB⟩ := hrel
    have HNO := Lib.hid hno
    have HB := Lib.hid hB
    have i0 : (0 : Int) ≤ (k : Int) := by omega
    clear hno hB
    by_cases hlt : k < l.length
    · have i1 : (k : Int) < (l.length : Int) := by omega
      have d0 : decide ((k : Int) < (l.length : Int)) = true := decide_eq_true i1
      have d0' : decide (k < l.length) = true := decide_eq_true hlt
      obtain ⟨b, off, rfl, hb, hcell⟩ := HA.out (by intro h; subst h; simp at hlt)
      obtain ⟨x, hx⟩ : ∃ x, l[k]? = some x := ⟨_, List.getElem?_eq_getElem hlt⟩
      have c0 : wr.cell? ⟨b, off + k * 7, none⟩ = some (.int .i64 x.e.idx) := by simpa using (HB.out.cell (p := ⟨b, off + k * 7 + 0, none⟩) hb).trans (hcell k x hx 0 _ rfl)
      have c1 : wr.cell? ⟨b, off + k * 7 + 1, none⟩ = some (.int .i64 x.e.trm) := by simpa using (HB.out.cell (p := ⟨b, off + k * 7 + 1, none⟩) hb).trans (hcell k x hx 1 _ rfl)
      have c2 : wr.cell? ⟨b, off + k * 7 + 2, none⟩ = some (.int .i64 x.e.knd) := by simpa using (HB.out.cell (p := ⟨b, off + k * 7 + 2, none⟩) hb).trans (hcell k x hx 2 _ rfl)
      have c3 : wr.cell? ⟨b, off + k * 7 + 3, none⟩ = some (.slice x.e.ba x.e.bd.length x.e.bc) := by simpa using (HB.out.cell (p := ⟨b, off + k * 7 + 3, none⟩) hb).trans (hcell k x hx 3 _ rfl)
      have c4 : wr.cell? ⟨b, off + k * 7 + 4, none⟩ = some (.int .i64 x.a.idx) := by simpa using (HB.out.cell (p := ⟨b, off + k * 7 + 4, none⟩) hb).trans (hcell k x hx 4 _ rfl)
      have c5 : wr.cell? ⟨b, off + k * 7 + 5, none⟩ = some (.int .i64 x.a.trm) := by simpa using (HB.out.cell (p := ⟨b, off + k * 7 + 5, none⟩) hb).trans (hcell k x hx 5 _ rfl)
      have c6 : wr.cell? ⟨b, off + k * 7 + 6, none⟩ = some (.int .i64 x.a.knd) := by simpa using (HB.out.cell (p := ⟨b, off + k * 7 + 6, none⟩) hb).trans (hcell k x hx 6 _ rfl)
      have HX := Lib.hid hx
      have HCX := Lib.hid (HC.out x (List.mem_of_getElem? hx) wr HB.out)
      clear hcell hx
      cases hp : p x with
      | true =>
        rw [hp] at HCX
        have HP := Lib.hid hp
        clear hp
        go_wp2_with (go_at_call 46; (with_reducible refine HCX.out.mono ?_); rintro e w2 ⟨rfl, hb2⟩)
        go_ret
        exact ⟨⟨_, rfl, fnd_yes HNO.out HX.out HP.out⟩, below_call HB.out hb2⟩
      | false =>
        rw [hp] at HCX
        have HP := Lib.hid hp
        clear hp
        go_wp2_with (go_at_call 46; (with_reducible refine HCX.out.mono ?_); rintro e w2 ⟨rfl, hb2⟩; have HB2 := Lib.hid (below_call HB.out hb2); clear hb2)
        go_roundw
        case rel => exact ⟨k + 1, by omega, by go_num, noP_step HNO.out HX.out HP.out, HB2.out⟩
        case measure => simp [kOf]; omega
    · have d0 : decide ((k : Int) < (l.length : Int)) = false := decide_eq_false (by omega)
      have d0' : decide (k < l.length) = false := decide_eq_false hlt
      have HF := Lib.hid (show NoP p l l.length by have h := HNO.out; rw [show k = l.length by omega] at h; exact h)
      go_wp2_with fail
      go_ret
      exact ⟨⟨_, rfl, fnd_no HF.out⟩, HB.out⟩

theorem Box.set3h {w : World} {n : Nat} {a b c : Value} {t : TypeId} (h : Box w n #[a, b, c] t) (x y z : Value) : Box (((w.setCell ⟨n, 0, none⟩ x).setCell ⟨n, 1, none⟩ y).setCell ⟨n, 2, none⟩ z) n #[x, y, z] t := ((h.set_ 0 x).set_ 1 y).set_ 2 z
set_option maxRecDepth 100000 in
set_option maxHeartbeats 8000000 in
theorem healLeft (rot : List Idt) (took : List Rec) (vr vl : Value) (w : World) (hr : Sl 3 idRow w.heap.size w vr rot) (hl : Sl 7 recRow w.heap.size w vl took) (hn : took.length ≤ 100000 ∧ rot.length ≤ 100000) :
    Calls Tryz.prog 18 #[vr, vl] w fun e w' => ∃ v', e = .returned v' ∧ Own 3 idRow 42 w.heap.size w' v' (leftV rot took) ∧ Below w.heap.size w w' := by
  have HL := Lib.hid hl
  obtain ⟨Al, cl, rfl, -, -, -, hAl⟩ := id hl
  obtain ⟨Aw, cw, rfl, hlc, hcm, -, hAw⟩ := id hr
  have HAL := Lib.hid hAl
  have HAW := Lib.hid hAw
  have hln : took.length ≤ 100000 := hn.1
  have hwn : rot.length ≤ 100000 := hn.2
  clear hl hr hAl hlc hcm hAw hn
  go_enter Tryz.func18, Tryz.ntmps18
  go_wp2_with fail
  go_loopw [4, 6, 7, 10] (fun o _ _ i wr => ∃ (k : Nat) (ov : Value), ov = o ∧ k ≤ rot.length ∧ i = .int .i64 (k : Int) ∧ Own 3 idRow 42 w.heap.size wr ov (leftV (rot.take k) took) ∧ Below w.heap.size w wr) (fun _ _ _ i _ => rot.length - (kOf i).toNat)
  case atStart => exact ⟨0, _, rfl, by omega, rfl, Own.nil_ _ _ _ _ _, Below.refl _ _⟩
  case round =>
    obtain ⟨k, ov, rfl, hk, rfl, ho, hB⟩ := hrel
    have HO := Lib.hid ho
    have HB := Lib.hid hB
    have hzr := hB.size
    have hll : (leftV (rot.take k) took).length ≤ 100000 := by have h1 := left_len (rot.take k) took; rw [List.length_take] at h1; omega
    have i0 : (0 : Int) ≤ (k : Int) := by omega
    clear ho hB
    by_cases hlt : k < rot.length
    · have i1 : (k : Int) < (rot.length : Int) := by omega
      have d0 : decide ((k : Int) < (rot.length : Int)) = true := decide_eq_true i1
      obtain ⟨bw, ow, rfl, hbw, hcell⟩ := HAW.out (by intro h; subst h; simp at hlt)
      obtain ⟨p, hp⟩ : ∃ p, rot[k]? = some p := ⟨_, List.getElem?_eq_getElem hlt⟩
      have c0 : wr.cell? ⟨bw, ow + k * 3, none⟩ = some (.int .i64 p.idx) := (HB.out.cell (p := ⟨bw, ow + k * 3 + 0, none⟩) hbw).trans (hcell k p hp 0 _ rfl)
      have c1 : wr.cell? ⟨bw, ow + k * 3 + 1, none⟩ = some (.int .i64 p.trm) := (HB.out.cell (p := ⟨bw, ow + k * 3 + 1, none⟩) hbw).trans (hcell k p hp 1 _ rfl)
      have c2 : wr.cell? ⟨bw, ow + k * 3 + 2, none⟩ = some (.int .i64 p.knd) := (HB.out.cell (p := ⟨bw, ow + k * 3 + 2, none⟩) hbw).trans (hcell k p hp 2 _ rfl)
      have HLT := Lib.hid (left_take (took := took) hp)
      have HXP := Lib.hid (Box.new wr #[.int .i64 p.idx, .int .i64 p.trm, .int .i64 p.knd] 42)
      have HBP := Lib.hid (below_new wr (.cells #[.int .i64 p.idx, .int .i64 p.trm, .int .i64 p.knd] 42))
      obtain ⟨W1, hW1⟩ : ∃ q, q = wr.alloc (.cells #[.int .i64 p.idx, .int .i64 p.trm, .int .i64 p.knd] 42) := ⟨_, rfl⟩
      obtain ⟨gp, hgp⟩ : ∃ q, q = wr.heap.size := ⟨_, rfl⟩
      have HE := Lib.hid hW1
      have HE2 := Lib.hid hgp
      have hgl : wr.heap.size ≤ gp := by omega
      rw [← hW1] at HXP HBP
      rw [← hgp] at HXP
      have HO1 := Lib.hid (HO.out.later HBP.out)
      have HB1 := Lib.hid (HB.out.trans (HBP.out.mono hzr))
      have hz1 := HB1.out.size
      have CI := Lib.hid (recInContains gp (fun r => decide (r.e.idx = p.idx)) took _ W1 (HL.out.later HB1.out) (fun x hx V hV => leftIn gp p x V (HXP.out.later hV)))
      clear hcell hp hW1 hgp
      go_upto_region 4 with fail
      rw [← HE.out, ← HE2.out]
      clear c0 c1 c2
      obtain ⟨b0, hb0⟩ : ∃ b0, took.any (fun r => decide (r.e.idx = p.idx)) = b0 := ⟨_, rfl⟩
      have HB0 := Lib.hid (show isIn took p = b0 from hb0)
      rw [hb0] at CI
      clear hb0
      by_cases hbt : b0 = true
      · subst hbt
        have HLN := Lib.hid (show leftV (rot.take (k + 1)) took = leftV (rot.take k) took by rw [HLT.out, HB0.out]; simp)
        go_wp2_with (go_at_call 44; (with_reducible refine CI.out.mono ?_); rintro e w2 ⟨rfl, hb2⟩; have HB2 := Lib.hid (HB1.out.trans (hb2.mono hz1)); have HO2 := Lib.hid (HO1.out.later hb2); clear hb2)
        go_roundw
        case rel => exact ⟨k + 1, _, rfl, by omega, by go_num, by rw [HLN.out]; exact HO2.out, HB2.out⟩
        case measure => first | (simp [kOf]; done) | (simp [kOf]; omega)
      · obtain rfl : b0 = false := by simpa using hbt
        clear hbt
        have HLN := Lib.hid (show leftV (rot.take (k + 1)) took = leftV (rot.take k) took ++ [turnI took p] by rw [HLT.out, HB0.out]; simp)
        go_upto_region 5 with (go_at_call 44; (with_reducible refine CI.out.mono ?_); rintro e w2 ⟨rfl, hb2⟩; have HB2 := Lib.hid (HB1.out.trans (hb2.mono hz1)); have HO2 := Lib.hid (HO1.out.later hb2); have HX2 := Lib.hid (HXP.out.later hb2); have HP2 := Lib.hid (HBP.out.trans (hb2.mono (by have := HBP.out.size; omega))); clear hb2)
        obtain ⟨kp, fp, zp⟩ := HX2.out.facts
        have hz2 := HB2.out.size
        by_cases hkd : p.knd = 0
        · have e1 : (p.knd == 0) = true := by simpa using hkd
          have CJ := Lib.hid (recAheadIndex gp (aheadP p) took _ w2 (HL.out.later HB2.out) (fun x hx V hV => leftAhead gp p x V (HX2.out.later hV)))
          have HKD := Lib.hid hkd
          clear hkd
          go_upto_region 7 with (go_at_call 32; (with_reducible refine CJ.out.mono ?_); rintro e w3 ⟨⟨r, rfl, hq⟩, hb3⟩; have HB3 := Lib.hid (HB2.out.trans (hb3.mono hz2)); have HO3 := Lib.hid (HO2.out.later hb3); have HX3 := Lib.hid (HX2.out.later hb3); clear hb3)
          clear kp fp zp
          have hz3 := HB3.out.size
          rcases hq with ⟨rfl, hq⟩ | ⟨k0, x, rfl, hx, -, hq, -⟩
          · have HT := Lib.hid (show turnI took p = p by unfold turnI; rw [if_pos HKD.out]; unfold aheadOf; rw [show (took.find? fun r => decide (r.a.idx = p.idx) && !decide (r.a.knd = 0)) = none from hq])
            have d2 : decide ((0 : Int) ≤ -1) = false := rfl
            obtain ⟨kp, fp, zp⟩ := HX3.out.facts
            clear hq
            go_wp2_with (at_builtin; refine wpList_append_row _ rfl (.tmp 30) (.tmp 32) 22 rfl w.heap.size 42 _ 3 24 Tryz.underlying22 idtInfo rfl (Nat.succ_pos 2) idRow idRow_length idRow_one _ _ rfl HO3.out (p) _ rfl 42 _ rfl rfl (by omega) (by omega) hz3 ?_; intro v' w' p1 p2 p3 p4 p5; have P1 := Lib.hid p1; have P2 := Lib.hid p2; clear p1 p2 p3 p4 p5)
            go_roundw
            case rel => exact ⟨k + 1, _, rfl, by omega, by go_num, by rw [HLN.out, HT.out]; exact P1.out, HB3.out.trans P2.out⟩
            case measure => first | (simp [kOf]; done) | (simp [kOf]; omega)
          · have HT := Lib.hid (show turnI took p = x.a by unfold turnI; rw [if_pos HKD.out]; unfold aheadOf; rw [show (took.find? fun r => decide (r.a.idx = p.idx) && !decide (r.a.knd = 0)) = some x from hq])
            have d2 : decide ((0 : Int) ≤ (k0 : Int)) = true := decide_eq_true (by omega)
            have hk0 := (List.getElem?_eq_some_iff.1 hx).1
            have j0 : (0 : Int) ≤ (k0 : Int) := by omega
            have j1 : (k0 : Int) < (took.length : Int) := by omega
            obtain ⟨bl, ol, rfl, hbl, hcell⟩ := HAL.out (by intro h; subst h; simp at hk0)
            have c4 : w3.cell? ⟨bl, ol + k0 * 7 + 4, none⟩ = some (.int .i64 x.a.idx) := (HB3.out.cell (p := ⟨bl, ol + k0 * 7 + 4, none⟩) hbl).trans (hcell k0 x hx 4 _ rfl)
            have c5 : w3.cell? ⟨bl, ol + k0 * 7 + 5, none⟩ = some (.int .i64 x.a.trm) := (HB3.out.cell (p := ⟨bl, ol + k0 * 7 + 5, none⟩) hbl).trans (hcell k0 x hx 5 _ rfl)
            have c6 : w3.cell? ⟨bl, ol + k0 * 7 + 6, none⟩ = some (.int .i64 x.a.knd) := (HB3.out.cell (p := ⟨bl, ol + k0 * 7 + 6, none⟩) hbl).trans (hcell k0 x hx 6 _ rfl)
            obtain ⟨kp, fp, zp⟩ := HX3.out.facts
            have HX4 := Lib.hid (HX3.out.set3h (.int .i64 x.a.idx) (.int .i64 x.a.trm) (.int .i64 x.a.knd))
            have HB4 := Lib.hid (below_set (i := 2) (u := .int .i64 x.a.knd) (below_set (i := 1) (u := .int .i64 x.a.trm) (below_set (i := 0) (u := .int .i64 x.a.idx) HB3.out (n := gp) (by omega)) (n := gp) (by omega)) (n := gp) (by omega))
            have hgo : ∀ q, ov.ownBlock = some q → q ≠ gp := fun q hq => by have := (HO.out.block hq).2; omega
            have HO4 := Lib.hid (show Own 3 idRow 42 w.heap.size (((w3.setCell ⟨gp, 0, none⟩ (.int .i64 x.a.idx)).setCell ⟨gp, 1, none⟩ (.int .i64 x.a.trm)).setCell ⟨gp, 2, none⟩ (.int .i64 x.a.knd)) ov (leftV (rot.take k) took) from HO3.out.stay fun q hq => by
              rw [Below.heap_setCell _ ⟨gp, 2, none⟩ _ q (hgo q hq), Below.heap_setCell _ ⟨gp, 1, none⟩ _ q (hgo q hq), Below.heap_setCell _ ⟨gp, 0, none⟩ _ q (hgo q hq)])
            clear hq hx hcell hgo
            go_upto_region 9 with fail
            obtain ⟨W4, hW4⟩ : ∃ q, q = ((w3.setCell ⟨gp, 0, none⟩ (.int .i64 x.a.idx)).setCell ⟨gp, 1, none⟩ (.int .i64 x.a.trm)).setCell ⟨gp, 2, none⟩ (.int .i64 x.a.knd) := ⟨_, rfl⟩
            rw [← hW4] at HX4 HB4 HO4
            rw [← hW4]
            clear hW4 kp fp zp c4 c5 c6
            have hz4 := HB4.out.size
            obtain ⟨kp, fp, zp⟩ := HX4.out.facts
            go_wp2_with (at_builtin; refine wpList_append_row _ rfl (.tmp 30) (.tmp 32) 22 rfl w.heap.size 42 _ 3 24 Tryz.underlying22 idtInfo rfl (Nat.succ_pos 2) idRow idRow_length idRow_one _ _ rfl HO4.out (x.a) _ rfl 42 _ rfl rfl (by omega) (by omega) hz4 ?_; intro v' w' p1 p2 p3 p4 p5; have P1 := Lib.hid p1; have P2 := Lib.hid p2; clear p1 p2 p3 p4 p5)
            go_roundw
            case rel => exact ⟨k + 1, _, rfl, by omega, by go_num, by rw [HLN.out, HT.out]; exact P1.out, HB4.out.trans P2.out⟩
            case measure => first | (simp [kOf]; done) | (simp [kOf]; omega)
        · have e1 : (p.knd == 0) = false := by simpa using hkd
          have HT := Lib.hid (show turnI took p = p by unfold turnI; rw [if_neg hkd])
          clear hkd
          go_wp2_with (at_builtin; refine wpList_append_row _ rfl (.tmp 30) (.tmp 32) 22 rfl w.heap.size 42 _ 3 24 Tryz.underlying22 idtInfo rfl (Nat.succ_pos 2) idRow idRow_length idRow_one _ _ rfl HO2.out (p) _ rfl 42 _ rfl rfl (by omega) (by omega) hz2 ?_; intro v' w' p1 p2 p3 p4 p5; have P1 := Lib.hid p1; have P2 := Lib.hid p2; clear p1 p2 p3 p4 p5)
          go_roundw
          case rel => exact ⟨k + 1, _, rfl, by omega, by go_num, by rw [HLN.out, HT.out]; exact P1.out, HB2.out.trans P2.out⟩
          case measure => first | (simp [kOf]; done) | (simp [kOf]; omega)
    · have d0 : decide ((k : Int) < (rot.length : Int)) = false := decide_eq_false (by omega)
      have hke : k = rot.length := by omega
      have HF := Lib.hid (show Own 3 idRow 42 w.heap.size wr ov (leftV rot took) by have h := HO.out; rw [hke, List.take_length] at h; exact h)
      clear hke
      go_wp2_with fail
      go_ret
      exact ⟨ov, rfl, HF.out, HB.out⟩
end Go.Proofs.YtglkgmijhdkhpaaGreatDoor
/-
  limpetlaw24's of, great, among: contracts.
-/
set_option linter.unusedVariables false
set_option linter.unusedSimpArgs false
namespace Go.Proofs.YtglkgmijhdkhpaaGreatDoor
open Go.RowKit

set_option maxHeartbeats 400000 in
theorem of24 (a b c x y z : Int) (w : World) :
    Calls Tryz.prog 27 #[.int .i64 a, .int .i64 b, .int .i64 c, .agg #[.int .i64 x, .int .i64 y, .int .i64 z]] w fun e w' => e = .returned (.agg #[.int .i64 a, .int .i64 b, .int .i64 c, .slice none 0 0, .int .i64 x, .int .i64 y, .int .i64 z]) ∧ Below w.heap.size w w' := by
  go_enter Tryz.func27, Tryz.ntmps27
  go_wp2_with fail
  refine bodyPost_ret (v := .agg #[.int .i64 a, .int .i64 b, .int .i64 c, .slice none 0 0, .int .i64 x, .int .i64 y, .int .i64 z]) (by simp [results, Tryz.results27, go_sem]) rfl ⟨rfl, ?_⟩
  first | exact below_new _ _ | (repeat (first | exact Below.refl _ _ | refine Below.alloc ?_ (by simp) _ | refine below_set ?_ (by simp)))

def sizeR (l : List Rec) : Nat := (l.map fun r => r.e.bd.length + 1).sum
theorem sizeR_take {l : List Rec} {k : Nat} {x : Rec} (h : l[k]? = some x) : sizeR (l.take (k + 1)) = sizeR (l.take k) + (x.e.bd.length + 1) := by
  unfold sizeR; rw [List.take_add_one, h, List.map_append, List.sum_append]; simp
theorem sizeR_mem : ∀ {l : List Rec} {x : Rec}, x ∈ l → x.e.bd.length + 1 ≤ sizeR l := by
  intro l
  induction l with
  | nil => intro x h; simp at h
  | cons a l ih =>
    intro x h
    have hs : sizeR (a :: l) = (a.e.bd.length + 1) + sizeR l := by simp [sizeR]
    rcases List.mem_cons.1 h with rfl | h
    · omega
    · have := ih h; omega
theorem sizeR_len : ∀ (l : List Rec), l.length ≤ sizeR l := by
  intro l
  induction l with
  | nil => simp
  | cons a l ih =>
    have hs : sizeR (a :: l) = (a.e.bd.length + 1) + sizeR l := by simp [sizeR]
    simp only [List.length_cons]; omega

def greatR (rot : List Idt) (l : List Rec) : Bool := decide (600 < rot.length + sizeR l)
theorem sizeR_take_le : ∀ (l : List Rec) (k : Nat), sizeR (l.take k) ≤ sizeR l := by
  intro l
  induction l with
  | nil => intro k; simp
  | cons a l ih =>
    intro k
    cases k with
    | zero => simp [sizeR]
    | succ k =>
      have hs : sizeR (a :: l) = (a.e.bd.length + 1) + sizeR l := by simp [sizeR]
      have ht : sizeR ((a :: l).take (k + 1)) = (a.e.bd.length + 1) + sizeR (l.take k) := by simp [sizeR]
      have := ih k; omega
set_option maxHeartbeats 2000000 in
theorem great24 (rot : List Idt) (l : List Rec) (vr vl : Value) (w : World) (hr : Sl 3 idRow w.heap.size w vr rot) (hl : Sl 7 recRow w.heap.size w vl l) (hbig : ∀ r ∈ l, r.e.bd.length ≤ 140737488351232) (hn : l.length ≤ 140737488351232 ∧ rot.length ≤ 140737488351232) :
    Calls Tryz.prog 5 #[vl, vr] w fun e w' => e = .returned (.bool (greatR rot l)) ∧ w = w' := by
  obtain ⟨Ar, cr, rfl, -⟩ := hr
  obtain ⟨Al, cl, rfl, hlc, hcm, -, hA⟩ := hl
  have HA := Lib.hid hA
  have HBG := Lib.hid hbig
  have hn1 := hn.1
  have hn2 := hn.2
  clear hA hn hbig hlc hcm
  go_enter Tryz.func5, Tryz.ntmps5
  go_wp2_with fail
  go_loopw [5, 6] (fun n i wr => ∃ (k m : Nat), k ≤ l.length ∧ i = .int .i64 (k : Int) ∧ n = .int .i64 (m : Int) ∧ m = rot.length + sizeR (l.take k) ∧ m ≤ 290000000000000 ∧ w = wr) (fun _ i _ => l.length - (kOf i).toNat)
  case atStart => exact ⟨0, rot.length, by omega, rfl, rfl, by simp [sizeR], by omega, rfl⟩
  case round =>
    obtain ⟨k, m, hk, rfl, rfl, hm, hmb, rfl⟩ := hrel
    have i0 : (0 : Int) ≤ (k : Int) := by omega
    by_cases hlt : k < l.length
    · have i1 : (k : Int) < (l.length : Int) := by omega
      have d0 : decide ((k : Int) < (l.length : Int)) = true := decide_eq_true i1
      by_cases hs : (m : Int) ≤ 600
      · have d1 : decide ((m : Int) ≤ 600) = true := decide_eq_true hs
        obtain ⟨b, off, rfl, hb, hcell⟩ := HA.out (by intro h; subst h; simp at hlt)
        obtain ⟨x, hx⟩ : ∃ x, l[k]? = some x := ⟨_, List.getElem?_eq_getElem hlt⟩
        have hxb := HBG.out x (List.mem_of_getElem? hx)
        have c3 : w.cell? ⟨b, off + k * 7 + 3, none⟩ = some (.slice x.e.ba x.e.bd.length x.e.bc) := hcell k x hx 3 _ rfl
        have HM := Lib.hid hm
        have HX := Lib.hid hx
        have HTK := Lib.hid (sizeR_take hx)
        clear hcell hx hm
        go_wp2_with fail
        go_roundw
        case rel => exact ⟨k + 1, m + (x.e.bd.length + 1), by omega, by go_num, by go_num, by rw [HM.out, HTK.out]; omega, by omega, by trivial⟩
        case measure => first | (simp [kOf]; done) | (simp [kOf]; omega)
      · have d1 : decide ((m : Int) ≤ 600) = false := decide_eq_false hs
        have d2 : decide ((600 : Int) < (m : Int)) = true := decide_eq_true (by omega)
        have HGR := Lib.hid (show true = greatR rot l by unfold greatR; have := sizeR_take_le l k; exact (decide_eq_true (by omega)).symm)
        clear hm
        go_wp2_with fail
        go_ret
        exact ⟨ret_bool HGR.out, rfl⟩
    · have d0 : decide ((k : Int) < (l.length : Int)) = false := decide_eq_false (by omega)
      have hke : k = l.length := by omega
      have HR := Lib.hid (show decide ((600 : Int) < (m : Int)) = greatR rot l by
        rw [hke, List.take_length] at hm
        unfold greatR
        by_cases h : 600 < rot.length + sizeR l
        · rw [decide_eq_true h]; exact decide_eq_true (by omega)
        · rw [decide_eq_false h]; exact decide_eq_false (by omega))
      clear hke hm
      go_wp2_with fail
      go_ret
      exact ⟨ret_bool HR.out, rfl⟩

def amongI (l : List Idt) (p : Idt) : Bool := l.any fun q => eqI q p
theorem amongI_mem {l : List Idt} {p : Idt} (h : p ∈ l) : amongI l p = true := List.any_eq_true.2 ⟨p, h, eqI_iff.2 rfl⟩
theorem amongI_none {l : List Idt} {p : Idt} (h : NoP (fun q => eqI q p) l l.length) : amongI l p = false := by
  cases hc : amongI l p with
  | false => rfl
  | true =>
    obtain ⟨q, hq, he⟩ := List.any_eq_true.1 hc
    have : eqI q p = false := h q (by rw [List.take_length]; exact hq)
    rw [this] at he; cases he
theorem eqI_parts (x y : Idt) : eqI x y = (decide (x.idx = y.idx) && decide (x.trm = y.trm) && decide (x.knd = y.knd)) := rfl
end Go.Proofs.YtglkgmijhdkhpaaGreatDoor
