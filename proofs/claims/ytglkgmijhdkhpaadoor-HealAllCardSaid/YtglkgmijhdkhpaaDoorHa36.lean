/-
  heal's Take, Left: contracts.
-/
import Derived.Test.YtglkgmijhdkhpaaDoorHa22
import Derived.Test.YtglkgmijhdkhpaaDoorHa35
set_option linter.unusedVariables false
set_option linter.unusedSimpArgs false
namespace Go.Proofs.YtglkgmijhdkhpaaDoor
open Go.RowKit

set_option maxHeartbeats 2000000 in
theorem healTake (rot : List Idt) (l : List Rec) (vr vl : Value) (w : World) (hr : Sl 3 idRow w.heap.size w vr rot) (hl : Sl 7 recRow w.heap.size w vl l) (hin : ∀ r ∈ l, RecIn w r) (hG : errTypeIs w) (hn : l.length ≤ 100000 ∧ rot.length ≤ 100000) :
    Calls Tryd.prog 7 #[vr, vl] w (GivePost (takeV rot l) w) := by
  have C1 := Lib.hid (healWants0 rot vr w hr hn.2)
  have hwl := wants_len rot
  have C2 : Hid (∀ w2 v2, Below w.heap.size w w2 → Own 3 idRow 31 w.heap.size w2 v2 (wantsV rot) → Calls Tryd.prog 8 #[vl, v2, .int .i64 (rot.length : Int)] w2 (GivePost (takeV rot l) w2)) := fun w2 v2 hb ho =>
    healGive l (wantsV rot) vl v2 rot.length w2 (hl.later hb) (ho.sl idRow_length) (fun r hr => (hin r hr).later hb) (errType_later hG hb) (by omega)
  obtain ⟨A, c, rfl, -⟩ := hr
  obtain ⟨Al, cl, rfl, -⟩ := hl
  clear hin hG
  go_enter Tryd.func7, Tryd.ntmps7
  go_wp2_with (first
    | (go_at_call 20; (with_reducible refine C1.out.mono ?_); rintro e w2 ⟨v2, rfl, ho2, hb2⟩; have HB2 := Lib.hid hb2; have L2 := Lib.hid (C2.out w2 v2 hb2 ho2); clear ho2 hb2)
    | (go_at_call 8; (with_reducible refine L2.out.mono ?_); rintro e w3 ⟨A3, c3, m, rfl, hrs, hb3⟩))
  go_ret
  exact ⟨A3, c3, m, rfl, ⟨hrs.key, hrs.own.less HB2.out.size, ⟨fun i x hx => (hrs.bod.own i x hx).less HB2.out.size, hrs.bod.far, hrs.bod.out⟩⟩, below_call HB2.out hb3⟩

theorem leftIn (gp : Nat) (p : Idt) (x : Rec) (w : World) (hp : Box w gp #[.int .i64 p.idx, .int .i64 p.trm, .int .i64 p.knd] 31) :
    Calls Tryd.prog 32 #[.agg #[.int .i64 x.e.idx, .int .i64 x.e.trm, .int .i64 x.e.knd, .slice x.e.ba x.e.bd.length x.e.bc, .int .i64 x.a.idx, .int .i64 x.a.trm, .int .i64 x.a.knd], .pointer (some ⟨gp, 0, none⟩)] w fun e w' => e = .returned (.bool (decide (x.e.idx = p.idx))) ∧ Below w.heap.size w w' := by
  have HB0 := Lib.hid (below_new w (.cells #[.int .i64 x.e.idx, .int .i64 x.e.trm, .int .i64 x.e.knd, .slice x.e.ba x.e.bd.length x.e.bc, .int .i64 x.a.idx, .int .i64 x.a.trm, .int .i64 x.a.knd] 37))
  have HX := Lib.hid (Box.new w #[.int .i64 x.e.idx, .int .i64 x.e.trm, .int .i64 x.e.knd, .slice x.e.ba x.e.bd.length x.e.bc, .int .i64 x.a.idx, .int .i64 x.a.trm, .int .i64 x.a.knd] 37)
  have HP := Lib.hid (hp.later HB0.out)
  obtain ⟨W, hW⟩ : ∃ z, z = w.alloc (.cells #[.int .i64 x.e.idx, .int .i64 x.e.trm, .int .i64 x.e.knd, .slice x.e.ba x.e.bd.length x.e.bc, .int .i64 x.a.idx, .int .i64 x.a.trm, .int .i64 x.a.knd] 37) := ⟨_, rfl⟩
  have HE := Lib.hid hW
  rw [← hW] at HB0 HX HP
  obtain ⟨kx, fx, zx⟩ := HX.out.facts
  obtain ⟨kp, fp, zp⟩ := HP.out.facts
  clear hW hp
  by_cases h : x.e.idx = p.idx
  · have e1 : (x.e.idx == p.idx) = true := by simpa using h
    have HD := Lib.hid (decide_eq_true h)
    clear h
    go_enter Tryd.func32, Tryd.ntmps32
    go_upto_region 1 with fail
    rw [← HE.out]
    go_wp2_with fail
    go_ret
    exact ⟨ret_bool HD.out.symm, HB0.out⟩
  · have e1 : (x.e.idx == p.idx) = false := by simpa using h
    have HD := Lib.hid (decide_eq_false h)
    clear h
    go_enter Tryd.func32, Tryd.ntmps32
    go_upto_region 1 with fail
    rw [← HE.out]
    go_wp2_with fail
    go_ret
    exact ⟨ret_bool HD.out.symm, HB0.out⟩
def aheadP (p : Idt) (r : Rec) : Bool := decide (r.a.idx = p.idx) && !decide (r.a.knd = 0)
set_option maxHeartbeats 2000000 in
theorem leftAhead (gp : Nat) (p : Idt) (x : Rec) (w : World) (hp : Box w gp #[.int .i64 p.idx, .int .i64 p.trm, .int .i64 p.knd] 31) :
    Calls Tryd.prog 33 #[.agg #[.int .i64 x.e.idx, .int .i64 x.e.trm, .int .i64 x.e.knd, .slice x.e.ba x.e.bd.length x.e.bc, .int .i64 x.a.idx, .int .i64 x.a.trm, .int .i64 x.a.knd], .pointer (some ⟨gp, 0, none⟩)] w fun e w' => e = .returned (.bool (aheadP p x)) ∧ Below w.heap.size w w' := by
  have HB0 := Lib.hid (below_new w (.cells #[.int .i64 x.e.idx, .int .i64 x.e.trm, .int .i64 x.e.knd, .slice x.e.ba x.e.bd.length x.e.bc, .int .i64 x.a.idx, .int .i64 x.a.trm, .int .i64 x.a.knd] 37))
  have HX := Lib.hid (Box.new w #[.int .i64 x.e.idx, .int .i64 x.e.trm, .int .i64 x.e.knd, .slice x.e.ba x.e.bd.length x.e.bc, .int .i64 x.a.idx, .int .i64 x.a.trm, .int .i64 x.a.knd] 37)
  have HP := Lib.hid (hp.later HB0.out)
  obtain ⟨W, hW⟩ : ∃ z, z = w.alloc (.cells #[.int .i64 x.e.idx, .int .i64 x.e.trm, .int .i64 x.e.knd, .slice x.e.ba x.e.bd.length x.e.bc, .int .i64 x.a.idx, .int .i64 x.a.trm, .int .i64 x.a.knd] 37) := ⟨_, rfl⟩
  have HE := Lib.hid hW
  rw [← hW] at HB0 HX HP
  obtain ⟨kx, fx, zx⟩ := HX.out.facts
  obtain ⟨kp, fp, zp⟩ := HP.out.facts
  clear hW hp
  by_cases h : x.a.idx = p.idx
  · have e1 : (x.a.idx == p.idx) = true := by simpa using h
    by_cases h2 : x.a.knd = 0
    · have e2 : (x.a.knd == 0) = true := by simpa using h2
      have HD := Lib.hid (show (x.a.knd != 0) = aheadP p x by unfold aheadP; rw [decide_eq_true h, decide_eq_true h2]; simp [h2])
      clear h h2
      go_enter Tryd.func33, Tryd.ntmps33
      go_upto_region 1 with fail
      rw [← HE.out]
      go_wp2_with fail
      go_ret
      exact ⟨ret_bool HD.out, HB0.out⟩
    · have e2 : (x.a.knd == 0) = false := by simpa using h2
      have HD := Lib.hid (show (x.a.knd != 0) = aheadP p x by unfold aheadP; rw [decide_eq_true h, decide_eq_false h2]; simp [h2])
      clear h h2
      go_enter Tryd.func33, Tryd.ntmps33
      go_upto_region 1 with fail
      rw [← HE.out]
      go_wp2_with fail
      go_ret
      exact ⟨ret_bool HD.out, HB0.out⟩
  · have e1 : (x.a.idx == p.idx) = false := by simpa using h
    have HD := Lib.hid (show aheadP p x = false by unfold aheadP; rw [decide_eq_false h]; rfl)
    clear h
    go_enter Tryd.func33, Tryd.ntmps33
    go_upto_region 1 with fail
    rw [← HE.out]
    go_wp2_with fail
    go_ret
    exact ⟨ret_bool HD.out.symm, HB0.out⟩

set_option maxHeartbeats 1000000 in
theorem recInIndex (gp : Nat) (p : Rec → Bool) (l : List Rec) (v : Value) (w : World) (h : Sl 7 recRow w.heap.size w v l) (hcl : ∀ x ∈ l, ∀ W, Below w.heap.size w W → Calls Tryd.prog 32 #[.agg #[.int .i64 x.e.idx, .int .i64 x.e.trm, .int .i64 x.e.knd, .slice x.e.ba x.e.bd.length x.e.bc, .int .i64 x.a.idx, .int .i64 x.a.trm, .int .i64 x.a.knd], .pointer (some ⟨gp, 0, none⟩)] W fun e W' => e = .returned (.bool (p x)) ∧ Below W.heap.size W W') :
    Calls Tryd.prog 21 #[v, .func (.func 32) #[] #[.pointer (some ⟨gp, 0, none⟩)]] w fun e w' => (∃ r : Int, e = .returned (.int .i64 r) ∧ FndPost p l r) ∧ Below w.heap.size w w' := by
  obtain ⟨A, cap, rfl, hlc, hcm, -, hA⟩ := h
  have hn : l.length ≤ 9223372036854775807 := by unfold maxLen at hcm; omega
  have HA := Lib.hid hA
  have HC := Lib.hid hcl
  clear hcm hA hcl
  go_enter Tryd.func21, Tryd.ntmps21
  go_wp2_with fail
  go_loopw [4, 5, 8] (fun _ _ j wr => ∃ k : Nat, k ≤ l.length ∧ j = .int .i64 (k : Int) ∧ NoP p l k ∧ Below w.heap.size w wr) (fun _ _ j _ => l.length - (kOf j).toNat)
  case atStart => exact ⟨0, by omega, rfl, noP_zero, Below.refl _ _⟩
  case round =>
    obtain ⟨k, hk, rfl, hno, hB⟩ := hrel
    have HNO := Lib.hid hno
    have HB := Lib.hid hB
    have i0 : (0 : Int) ≤ (k : Int) := by omega
    clear hno hB
    by_cases hlt : k < l.length
    · have i1 : (k : Int) < (l.length : Int) := by omega
      have d0 : decide ((k : Int) < (l.length : Int)) = true := decide_eq_true i1
      have d0' : decide (k < l.length) = true := decide_eq_true hlt
      obtain ⟨b, off, rfl, hb, hcell⟩ := HA.out (by intro h; subst h; simp at hlt)
      obtain ⟨x, hx⟩ : ∃ x, l[k]? = some x := ⟨_, List.getElem?_eq_getElem hlt⟩
      have c0 : wr.cell? ⟨b, off + k * 7, none⟩ = some (.int .i64 x.e.idx) := by simpa using (HB.out.cell (p := ⟨b, off + k * 7 + 0, none⟩) hb).trans (hcell k x hx 0 _ rfl)
      have c1 : wr.cell? ⟨b, off + k * 7 + 1, none⟩ = some (.int .i64 x.e.trm) := by simpa using (HB.out.cell (p := ⟨b, off + k * 7 + 1, none⟩) hb).trans (hcell k x hx 1 _ rfl)
      have c2 : wr.cell? ⟨b, off + k * 7 + 2, none⟩ = some (.int .i64 x.e.knd) := by simpa using (HB.out.cell (p := ⟨b, off + k * 7 + 2, none⟩) hb).trans (hcell k x hx 2 _ rfl)
      have c3 : wr.cell? ⟨b, off + k * 7 + 3, none⟩ = some (.slice x.e.ba x.e.bd.length x.e.bc) := by simpa using (HB.out.cell (p := ⟨b, off + k * 7 + 3, none⟩) hb).trans (hcell k x hx 3 _ rfl)
      have c4 : wr.cell? ⟨b, off + k * 7 + 4, none⟩ = some (.int .i64 x.a.idx) := by simpa using (HB.out.cell (p := ⟨b, off + k * 7 + 4, none⟩) hb).trans (hcell k x hx 4 _ rfl)
      have c5 : wr.cell? ⟨b, off + k * 7 + 5, none⟩ = some (.int .i64 x.a.trm) := by simpa using (HB.out.cell (p := ⟨b, off + k * 7 + 5, none⟩) hb).trans (hcell k x hx 5 _ rfl)
      have c6 : wr.cell? ⟨b, off + k * 7 + 6, none⟩ = some (.int .i64 x.a.knd) := by simpa using (HB.out.cell (p := ⟨b, off + k * 7 + 6, none⟩) hb).trans (hcell k x hx 6 _ rfl)
      have HX := Lib.hid hx
      have HCX := Lib.hid (HC.out x (List.mem_of_getElem? hx) wr HB.out)
      clear hcell hx
      cases hp : p x with
      | true =>
        rw [hp] at HCX
        have HP := Lib.hid hp
        clear hp
        go_wp2_with (go_at_call 32; (with_reducible refine HCX.out.mono ?_); rintro e w2 ⟨rfl, hb2⟩)
        go_ret
        exact ⟨⟨_, rfl, fnd_yes HNO.out HX.out HP.out⟩, below_call HB.out hb2⟩
      | false =>
        rw [hp] at HCX
        have HP := Lib.hid hp
        clear hp
        go_wp2_with (go_at_call 32; (with_reducible refine HCX.out.mono ?_); rintro e w2 ⟨rfl, hb2⟩; have HB2 := Lib.hid (below_call HB.out hb2); clear hb2)
        go_roundw
        case rel => exact ⟨k + 1, by omega, by go_num, noP_step HNO.out HX.out HP.out, HB2.out⟩
        case measure => simp [kOf]; omega
    · have d0 : decide ((k : Int) < (l.length : Int)) = false := decide_eq_false (by omega)
      have d0' : decide (k < l.length) = false := decide_eq_false hlt
      have HF := Lib.hid (show NoP p l l.length by have h := HNO.out; rw [show k = l.length by omega] at h; exact h)
      go_wp2_with fail
      go_ret
      exact ⟨⟨_, rfl, fnd_no HF.out⟩, HB.out⟩

set_option maxHeartbeats 1000000 in
theorem recInContains (gp : Nat) (p : Rec → Bool) (l : List Rec) (v : Value) (w : World) (h : Sl 7 recRow w.heap.size w v l) (hcl : ∀ x ∈ l, ∀ W, Below w.heap.size w W → Calls Tryd.prog 32 #[.agg #[.int .i64 x.e.idx, .int .i64 x.e.trm, .int .i64 x.e.knd, .slice x.e.ba x.e.bd.length x.e.bc, .int .i64 x.a.idx, .int .i64 x.a.trm, .int .i64 x.a.knd], .pointer (some ⟨gp, 0, none⟩)] W fun e W' => e = .returned (.bool (p x)) ∧ Below W.heap.size W W') :
    Calls Tryd.prog 31 #[v, .func (.func 32) #[] #[.pointer (some ⟨gp, 0, none⟩)]] w fun e w' => e = .returned (.bool (l.any p)) ∧ Below w.heap.size w w' := by
  obtain ⟨c, hc⟩ : ∃ c, l.any p = c := ⟨_, rfl⟩
  have CC : Hid (Calls Tryd.prog 21 #[v, .func (.func 32) #[] #[.pointer (some ⟨gp, 0, none⟩)]] w fun e w' => (∃ r : Int, e = .returned (.int .i64 r) ∧ decide (0 ≤ r) = c) ∧ Below w.heap.size w w') :=
    (recInIndex gp p l v w h hcl).mono fun e w' ⟨⟨r, he, hr⟩, hb⟩ => ⟨⟨r, he, hr.any.trans hc⟩, hb⟩
  rw [hc]
  clear hc h hcl
  go_enter Tryd.func31, Tryd.ntmps31
  go_wp2_with (go_at_call 21; (with_reducible refine CC.out.mono ?_); rintro e w2 ⟨⟨r, rfl, hr⟩, hb2⟩)
  go_ret
  exact ⟨rfl, hb2⟩

set_option maxHeartbeats 1000000 in
theorem recAheadIndex (gp : Nat) (p : Rec → Bool) (l : List Rec) (v : Value) (w : World) (h : Sl 7 recRow w.heap.size w v l) (hcl : ∀ x ∈ l, ∀ W, Below w.heap.size w W → Calls Tryd.prog 33 #[.agg #[.int .i64 x.e.idx, .int .i64 x.e.trm, .int .i64 x.e.knd, .slice x.e.ba x.e.bd.length x.e.bc, .int .i64 x.a.idx, .int .i64 x.a.trm, .int .i64 x.a.knd], .pointer (some ⟨gp, 0, none⟩)] W fun e W' => e = .returned (.bool (p x)) ∧ Below W.heap.size W W') :
    Calls Tryd.prog 21 #[v, .func (.func 33) #[] #[.pointer (some ⟨gp, 0, none⟩)]] w fun e w' => (∃ r : Int, e = .returned (.int .i64 r) ∧ FndPost p l r) ∧ Below w.heap.size w w' := by
  obtain ⟨A, cap, rfl, hlc, hcm, -, hA⟩ := h
  have hn : l.length ≤ 9223372036854775807 := by unfold maxLen at hcm; omega
  have HA := Lib.hid hA
  have HC := Lib.hid hcl
  clear hcm hA hcl
  go_enter Tryd.func21, Tryd.ntmps21
  go_wp2_with fail
  go_loopw [4, 5, 8] (fun _ _ j wr => ∃ k : Nat, k ≤ l.length ∧ j = .int .i64 (k : Int) ∧ NoP p l k ∧ Below w.heap.size w wr) (fun _ _ j _ => l.length - (kOf j).toNat)
  case atStart => exact ⟨0, by omega, rfl, noP_zero, Below.refl _ _⟩
  case round =>
    obtain ⟨k, hk, rfl, hno, hB⟩ := hrel
    have HNO := Lib.hid hno
    have HB := Lib.hid hB
    have i0 : (0 : Int) ≤ (k : Int) := by omega
    clear hno hB
    by_cases hlt : k < l.length
    · have i1 : (k : Int) < (l.length : Int) := by omega
      have d0 : decide ((k : Int) < (l.length : Int)) = true := decide_eq_true i1
      have d0' : decide (k < l.length) = true := decide_eq_true hlt
      obtain ⟨b, off, rfl, hb, hcell⟩ := HA.out (by intro h; subst h; simp at hlt)
      obtain ⟨x, hx⟩ : ∃ x, l[k]? = some x := ⟨_, List.getElem?_eq_getElem hlt⟩
      have c0 : wr.cell? ⟨b, off + k * 7, none⟩ = some (.int .i64 x.e.idx) := by simpa using (HB.out.cell (p := ⟨b, off + k * 7 + 0, none⟩) hb).trans (hcell k x hx 0 _ rfl)
      have c1 : wr.cell? ⟨b, off + k * 7 + 1, none⟩ = some (.int .i64 x.e.trm) := by simpa using (HB.out.cell (p := ⟨b, off + k * 7 + 1, none⟩) hb).trans (hcell k x hx 1 _ rfl)
      have c2 : wr.cell? ⟨b, off + k * 7 + 2, none⟩ = some (.int .i64 x.e.knd) := by simpa using (HB.out.cell (p := ⟨b, off + k * 7 + 2, none⟩) hb).trans (hcell k x hx 2 _ rfl)
      have c3 : wr.cell? ⟨b, off + k * 7 + 3, none⟩ = some (.slice x.e.ba x.e.bd.length x.e.bc) := by simpa using (HB.out.cell (p := ⟨b, off + k * 7 + 3, none⟩) hb).trans (hcell k x hx 3 _ rfl)
      have c4 : wr.cell? ⟨b, off + k * 7 + 4, none⟩ = some (.int .i64 x.a.idx) := by simpa using (HB.out.cell (p := ⟨b, off + k * 7 + 4, none⟩) hb).trans (hcell k x hx 4 _ rfl)
      have c5 : wr.cell? ⟨b, off + k * 7 + 5, none⟩ = some (.int .i64 x.a.trm) := by simpa using (HB.out.cell (p := ⟨b, off + k * 7 + 5, none⟩) hb).trans (hcell k x hx 5 _ rfl)
      have c6 : wr.cell? ⟨b, off + k * 7 + 6, none⟩ = some (.int .i64 x.a.knd) := by simpa using (HB.out.cell (p := ⟨b, off + k * 7 + 6, none⟩) hb).trans (hcell k x hx 6 _ rfl)
      have HX := Lib.hid hx
      have HCX := Lib.hid (HC.out x (List.mem_of_getElem? hx) wr HB.out)
      clear hcell hx
      cases hp : p x with
      | true =>
        rw [hp] at HCX
        have HP := Lib.hid hp
        clear hp
        go_wp2_with (go_at_call 33; (with_reducible refine HCX.out.mono ?_); rintro e w2 ⟨rfl, hb2⟩)
        go_ret
        exact ⟨⟨_, rfl, fnd_yes HNO.out HX.out HP.out⟩, below_call HB.out hb2⟩
      | false =>
        rw [hp] at HCX
        have HP := Lib.hid hp
        clear hp
        go_wp2_with (go_at_call 33; (with_reducible refine HCX.out.mono ?_); rintro e w2 ⟨rfl, hb2⟩; have HB2 := Lib.hid (below_call HB.out hb2); clear hb2)
        go_roundw
        case rel => exact ⟨k + 1, by omega, by go_num, noP_step HNO.out HX.out HP.out, HB2.out⟩
        case measure => simp [kOf]; omega
    · have d0 : decide ((k : Int) < (l.length : Int)) = false := decide_eq_false (by omega)
      have d0' : decide (k < l.length) = false := decide_eq_false hlt
      have HF := Lib.hid (show NoP p l l.length by have h := HNO.out; rw [show k = l.length by omega] at h; exact h)
      go_wp2_with fail
      go_ret
      exact ⟨⟨_, rfl, fnd_no HF.out⟩, HB.out⟩

theorem Box.set3h {w : World} {n : Nat} {a b c : Value} {t : TypeId} (h : Box w n #[a, b, c] t) (x y z : Value) : Box (((w.setCell ⟨n, 0, none⟩ x).setCell ⟨n, 1, none⟩ y).setCell ⟨n, 2, none⟩ z) n #[x, y, z] t := ((h.set_ 0 x).set_ 1 y).set_ 2 z
set_option maxRecDepth 100000 in
set_option maxHeartbeats 8000000 in
theorem healLeft (rot : List Idt) (took : List Rec) (vr vl : Value) (w : World) (hr : Sl 3 idRow w.heap.size w vr rot) (hl : Sl 7 recRow w.heap.size w vl took) (hn : took.length ≤ 100000 ∧ rot.length ≤ 100000) :
    Calls Tryd.prog 13 #[vr, vl] w fun e w' => ∃ v', e = .returned v' ∧ Own 3 idRow 31 w.heap.size w' v' (leftV rot took) ∧ Below w.heap.size w w' := by
  have HL := Lib.hid hl
  obtain ⟨Al, cl, rfl, -, -, -, hAl⟩ := id hl
  obtain ⟨Aw, cw, rfl, hlc, hcm, -, hAw⟩ := id hr
  have HAL := Lib.hid hAl
  have HAW := Lib.hid hAw
  have hln : took.length ≤ 100000 := hn.1
  have hwn : rot.length ≤ 100000 := hn.2
  clear hl hr hAl hlc hcm hAw hn
  go_enter Tryd.func13, Tryd.ntmps13
  go_wp2_with fail
  go_loopw [4, 6, 7, 10] (fun o _ _ i wr => ∃ (k : Nat) (ov : Value), ov = o ∧ k ≤ rot.length ∧ i = .int .i64 (k : Int) ∧ Own 3 idRow 31 w.heap.size wr ov (leftV (rot.take k) took) ∧ Below w.heap.size w wr) (fun _ _ _ i _ => rot.length - (kOf i).toNat)
  case atStart => exact ⟨0, _, rfl, by omega, rfl, Own.nil_ _ _ _ _ _, Below.refl _ _⟩
  case round =>
    obtain ⟨k, ov, rfl, hk, rfl, ho, hB⟩ := hrel
    have HO := Lib.hid ho
    have HB := Lib.hid hB
    have hzr := hB.size
    have hll : (leftV (rot.take k) took).length ≤ 100000 := by have h1 := left_len (rot.take k) took; rw [List.length_take] at h1; omega
    have i0 : (0 : Int) ≤ (k : Int) := by omega
    clear ho hB
    by_cases hlt : k < rot.length
    · have i1 : (k : Int) < (rot.length : Int) := by omega
      have d0 : decide ((k : Int) < (rot.length : Int)) = true := decide_eq_true i1
      obtain ⟨bw, ow, rfl, hbw, hcell⟩ := HAW.out (by intro h; subst h; simp at hlt)
      obtain ⟨p, hp⟩ : ∃ p, rot[k]? = some p := ⟨_, List.getElem?_eq_getElem hlt⟩
      have c0 : wr.cell? ⟨bw, ow + k * 3, none⟩ = some (.int .i64 p.idx) := (HB.out.cell (p := ⟨bw, ow + k * 3 + 0, none⟩) hbw).trans (hcell k p hp 0 _ rfl)
      have c1 : wr.cell? ⟨bw, ow + k * 3 + 1, none⟩ = some (.int .i64 p.trm) := (HB.out.cell (p := ⟨bw, ow + k * 3 + 1, none⟩) hbw).trans (hcell k p hp 1 _ rfl)
      have c2 : wr.cell? ⟨bw, ow + k * 3 + 2, none⟩ = some (.int .i64 p.knd) := (HB.out.cell (p := ⟨bw, ow + k * 3 + 2, none⟩) hbw).trans (hcell k p hp 2 _ rfl)
      have HLT := Lib.hid (left_take (took := took) hp)
      have HXP := Lib.hid (Box.new wr #[.int .i64 p.idx, .int .i64 p.trm, .int .i64 p.knd] 31)
      have HBP := Lib.hid (below_new wr (.cells #[.int .i64 p.idx, .int .i64 p.trm, .int .i64 p.knd] 31))
      obtain ⟨W1, hW1⟩ : ∃ q, q = wr.alloc (.cells #[.int .i64 p.idx, .int .i64 p.trm, .int .i64 p.knd] 31) := ⟨_, rfl⟩
      obtain ⟨gp, hgp⟩ : ∃ q, q = wr.heap.size := ⟨_, rfl⟩
      have HE := Lib.hid hW1
      have HE2 := Lib.hid hgp
      have hgl : wr.heap.size ≤ gp := by omega
      rw [← hW1] at HXP HBP
      rw [← hgp] at HXP
      have HO1 := Lib.hid (HO.out.later HBP.out)
      have HB1 := Lib.hid (HB.out.trans (HBP.out.mono hzr))
      have hz1 := HB1.out.size
      have CI := Lib.hid (recInContains gp (fun r => decide (r.e.idx = p.idx)) took _ W1 (HL.out.later HB1.out) (fun x hx V hV => leftIn gp p x V (HXP.out.later hV)))
      clear hcell hp hW1 hgp
      go_upto_region 4 with fail
      rw [← HE.out, ← HE2.out]
      clear c0 c1 c2
      obtain ⟨b0, hb0⟩ : ∃ b0, took.any (fun r => decide (r.e.idx = p.idx)) = b0 := ⟨_, rfl⟩
      have HB0 := Lib.hid (show isIn took p = b0 from hb0)
      rw [hb0] at CI
      clear hb0
      by_cases hbt : b0 = true
      · subst hbt
        have HLN := Lib.hid (show leftV (rot.take (k + 1)) took = leftV (rot.take k) took by rw [HLT.out, HB0.out]; simp)
        go_wp2_with (go_at_call 31; (with_reducible refine CI.out.mono ?_); rintro e w2 ⟨rfl, hb2⟩; have HB2 := Lib.hid (HB1.out.trans (hb2.mono hz1)); have HO2 := Lib.hid (HO1.out.later hb2); clear hb2)
        go_roundw
        case rel => exact ⟨k + 1, _, rfl, by omega, by go_num, by rw [HLN.out]; exact HO2.out, HB2.out⟩
        case measure => first | (simp [kOf]; done) | (simp [kOf]; omega)
      · obtain rfl : b0 = false := by simpa using hbt
        clear hbt
        have HLN := Lib.hid (show leftV (rot.take (k + 1)) took = leftV (rot.take k) took ++ [turnI took p] by rw [HLT.out, HB0.out]; simp)
        go_upto_region 5 with (go_at_call 31; (with_reducible refine CI.out.mono ?_); rintro e w2 ⟨rfl, hb2⟩; have HB2 := Lib.hid (HB1.out.trans (hb2.mono hz1)); have HO2 := Lib.hid (HO1.out.later hb2); have HX2 := Lib.hid (HXP.out.later hb2); have HP2 := Lib.hid (HBP.out.trans (hb2.mono (by have := HBP.out.size; omega))); clear hb2)
        obtain ⟨kp, fp, zp⟩ := HX2.out.facts
        have hz2 := HB2.out.size
        by_cases hkd : p.knd = 0
        · have e1 : (p.knd == 0) = true := by simpa using hkd
          have CJ := Lib.hid (recAheadIndex gp (aheadP p) took _ w2 (HL.out.later HB2.out) (fun x hx V hV => leftAhead gp p x V (HX2.out.later hV)))
          have HKD := Lib.hid hkd
          clear hkd
          go_upto_region 7 with (go_at_call 21; (with_reducible refine CJ.out.mono ?_); rintro e w3 ⟨⟨r, rfl, hq⟩, hb3⟩; have HB3 := Lib.hid (HB2.out.trans (hb3.mono hz2)); have HO3 := Lib.hid (HO2.out.later hb3); have HX3 := Lib.hid (HX2.out.later hb3); clear hb3)
          clear kp fp zp
          have hz3 := HB3.out.size
          rcases hq with ⟨rfl, hq⟩ | ⟨k0, x, rfl, hx, -, hq, -⟩
          · have HT := Lib.hid (show turnI took p = p by unfold turnI; rw [if_pos HKD.out]; unfold aheadOf; rw [show (took.find? fun r => decide (r.a.idx = p.idx) && !decide (r.a.knd = 0)) = none from hq])
            have d2 : decide ((0 : Int) ≤ -1) = false := rfl
            obtain ⟨kp, fp, zp⟩ := HX3.out.facts
            clear hq
            go_wp2_with (at_builtin; refine wpList_append_row _ rfl (.tmp 30) (.tmp 32) 22 rfl w.heap.size 31 _ 3 24 Tryd.underlying22 idtInfo rfl (Nat.succ_pos 2) idRow idRow_length idRow_one _ _ rfl HO3.out (p) _ rfl 31 _ rfl rfl (by omega) (by omega) hz3 ?_; intro v' w' p1 p2 p3 p4 p5; have P1 := Lib.hid p1; have P2 := Lib.hid p2; clear p1 p2 p3 p4 p5)
            go_roundw
            case rel => exact ⟨k + 1, _, rfl, by omega, by go_num, by rw [HLN.out, HT.out]; exact P1.out, HB3.out.trans P2.out⟩
            case measure => first | (simp [kOf]; done) | (simp [kOf]; omega)
          · have HT := Lib.hid (show turnI took p = x.a by unfold turnI; rw [if_pos HKD.out]; unfold aheadOf; rw [show (took.find? fun r => decide (r.a.idx = p.idx) && !decide (r.a.knd = 0)) = some x from hq])
            have d2 : decide ((0 : Int) ≤ (k0 : Int)) = true := decide_eq_true (by omega)
            have hk0 := (List.getElem?_eq_some_iff.1 hx).1
            have j0 : (0 : Int) ≤ (k0 : Int) := by omega
            have j1 : (k0 : Int) < (took.length : Int) := by omega
            obtain ⟨bl, ol, rfl, hbl, hcell⟩ := HAL.out (by intro h; subst h; simp at hk0)
            have c4 : w3.cell? ⟨bl, ol + k0 * 7 + 4, none⟩ = some (.int .i64 x.a.idx) := (HB3.out.cell (p := ⟨bl, ol + k0 * 7 + 4, none⟩) hbl).trans (hcell k0 x hx 4 _ rfl)
            have c5 : w3.cell? ⟨bl, ol + k0 * 7 + 5, none⟩ = some (.int .i64 x.a.trm) := (HB3.out.cell (p := ⟨bl, ol + k0 * 7 + 5, none⟩) hbl).trans (hcell k0 x hx 5 _ rfl)
            have c6 : w3.cell? ⟨bl, ol + k0 * 7 + 6, none⟩ = some (.int .i64 x.a.knd) := (HB3.out.cell (p := ⟨bl, ol + k0 * 7 + 6, none⟩) hbl).trans (hcell k0 x hx 6 _ rfl)
            obtain ⟨kp, fp, zp⟩ := HX3.out.facts
            have HX4 := Lib.hid (HX3.out.set3h (.int .i64 x.a.idx) (.int .i64 x.a.trm) (.int .i64 x.a.knd))
            have HB4 := Lib.hid (below_set (i := 2) (u := .int .i64 x.a.knd) (below_set (i := 1) (u := .int .i64 x.a.trm) (below_set (i := 0) (u := .int .i64 x.a.idx) HB3.out (n := gp) (by omega)) (n := gp) (by omega)) (n := gp) (by omega))
            have hgo : ∀ q, ov.ownBlock = some q → q ≠ gp := fun q hq => by have := (HO.out.block hq).2; omega
            have HO4 := Lib.hid (show Own 3 idRow 31 w.heap.size (((w3.setCell ⟨gp, 0, none⟩ (.int .i64 x.a.idx)).setCell ⟨gp, 1, none⟩ (.int .i64 x.a.trm)).setCell ⟨gp, 2, none⟩ (.int .i64 x.a.knd)) ov (leftV (rot.take k) took) from HO3.out.stay fun q hq => by
              rw [Below.heap_setCell _ ⟨gp, 2, none⟩ _ q (hgo q hq), Below.heap_setCell _ ⟨gp, 1, none⟩ _ q (hgo q hq), Below.heap_setCell _ ⟨gp, 0, none⟩ _ q (hgo q hq)])
            clear hq hx hcell hgo
            go_upto_region 9 with fail
            obtain ⟨W4, hW4⟩ : ∃ q, q = ((w3.setCell ⟨gp, 0, none⟩ (.int .i64 x.a.idx)).setCell ⟨gp, 1, none⟩ (.int .i64 x.a.trm)).setCell ⟨gp, 2, none⟩ (.int .i64 x.a.knd) := ⟨_, rfl⟩
            rw [← hW4] at HX4 HB4 HO4
            rw [← hW4]
            clear hW4 kp fp zp c4 c5 c6
            have hz4 := HB4.out.size
            obtain ⟨kp, fp, zp⟩ := HX4.out.facts
            go_wp2_with (at_builtin; refine wpList_append_row _ rfl (.tmp 30) (.tmp 32) 22 rfl w.heap.size 31 _ 3 24 Tryd.underlying22 idtInfo rfl (Nat.succ_pos 2) idRow idRow_length idRow_one _ _ rfl HO4.out (x.a) _ rfl 31 _ rfl rfl (by omega) (by omega) hz4 ?_; intro v' w' p1 p2 p3 p4 p5; have P1 := Lib.hid p1; have P2 := Lib.hid p2; clear p1 p2 p3 p4 p5)
            go_roundw
            case rel => exact ⟨k + 1, _, rfl, by omega, by go_num, by rw [HLN.out, HT.out]; exact P1.out, HB4.out.trans P2.out⟩
            case measure => first | (simp [kOf]; done) | (simp [kOf]; omega)
        · have e1 : (p.knd == 0) = false := by simpa using hkd
          have HT := Lib.hid (show turnI took p = p by unfold turnI; rw [if_neg hkd])
          clear hkd
          go_wp2_with (at_builtin; refine wpList_append_row _ rfl (.tmp 30) (.tmp 32) 22 rfl w.heap.size 31 _ 3 24 Tryd.underlying22 idtInfo rfl (Nat.succ_pos 2) idRow idRow_length idRow_one _ _ rfl HO2.out (p) _ rfl 31 _ rfl rfl (by omega) (by omega) hz2 ?_; intro v' w' p1 p2 p3 p4 p5; have P1 := Lib.hid p1; have P2 := Lib.hid p2; clear p1 p2 p3 p4 p5)
          go_roundw
          case rel => exact ⟨k + 1, _, rfl, by omega, by go_num, by rw [HLN.out, HT.out]; exact P1.out, HB2.out.trans P2.out⟩
          case measure => first | (simp [kOf]; done) | (simp [kOf]; omega)
    · have d0 : decide ((k : Int) < (rot.length : Int)) = false := decide_eq_false (by omega)
      have hke : k = rot.length := by omega
      have HF := Lib.hid (show Own 3 idRow 31 w.heap.size wr ov (leftV rot took) by have h := HO.out; rw [hke, List.take_length] at h; exact h)
      clear hke
      go_wp2_with fail
      go_ret
      exact ⟨ov, rfl, HF.out, HB.out⟩
end Go.Proofs.YtglkgmijhdkhpaaDoor
