/-
  WardKeeps: whatever the ward, the wants, the blocks: true.
-/
import Derived.Test.YtnmlmnhgjnkbhaaWardAwake
import Derived.Test.YtnmlmnhgjnkbhaaWardFind
set_option linter.unusedVariables false
set_option linter.unusedSimpArgs false
namespace Go.Proofs.Ytnmlmnhgjnkbhaa
open Go.RowKit

theorem addL_mem {l more : List Wnt} (hl : rightW l = true) {x : Wnt} (h : x ∈ addL l more) : x ∈ l ∨ x ∈ more := by
  have hr := (withs_ris more l (rightW_iff.1 hl).1).1
  have hf := (findW_ris hr (n := x.blk) (x := x)).2 ⟨h, rfl⟩
  have hf2 : findW (addL l more) x.blk = some x := hf
  rw [find_add hl] at hf2
  rcases putF_from more hf2 with h1 | ⟨h1, -⟩
  · exact .inl (findW_blk h1).2
  · exact .inr h1
theorem findR_some {l : List Wnt} {n : Int} {x : Wnt} (hl : rightW l = true) (h : findW l n = some x) : findR l n = (x, 0) := by unfold findR; rw [hl, h]; rfl
theorem findR_none {l : List Wnt} {n : Int} (hl : rightW l = true) (h : findW l n = none) : findR l n = (⟨0, 0, 0⟩, 7) := by unfold findR; rw [hl, h]; rfl
theorem findR_two {l : List Wnt} {n : Int} (hl : rightW l = true) : (findR l n).1 = (findW l n).getD ⟨0, 0, 0⟩ ∧ ((findR l n).2 == 0) = (findW l n).isSome := by
  cases h : findW l n with
  | none => rw [findR_none hl h]; exact ⟨rfl, rfl⟩
  | some x => rw [findR_some hl h]; exact ⟨rfl, rfl⟩
theorem putF_step {f : WMap} {more : List Wnt} {k : Nat} {x : Wnt} (hx : more[k]? = some x) (b : Int) : putF f (more.take (k + 1)) b = if x.blk = b then some x else putF f (more.take k) b := by
  rw [put_step hx]
  by_cases h : x.blk = b
  · rw [if_pos h, if_pos h.symm]
  · rw [if_neg h, if_neg (fun e => h e.symm)]
def wntA (x : Wnt) : Array Value := #[.int .i64 x.blk, .int .i64 x.knd, .int .i64 x.num]

set_option maxRecDepth 100000 in
set_option maxHeartbeats 2000000 in
theorem keeps_big (l more : List Wnt) (bs : List Int) (vl vm vt : Value) (n : Int) (w : World) (hl : Sl 3 wntRow w.heap.size w vl l) (hm : Sl 3 wntRow w.heap.size w vm more) (ht : Sl 1 i64Row w.heap.size w vt bs) (zl : l.length ≤ 140737488351232) (zm : more.length ≤ 140737488351232) (zt : bs.length ≤ 140737488351232) (hbig : 400 < l.length + more.length + bs.length) :
    Calls Try.prog 5 #[vl, vm, vt, .int .i64 n] w fun e w' => e = .returned (.bool true) ∧ Below w.heap.size w w' := by
  obtain ⟨Al, cl, rfl, -⟩ := hl
  obtain ⟨Am, cm, rfl, -⟩ := hm
  obtain ⟨At, ct, rfl, -⟩ := ht
  have hb : (400 : Int) < (l.length : Int) + (more.length : Int) + (bs.length : Int) := by omega
  go_enter Try.func5, Try.ntmps5
  go_wp2_with (go_at_call 6; (with_reducible refine (awake12 _).mono ?_); rintro e w' ⟨rfl, hb1⟩)
  go_ret
  exact ⟨rfl, hb1⟩

set_option maxRecDepth 100000 in
set_option maxHeartbeats 2000000 in
theorem keeps_wrong (l more : List Wnt) (bs : List Int) (vl vm vt : Value) (n : Int) (w : World) (hl : Sl 3 wntRow w.heap.size w vl l) (hm : Sl 3 wntRow w.heap.size w vm more) (ht : Sl 1 i64Row w.heap.size w vt bs) (hs : l.length + more.length + bs.length ≤ 400) (hr : rightW l = false) :
    Calls Try.prog 5 #[vl, vm, vt, .int .i64 n] w fun e w' => e = .returned (.bool true) ∧ Below w.heap.size w w' := by
  have HL := Lib.hid hl
  have HC : Hid (∀ w1, Below w.heap.size w w1 → Calls Try.prog 16 #[vl] w1 fun e w' => e = .returned (.bool false) ∧ Below w1.heap.size w1 w') := fun w1 hb => by
    have h := wardRight l vl w1 (HL.out.later hb)
    rw [hr] at h; exact h
  obtain ⟨Al, cl, rfl, -⟩ := hl
  obtain ⟨Am, cm, rfl, -⟩ := hm
  obtain ⟨At, ct, rfl, -⟩ := ht
  have hb : (l.length : Int) + (more.length : Int) + (bs.length : Int) ≤ 400 := by omega
  clear hr
  go_enter Try.func5, Try.ntmps5
  go_wp2_with (first
    | (go_at_call 6; (with_reducible refine (awake12 _).mono ?_); rintro e w1 ⟨rfl, hb1⟩; have HB1 := Lib.hid hb1; clear hb1)
    | (go_at_call 16; (with_reducible refine (HC.out _ HB1.out).mono ?_); rintro e w2 ⟨rfl, hb2⟩))
  go_ret
  exact ⟨rfl, below_call HB1.out hb2⟩

set_option maxRecDepth 100000 in
set_option maxHeartbeats 8000000 in
theorem keeps_low (l more : List Wnt) (bs : List Int) (vl vm vt : Value) (n : Int) (w : World) (hl : Sl 3 wntRow w.heap.size w vl l) (hm : Sl 3 wntRow w.heap.size w vm more) (ht : Sl 1 i64Row w.heap.size w vt bs) (jl : ∀ x ∈ l, J64 x.blk) (jm : ∀ x ∈ more, J64 x.blk) (jt : ∀ x ∈ bs, J64 x) (jn : J64 n) (hs : l.length + more.length + bs.length ≤ 400) (hr : rightW l = true) (hlow : lowW more = true) :
    Calls Try.prog 5 #[vl, vm, vt, .int .i64 n] w fun e w' => e = .returned (.bool true) ∧ Below w.heap.size w w' := by
  have HL := Lib.hid hl
  have HM := Lib.hid hm
  have HT := Lib.hid ht
  have JL := Lib.hid jl
  have JM := Lib.hid jm
  have JT := Lib.hid jt
  have HJN := Lib.hid jn
  have HR := Lib.hid hr
  have HLOW := Lib.hid hlow
  have HC : Hid (∀ w1, Below w.heap.size w w1 → Calls Try.prog 16 #[vl] w1 fun e w' => e = .returned (.bool true) ∧ Below w1.heap.size w1 w') := fun w1 hb => by
    have h := wardRight l vl w1 (HL.out.later hb)
    rw [HR.out] at h; exact h
  obtain ⟨y, m, hym⟩ : ∃ y m, findR l n = (y, m) := ⟨_, _, rfl⟩
  have HYM := Lib.hid hym
  have HC2 : Hid (∀ w1, Below w.heap.size w w1 → Calls Try.prog 20 #[vl, .int .i64 n] w1 fun e w' => e = .returned (.tuple #[.agg #[.int .i64 y.blk, .int .i64 y.knd, .int .i64 y.num], .int .i64 m]) ∧ Below w1.heap.size w1 w') := fun w1 hb => by
    have h := wardFind l vl n w1 (HL.out.later hb) JL.out (by omega) HJN.out
    rw [HYM.out] at h; exact h
  have HC3 : Hid (∀ w1, Below w.heap.size w w1 → Calls Try.prog 8 #[vl, vm] w1 fun e w' => ∃ A c, e = .returned (.tuple #[.slice A 0 c, .int .i64 2]) ∧ Own 3 wntRow 41 w1.heap.size w' (.slice A 0 c) [] ∧ Below w1.heap.size w1 w') := fun w1 hb => by
    refine (wardAdd l more vl vm w1 (HL.out.later hb) (HM.out.later hb) JL.out JM.out (by omega)).mono ?_
    rintro e w' ⟨v, he, ho, hb'⟩
    have hk : addOk l more = !true := by unfold addOk; rw [HR.out, HLOW.out]; rfl
    have hv : addV l more = [] := by unfold addV; rw [hk]; rfl
    rw [hv] at ho
    obtain ⟨A, c, rfl⟩ := ho.len
    exact ⟨A, c, by rw [he, hk]; rfl, ho, hb'⟩
  obtain ⟨Al, cl, rfl, -⟩ := hl
  obtain ⟨Am, cm, rfl, hlcm, hcmm, -, hA⟩ := hm
  obtain ⟨At, ct, rfl, hlct, hcmt, -, hAt⟩ := ht
  have HA := Lib.hid hA
  have HAT := Lib.hid hAt
  have hmn : more.length ≤ 400 := by omega
  have htn : bs.length ≤ 400 := by omega
  have hb : (l.length : Int) + (more.length : Int) + (bs.length : Int) ≤ 400 := by omega
  clear hr hlow hym jl jm jt jn hlcm hcmm hlct hcmt hA hAt
  go_enter Try.func5, Try.ntmps5
  go_wp2_with (first
    | (go_at_call 6; (with_reducible refine (awake12 _).mono ?_); rintro e w1 ⟨rfl, hb1⟩; have HB1 := Lib.hid hb1; clear hb1)
    | (go_at_call 16; (with_reducible refine (HC.out _ HB1.out).mono ?_); rintro e w2 ⟨rfl, hb2⟩; have HB2 := Lib.hid (below_call HB1.out hb2); clear hb2)
    | (go_at_call 20; (with_reducible refine (HC2.out _ HB2.out).mono ?_); rintro e w3 ⟨rfl, hb3⟩; have HB3 := Lib.hid (below_call (below_call HB2.out hb3) (below_new w3 (.cells #[.int .i64 y.blk, .int .i64 y.knd, .int .i64 y.num] 41))); have HX3 := Lib.hid (Box.new w3 #[.int .i64 y.blk, .int .i64 y.knd, .int .i64 y.num] 41); clear hb3)
    | (go_at_call 8; (with_reducible refine (HC3.out _ HB3.out).mono ?_); rintro e w5 ⟨Aa, ca, rfl, ho5, hb5⟩; have HOA5 := Lib.hid (ho5.less HB3.out.size); have HB5 := Lib.hid (below_call HB3.out hb5); obtain ⟨kx, fx, zx⟩ := (HX3.out.later hb5).facts; clear ho5 hb5))
  clear HC HC2 HC3 kx fx zx HB1 HB2 HB3 HX3
  have HG := Lib.hid HB5.out.size
  have HB0 := Lib.hid (below_call HB5.out (below_new w5 (.cells #[.int .i64 y.blk, .int .i64 y.knd, .int .i64 y.num] 41)))
  have HX6 := Lib.hid (Box.new w5 #[.int .i64 y.blk, .int .i64 y.knd, .int .i64 y.num] 41)
  have HOA := Lib.hid (HOA5.out.alloc (.cells #[.int .i64 y.blk, .int .i64 y.knd, .int .i64 y.num] 41))
  have HOA5 : Hid (∀ x, (Value.slice Aa 0 ca).ownBlock = some x → x < w5.heap.size) := fun x hx => (HOA5.out.block hx).2
  obtain ⟨g, hg⟩ : ∃ z, z = w5.heap.size := ⟨_, rfl⟩
  obtain ⟨W6, hW6⟩ : ∃ z, z = w5.alloc (.cells #[.int .i64 y.blk, .int .i64 y.knd, .int .i64 y.num] 41) := ⟨_, rfl⟩
  have hgb : w5.heap.size = g := hg.symm
  rw [← hg] at HG HX6 HOA5
  rw [← hW6] at HX6 HB0 HOA
  rw [← hW6, ← hg]
  clear hW6 hg hgb HB5
  go_loopw [13, 15, 16] (fun b f i wr => ∃ (k : Nat) (bb fb : Bool), k ≤ more.length ∧ b = .bool bb ∧ f = .bool fb ∧ i = .int .i64 (k : Int) ∧ bb = lowW (more.take k) ∧ fb = (putF (findW l) (more.take k) n).isSome ∧ Box wr g (wntA ((putF (findW l) (more.take k) n).getD ⟨0, 0, 0⟩)) 41 ∧ But g W6 wr) (fun _ _ i _ => more.length - (kOf i).toNat)
  case atStart =>
    have h2 := findR_two (n := n) HR.out
    rw [HYM.out] at h2
    exact ⟨0, _, _, by omega, rfl, rfl, rfl, rfl, h2.2, by have h := HX6.out; have e1 : y = (findW l n).getD ⟨0, 0, 0⟩ := h2.1; rw [e1] at h; exact h, But.refl _ _⟩
  case round =>
    clear HX6
    obtain ⟨k, bb, fb, hk, rfl, rfl, rfl, hbb, hfb, hx, hB⟩ := hrel
    have HBB := Lib.hid hbb
    have HFB := Lib.hid hfb
    have HX := Lib.hid hx
    have HBR := Lib.hid hB
    have i0 : (0 : Int) ≤ (k : Int) := by omega
    clear hbb hfb hx hB
    by_cases hlt : k < more.length
    · have i1 : (k : Int) < (more.length : Int) := by omega
      have d0 : decide ((k : Int) < (more.length : Int)) = true := decide_eq_true i1
      have d0' : decide (k < more.length) = true := decide_eq_true hlt
      obtain ⟨b, off, rfl, hb2, hcell⟩ := HA.out (by intro h; subst h; simp at hlt)
      obtain ⟨x, hx⟩ : ∃ x, more[k]? = some x := ⟨_, List.getElem?_eq_getElem hlt⟩
      have HBw := Lib.hid (HB0.out.trans (HBR.out.below HG.out (HB0.out.size)))
      have c0 : wr.cell? ⟨b, off + k * 3, none⟩ = some (.int .i64 x.blk) := (HBw.out.cell (p := ⟨b, off + k * 3 + 0, none⟩) hb2).trans (hcell k x hx 0 _ rfl)
      have c1 : wr.cell? ⟨b, off + k * 3 + 1, none⟩ = some (.int .i64 x.knd) := (HBw.out.cell (p := ⟨b, off + k * 3 + 1, none⟩) hb2).trans (hcell k x hx 1 _ rfl)
      have c2 : wr.cell? ⟨b, off + k * 3 + 2, none⟩ = some (.int .i64 x.num) := (HBw.out.cell (p := ⟨b, off + k * 3 + 2, none⟩) hb2).trans (hcell k x hx 2 _ rfl)
      have HLS := Lib.hid (low_step hx)
      have HPS := Lib.hid (putF_step (f := findW l) hx n)
      obtain ⟨q, hq⟩ : ∃ q, (putF (findW l) (more.take k) n).getD ⟨0, 0, 0⟩ = q := ⟨_, rfl⟩
      have HXL := Lib.hid (show Box wr g #[.int .i64 q.blk, .int .i64 q.knd, .int .i64 q.num] 41 from by have h := HX.out; rw [hq] at h; exact h)
      obtain ⟨kx, fx, zx⟩ := HXL.out.facts
      clear hcell hx HBw hq
      by_cases hxn : x.blk = n
      · have e1 : (x.blk == n) = true := by simpa using hxn
        have HP1 := Lib.hid (show putF (findW l) (more.take (k + 1)) n = some x by rw [HPS.out, if_pos hxn])
        have HXS := Lib.hid (Box.set3w HXL.out (.int .i64 x.blk) (.int .i64 x.knd) (.int .i64 x.num))
        have HBS := Lib.hid (((HBR.out.trans (But.set_ (o := 0) (u := .int .i64 x.blk) wr)).trans (But.set_ (o := 1) (u := .int .i64 x.knd) _)).trans (But.set_ (o := 2) (u := .int .i64 x.num) _))
        clear hxn HPS
        by_cases hbt : bb = true
        · subst hbt
          go_wp2_with fail
          go_roundw
          case rel => exact ⟨k + 1, _, _, by omega, rfl, rfl, by go_num, by rw [HLS.out, ← HBB.out]; rfl, by rw [HP1.out]; rfl, by rw [HP1.out]; exact HXS.out, HBS.out⟩
          case measure => simp [kOf]; omega
        · obtain rfl : bb = false := by simpa using hbt
          clear hbt
          go_wp2_with fail
          go_roundw
          case rel => exact ⟨k + 1, _, _, by omega, rfl, rfl, by go_num, by rw [HLS.out, ← HBB.out]; rfl, by rw [HP1.out]; rfl, by rw [HP1.out]; exact HXS.out, HBS.out⟩
          case measure => simp [kOf]; omega
      · have e1 : (x.blk == n) = false := by simpa using hxn
        have HP1 := Lib.hid (show putF (findW l) (more.take (k + 1)) n = putF (findW l) (more.take k) n by rw [HPS.out, if_neg hxn])
        clear hxn HPS
        by_cases hbt : bb = true
        · subst hbt
          go_wp2_with fail
          go_roundw
          case rel => exact ⟨k + 1, _, _, by omega, rfl, rfl, by go_num, by rw [HLS.out, ← HBB.out]; rfl, by rw [HP1.out]; exact HFB.out, by rw [HP1.out]; exact HX.out, HBR.out⟩
          case measure => simp [kOf]; omega
        · obtain rfl : bb = false := by simpa using hbt
          clear hbt
          go_wp2_with fail
          go_roundw
          case rel => exact ⟨k + 1, _, _, by omega, rfl, rfl, by go_num, by rw [HLS.out, ← HBB.out]; rfl, by rw [HP1.out]; exact HFB.out, by rw [HP1.out]; exact HX.out, HBR.out⟩
          case measure => simp [kOf]; omega
    · have d0 : decide ((k : Int) < (more.length : Int)) = false := decide_eq_false (by omega)
      have d0' : decide (k < more.length) = false := decide_eq_false hlt
      have hke : k = more.length := by omega
      obtain rfl : bb = true := by have h := HBB.out; rw [hke, List.take_length] at h; rw [h]; exact HLOW.out
      clear hke
      go_wp2_with fail
      go_ret
      exact ⟨rfl, HB0.out.trans (HBR.out.below HG.out (HB0.out.size))⟩

set_option maxRecDepth 100000 in
set_option maxHeartbeats 8000000 in
theorem keeps_ok (l more : List Wnt) (bs : List Int) (vl vm vt : Value) (n : Int) (w : World) (hl : Sl 3 wntRow w.heap.size w vl l) (hm : Sl 3 wntRow w.heap.size w vm more) (ht : Sl 1 i64Row w.heap.size w vt bs) (jl : ∀ x ∈ l, J64 x.blk) (jm : ∀ x ∈ more, J64 x.blk) (jt : ∀ x ∈ bs, J64 x) (jn : J64 n) (hs : l.length + more.length + bs.length ≤ 400) (hr : rightW l = true) (hlow : lowW more = false) :
    Calls Try.prog 5 #[vl, vm, vt, .int .i64 n] w fun e w' => e = .returned (.bool true) ∧ Below w.heap.size w w' := by
  have HL := Lib.hid hl
  have HM := Lib.hid hm
  have HT := Lib.hid ht
  have JL := Lib.hid jl
  have JM := Lib.hid jm
  have JT := Lib.hid jt
  have HJN := Lib.hid jn
  have HR := Lib.hid hr
  have HLOW := Lib.hid hlow
  have HC : Hid (∀ w1, Below w.heap.size w w1 → Calls Try.prog 16 #[vl] w1 fun e w' => e = .returned (.bool true) ∧ Below w1.heap.size w1 w') := fun w1 hb => by
    have h := wardRight l vl w1 (HL.out.later hb)
    rw [HR.out] at h; exact h
  obtain ⟨y, m, hym⟩ : ∃ y m, findR l n = (y, m) := ⟨_, _, rfl⟩
  have HYM := Lib.hid hym
  have HC2 : Hid (∀ w1, Below w.heap.size w w1 → Calls Try.prog 20 #[vl, .int .i64 n] w1 fun e w' => e = .returned (.tuple #[.agg #[.int .i64 y.blk, .int .i64 y.knd, .int .i64 y.num], .int .i64 m]) ∧ Below w1.heap.size w1 w') := fun w1 hb => by
    have h := wardFind l vl n w1 (HL.out.later hb) JL.out (by omega) HJN.out
    rw [HYM.out] at h; exact h
  have HC3 : Hid (∀ w1, Below w.heap.size w w1 → Calls Try.prog 8 #[vl, vm] w1 fun e w' => ∃ A c, e = .returned (.tuple #[.slice A (addL l more).length c, .int .i64 0]) ∧ Own 3 wntRow 41 w1.heap.size w' (.slice A (addL l more).length c) (addL l more) ∧ Below w1.heap.size w1 w') := fun w1 hb => by
    refine (wardAdd l more vl vm w1 (HL.out.later hb) (HM.out.later hb) JL.out JM.out (by omega)).mono ?_
    rintro e w' ⟨v, he, ho, hb'⟩
    have hk : addOk l more = !false := by unfold addOk; rw [HR.out, HLOW.out]; rfl
    have hv : addV l more = (addL l more) := by unfold addV; rw [hk]; rfl
    rw [hv] at ho
    obtain ⟨A, c, rfl⟩ := ho.len
    exact ⟨A, c, by rw [he, hk]; rfl, ho, hb'⟩
  obtain ⟨Al, cl, rfl, -⟩ := hl
  obtain ⟨Am, cm, rfl, hlcm, hcmm, -, hA⟩ := hm
  obtain ⟨At, ct, rfl, hlct, hcmt, -, hAt⟩ := ht
  have HA := Lib.hid hA
  have HAT := Lib.hid hAt
  have hmn : more.length ≤ 400 := by omega
  have htn : bs.length ≤ 400 := by omega
  have hb : (l.length : Int) + (more.length : Int) + (bs.length : Int) ≤ 400 := by omega
  clear hr hlow hym jl jm jt jn hlcm hcmm hlct hcmt hA hAt
  go_enter Try.func5, Try.ntmps5
  go_wp2_with (first
    | (go_at_call 6; (with_reducible refine (awake12 _).mono ?_); rintro e w1 ⟨rfl, hb1⟩; have HB1 := Lib.hid hb1; clear hb1)
    | (go_at_call 16; (with_reducible refine (HC.out _ HB1.out).mono ?_); rintro e w2 ⟨rfl, hb2⟩; have HB2 := Lib.hid (below_call HB1.out hb2); clear hb2)
    | (go_at_call 20; (with_reducible refine (HC2.out _ HB2.out).mono ?_); rintro e w3 ⟨rfl, hb3⟩; have HB3 := Lib.hid (below_call (below_call HB2.out hb3) (below_new w3 (.cells #[.int .i64 y.blk, .int .i64 y.knd, .int .i64 y.num] 41))); have HX3 := Lib.hid (Box.new w3 #[.int .i64 y.blk, .int .i64 y.knd, .int .i64 y.num] 41); clear hb3)
    | (go_at_call 8; (with_reducible refine (HC3.out _ HB3.out).mono ?_); rintro e w5 ⟨Aa, ca, rfl, ho5, hb5⟩; have HOA5 := Lib.hid (ho5.less HB3.out.size); have HB5 := Lib.hid (below_call HB3.out hb5); obtain ⟨kx, fx, zx⟩ := (HX3.out.later hb5).facts; clear ho5 hb5))
  clear HC HC2 HC3 kx fx zx HB1 HB2 HB3 HX3
  have HG := Lib.hid HB5.out.size
  have HB0 := Lib.hid (below_call HB5.out (below_new w5 (.cells #[.int .i64 y.blk, .int .i64 y.knd, .int .i64 y.num] 41)))
  have HX6 := Lib.hid (Box.new w5 #[.int .i64 y.blk, .int .i64 y.knd, .int .i64 y.num] 41)
  have HOA := Lib.hid (HOA5.out.alloc (.cells #[.int .i64 y.blk, .int .i64 y.knd, .int .i64 y.num] 41))
  have HOA5 : Hid (∀ x, (Value.slice Aa (addL l more).length ca).ownBlock = some x → x < w5.heap.size) := fun x hx => (HOA5.out.block hx).2
  obtain ⟨g, hg⟩ : ∃ z, z = w5.heap.size := ⟨_, rfl⟩
  obtain ⟨W6, hW6⟩ : ∃ z, z = w5.alloc (.cells #[.int .i64 y.blk, .int .i64 y.knd, .int .i64 y.num] 41) := ⟨_, rfl⟩
  have hgb : w5.heap.size = g := hg.symm
  rw [← hg] at HG HX6 HOA5
  rw [← hW6] at HX6 HB0 HOA
  rw [← hW6, ← hg]
  clear hW6 hg hgb HB5
  go_loopw [13, 15, 16] (fun b f i wr => ∃ (k : Nat) (bb fb : Bool), k ≤ more.length ∧ b = .bool bb ∧ f = .bool fb ∧ i = .int .i64 (k : Int) ∧ bb = lowW (more.take k) ∧ fb = (putF (findW l) (more.take k) n).isSome ∧ Box wr g (wntA ((putF (findW l) (more.take k) n).getD ⟨0, 0, 0⟩)) 41 ∧ But g W6 wr) (fun _ _ i _ => more.length - (kOf i).toNat)
  case atStart =>
    have h2 := findR_two (n := n) HR.out
    rw [HYM.out] at h2
    exact ⟨0, _, _, by omega, rfl, rfl, rfl, rfl, h2.2, by have h := HX6.out; have e1 : y = (findW l n).getD ⟨0, 0, 0⟩ := h2.1; rw [e1] at h; exact h, But.refl _ _⟩
  case round =>
    clear HX6
    obtain ⟨k, bb, fb, hk, rfl, rfl, rfl, hbb, hfb, hx, hB⟩ := hrel
    have HBB := Lib.hid hbb
    have HFB := Lib.hid hfb
    have HX := Lib.hid hx
    have HBR := Lib.hid hB
    have i0 : (0 : Int) ≤ (k : Int) := by omega
    clear hbb hfb hx hB
    by_cases hlt : k < more.length
    · have i1 : (k : Int) < (more.length : Int) := by omega
      have d0 : decide ((k : Int) < (more.length : Int)) = true := decide_eq_true i1
      have d0' : decide (k < more.length) = true := decide_eq_true hlt
      obtain ⟨b, off, rfl, hb2, hcell⟩ := HA.out (by intro h; subst h; simp at hlt)
      obtain ⟨x, hx⟩ : ∃ x, more[k]? = some x := ⟨_, List.getElem?_eq_getElem hlt⟩
      have HBw := Lib.hid (HB0.out.trans (HBR.out.below HG.out (HB0.out.size)))
      have c0 : wr.cell? ⟨b, off + k * 3, none⟩ = some (.int .i64 x.blk) := (HBw.out.cell (p := ⟨b, off + k * 3 + 0, none⟩) hb2).trans (hcell k x hx 0 _ rfl)
      have c1 : wr.cell? ⟨b, off + k * 3 + 1, none⟩ = some (.int .i64 x.knd) := (HBw.out.cell (p := ⟨b, off + k * 3 + 1, none⟩) hb2).trans (hcell k x hx 1 _ rfl)
      have c2 : wr.cell? ⟨b, off + k * 3 + 2, none⟩ = some (.int .i64 x.num) := (HBw.out.cell (p := ⟨b, off + k * 3 + 2, none⟩) hb2).trans (hcell k x hx 2 _ rfl)
      have HLS := Lib.hid (low_step hx)
      have HPS := Lib.hid (putF_step (f := findW l) hx n)
      obtain ⟨q, hq⟩ : ∃ q, (putF (findW l) (more.take k) n).getD ⟨0, 0, 0⟩ = q := ⟨_, rfl⟩
      have HXL := Lib.hid (show Box wr g #[.int .i64 q.blk, .int .i64 q.knd, .int .i64 q.num] 41 from by have h := HX.out; rw [hq] at h; exact h)
      obtain ⟨kx, fx, zx⟩ := HXL.out.facts
      clear hcell hx HBw hq
      by_cases hxn : x.blk = n
      · have e1 : (x.blk == n) = true := by simpa using hxn
        have HP1 := Lib.hid (show putF (findW l) (more.take (k + 1)) n = some x by rw [HPS.out, if_pos hxn])
        have HXS := Lib.hid (Box.set3w HXL.out (.int .i64 x.blk) (.int .i64 x.knd) (.int .i64 x.num))
        have HBS := Lib.hid (((HBR.out.trans (But.set_ (o := 0) (u := .int .i64 x.blk) wr)).trans (But.set_ (o := 1) (u := .int .i64 x.knd) _)).trans (But.set_ (o := 2) (u := .int .i64 x.num) _))
        clear hxn HPS
        by_cases hbt : bb = true
        · subst hbt
          go_wp2_with fail
          go_roundw
          case rel => exact ⟨k + 1, _, _, by omega, rfl, rfl, by go_num, by rw [HLS.out, ← HBB.out]; rfl, by rw [HP1.out]; rfl, by rw [HP1.out]; exact HXS.out, HBS.out⟩
          case measure => simp [kOf]; omega
        · obtain rfl : bb = false := by simpa using hbt
          clear hbt
          go_wp2_with fail
          go_roundw
          case rel => exact ⟨k + 1, _, _, by omega, rfl, rfl, by go_num, by rw [HLS.out, ← HBB.out]; rfl, by rw [HP1.out]; rfl, by rw [HP1.out]; exact HXS.out, HBS.out⟩
          case measure => simp [kOf]; omega
      · have e1 : (x.blk == n) = false := by simpa using hxn
        have HP1 := Lib.hid (show putF (findW l) (more.take (k + 1)) n = putF (findW l) (more.take k) n by rw [HPS.out, if_neg hxn])
        clear hxn HPS
        by_cases hbt : bb = true
        · subst hbt
          go_wp2_with fail
          go_roundw
          case rel => exact ⟨k + 1, _, _, by omega, rfl, rfl, by go_num, by rw [HLS.out, ← HBB.out]; rfl, by rw [HP1.out]; exact HFB.out, by rw [HP1.out]; exact HX.out, HBR.out⟩
          case measure => simp [kOf]; omega
        · obtain rfl : bb = false := by simpa using hbt
          clear hbt
          go_wp2_with fail
          go_roundw
          case rel => exact ⟨k + 1, _, _, by omega, rfl, rfl, by go_num, by rw [HLS.out, ← HBB.out]; rfl, by rw [HP1.out]; exact HFB.out, by rw [HP1.out]; exact HX.out, HBR.out⟩
          case measure => simp [kOf]; omega
    · have d0 : decide ((k : Int) < (more.length : Int)) = false := decide_eq_false (by omega)
      have d0' : decide (k < more.length) = false := decide_eq_false hlt
      have hke : k = more.length := by omega
      obtain rfl : bb = false := by have h := HBB.out; rw [hke, List.take_length] at h; rw [h]; exact HLOW.out
      have HFB2 := Lib.hid (show fb = (putF (findW l) more n).isSome by have h := HFB.out; rw [hke, List.take_length] at h; exact h)
      have HX2 := Lib.hid (show Box wr g (wntA ((putF (findW l) more n).getD ⟨0, 0, 0⟩)) 41 by have h := HX.out; rw [hke, List.take_length] at h; exact h)
      have HRA := Lib.hid (right_add HR.out HLOW.out)
      have HJA : Hid (∀ x ∈ addL l more, J64 x.blk) := fun x hx => by
        rcases addL_mem HR.out hx with h | h
        · exact JL.out x h
        · exact JM.out x h
      have hna : (addL l more).length ≤ l.length + more.length := add_len more l
      have hnb : (takeWd (addL l more) bs).length ≤ (addL l more).length := take_len _ _
      have i5 : ((addL l more).length : Int) ≤ (l.length : Int) + (more.length : Int) := by omega
      have i6 : ((takeWd (addL l more) bs).length : Int) ≤ ((addL l more).length : Int) := by omega
      have HOW := Lib.hid (show Own 3 wntRow 41 w.heap.size wr (.slice Aa (addL l more).length ca) (addL l more) from (HOA.out.stay fun x hx => HBR.out.2.2.2.2 x (HOA.out.block hx).2 (by have := HOA5.out x hx; omega)))
      have HBW := Lib.hid (HB0.out.trans (HBR.out.below HG.out (HB0.out.size)))
      have hRB := right_take HRA.out bs
      have HRB := Lib.hid hRB
      have HFA := Lib.hid (find_add (more := more) HR.out n)
      have HFT := Lib.hid (find_take HRA.out bs n)
      obtain ⟨W0, hW0⟩ : ∃ z, z = wr := ⟨_, rfl⟩
      have HSA := Lib.hid (HOW.out.sl wntRow_length)
      rw [← hW0] at HX2 HBW HSA
      rw [← hW0]
      clear hW0 HX HBR HBB hRB hke hna hnb HOA HOA5 HB0 hlt
      have C1 := Lib.hid (wardFind (addL l more) _ n W0 HSA.out HJA.out (by have := add_len more l; omega) HJN.out)
      by_cases hs : (putF (findW l) more n).isSome = true
      · obtain ⟨z, hz⟩ := Option.isSome_iff_exists.1 hs
        obtain rfl : fb = true := HFB2.out.trans hs
        have HFR := Lib.hid (findR_some HRA.out (HFA.out.trans hz))
        have HXz := Lib.hid (show Box W0 g #[.int .i64 z.blk, .int .i64 z.knd, .int .i64 z.num] 41 by have h := HX2.out; rw [hz] at h; exact h)
        have HZ := Lib.hid hz
        have C1 : Hid (Calls Try.prog 20 #[.slice Aa (addL l more).length ca, .int .i64 n] W0 fun e w' => e = .returned (.tuple #[.agg #[.int .i64 z.blk, .int .i64 z.knd, .int .i64 z.num], .int .i64 0]) ∧ Below W0.heap.size W0 w') := by have h := C1.out; rw [HFR.out] at h; exact h
        clear HX2 HFB2 hs hz HFB
        have C2 : Hid (∀ w1, Below W0.heap.size W0 w1 → Calls Try.prog 16 #[.slice Aa (addL l more).length ca] w1 fun e w' => e = .returned (.bool true) ∧ Below w1.heap.size w1 w') := fun w1 hb => by
          have h := wardRight (addL l more) _ w1 (HSA.out.later hb)
          rw [HRA.out] at h; exact h
        have C3 : Hid (∀ w1, Below W0.heap.size W0 w1 → Calls Try.prog 10 #[.slice Aa (addL l more).length ca, .slice At bs.length ct] w1 fun e w' => ∃ A c, e = .returned (.tuple #[.slice A (takeWd (addL l more) bs).length c, .int .i64 0]) ∧ Sl 3 wntRow w'.heap.size w' (.slice A (takeWd (addL l more) bs).length c) (takeWd (addL l more) bs) ∧ Below w1.heap.size w1 w') := fun w1 hb => by
          refine (wardTake (addL l more) bs _ _ w1 (HSA.out.later hb) (HT.out.later (below_call HBW.out hb)) HJA.out JT.out (by have := add_len more l; omega)).mono ?_
          rintro e w' ⟨v, he, ho, hb'⟩
          have hv : takeV_ (addL l more) bs = takeWd (addL l more) bs := by unfold takeV_; rw [HRA.out]; rfl
          rw [hv] at ho
          obtain ⟨A, c, rfl⟩ := ho.len
          exact ⟨A, c, by rw [he, HRA.out]; rfl, ho.sl wntRow_length, hb'⟩
        go_wp2_with (first
          | (go_at_call 20; (with_reducible refine C1.out.mono ?_); rintro e w7 ⟨rfl, hb7⟩; have HB7 := Lib.hid (below_call hb7 (below_new w7 (.cells #[.int .i64 z.blk, .int .i64 z.knd, .int .i64 z.num] 41))); have HX17 := Lib.hid (Box.new w7 #[.int .i64 z.blk, .int .i64 z.knd, .int .i64 z.num] 41); clear hb7)
          | (go_at_call 16; (with_reducible refine (C2.out _ HB7.out).mono ?_); rintro e w9 ⟨rfl, hb9⟩; have HB9 := Lib.hid (below_call HB7.out hb9); have HX17 := Lib.hid (HX17.out.later hb9); have HX14 := Lib.hid (HXz.out.later HB9.out); obtain ⟨k17, f17, z17⟩ := HX17.out.facts; obtain ⟨k14, f14, z14⟩ := HX14.out.facts; clear hb9)
          | (go_at_call 10; (with_reducible refine (C3.out _ HB9.out).mono ?_); rintro e wt ⟨Ab, cb, rfl, hsb, hbt⟩; have HSB := Lib.hid hsb; have HXT := Lib.hid (HX17.out.later hbt); have HBT := Lib.hid (below_call HB9.out hbt); clear hsb hbt k17 f17 z17 k14 f14 z14))
        clear C1 C2 C3
        go_loopw [21, 22] (fun b i wr => ∃ (k : Nat) (gb : Bool), k ≤ bs.length ∧ b = .bool gb ∧ i = .int .i64 (k : Int) ∧ gb = decide (n ∈ bs.take k) ∧ wt = wr) (fun _ i _ => bs.length - (kOf i).toNat)
        case atStart => exact ⟨0, _, by omega, rfl, rfl, by simp, rfl⟩
        case round =>
          obtain ⟨k2, gb, hk2, rfl, rfl, hgb, rfl⟩ := hrel
          have HGB := Lib.hid hgb
          have i0 : (0 : Int) ≤ (k2 : Int) := by omega
          clear hgb
          by_cases hlt : k2 < bs.length
          · have i1 : (k2 : Int) < (bs.length : Int) := by omega
            have d0 : decide ((k2 : Int) < (bs.length : Int)) = true := decide_eq_true i1
            have d0' : decide (k2 < bs.length) = true := decide_eq_true hlt
            obtain ⟨b, off, rfl, hb2, hcell⟩ := HAT.out (by intro h; subst h; simp at hlt)
            obtain ⟨x, hx⟩ : ∃ x, bs[k2]? = some x := ⟨_, List.getElem?_eq_getElem hlt⟩
            have HBw := Lib.hid (below_call HBW.out HBT.out)
            have c0 : wt.cell? ⟨b, off + k2, none⟩ = some (.int .i64 x) := by simpa using (HBw.out.cell (p := ⟨b, off + k2 * 1 + 0, none⟩) hb2).trans (hcell k2 x hx 0 _ rfl)
            have HMS := Lib.hid (mem_step (n := n) hx)
            clear hcell hx HBw
            by_cases hgt : gb = true
            · subst hgt
              go_wp2_with fail
              go_roundw
              case rel => exact ⟨k2 + 1, _, by omega, rfl, by go_num, by rw [HMS.out, ← HGB.out]; rfl, by trivial⟩
              case measure => simp [kOf]; omega
            · obtain rfl : gb = false := by simpa using hgt
              clear hgt
              go_wp2_with fail
              go_roundw
              case rel => exact ⟨k2 + 1, _, by omega, rfl, by go_num, by rw [HMS.out, ← HGB.out]; rfl, by trivial⟩
              case measure => simp [kOf]; omega
          · have d0 : decide ((k2 : Int) < (bs.length : Int)) = false := decide_eq_false (by omega)
            have d0' : decide (k2 < bs.length) = false := decide_eq_false hlt
            have hke : k2 = bs.length := by omega
            have HGE := Lib.hid (show gb = decide (n ∈ bs) by have h := HGB.out; rw [hke, List.take_length] at h; exact h)
            have C4 : Hid (∀ w1, Below wt.heap.size wt w1 → Calls Try.prog 16 #[.slice Ab (takeWd (addL l more) bs).length cb] w1 fun e w' => e = .returned (.bool true) ∧ Below w1.heap.size w1 w') := fun w1 hb => by
              have h := wardRight _ _ w1 (HSB.out.later hb)
              rw [HRB.out] at h; exact h
            have C5 := Lib.hid (wardFind (takeWd (addL l more) bs) _ n wt HSB.out (fun x hx => HJA.out x (List.mem_filter.1 hx).1) (by have := add_len more l; have := take_len (addL l more) bs; omega) HJN.out)
            clear hke HGB hlt
            by_cases hin : n ∈ bs
            · obtain rfl : gb = true := HGE.out.trans (decide_eq_true hin)
              have C5 : Hid (Calls Try.prog 20 #[.slice Ab (takeWd (addL l more) bs).length cb, .int .i64 n] wt fun e w' => e = .returned (.tuple #[.agg #[.int .i64 0, .int .i64 0, .int .i64 0], .int .i64 7]) ∧ Below wt.heap.size wt w') := by have h := C5.out; rw [findR_none HRB.out (HFT.out.trans (if_pos hin))] at h; exact h
              clear hin HGE
              go_wp2_with (first
                | (go_at_call 20; (with_reducible refine C5.out.mono ?_); rintro e wf ⟨rfl, hbf⟩; have HBF := Lib.hid (below_call hbf (below_new wf (.cells #[.int .i64 0, .int .i64 0, .int .i64 0] 41))); have HX23 := Lib.hid (Box.new wf #[.int .i64 0, .int .i64 0, .int .i64 0] 41); clear hbf)
                | (go_at_call 16; (with_reducible refine (C4.out _ HBF.out).mono ?_); rintro e wg ⟨rfl, hbg⟩; have HBG := Lib.hid (below_call HBF.out hbg); obtain ⟨k23, f23, z23⟩ := (HX23.out.later hbg).facts; obtain ⟨k17, f17, z17⟩ := (HXT.out.later HBG.out).facts; clear hbg))
              all_goals (try go_ret)
              all_goals exact ⟨rfl, below_call (below_call HBW.out HBT.out) HBG.out⟩
            · obtain rfl : gb = false := HGE.out.trans (decide_eq_false hin)
              have C5 : Hid (Calls Try.prog 20 #[.slice Ab (takeWd (addL l more) bs).length cb, .int .i64 n] wt fun e w' => e = .returned (.tuple #[.agg #[.int .i64 z.blk, .int .i64 z.knd, .int .i64 z.num], .int .i64 0]) ∧ Below wt.heap.size wt w') := by have h := C5.out; rw [findR_some HRB.out (HFT.out.trans ((if_neg hin).trans (HFA.out.trans HZ.out)))] at h; exact h
              clear hin HGE
              go_wp2_with (first
                | (go_at_call 20; (with_reducible refine C5.out.mono ?_); rintro e wf ⟨rfl, hbf⟩; have HBF := Lib.hid (below_call hbf (below_new wf (.cells #[.int .i64 z.blk, .int .i64 z.knd, .int .i64 z.num] 41))); have HX23 := Lib.hid (Box.new wf #[.int .i64 z.blk, .int .i64 z.knd, .int .i64 z.num] 41); clear hbf)
                | (go_at_call 16; (with_reducible refine (C4.out _ HBF.out).mono ?_); rintro e wg ⟨rfl, hbg⟩; have HBG := Lib.hid (below_call HBF.out hbg); obtain ⟨k23, f23, z23⟩ := (HX23.out.later hbg).facts; obtain ⟨k17, f17, z17⟩ := (HXT.out.later HBG.out).facts; clear hbg))
              all_goals (try go_ret)
              all_goals exact ⟨rfl, below_call (below_call HBW.out HBT.out) HBG.out⟩
      · obtain rfl : fb = false := HFB2.out.trans (by simpa using hs)
        have hz : putF (findW l) more n = none := by simpa using hs
        have HFR := Lib.hid (findR_none HRA.out (HFA.out.trans hz))
        have HXz := Lib.hid (show Box W0 g #[.int .i64 0, .int .i64 0, .int .i64 0] 41 by have h := HX2.out; rw [hz] at h; exact h)
        have HZ := Lib.hid hz
        have C1 : Hid (Calls Try.prog 20 #[.slice Aa (addL l more).length ca, .int .i64 n] W0 fun e w' => e = .returned (.tuple #[.agg #[.int .i64 0, .int .i64 0, .int .i64 0], .int .i64 7]) ∧ Below W0.heap.size W0 w') := by have h := C1.out; rw [HFR.out] at h; exact h
        clear HX2 HFB2 hs hz HFB
        have C2 : Hid (∀ w1, Below W0.heap.size W0 w1 → Calls Try.prog 16 #[.slice Aa (addL l more).length ca] w1 fun e w' => e = .returned (.bool true) ∧ Below w1.heap.size w1 w') := fun w1 hb => by
          have h := wardRight (addL l more) _ w1 (HSA.out.later hb)
          rw [HRA.out] at h; exact h
        have C3 : Hid (∀ w1, Below W0.heap.size W0 w1 → Calls Try.prog 10 #[.slice Aa (addL l more).length ca, .slice At bs.length ct] w1 fun e w' => ∃ A c, e = .returned (.tuple #[.slice A (takeWd (addL l more) bs).length c, .int .i64 0]) ∧ Sl 3 wntRow w'.heap.size w' (.slice A (takeWd (addL l more) bs).length c) (takeWd (addL l more) bs) ∧ Below w1.heap.size w1 w') := fun w1 hb => by
          refine (wardTake (addL l more) bs _ _ w1 (HSA.out.later hb) (HT.out.later (below_call HBW.out hb)) HJA.out JT.out (by have := add_len more l; omega)).mono ?_
          rintro e w' ⟨v, he, ho, hb'⟩
          have hv : takeV_ (addL l more) bs = takeWd (addL l more) bs := by unfold takeV_; rw [HRA.out]; rfl
          rw [hv] at ho
          obtain ⟨A, c, rfl⟩ := ho.len
          exact ⟨A, c, by rw [he, HRA.out]; rfl, ho.sl wntRow_length, hb'⟩
        go_wp2_with (first
          | (go_at_call 20; (with_reducible refine C1.out.mono ?_); rintro e w7 ⟨rfl, hb7⟩; have HB7 := Lib.hid (below_call hb7 (below_new w7 (.cells #[.int .i64 0, .int .i64 0, .int .i64 0] 41))); have HX17 := Lib.hid (Box.new w7 #[.int .i64 0, .int .i64 0, .int .i64 0] 41); clear hb7)
          | (go_at_call 16; (with_reducible refine (C2.out _ HB7.out).mono ?_); rintro e w9 ⟨rfl, hb9⟩; have HB9 := Lib.hid (below_call HB7.out hb9); have HX17 := Lib.hid (HX17.out.later hb9); have HX14 := Lib.hid (HXz.out.later HB9.out); obtain ⟨k17, f17, z17⟩ := HX17.out.facts; obtain ⟨k14, f14, z14⟩ := HX14.out.facts; clear hb9)
          | (go_at_call 10; (with_reducible refine (C3.out _ HB9.out).mono ?_); rintro e wt ⟨Ab, cb, rfl, hsb, hbt⟩; have HSB := Lib.hid hsb; have HXT := Lib.hid (HX17.out.later hbt); have HBT := Lib.hid (below_call HB9.out hbt); clear hsb hbt k17 f17 z17 k14 f14 z14))
        clear C1 C2 C3
        go_loopw [21, 22] (fun b i wr => ∃ (k : Nat) (gb : Bool), k ≤ bs.length ∧ b = .bool gb ∧ i = .int .i64 (k : Int) ∧ gb = decide (n ∈ bs.take k) ∧ wt = wr) (fun _ i _ => bs.length - (kOf i).toNat)
        case atStart => exact ⟨0, _, by omega, rfl, rfl, by simp, rfl⟩
        case round =>
          obtain ⟨k2, gb, hk2, rfl, rfl, hgb, rfl⟩ := hrel
          have HGB := Lib.hid hgb
          have i0 : (0 : Int) ≤ (k2 : Int) := by omega
          clear hgb
          by_cases hlt : k2 < bs.length
          · have i1 : (k2 : Int) < (bs.length : Int) := by omega
            have d0 : decide ((k2 : Int) < (bs.length : Int)) = true := decide_eq_true i1
            have d0' : decide (k2 < bs.length) = true := decide_eq_true hlt
            obtain ⟨b, off, rfl, hb2, hcell⟩ := HAT.out (by intro h; subst h; simp at hlt)
            obtain ⟨x, hx⟩ : ∃ x, bs[k2]? = some x := ⟨_, List.getElem?_eq_getElem hlt⟩
            have HBw := Lib.hid (below_call HBW.out HBT.out)
            have c0 : wt.cell? ⟨b, off + k2, none⟩ = some (.int .i64 x) := by simpa using (HBw.out.cell (p := ⟨b, off + k2 * 1 + 0, none⟩) hb2).trans (hcell k2 x hx 0 _ rfl)
            have HMS := Lib.hid (mem_step (n := n) hx)
            clear hcell hx HBw
            by_cases hgt : gb = true
            · subst hgt
              go_wp2_with fail
              go_roundw
              case rel => exact ⟨k2 + 1, _, by omega, rfl, by go_num, by rw [HMS.out, ← HGB.out]; rfl, by trivial⟩
              case measure => simp [kOf]; omega
            · obtain rfl : gb = false := by simpa using hgt
              clear hgt
              go_wp2_with fail
              go_roundw
              case rel => exact ⟨k2 + 1, _, by omega, rfl, by go_num, by rw [HMS.out, ← HGB.out]; rfl, by trivial⟩
              case measure => simp [kOf]; omega
          · have d0 : decide ((k2 : Int) < (bs.length : Int)) = false := decide_eq_false (by omega)
            have d0' : decide (k2 < bs.length) = false := decide_eq_false hlt
            have hke : k2 = bs.length := by omega
            have HGE := Lib.hid (show gb = decide (n ∈ bs) by have h := HGB.out; rw [hke, List.take_length] at h; exact h)
            have C4 : Hid (∀ w1, Below wt.heap.size wt w1 → Calls Try.prog 16 #[.slice Ab (takeWd (addL l more) bs).length cb] w1 fun e w' => e = .returned (.bool true) ∧ Below w1.heap.size w1 w') := fun w1 hb => by
              have h := wardRight _ _ w1 (HSB.out.later hb)
              rw [HRB.out] at h; exact h
            have C5 := Lib.hid (wardFind (takeWd (addL l more) bs) _ n wt HSB.out (fun x hx => HJA.out x (List.mem_filter.1 hx).1) (by have := add_len more l; have := take_len (addL l more) bs; omega) HJN.out)
            clear hke HGB hlt
            by_cases hin : n ∈ bs
            · obtain rfl : gb = true := HGE.out.trans (decide_eq_true hin)
              have C5 : Hid (Calls Try.prog 20 #[.slice Ab (takeWd (addL l more) bs).length cb, .int .i64 n] wt fun e w' => e = .returned (.tuple #[.agg #[.int .i64 0, .int .i64 0, .int .i64 0], .int .i64 7]) ∧ Below wt.heap.size wt w') := by have h := C5.out; rw [findR_none HRB.out (HFT.out.trans (if_pos hin))] at h; exact h
              clear hin HGE
              go_wp2_with (first
                | (go_at_call 20; (with_reducible refine C5.out.mono ?_); rintro e wf ⟨rfl, hbf⟩; have HBF := Lib.hid (below_call hbf (below_new wf (.cells #[.int .i64 0, .int .i64 0, .int .i64 0] 41))); have HX23 := Lib.hid (Box.new wf #[.int .i64 0, .int .i64 0, .int .i64 0] 41); clear hbf)
                | (go_at_call 16; (with_reducible refine (C4.out _ HBF.out).mono ?_); rintro e wg ⟨rfl, hbg⟩; have HBG := Lib.hid (below_call HBF.out hbg); obtain ⟨k23, f23, z23⟩ := (HX23.out.later hbg).facts; obtain ⟨k17, f17, z17⟩ := (HXT.out.later HBG.out).facts; clear hbg))
              all_goals (try go_ret)
              all_goals exact ⟨rfl, below_call (below_call HBW.out HBT.out) HBG.out⟩
            · obtain rfl : gb = false := HGE.out.trans (decide_eq_false hin)
              have C5 : Hid (Calls Try.prog 20 #[.slice Ab (takeWd (addL l more) bs).length cb, .int .i64 n] wt fun e w' => e = .returned (.tuple #[.agg #[.int .i64 0, .int .i64 0, .int .i64 0], .int .i64 7]) ∧ Below wt.heap.size wt w') := by have h := C5.out; rw [findR_none HRB.out (HFT.out.trans ((if_neg hin).trans (HFA.out.trans HZ.out)))] at h; exact h
              clear hin HGE
              go_wp2_with (first
                | (go_at_call 20; (with_reducible refine C5.out.mono ?_); rintro e wf ⟨rfl, hbf⟩; have HBF := Lib.hid (below_call hbf (below_new wf (.cells #[.int .i64 0, .int .i64 0, .int .i64 0] 41))); have HX23 := Lib.hid (Box.new wf #[.int .i64 0, .int .i64 0, .int .i64 0] 41); clear hbf)
                | (go_at_call 16; (with_reducible refine (C4.out _ HBF.out).mono ?_); rintro e wg ⟨rfl, hbg⟩; have HBG := Lib.hid (below_call HBF.out hbg); obtain ⟨k23, f23, z23⟩ := (HX23.out.later hbg).facts; obtain ⟨k17, f17, z17⟩ := (HXT.out.later HBG.out).facts; clear hbg))
              all_goals (try go_ret)
              all_goals exact ⟨rfl, below_call (below_call HBW.out HBT.out) HBG.out⟩
end Go.Proofs.Ytnmlmnhgjnkbhaa
