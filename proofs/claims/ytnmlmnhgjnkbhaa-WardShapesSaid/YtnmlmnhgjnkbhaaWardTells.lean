/-
  WardTells: whatever the wants, the blocks, the Kind: true; the input stays.
-/
import Derived.Test.YtnmlmnhgjnkbhaaWardRef5
import Derived.Test.YtnmlmnhgjnkbhaaWardAwake
import Derived.Test.YtnmlmnhgjnkbhaaWardKeeps
import Derived.Test.YtnmlmnhgjnkbhaaSameAny
set_option linter.unusedVariables false
set_option linter.unusedSimpArgs false
namespace Go.Proofs.Ytnmlmnhgjnkbhaa
open Go.RowKit

theorem same12b (l : List Wnt) (v v' : Value) (w : World) (h : Sl 3 wntRow w.heap.size w v l) (h' : Sl 3 wntRow w.heap.size w v' l) :
    Calls Try.prog 18 #[v, v'] w fun e w' => e = .returned (.bool true) ∧ Below w.heap.size w w' :=
  (same12 l v v' w h h').mono fun _ _ ⟨he, hw⟩ => ⟨he, belowN hw⟩
theorem sameIntsT (l : List Int) (v v' : Value) (w : World) (h : Sl 1 i64Row w.heap.size w v l) (h' : Sl 1 i64Row w.heap.size w v' l) :
    Calls Try.prog 19 #[v, v'] w fun e w' => e = .returned (.bool true) ∧ Below w.heap.size w w' :=
  (sameAny l l v v' w h h').mono fun _ _ ⟨he, hw⟩ => ⟨by rw [he]; simp, hw⟩
theorem keptIntsT (l : List Int) (v v' : Value) (w : World) (h : Lnt 1 i64Row marks w.heap.size w v l) (h' : Sl 1 i64Row w.heap.size w v' l) (hn : l.length ≤ 1000000) :
    Calls Try.prog 22 #[v, v'] w fun e w' => e = .returned (.bool true) ∧ Below w.heap.size w w' :=
  (keptInts l v v' w h h' hn).mono fun _ _ ⟨he, hw⟩ => ⟨he, belowN hw⟩

set_option maxRecDepth 100000 in
set_option maxHeartbeats 2000000 in
theorem tells12_big (l more : List Wnt) (bs : List Int) (vl vm vt : Value) (kd : Int) (w : World) (hl : Sl 3 wntRow w.heap.size w vl l) (hm : Sl 3 wntRow w.heap.size w vm more) (ht : Sl 1 i64Row w.heap.size w vt bs) (zl : l.length ≤ 140737488351232) (zm : more.length ≤ 140737488351232) (zt : bs.length ≤ 140737488351232) (hbig : 400 < l.length + more.length + bs.length) :
    Calls Try.prog 3 #[vl, vm, vt, .int .i64 kd] w fun e w' => e = .returned (.bool true) ∧ Below w.heap.size w w' := by
  obtain ⟨Al, cl, rfl, -⟩ := hl
  obtain ⟨Am, cm, rfl, -⟩ := hm
  obtain ⟨At, ct, rfl, -⟩ := ht
  have hb : (400 : Int) < (l.length : Int) + (more.length : Int) + (bs.length : Int) := by omega
  go_enter Try.func3, Try.ntmps3
  go_wp2_with (go_at_call 6; (with_reducible refine (awake12 _).mono ?_); rintro e w' ⟨rfl, hb1⟩)
  go_ret
  exact ⟨rfl, hb1⟩

set_option maxRecDepth 100000 in
set_option maxHeartbeats 8000000 in
theorem tells12_go (l more : List Wnt) (bs : List Int) (vl vm vt : Value) (kd : Int) (w : World) (hl : Sl 3 wntRow w.heap.size w vl l) (hm : Sl 3 wntRow w.heap.size w vm more) (ht : Sl 1 i64Row w.heap.size w vt bs) (jl : ∀ x ∈ l, J64 x.blk) (jm : ∀ x ∈ more, J64 x.blk) (jt : ∀ x ∈ bs, J64 x) (hs : l.length + more.length + bs.length ≤ 400) :
    Calls Try.prog 3 #[vl, vm, vt, .int .i64 kd] w fun e w' => e = .returned (.bool true) ∧ Below w.heap.size w w' := by
  have HL := Lib.hid hl
  have HM := Lib.hid hm
  have HT := Lib.hid ht
  have JL := Lib.hid jl
  have JM := Lib.hid jm
  have JT := Lib.hid jt
  obtain ⟨Al, cl, rfl, -⟩ := hl
  obtain ⟨Am, cm, rfl, -⟩ := hm
  obtain ⟨At, ct, rfl, hlct, hcmt, -, hAt⟩ := ht
  have HAT := Lib.hid hAt
  have hb : (l.length : Int) + (more.length : Int) + (bs.length : Int) ≤ 400 := by omega
  have hln : l.length ≤ 400 := by omega
  have hmn : more.length ≤ 400 := by omega
  have htn : bs.length ≤ 400 := by omega
  clear jl jm jt hlct hcmt hAt
  -- the program's answers over what was copied; the document's over the arguments
  have CADD : Hid (∀ w1 vi va, Sl 3 wntRow w1.heap.size w1 vi l → Sl 3 wntRow w1.heap.size w1 va more → Calls Try.prog 8 #[vi, va] w1 (AddPost l more w1)) := fun w1 vi va h1 h2 => wardAdd l more vi va w1 h1 h2 JL.out JM.out (by omega)
  have CRADD : Hid (∀ w1, Below w.heap.size w w1 → Calls Try.prog 9 #[.slice Al l.length cl, .slice Am more.length cm] w1 (RAddPost l more w1)) := fun w1 hb1 => rAdd l more _ _ w1 (HL.out.later hb1) (HM.out.later hb1) (by omega)
  have CTAKE : Hid (∀ w1 vi vt, Sl 3 wntRow w1.heap.size w1 vi l → Sl 1 i64Row w1.heap.size w1 vt bs → Calls Try.prog 10 #[vi, vt] w1 (TakePost l bs w1)) := fun w1 vi vt h1 h2 => wardTake l bs vi vt w1 h1 h2 JL.out JT.out (by omega)
  have CRTAKE : Hid (∀ w1, Below w.heap.size w w1 → Calls Try.prog 11 #[.slice Al l.length cl, .slice At bs.length ct] w1 (RTakePost l bs w1)) := fun w1 hb1 => rTake l bs _ _ w1 (HL.out.later hb1) (HT.out.later hb1) (by omega)
  have CNUMS : Hid (∀ w1 vi, Sl 3 wntRow w1.heap.size w1 vi l → Calls Try.prog 12 #[vi, .int .i64 kd] w1 (NumsPost l kd w1)) := fun w1 vi h1 => wardNums l vi kd w1 h1 (by omega)
  have CRNUMS : Hid (∀ w1, Below w.heap.size w w1 → Calls Try.prog 13 #[.slice Al l.length cl, .int .i64 kd] w1 (RNumsPost l kd w1)) := fun w1 hb1 => rNums l _ kd w1 (HL.out.later hb1) (by omega)
  obtain ⟨wa, we, hwor⟩ : ∃ wa we, worstR l = (wa, we) := ⟨_, _, rfl⟩
  have HWOR := Lib.hid hwor
  have CWORST : Hid (∀ w1 vi, Sl 3 wntRow w1.heap.size w1 vi l → Calls Try.prog 14 #[vi] w1 fun e w' => e = .returned (.tuple #[.int .i64 wa, .int .i64 we]) ∧ Below w1.heap.size w1 w') := fun w1 vi h1 => by
    have h := wardWorst l vi w1 h1
    rw [HWOR.out] at h; exact h
  have CRWORST : Hid (∀ w1, Below w.heap.size w w1 → Calls Try.prog 15 #[.slice Al l.length cl] w1 fun e w' => e = .returned (.tuple #[.int .i64 wa, .int .i64 we]) ∧ Below w1.heap.size w1 w') := fun w1 hb1 => by
    have h := rWorst l _ w1 (HL.out.later hb1)
    rw [HWOR.out] at h; exact h
  obtain ⟨rt, hrt⟩ : ∃ rt, rightW l = rt := ⟨_, rfl⟩
  have HRT := Lib.hid hrt
  have CRIGHT : Hid (∀ w1 vi, Sl 3 wntRow w1.heap.size w1 vi l → Calls Try.prog 16 #[vi] w1 fun e w' => e = .returned (.bool rt) ∧ Below w1.heap.size w1 w') := fun w1 vi h1 => by
    have h := wardRight l vi w1 h1
    rw [HRT.out] at h; exact h
  have CRRIGHT : Hid (∀ w1, Below w.heap.size w w1 → Calls Try.prog 17 #[.slice Al l.length cl] w1 fun e w' => e = .returned (.bool rt) ∧ Below w1.heap.size w1 w') := fun w1 hb1 => by
    have h := rRight l _ w1 (HL.out.later hb1)
    rw [HRT.out] at h; exact h
  obtain ⟨la, hla⟩ : ∃ z, addV l more = z := ⟨_, rfl⟩
  obtain ⟨ea, hea⟩ : ∃ z : Int, (if addOk l more = true then 0 else 2) = z := ⟨_, rfl⟩
  obtain ⟨lt, hlt⟩ : ∃ z, takeV_ l bs = z := ⟨_, rfl⟩
  obtain ⟨et, het⟩ : ∃ z : Int, (if rightW l = true then 0 else 2) = z := ⟨_, rfl⟩
  obtain ⟨ln, hnu⟩ : ∃ z, numsR l kd = z := ⟨_, rfl⟩
  have hlan : la.length ≤ 400 := by rw [← hla]; unfold addV; split; (have := add_len more l; omega); simp
  have hltn : lt.length ≤ 400 := by rw [← hlt]; unfold takeV_; split; (have := take_len l bs; omega); simp
  have HLA := Lib.hid hla
  have HEA := Lib.hid hea
  have HLT := Lib.hid hlt
  have HET := Lib.hid het
  have HNU := Lib.hid hnu
  clear hwor hrt hla hea hlt het hnu
  go_enter Try.func3, Try.ntmps3
  go_upto_region 12 with (first
    | (at_builtin; refine wpList_append_all _ rfl (.tmp 46) (.tmp 47) 22 rfl w.heap.size 41 _ 3 24 Try.underlying22 wantInfo rfl (Nat.succ_pos 2) wntRow wntRow_length wntRow_one [] _ rfl (Own.made _ _ _ _) l w.heap.size _ (HL.out.below (below_new w (.cells #[] 41))) rfl (by unfold maxLen; first | (simp; done) | (simp; omega)) (by first | (simp; done) | (simp; omega)) (by simp) ?_; intro vi w1 q1 q2 q3 q4 q5; have HB1 := Lib.hid ((below_new w (.cells #[] 41)).trans q2); have HIN := Lib.hid (show Sl 3 wntRow w1.heap.size w1 vi l from (show Own 3 wntRow 41 w.heap.size w1 vi l by simpa using q1).sl wntRow_length); clear q1 q2 q3 q4 q5)
    | (at_builtin; refine wpList_append_all _ rfl (.tmp 49) (.tmp 50) 22 rfl w1.heap.size 41 _ 3 24 Try.underlying22 wantInfo rfl (Nat.succ_pos 2) wntRow wntRow_length wntRow_one [] _ rfl (Own.made _ _ _ _) more w1.heap.size _ ((HM.out.later HB1.out).below (below_new w1 (.cells #[] 41))) rfl (by unfold maxLen; first | (simp; done) | (simp; omega)) (by first | (simp; done) | (simp; omega)) (by simp) ?_; intro va w2 q1 q2 q3 q4 q5; have hbq := (below_new w1 (.cells #[] 41)).trans q2; have HB2 := Lib.hid (below_call HB1.out hbq); have HIN := Lib.hid (HIN.out.later hbq); have HAD := Lib.hid (show Sl 3 wntRow w2.heap.size w2 va more from (show Own 3 wntRow 41 w1.heap.size w2 va more by simpa using q1).sl wntRow_length); clear q1 q2 q3 q4 q5 hbq)
    | (go_at_call 7; (with_reducible refine (lentInts bs _ _ (HT.out.later HB2.out) (by omega)).mono ?_); rintro e w3 ⟨vx, rfl, hx, hbq⟩; have HB3 := Lib.hid (below_call HB2.out hbq); have HIN := Lib.hid (HIN.out.later hbq); have HAD := Lib.hid (HAD.out.later hbq); have HTK := Lib.hid hx; clear hx hbq)
    | (go_at_call 8; (with_reducible refine (CADD.out _ _ _ HIN.out HAD.out).mono ?_); rintro e w4 ⟨v4, rfl, ho4, hb4⟩; rw [HLA.out] at ho4; rw [HEA.out]; obtain ⟨A4, c4, rfl⟩ := ho4.len; have HB4 := Lib.hid hb4; have HA := Lib.hid ho4; have HAK : Hid (∀ x, (Value.slice A4 la.length c4).ownBlock = some x → x < w4.heap.size) := Lib.hid (fun x hx => (ho4.block hx).2); have HT4 := Lib.hid (below_call HB3.out hb4); clear hb4 ho4)
    | (go_at_call 9; (with_reducible refine (CRADD.out _ HT4.out).mono ?_); rintro e w5 ⟨v5, rfl, hs5, hb5⟩; rw [HLA.out] at hs5; rw [HEA.out]; have HB5 := Lib.hid (below_call HB4.out hb5); have H35 : Hid (w3.heap.size ≤ w5.heap.size) := Lib.hid HB5.out.size; have HA := Lib.hid (HA.out.later hb5); have HSB := Lib.hid hs5; have HAK : Hid (∀ x, (Value.slice A4 la.length c4).ownBlock = some x → x < w5.heap.size) := Lib.hid (fun x hx => Nat.lt_of_lt_of_le (HAK.out x hx) hb5.size); clear hb5 hs5)
    | (go_at_call 10; (with_reducible refine (CTAKE.out _ _ _ (HIN.out.later HB5.out) (HTK.out.sl.later HB5.out)).mono ?_); rintro e w6 ⟨v6, rfl, ho6, hb6⟩; rw [HLT.out] at ho6; rw [HET.out]; obtain ⟨A6, c6, rfl⟩ := ho6.len; have HB6 := Lib.hid (below_call HB5.out hb6); have HA := Lib.hid (HA.out.later hb6); have HSB := Lib.hid (HSB.out.later hb6); have HC := Lib.hid ho6; have HT6 := Lib.hid (below_call HB3.out HB6.out); clear hb6 ho6)
    | (go_at_call 11; (with_reducible refine (CRTAKE.out _ HT6.out).mono ?_); rintro e w7 ⟨v7, rfl, hs7, hb7⟩; rw [HLT.out] at hs7; rw [HET.out]; have HB7 := Lib.hid (below_call HB6.out hb7); have HA := Lib.hid (HA.out.later hb7); have HSB := Lib.hid (HSB.out.later hb7); have HC := Lib.hid (HC.out.later hb7); have HSD := Lib.hid hs7; clear hb7 hs7)
    | (go_at_call 12; (with_reducible refine (CNUMS.out _ _ (HIN.out.later HB7.out)).mono ?_); rintro e w8 ⟨v8, rfl, ho8, hb8⟩; rw [HNU.out] at ho8; rw [HET.out]; have HB8 := Lib.hid (below_call HB7.out hb8); have HA := Lib.hid (HA.out.later hb8); have HSB := Lib.hid (HSB.out.later hb8); have HC := Lib.hid (HC.out.later hb8); have HSD := Lib.hid (HSD.out.later hb8); have HN := Lib.hid (ho8.sl i64Row_length); have HT8 := Lib.hid (below_call HB3.out HB8.out); clear hb8 ho8)
    | (go_at_call 13; (with_reducible refine (CRNUMS.out _ HT8.out).mono ?_); rintro e w9 ⟨v9, rfl, hs9, hb9⟩; rw [HNU.out] at hs9; rw [HET.out]; have HB9 := Lib.hid (below_call HB8.out hb9); have HA := Lib.hid (HA.out.later hb9); have HSB := Lib.hid (HSB.out.later hb9); have HC := Lib.hid (HC.out.later hb9); have HSD := Lib.hid (HSD.out.later hb9); have HN := Lib.hid (HN.out.later hb9); have HNR := Lib.hid hs9; clear hb9 hs9)
    | (go_at_call 14; (with_reducible refine (CWORST.out _ _ (HIN.out.later HB9.out)).mono ?_); rintro e wA ⟨rfl, hbA⟩; have HBA := Lib.hid (below_call HB9.out hbA); have HWA := Lib.hid hbA; have HTA := Lib.hid (below_call HB3.out HBA.out); clear hbA)
    | (go_at_call 15; (with_reducible refine (CRWORST.out _ HTA.out).mono ?_); rintro e wB ⟨rfl, hbB⟩; have HBB := Lib.hid (below_call HBA.out hbB); have HAB := Lib.hid (below_call HWA.out hbB); clear hbB))
  have HA := Lib.hid (HA.out.later HAB.out)
  have HSB := Lib.hid (HSB.out.later HAB.out)
  have HC := Lib.hid (HC.out.later HAB.out)
  have HSD := Lib.hid (HSD.out.later HAB.out)
  have HN := Lib.hid (HN.out.later HAB.out)
  have HNR := Lib.hid (HNR.out.later HAB.out)
  have HINB := Lib.hid (HIN.out.later HBB.out)
  have HTB := Lib.hid (below_call HB3.out HBB.out)
  clear CADD CRADD CTAKE CRTAKE CNUMS CRNUMS CWORST CRWORST HB5 HB6 HB7 HB8 HB9 HBA HT4 HT6 HT8 HTA HWA HAB HB1 HB2 HB4
  go_upto_region 14 with (first
    | (go_at_call 16; (with_reducible refine (CRIGHT.out _ _ HINB.out).mono ?_); rintro e wC ⟨rfl, hbC⟩; have HBC := Lib.hid hbC; have HTC := Lib.hid (below_call HTB.out hbC); clear hbC)
    | (go_at_call 17; (with_reducible refine (CRRIGHT.out _ HTC.out).mono ?_); rintro e wD ⟨rfl, hbD⟩; have HBD := Lib.hid (below_call HBC.out hbD); clear hbD)
    | (go_at_call 18; (with_reducible refine (same12b la _ _ wD ((HA.out.sl wntRow_length).later HBD.out) (HSB.out.later HBD.out)).mono ?_); rintro e wE ⟨rfl, hbE⟩; have HBE := Lib.hid (below_call HBD.out hbE); clear hbE)
    | (go_at_call 18; (with_reducible refine (same12b lt _ _ wE ((HC.out.sl wntRow_length).later HBE.out) (HSD.out.later HBE.out)).mono ?_); rintro e wF ⟨rfl, hbF⟩; have HBF := Lib.hid (below_call HBE.out hbF); clear hbF)
    | (go_at_call 19; (with_reducible refine (sameIntsT ln _ _ wF (HN.out.later HBF.out) (HNR.out.later HBF.out)).mono ?_); rintro e wG ⟨rfl, hbG⟩; have HBG := Lib.hid (below_call HBF.out hbG); clear hbG))
  have HA := Lib.hid (HA.out.later HBG.out)
  have HC := Lib.hid (HC.out.later HBG.out)
  have HING := Lib.hid (HINB.out.later HBG.out)
  have HTG := Lib.hid (below_call HTB.out HBG.out)
  have H3G := Lib.hid (below_call HBB.out HBG.out)
  clear CRIGHT CRRIGHT HSB HSD HN HNR HINB HTB HBB HBC HBD HBE HBF HBG HTC HNU HET HEA HLA HLT HWOR
  go_wp2_with fail
  go_loopw [28, 29, 30, 31, 32, 33] (fun q _ _ _ _ _ wr => ∃ k : Nat, k ≤ bs.length + 1 ∧ q = .int .i64 ((k : Int) - 1) ∧ Below wG.heap.size wG wr) (fun q _ _ _ _ _ _ => bs.length + 1 - (kOf q + 1).toNat)
  case atStart => exact ⟨0, by omega, rfl, Below.refl _ _⟩
  case round =>
    obtain ⟨k, hk, rfl, hB⟩ := hrel
    have HBr := Lib.hid hB
    clear hB
    by_cases hlt : k < bs.length + 1
    · have d0 : decide ((k : Int) - 1 < (bs.length : Int)) = true := decide_eq_true (by omega)
      have d1 : (k : Int) - 1 < (bs.length : Int) := by omega
      have CF : Hid (∀ n, J64 n → ∃ (z : Wnt) (m : Int), (Calls Try.prog 20 #[vi, .int .i64 n] wr fun e w' => e = .returned (.tuple #[.agg #[.int .i64 z.blk, .int .i64 z.knd, .int .i64 z.num], .int .i64 m]) ∧ Below wr.heap.size wr w') ∧ ∀ w1, Below wr.heap.size wr w1 → Calls Try.prog 21 #[.slice Al l.length cl, .int .i64 n] w1 fun e w' => e = .returned (.tuple #[.agg #[.int .i64 z.blk, .int .i64 z.knd, .int .i64 z.num], .int .i64 m]) ∧ Below w1.heap.size w1 w') := fun n hn =>
        ⟨(findR l n).1, (findR l n).2, wardFind l vi n wr (HING.out.later HBr.out) JL.out (by omega) hn, fun w1 hb1 => rFind l _ n w1 (HL.out.later (below_call (below_call HTG.out HBr.out) hb1))⟩
      by_cases hk0 : k = 0
      · subst hk0
        obtain ⟨z, m, hf1, hf2⟩ := CF.out (-1) (by unfold J64; omega)
        have F1 := Lib.hid hf1
        have F2 := Lib.hid hf2
        clear hf1 hf2 CF
        rw [show ((0 : Nat) : Int) - 1 = -1 from rfl]
        rw [show ((0 : Nat) : Int) - 1 = -1 from rfl] at d0 d1
        go_wp2_with (first
          | (go_at_call 20; (with_reducible refine F1.out.mono ?_); rintro e wf ⟨rfl, hbf⟩; have HBF := Lib.hid (below_call hbf (below_new wf (.cells #[.int .i64 z.blk, .int .i64 z.knd, .int .i64 z.num] 41))); have HXF := Lib.hid (Box.new wf #[.int .i64 z.blk, .int .i64 z.knd, .int .i64 z.num] 41); clear hbf)
          | (go_at_call 21; (with_reducible refine (F2.out _ HBF.out).mono ?_); rintro e wg ⟨rfl, hbg⟩; have HBZ := Lib.hid (below_call HBr.out (below_call (below_call HBF.out hbg) (below_new wg (.cells #[.int .i64 z.blk, .int .i64 z.knd, .int .i64 z.num] 41)))); obtain ⟨kf, ff, zf⟩ := (HXF.out.later hbg).facts; clear hbg))
        go_roundw
        case rel => exact ⟨1, by omega, rfl, HBZ.out⟩
        case measure => simp [kOf]
      · obtain ⟨j, rfl⟩ : ∃ j, k = j + 1 := ⟨k - 1, by omega⟩
        obtain ⟨b, off, rfl, hb2, hcell⟩ := HAT.out (by intro h; subst h; simp at hlt)
        obtain ⟨x, hx⟩ : ∃ x, bs[j]? = some x := ⟨_, List.getElem?_eq_getElem (by omega)⟩
        have HBw := Lib.hid (below_call HTG.out HBr.out)
        have c0 : wr.cell? ⟨b, off + j, none⟩ = some (.int .i64 x) := by simpa using (HBw.out.cell (p := ⟨b, off + j * 1 + 0, none⟩) hb2).trans (hcell j x hx 0 _ rfl)
        obtain ⟨z, m, hf1, hf2⟩ := CF.out x (JT.out x (List.mem_of_getElem? hx))
        have F1 := Lib.hid hf1
        have F2 := Lib.hid hf2
        clear hf1 hf2 CF hcell hx HBw
        have hjc : (((j + 1 : Nat) : Int)) - 1 = (j : Int) := by omega
        rw [hjc]
        rw [hjc] at d0 d1
        have j0 : (0 : Int) ≤ (j : Int) := by omega
        have j1 : decide ((0 : Int) ≤ (j : Int)) = true := decide_eq_true j0
        clear hjc hk0
        go_wp2_with (first
          | (go_at_call 20; (with_reducible refine F1.out.mono ?_); rintro e wf ⟨rfl, hbf⟩; have HBF := Lib.hid (below_call hbf (below_new wf (.cells #[.int .i64 z.blk, .int .i64 z.knd, .int .i64 z.num] 41))); have HXF := Lib.hid (Box.new wf #[.int .i64 z.blk, .int .i64 z.knd, .int .i64 z.num] 41); clear hbf)
          | (go_at_call 21; (with_reducible refine (F2.out _ HBF.out).mono ?_); rintro e wg ⟨rfl, hbg⟩; have HBZ := Lib.hid (below_call HBr.out (below_call (below_call HBF.out hbg) (below_new wg (.cells #[.int .i64 z.blk, .int .i64 z.knd, .int .i64 z.num] 41)))); obtain ⟨kf, ff, zf⟩ := (HXF.out.later hbg).facts; clear hbg))
        go_roundw
        case rel => exact ⟨j + 2, by omega, by go_num, HBZ.out⟩
        case measure => simp [kOf]; omega
    · have d0 : decide ((k : Int) - 1 < (bs.length : Int)) = false := decide_eq_false (by omega)
      have d1 : ¬ (k : Int) - 1 < (bs.length : Int) := by omega
      have hke : (k : Int) - 1 = (bs.length : Int) := by omega
      rw [hke]
      rw [hke] at d0 d1
      clear hke
      have HA := Lib.hid (HA.out.later HBr.out)
      have HC := Lib.hid (HC.out.later HBr.out)
      have H3r := Lib.hid (below_call H3G.out HBr.out)
      have hz3 := H3r.out.size
      go_wp2_with fail
      go_loopw [34] (fun q wr => ∃ (k : Nat) (L : List Wnt), k ≤ la.length ∧ q = .int .i64 (k : Int) ∧ L.length = la.length ∧ Own 3 wntRow 41 w3.heap.size wr (.slice A4 la.length c4) L ∧ Own 3 wntRow 41 w5.heap.size wr (.slice A6 lt.length c6) lt ∧ Below w3.heap.size w3 wr) (fun q _ => la.length - (kOf q).toNat)
      case atStart => exact ⟨0, la, by omega, rfl, rfl, HA.out, HC.out, H3r.out⟩
      case round =>
        clear HA HC H3r
        obtain ⟨k, L, hk, rfl, hL, hown, hc, hB⟩ := hrel
        have HLL := Lib.hid hL
        have HO := Lib.hid hown
        have HC := Lib.hid hc
        clear hc
        have HB := Lib.hid hB
        have k0 : (0 : Int) ≤ (k : Int) := by omega
        clear hL hB
        by_cases hlt : k < la.length
        · have k1 : (k : Int) < (la.length : Int) := by omega
          have e0 : decide ((k : Int) < (la.length : Int)) = true := decide_eq_true k1
          obtain ⟨g, cg, hg, hg1, hg2, hfz⟩ := hown.place (by intro h; have := HLL.out; rw [h] at this; simp at this; omega)
          simp only [Value.slice.injEq] at hg
          obtain ⟨rfl, -, rfl⟩ := hg
          obtain ⟨b6, o6, c9, h6, -, -, -, hcell⟩ := (hown.sl wntRow_length).cellAt (by intro h; have := HLL.out; rw [h] at this; simp at this; omega)
          simp only [Value.slice.injEq, Option.some.injEq, Addr.mk.injEq, and_true] at h6
          obtain ⟨⟨rfl, rfl⟩, -, rfl⟩ := h6
          obtain ⟨x, hx⟩ : ∃ x, L[k]? = some x := ⟨_, List.getElem?_eq_getElem (by have := HLL.out; omega)⟩
          have c0 : wr.cell? ⟨g, k * 3 + 2, none⟩ = some (.int .i64 x.num) := by simpa using hcell k x hx 2 _ rfl
          have HW := Lib.hid (Own.write wntRow_length HO.out (i := k) (j := 2) (x := x) (y := ⟨x.blk, x.knd, wrap64 (x.num + 1)⟩) (u := .int .i64 (wrap64 (x.num + 1))) hx rfl (by omega))
          have HBS := Lib.hid (below_set (i := k * 3 + 2) (u := .int .i64 (wrap64 (x.num + 1))) HB.out (n := g) (by omega))
          have HCS := Lib.hid (HC.out.set_below (i := k * 3 + 2) (u := .int .i64 (wrap64 (x.num + 1))) (HAK.out g rfl))
          clear hcell hx hown hg1
          go_wp2_with fail
          go_roundw
          case rel => exact ⟨k + 1, _, by omega, by go_num, by rw [List.length_set]; exact HLL.out, HW.out, HCS.out, HBS.out⟩
          case measure => simp [kOf]; omega
        · have e0 : decide ((k : Int) < (la.length : Int)) = false := decide_eq_false (by omega)
          clear hown
          go_wp2_with fail
          have H3r := Lib.hid HB.out
          have hz5 := H35.out
          go_loopw [35] (fun q wr => ∃ (k : Nat) (L : List Wnt), k ≤ lt.length ∧ q = .int .i64 (k : Int) ∧ L.length = lt.length ∧ Own 3 wntRow 41 w5.heap.size wr (.slice A6 lt.length c6) L ∧ Below w3.heap.size w3 wr) (fun q _ => lt.length - (kOf q).toNat)
          case atStart => exact ⟨0, lt, by omega, rfl, rfl, HC.out, H3r.out⟩
          case round =>
            clear HC H3r
            obtain ⟨k, L, hk, rfl, hL, hown, hB⟩ := hrel
            have HLL := Lib.hid hL
            have HO := Lib.hid hown
            have HB := Lib.hid hB
            have k0 : (0 : Int) ≤ (k : Int) := by omega
            clear hL hB
            by_cases hlt : k < lt.length
            · have k1 : (k : Int) < (lt.length : Int) := by omega
              have e0 : decide ((k : Int) < (lt.length : Int)) = true := decide_eq_true k1
              obtain ⟨g, cg, hg, hg1, hg2, hfz⟩ := hown.place (by intro h; have := HLL.out; rw [h] at this; simp at this; omega)
              simp only [Value.slice.injEq] at hg
              obtain ⟨rfl, -, rfl⟩ := hg
              obtain ⟨b6, o6, c9, h6, -, -, -, hcell⟩ := (hown.sl wntRow_length).cellAt (by intro h; have := HLL.out; rw [h] at this; simp at this; omega)
              simp only [Value.slice.injEq, Option.some.injEq, Addr.mk.injEq, and_true] at h6
              obtain ⟨⟨rfl, rfl⟩, -, rfl⟩ := h6
              obtain ⟨x, hx⟩ : ∃ x, L[k]? = some x := ⟨_, List.getElem?_eq_getElem (by have := HLL.out; omega)⟩
              have c0 : wr.cell? ⟨g, k * 3 + 2, none⟩ = some (.int .i64 x.num) := by simpa using hcell k x hx 2 _ rfl
              have HW := Lib.hid (Own.write wntRow_length HO.out (i := k) (j := 2) (x := x) (y := ⟨x.blk, x.knd, wrap64 (x.num + 1)⟩) (u := .int .i64 (wrap64 (x.num + 1))) hx rfl (by omega))
              have HBS := Lib.hid (below_set (i := k * 3 + 2) (u := .int .i64 (wrap64 (x.num + 1))) HB.out (n := g) (by omega))
              clear hcell hx hown hg1
              go_wp2_with fail
              go_roundw
              case rel => exact ⟨k + 1, _, by omega, by go_num, by rw [List.length_set]; exact HLL.out, HW.out, HBS.out⟩
              case measure => simp [kOf]; omega
            · have e0 : decide ((k : Int) < (lt.length : Int)) = false := decide_eq_false (by omega)
              clear hown
              go_wp2_with fail
              have HBz := Lib.hid (below_call HB3.out HB.out)
              go_wp2_with (first
                | (go_at_call 18; (with_reducible refine (same12b l _ _ _ (HIN.out.later HB.out) (HL.out.later HBz.out)).mono ?_); rintro e wP ⟨rfl, hbP⟩; have HBP := Lib.hid hbP; clear hbP)
                | (go_at_call 18; (with_reducible refine (same12b more _ _ wP (HAD.out.later (HB.out.trans (HBP.out.mono HB.out.size))) (HM.out.later (below_call HBz.out HBP.out))).mono ?_); rintro e wQ ⟨rfl, hbQ⟩; have HBQ := Lib.hid (below_call HBP.out hbQ); clear hbQ)
                | (go_at_call 22; (with_reducible refine (keptIntsT bs _ _ wQ (HTK.out.later (HB.out.trans (HBQ.out.mono HB.out.size))) (HT.out.later (below_call HBz.out HBQ.out)) (by omega)).mono ?_); rintro e wR ⟨rfl, hbR⟩; have HBR := Lib.hid (below_call HBQ.out hbR); clear hbR)
                | (go_at_call 6; (with_reducible refine (awake12 wR).mono ?_); rintro e wS ⟨rfl, hbS⟩))
              go_ret
              exact ⟨rfl, below_call (below_call HBz.out HBR.out) hbS⟩
end Go.Proofs.Ytnmlmnhgjnkbhaa
