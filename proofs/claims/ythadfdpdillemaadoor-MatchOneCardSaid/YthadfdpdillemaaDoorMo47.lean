/-
  MatchOne: true. Condition: errors.errorType holds its value.
-/
import Derived.Test.YthadfdpdillemaaDoorMo46
import Derived.Deep.CutRange
import Derived.Deep.DeepCutAuto
import Derived.Test.YthadfdpdillemaaDoorMo35
set_option linter.unusedVariables false
set_option linter.unusedSimpArgs false
namespace Go.Proofs.YthadfdpdillemaaDoor
open Go.RowKit

theorem min_nat (x : Int) (n : Nat) : ∃ k : Nat, min (max x 0) (n : Int) = (k : Int) ∧ k ≤ n := ⟨(min (max x 0) (n : Int)).toNat, by omega, by omega⟩
theorem min_nat2 (x : Int) (n : Nat) : ∃ k : Nat, (if (n : Int) < (if x < 0 then 0 else x) then (n : Int) else (if x < 0 then 0 else x)) = (k : Int) ∧ k ≤ n := by
  by_cases h0 : x < 0
  · rw [if_pos h0, if_neg (by omega)]; exact ⟨0, rfl, by omega⟩
  · rw [if_neg h0]
    by_cases h1 : (n : Int) < x
    · rw [if_pos h1]; exact ⟨n, rfl, Nat.le_refl _⟩
    · rw [if_neg h1]; exact ⟨x.toNat, by omega, by omega⟩
theorem wrap_T1 {T : Int} (h : 0 ≤ T ∧ T ≤ 1000) : wrap64 (T + 1) = T + 1 := by unfold wrap64; omega
theorem wrap_T2 {T : Int} {j : Nat} (h : 0 ≤ T ∧ T ≤ 1000) (hj : j ≤ 20) : wrap64 (T + 1 + (j : Int) / 3) = T + 1 + (j : Int) / 3 := by unfold wrap64; omega
theorem three (x : Int) (n : Nat) : (x < 0 ∧ ¬ (n : Int) < 0) ∨ (¬ x < 0 ∧ (n : Int) < x) ∨ (¬ x < 0 ∧ ¬ (n : Int) < x) := by omega
theorem own_cases {α : Type} {k : Nat} {row : α → List Value} {e : TypeId} {base n c : Nat} {w : World} {A : Option Addr} {l : List α} (h : Own k row e base w (.slice A n c) l) : (A = none ∧ n = 0 ∧ c = 0 ∧ l = []) ∨ ∃ g, A = some ⟨g, 0, none⟩ ∧ n = l.length ∧ n ≤ c := by
  rcases h.2 with ⟨hv, h0⟩ | ⟨g, cap, cur, hv, _, _, h1, _⟩
  · simp only [Value.slice.injEq] at hv
    exact .inl ⟨hv.1, hv.2.1, hv.2.2, List.eq_nil_of_length_eq_zero h0⟩
  · simp only [Value.slice.injEq] at hv
    exact .inr ⟨g, hv.1, hv.2.1, by omega⟩

set_option maxRecDepth 100000 in
set_option maxHeartbeats 8000000 in
theorem matchOne (ts : List Int) (v : Value) (fk mo fr : Int) (w : World) (h : Sl 1 i64Row w.heap.size w v ts) (hl : ts.length ≤ 140737488351232) (hG : errTypeIs w) :
    Calls Tryd.prog 3 #[v, .int .i64 fk, .int .i64 mo, .int .i64 fr] w fun e w' => e = .returned (.bool true) ∧ Below w.heap.size w w' := by
  obtain ⟨Av, cv, rfl, -⟩ := id h
  have HL := Lib.hid h
  have HG := Lib.hid hG
  clear h hG
  by_cases hnil : ts = []
  · subst hnil
    exact matchOne_nil _ fk mo fr w HL.out HG.out
  have hz0 : 0 < ts.length := List.length_pos_iff.2 hnil
  clear hnil
  by_cases hs : 40 < ts.length
  · have d0 : decide ((40 : Int) < (ts.length : Int)) = true := decide_eq_true (by omega)
    have d1 : decide (40 < ts.length) = true := decide_eq_true hs
    go_enter Tryd.func3, Tryd.ntmps3
    go_wp2_with (go_at_call 8; refine (awake20 _ HG.out).mono ?_; rintro e w1 ⟨rfl, hb1⟩; have HB1 := Lib.hid hb1; clear hb1)
    go_ret
    exact ⟨rfl, HB1.out⟩
  have d0 : decide ((40 : Int) < (ts.length : Int)) = false := decide_eq_false (by omega)
  have d1 : decide (40 < ts.length) = false := decide_eq_false hs
  have hl4 : ts.length ≤ 40 := by omega
  go_enter Tryd.func3, Tryd.ntmps3
  go_wp2_with (go_at_call 8; refine (awake20 _ HG.out).mono ?_; rintro e w1 ⟨rfl, hb1⟩; have HB1 := Lib.hid hb1; clear hb1)
  clear d0 d1 hs hl
  go_loopw [9, 10, 11] (fun tv ov i wr => ∃ (k : Nat) (A : Option Addr) (c : Nat), k ≤ ts.length ∧ i = .int .i64 k ∧ tv = .int .i64 (lastT 0 (ts.take k)) ∧ ov = .slice A k c ∧ Own 1 i64Row 3 w.heap.size wr (.slice A k c) (ownT 0 (ts.take k)) ∧ Below w.heap.size w wr) (fun _ _ i _ => ts.length - (intOf i).toNat)
  case atStart => exact ⟨0, none, 0, by omega, rfl, rfl, rfl, Own.nil_ _ _ _ _ _, HB1.out⟩
  case round =>
    clear HB1
    obtain ⟨k, A, c, hk, rfl, rfl, rfl, hown, hB⟩ := hrel
    have HO := Lib.hid hown
    have HB := Lib.hid hB
    have hzr := hB.size
    clear hown hB
    by_cases hlt : k < ts.length
    · obtain ⟨b, off, cap3, e3, hlc3, hcm3, hb3, hcell⟩ := (HL.out.later HB.out).cellAt (by intro h; subst h; simp at hlt)
      simp only [Value.slice.injEq] at e3
      obtain ⟨rfl, -, rfl⟩ := e3
      obtain ⟨x, hx⟩ : ∃ x, ts[k]? = some x := ⟨_, List.getElem?_eq_getElem hlt⟩
      have k0 : wr.cell? ⟨b, off + k, none⟩ = some (.int .i64 x) := by simpa using hcell k x hx 0 _ rfl
      have hr := lastT_le (ts.take k) 0
      rw [List.length_take, Nat.min_eq_left hk] at hr
      have HLN := Lib.hid (ownT_length (ts.take k) 0)
      rw [List.length_take, Nat.min_eq_left hk] at HLN
      have HN1 := Lib.hid (show lastT 0 (ts.take (k + 1)) = stepT (lastT 0 (ts.take k)) x by rw [take_at hx, lastT_snoc])
      have HN2 := Lib.hid (show ownT 0 (ts.take (k + 1)) = ownT 0 (ts.take k) ++ [stepT (lastT 0 (ts.take k)) x] by rw [take_at hx, ownT_snoc])
      obtain ⟨t0, ht0⟩ : ∃ z, lastT 0 (ts.take k) = z := ⟨_, rfl⟩
      rw [ht0] at hr HN1 HN2
      rw [ht0]
      have d0 : decide ((k : Int) < (ts.length : Int)) = true := decide_eq_true (by omega)
      have d0' : decide (k < ts.length) = true := decide_eq_true hlt
      have i0 : (0 : Int) ≤ (k : Int) := by omega
      have i1 : (k : Int) < (ts.length : Int) := by omega
      have hll : (ownT 0 (ts.take k)).length + 1 ≤ 4294967296 := by have := HLN.out; omega
      clear hcell hx ht0
      rcases (show x < 0 ∨ x = 0 ∨ x = 1 ∨ x = 2 ∨ 2 < x by omega) with g | g | g | g | g
      · have hst : stepT t0 x = t0 := by unfold stepT; omega
        have w1 : wrap64 t0 = t0 := by unfold wrap64; omega
        rw [hst] at HN1 HN2
        clear hst hr
        have g2 : x ≤ 0 := by omega
        go_wp2_with (at_builtin; refine wpList_append_row _ rfl (.tmp 44) (.tmp 46) 22 rfl w.heap.size 3 _ 1 8 Tryd.underlying22 intInfo rfl (Nat.succ_pos 0) i64Row i64Row_length i64Row_one (ownT 0 (ts.take k)) _ rfl HO.out t0 _ rfl 3 _ rfl rfl hll (by omega) hzr ?_; intro v5 w5 p1 p2 p3 p4 p5; obtain ⟨A5, c5, rfl⟩ : ∃ A5 c5, v5 = .slice A5 (k + 1) c5 := (by obtain ⟨A6, c6, h6, -⟩ := p1.sl i64Row_length; exact ⟨A6, c6, by rw [h6]; simp [HLN.out]⟩); have HO5 := Lib.hid p1; have HP5 := Lib.hid p2; clear p1 p2 p3 p4 p5)
        go_roundw
        case rel => exact ⟨k + 1, A5, c5, by omega, by go_num, by rw [HN1.out], rfl, by rw [HN2.out]; exact HO5.out, HB.out.trans HP5.out⟩
        case measure => (simp [intOf]; omega)
      · have hst : stepT t0 x = t0 := by unfold stepT; omega
        have w1 : wrap64 t0 = t0 := by unfold wrap64; omega
        rw [hst] at HN1 HN2
        clear hst hr
        subst g
        go_wp2_with (at_builtin; refine wpList_append_row _ rfl (.tmp 44) (.tmp 46) 22 rfl w.heap.size 3 _ 1 8 Tryd.underlying22 intInfo rfl (Nat.succ_pos 0) i64Row i64Row_length i64Row_one (ownT 0 (ts.take k)) _ rfl HO.out t0 _ rfl 3 _ rfl rfl hll (by omega) hzr ?_; intro v5 w5 p1 p2 p3 p4 p5; obtain ⟨A5, c5, rfl⟩ : ∃ A5 c5, v5 = .slice A5 (k + 1) c5 := (by obtain ⟨A6, c6, h6, -⟩ := p1.sl i64Row_length; exact ⟨A6, c6, by rw [h6]; simp [HLN.out]⟩); have HO5 := Lib.hid p1; have HP5 := Lib.hid p2; clear p1 p2 p3 p4 p5)
        go_roundw
        case rel => exact ⟨k + 1, A5, c5, by omega, by go_num, by rw [HN1.out], rfl, by rw [HN2.out]; exact HO5.out, HB.out.trans HP5.out⟩
        case measure => (simp [intOf]; omega)
      · have hst : stepT t0 x = (t0 + 1) := by unfold stepT; omega
        have w1 : wrap64 (t0 + 1) = (t0 + 1) := by unfold wrap64; omega
        rw [hst] at HN1 HN2
        clear hst hr
        subst g
        go_wp2_with (at_builtin; refine wpList_append_row _ rfl (.tmp 44) (.tmp 46) 22 rfl w.heap.size 3 _ 1 8 Tryd.underlying22 intInfo rfl (Nat.succ_pos 0) i64Row i64Row_length i64Row_one (ownT 0 (ts.take k)) _ rfl HO.out (t0 + 1) _ rfl 3 _ rfl rfl hll (by omega) hzr ?_; intro v5 w5 p1 p2 p3 p4 p5; obtain ⟨A5, c5, rfl⟩ : ∃ A5 c5, v5 = .slice A5 (k + 1) c5 := (by obtain ⟨A6, c6, h6, -⟩ := p1.sl i64Row_length; exact ⟨A6, c6, by rw [h6]; simp [HLN.out]⟩); have HO5 := Lib.hid p1; have HP5 := Lib.hid p2; clear p1 p2 p3 p4 p5)
        go_roundw
        case rel => exact ⟨k + 1, A5, c5, by omega, by go_num, by rw [HN1.out], rfl, by rw [HN2.out]; exact HO5.out, HB.out.trans HP5.out⟩
        case measure => (simp [intOf]; omega)
      · have hst : stepT t0 x = (t0 + 2) := by unfold stepT; omega
        have w1 : wrap64 (t0 + 2) = (t0 + 2) := by unfold wrap64; omega
        rw [hst] at HN1 HN2
        clear hst hr
        subst g
        go_wp2_with (at_builtin; refine wpList_append_row _ rfl (.tmp 44) (.tmp 46) 22 rfl w.heap.size 3 _ 1 8 Tryd.underlying22 intInfo rfl (Nat.succ_pos 0) i64Row i64Row_length i64Row_one (ownT 0 (ts.take k)) _ rfl HO.out (t0 + 2) _ rfl 3 _ rfl rfl hll (by omega) hzr ?_; intro v5 w5 p1 p2 p3 p4 p5; obtain ⟨A5, c5, rfl⟩ : ∃ A5 c5, v5 = .slice A5 (k + 1) c5 := (by obtain ⟨A6, c6, h6, -⟩ := p1.sl i64Row_length; exact ⟨A6, c6, by rw [h6]; simp [HLN.out]⟩); have HO5 := Lib.hid p1; have HP5 := Lib.hid p2; clear p1 p2 p3 p4 p5)
        go_roundw
        case rel => exact ⟨k + 1, A5, c5, by omega, by go_num, by rw [HN1.out], rfl, by rw [HN2.out]; exact HO5.out, HB.out.trans HP5.out⟩
        case measure => (simp [intOf]; omega)
      · have hst : stepT t0 x = (t0 + 2) := by unfold stepT; omega
        have w1 : wrap64 (t0 + 2) = (t0 + 2) := by unfold wrap64; omega
        rw [hst] at HN1 HN2
        clear hst hr
        have g2 : 0 < x := by omega
        go_wp2_with (at_builtin; refine wpList_append_row _ rfl (.tmp 44) (.tmp 46) 22 rfl w.heap.size 3 _ 1 8 Tryd.underlying22 intInfo rfl (Nat.succ_pos 0) i64Row i64Row_length i64Row_one (ownT 0 (ts.take k)) _ rfl HO.out (t0 + 2) _ rfl 3 _ rfl rfl hll (by omega) hzr ?_; intro v5 w5 p1 p2 p3 p4 p5; obtain ⟨A5, c5, rfl⟩ : ∃ A5 c5, v5 = .slice A5 (k + 1) c5 := (by obtain ⟨A6, c6, h6, -⟩ := p1.sl i64Row_length; exact ⟨A6, c6, by rw [h6]; simp [HLN.out]⟩); have HO5 := Lib.hid p1; have HP5 := Lib.hid p2; clear p1 p2 p3 p4 p5)
        go_roundw
        case rel => exact ⟨k + 1, A5, c5, by omega, by go_num, by rw [HN1.out], rfl, by rw [HN2.out]; exact HO5.out, HB.out.trans HP5.out⟩
        case measure => (simp [intOf]; omega)
    · have d0 : decide ((k : Int) < (ts.length : Int)) = false := decide_eq_false (by omega)
      have d0' : decide (k < ts.length) = false := decide_eq_false hlt
      have hkl : k = ts.length := by omega
      have HOW := Lib.hid (ownI_of hl4)
      have hr := lastT_le ts 0
      have HON : Hid ((ownT 0 ts).length = ts.length) := ownT_length ts 0
      have HOs := Lib.hid (show Own 1 i64Row 3 w.heap.size wr (.slice A ts.length c) (ownT 0 ts) by have h := HO.out; rw [hkl, List.take_length] at h; exact h)
      rw [hkl, List.take_length]
      obtain ⟨T, hT⟩ : ∃ z, lastT 0 ts = z := ⟨_, rfl⟩
      obtain ⟨ow, how⟩ : ∃ z, ownT 0 ts = z := ⟨_, rfl⟩
      rw [hT] at hr HOW
      rw [how] at HOW HON HOs
      rw [hT]
      have d2 : decide ((ts.length : Int) < (ts.length : Int)) = false := decide_eq_false (by omega)
      have d2' : decide (ts.length < ts.length) = false := decide_eq_false (by omega)
      clear hT how hkl d0 d0' hlt hk HO
      obtain ⟨kf, e12, hkf⟩ := min_nat2 fk ts.length
      have E12 := Lib.hid e12
      clear e12
      go_upto_region 12 with fail
      go_cut [12] (fun v wx => v = .int .i64 kf ∧ wx = wr)
      case first =>
        rcases three fk ts.length with ⟨n1, n2⟩ | ⟨n1, n2⟩ | ⟨n1, n2⟩
        · go_wp2_with fail
          go_meet
          have E := E12.out
          rw [if_pos n1, if_neg (show ¬ (ts.length : Int) < 0 by omega)] at E
          exact ⟨by rw [E], rfl⟩
        · go_wp2_with fail
          go_meet
          have E := E12.out
          rw [if_neg (show ¬ fk < 0 by omega), if_pos n2] at E
          exact ⟨by rw [E], rfl⟩
        · go_wp2_with fail
          go_meet
          have E := E12.out
          rw [if_neg (show ¬ fk < 0 by omega), if_neg (show ¬ (ts.length : Int) < fk by omega)] at E
          exact ⟨by rw [E], rfl⟩
      case rest =>
      obtain ⟨rfl, hw⟩ := hcut
      rw [hw]
      clear hw
      have kf0 : (0 : Int) ≤ (kf : Int) := by omega
      have kf1 : (kf : Int) ≤ (ts.length : Int) := by omega
      obtain ⟨wz, hwz⟩ : ∃ x, x = wr := ⟨_, rfl⟩
      rw [← hwz] at HB hzr HOs
      rw [← hwz]
      clear hwz
      rcases own_cases HOs.out with ⟨hA, h0, h1, h2⟩ | ⟨gA, hA, -, hcc⟩
      · omega
      · rw [hA] at HOs
        rw [hA]
        have kf2 : (kf : Int) ≤ (c : Int) := by omega
        have HSo := Lib.hid (HOs.out.sl i64Row_length)
        have HTK := Lib.hid (show Sl 1 i64Row wz.heap.size wz (.slice (some ⟨gA, 0, none⟩) kf c) (ow.take kf) from HSo.out.take_ (by rw [HON.out]; exact hkf))
        have O4 := Lib.hid (Own.made 1 i64Row 3 wz)
        have hz4 : wz.heap.size ≤ (wz.alloc (.cells #[] 3)).heap.size := (below_new wz (.cells #[] 3)).size
        have htk : (ow.take kf).length = kf := by rw [List.length_take, HON.out]; omega
        go_upto_region 14 with (at_builtin; refine wpList_append_all _ rfl (.tmp 53) (.tmp 56) 22 rfl wz.heap.size 3 _ 1 8 Tryd.underlying22 intInfo rfl (Nat.succ_pos 0) i64Row i64Row_length i64Row_one [] _ rfl O4.out (ow.take kf) (wz.alloc (.cells #[] 3)).heap.size _ (HTK.out.alloc (.cells #[] 3)) rfl (by rw [htk]; unfold maxLen; simp; omega) (by rw [htk]; simp; omega) hz4 ?_; intro v3 w7 q1 q2 q3 q4 q5)
        have O5 := Lib.hid (show Own 1 i64Row 3 wz.heap.size w7 v3 (ow.take kf) from by simpa using q1)
        have P7 := Lib.hid (show Below wz.heap.size wz w7 from (below_new _ _).trans q2)
        clear q1 q2 q3 q4 q5
        obtain ⟨A3, c3, rfl⟩ : ∃ A3 c3, v3 = .slice A3 kf c3 := by obtain ⟨A6, c6, h6, -⟩ := O5.out.sl i64Row_length; exact ⟨A6, c6, by rw [h6, htk]⟩
        have HTK2 := Lib.hid htk
        obtain ⟨rr, e20, hrr⟩ := min_nat2 mo 20
        have E20 : Hid ((if (20 : Int) < (if mo < 0 then 0 else mo) then (20 : Int) else (if mo < 0 then 0 else mo)) = (rr : Int)) := e20
        have HTT := Lib.hid (show 0 ≤ T ∧ T ≤ 1000 by omega)
        clear htk e20 hr O4 HTK hz4
        go_wp2_with fail
        clear d2 d2'
        go_loopw [13, 14] (fun ov i wx => ∃ (j : Nat) (A : Option Addr) (c : Nat), j ≤ 20 ∧ i = .int .i64 j ∧ ov = .slice A (kf + j) c ∧ Own 1 i64Row 3 wz.heap.size wx (.slice A (kf + j) c) (ow.take kf ++ moreT T j) ∧ Below wz.heap.size wz wx) (fun _ i _ => 20 - (intOf i).toNat)
        case atStart => exact ⟨0, A3, c3, by omega, rfl, rfl, by simpa [moreT] using O5.out, P7.out⟩
        case round =>
          clear O5 P7
          obtain ⟨j, A, c4, hj, rfl, rfl, hown, hBj⟩ := hrel
          have HOj := Lib.hid hown
          have HBj := Lib.hid hBj
          have hzj := hBj.size
          clear hown hBj
          go_upto_region 15 with fail
          go_cut [62] (fun v wx => v = .bool (decide (j < rr)) ∧ wx = wr)
          case first =>
            rcases three mo 20 with ⟨n1, n2⟩ | ⟨n1, n2⟩ | ⟨n1, n2⟩
            · go_wp2_with fail
              go_meet
              have E := E20.out
              rw [if_pos n1, if_neg (show ¬ (20 : Int) < 0 by omega)] at E
              refine ⟨congrArg Value.bool ?_, rfl⟩
              first
                | exact (decide_eq_false (by omega)).symm
                | exact decide_eq_decide.2 (by omega)
                | exact (decide_eq_true (by omega)).symm
            · go_wp2_with fail
              go_meet
              have E := E20.out
              rw [if_neg (show ¬ mo < 0 by omega), if_pos (show (20 : Int) < mo by omega)] at E
              refine ⟨congrArg Value.bool ?_, rfl⟩
              first
                | exact (decide_eq_false (by omega)).symm
                | exact decide_eq_decide.2 (by omega)
                | exact (decide_eq_true (by omega)).symm
            · go_wp2_with fail
              go_meet
              have E := E20.out
              rw [if_neg (show ¬ mo < 0 by omega), if_neg (show ¬ (20 : Int) < mo by omega)] at E
              refine ⟨congrArg Value.bool ?_, rfl⟩
              first
                | exact (decide_eq_false (by omega)).symm
                | exact decide_eq_decide.2 (by omega)
                | exact (decide_eq_true (by omega)).symm
          case rest =>
          obtain ⟨rfl, hw⟩ := hcut
          rw [hw]
          clear hw
          by_cases hjr : j < rr
          · have d3 : decide (j < rr) = true := decide_eq_true hjr
            have HLJ := Lib.hid (show (ow.take kf ++ moreT T j).length = kf + j by rw [List.length_append, HTK2.out, moreT_length])
            have hll : (ow.take kf ++ moreT T j).length + 1 ≤ 4294967296 := by have := HLJ.out; omega
            have w1 : wrap64 (T + 1) = T + 1 := wrap_T1 HTT.out
            have w2 : wrap64 (T + 1 + (j : Int) / 3) = T + 1 + (j : Int) / 3 := wrap_T2 HTT.out hj
            have HMS := Lib.hid (show ow.take kf ++ moreT T (j + 1) = (ow.take kf ++ moreT T j) ++ [T + 1 + (j : Int) / 3] by rw [moreT_snoc, List.append_assoc]; rfl)
            go_wp2_with (at_builtin; refine wpList_append_row _ rfl (.tmp 65) (.tmp 71) 22 rfl wz.heap.size 3 _ 1 8 Tryd.underlying22 intInfo rfl (Nat.succ_pos 0) i64Row i64Row_length i64Row_one (ow.take kf ++ moreT T j) _ rfl HOj.out (T + 1 + (j : Int) / 3) _ rfl 3 _ rfl rfl hll (by omega) hzj ?_; intro v5 w5 p1 p2 p3 p4 p5; obtain ⟨A5, c5, rfl⟩ : ∃ A5 c5, v5 = .slice A5 (kf + (j + 1)) c5 := (by obtain ⟨A6, c6, h6, -⟩ := p1.sl i64Row_length; exact ⟨A6, c6, by rw [h6, List.length_append, HLJ.out]; rfl⟩); have HO5 := Lib.hid p1; have HP5 := Lib.hid p2; clear p1 p2 p3 p4 p5)
            go_roundw
            case rel => exact ⟨j + 1, A5, c5, by omega, by go_num, rfl, by rw [HMS.out]; exact HO5.out, HBj.out.trans HP5.out⟩
            case measure => (simp [intOf]; omega)
          · have d3 : decide (j < rr) = false := decide_eq_false hjr
            obtain ⟨ot, hot⟩ : ∃ z, z = ow.take kf ++ moreT T j := ⟨_, rfl⟩
            have HLJ := Lib.hid (show ot.length = kf + j by rw [hot, List.length_append, HTK2.out, moreT_length])
            have HON2 := Lib.hid (show OneI ow T (viewL 0 ot) kf by rw [hot]; exact one_start HOW.out (by rw [HON.out]; exact hkf) hj)
            rw [← hot] at HOj
            clear hot
            have HSj := Lib.hid (HOj.out.sl i64Row_length)
            have HBk := Lib.hid (HB.out.trans (HBj.out.mono hzr))
            have CV := Lib.hid (lawView ot _ wr HSj.out (by have := HLJ.out; omega))
            go_upto_region 19 with (first
              | (go_at_call 9; refine CV.out.mono ?_; rintro e w8 ⟨A1, c1, rfl, ho, hb⟩; have HO8 := Lib.hid ho; have HB8 := Lib.hid hb; clear ho hb)
              | (go_at_call 10; refine (lawEnts 0 ow _ w8 (HSo.out.later (below_call (HBj.out.mono (Nat.le_refl _)) HB8.out)) (by have := HON.out; omega) (by omega) (by omega)).mono ?_; rintro e w9 ⟨Al, cl, m, rfl, hky, ho, hf, hb⟩; have HK9 := Lib.hid hky; have HO9 := Lib.hid ho; have HI9 := Lib.hid (ents_in hky hf); have HB9 := Lib.hid hb; clear hky ho hf hb))
            have HLI := Lib.hid (leadI_of HK9.out)
            have hml : m.length = ow.length := HLI.out.len
            obtain ⟨gl, cl', el, hgl1, hgl2, -⟩ := HO9.out.place (by intro h9; rw [h9] at hml; have := HON.out; simp at hml; omega)
            have hlc : m.length ≤ cl' := by obtain ⟨A6, c6, h6, h7, -⟩ := HO9.out.sl entRow_length; rw [h6] at el; simp only [Value.slice.injEq] at el; omega
            simp only [Value.slice.injEq] at el
            obtain ⟨hAl, hol, rfl⟩ := el
            rw [hAl] at HO9
            rw [hAl]
            have HX15 := Lib.hid (Box.new w9 #[.int .i64 0, .int .i64 0, .int .i64 0, .slice A1 ot.length c1] 29)
            have HLd : Hid (Sl 4 entRow w9.heap.size (w9.alloc (.cells #[.int .i64 0, .int .i64 0, .int .i64 0, .slice A1 ot.length c1] 29)) (.slice (some ⟨gl, 0, none⟩) ow.length cl) m) := (HO9.out.sl entRow_length).below (below_new _ _)
            have HEI : Hid (∀ x ∈ m, EntIn w9.heap.size (w9.alloc (.cells #[.int .i64 0, .int .i64 0, .int .i64 0, .slice A1 ot.length c1] 29)) x ∧ x.bd.length ≤ 100000) := fun x hx => ⟨(HI9.out x hx).1.below (below_new _ _), (HI9.out x hx).2⟩
            have HVw : Hid (Sl 3 idRow w9.heap.size (w9.alloc (.cells #[.int .i64 0, .int .i64 0, .int .i64 0, .slice A1 ot.length c1] 29)) (.slice A1 ot.length c1) (viewL 0 ot)) := ((HO8.out.sl idRow_length).later HB9.out).below (below_new _ _)
            have HBb := Lib.hid (below_call (below_call (below_call HBk.out HB8.out) HB9.out) (below_new w9 (.cells #[.int .i64 0, .int .i64 0, .int .i64 0, .slice A1 ot.length c1] 29)))
            have hzb : w.heap.size ≤ w9.heap.size := (below_call (below_call HBk.out HB8.out) HB9.out).size
            have hnew : (w9.alloc (.cells #[.int .i64 0, .int .i64 0, .int .i64 0, .slice A1 ot.length c1] 29)).heap.size = w9.heap.size + 1 := by simp
            obtain ⟨g15, hg15⟩ : ∃ g, g = w9.heap.size := ⟨_, rfl⟩
            obtain ⟨wb, hwb⟩ : ∃ z, z = w9.alloc (.cells #[.int .i64 0, .int .i64 0, .int .i64 0, .slice A1 ot.length c1] 29) := ⟨_, rfl⟩
            rw [← hwb, ← hg15] at HX15 HLd HEI HVw
            rw [← hwb] at HBb
            rw [← hg15] at hzb
            rw [← hwb, ← hg15] at hnew
            rw [← hwb, ← hg15]
            have HMO := Lib.hid (show m.length = ow.length from hml)
            have HMT := Lib.hid (show m.length = ts.length by rw [hml]; exact HON.out)
            have hlc2 : ts.length ≤ cl := by rw [← HMT.out]; exact hlc
            have hol2 : ow.length = ts.length := HON.out
            rw [hol2] at HLd
            rw [hol2]
            clear hwb hg15 HO9 HI9 HK9 HO8 HB9 HB8 HBk CV HSj HLJ HOj HBj hjr d3 hAl hol hml hlc hol2
            obtain ⟨nx, e17, hnx⟩ := min_nat2 fr ts.length
            have E17 := Lib.hid e17
            clear e17
            go_cut [17] (fun v wx => v = .int .i64 nx ∧ wx = wb)
            case first =>
              rcases three fr ts.length with ⟨n1, n2⟩ | ⟨n1, n2⟩ | ⟨n1, n2⟩
              · go_wp2_with fail
                go_meet
                have E := E17.out
                rw [if_pos n1, if_neg (show ¬ (ts.length : Int) < 0 by omega)] at E
                exact ⟨by rw [E], rfl⟩
              · go_wp2_with fail
                go_meet
                have E := E17.out
                rw [if_neg (show ¬ fr < 0 by omega), if_pos n2] at E
                exact ⟨by rw [E], rfl⟩
              · go_wp2_with fail
                go_meet
                have E := E17.out
                rw [if_neg (show ¬ fr < 0 by omega), if_neg (show ¬ (ts.length : Int) < fr by omega)] at E
                exact ⟨by rw [E], rfl⟩
            case rest =>
            obtain ⟨rfl, hw⟩ := hcut
            rw [hw]
            clear hw
            go_wp2_with fail
            go_loopw [17, 18] (fun nv tv wx => ∃ (next turn a n : Nat) (L : List Idt) (A : Option Addr) (c : Nat), next ≤ ts.length ∧ nv = .int .i64 next ∧ tv = .int .i64 turn ∧ OneI ow T L a ∧ kf ≤ a ∧ TurnI m a next turn ∧ Box wx g15 #[.int .i64 0, .int .i64 0, .int .i64 0, .slice A n c] 29 ∧ Sl 3 idRow wx.heap.size wx (.slice A n c) L ∧ Below g15 wb wx) (fun _ tv _ => 100 - (intOf tv).toNat)
            case atStart => exact ⟨nx, 0, kf, ot.length, viewL 0 ot, A1, c1, hnx, rfl, rfl, HON2.out, Nat.le_refl _, .inl (by rw [HMT.out]; omega), HX15.out, HVw.out.more (by omega), Below.refl _ _⟩
            case round =>
              clear HX15 HVw HON2
              obtain ⟨next, turn, a, n, L, A, c5, hnl, rfl, rfl, hone, hka, htn, hbx, hsl, hB3⟩ := hrel
              have H1 := Lib.hid hone
              have HTN := Lib.hid htn
              have HX := Lib.hid hbx
              have HS := Lib.hid hsl
              have HB3 := Lib.hid hB3
              have hz3 := hB3.size
              have hnL : n = L.length := by obtain ⟨A6, c6, h6, -⟩ := hsl; simp only [Value.slice.injEq] at h6; exact h6.2.1
              have htl := turn_lt HOW.out HLI.out (by rw [HMT.out]; exact hnl) htn
              have d4 : decide ((turn : Int) < 100) = true := decide_eq_true (by omega)
              have nx0 : (0 : Int) ≤ (next : Int) := by omega
              have nx1 : (next : Int) ≤ (cl : Int) := by omega
              have HLr : Hid (Sl 4 entRow wr.heap.size wr (.slice (some ⟨gl, 0, none⟩) ts.length cl) m) := (HLd.out.below hB3).more (by omega)
              have CL := Lib.hid (entLast zI (m.take next) (.slice (some ⟨gl, 0, none⟩) next cl) wr (HLr.out.take_ (by rw [HMT.out]; exact hnl)))
              clear hone htn hbx hsl hB3
              go_upto_region 24 with (go_at_call 11; refine CL.out.mono ?_; rintro e w8 ⟨rfl, hb8⟩; have HB8 := Lib.hid hb8; clear hb8)
              have XP1 := Lib.hid (Box.new w8 #[.int .i64 (prevE m next).idx, .int .i64 (prevE m next).trm, .int .i64 (prevE m next).knd] 26)
              have HB9 := Lib.hid (below_call HB8.out (below_new w8 (.cells #[.int .i64 (prevE m next).idx, .int .i64 (prevE m next).trm, .int .i64 (prevE m next).knd] 26)))
              rw [show lastE zI (m.take next) = prevE m next from rfl]
              obtain ⟨g19, hg19⟩ : ∃ g, g = w8.heap.size := ⟨_, rfl⟩
              obtain ⟨wq, hwq⟩ : ∃ z, z = w8.alloc (.cells #[.int .i64 (prevE m next).idx, .int .i64 (prevE m next).trm, .int .i64 (prevE m next).knd] 26) := ⟨_, rfl⟩
              rw [← hwq] at XP1 HB9
              rw [← hwq, ← hg19]
              rw [← hg19] at XP1
              clear hwq hg19 CL HB8
              have HBq := Lib.hid (HB3.out.trans (HB9.out.mono (Nat.le_trans (by omega) hz3)))
              have XVq := Lib.hid (HX.out.later HB9.out)
              have HSq := Lib.hid (HS.out.later HB9.out)
              have HLq := Lib.hid (HLr.out.later HB9.out)
              have HEq : Hid (∀ x ∈ m, EntIn wq.heap.size wq x ∧ x.bd.length ≤ 100000) := fun x hx => ⟨((HEI.out x hx).1.below HBq.out).more (by have := HBq.out.size; omega), (HEI.out x hx).2⟩
              have HGq := Lib.hid (errType_later HG.out (HBb.out.trans (HBq.out.mono hzb)))
              obtain ⟨pv, hpv⟩ : ∃ p, prevE m next = p := ⟨_, rfl⟩
              have HPV := Lib.hid hpv
              rw [hpv] at XP1
              rw [hpv]
              clear hpv
              subst hnL
              have hse := Lib.hid (sendE_length (lead := m) (next := next) (by rw [HMT.out]; exact hnl))
              have CF : Hid (∀ V s, Below wq.heap.size wq V → Sl 4 entRow V.heap.size V s (sendE m next) → Calls Tryd.prog 12 #[.agg #[.int .i64 0, .int .i64 0, .int .i64 0, .slice A L.length c5], .agg #[.int .i64 pv.idx, .int .i64 pv.trm, .int .i64 pv.knd], s] V fun e w' => ∃ y ix ct A1 n1 c1 A2 n2 c2, e = .returned (.tuple #[.agg #[.bool y, .int .i64 ix, .int .i64 ct, .slice A1 n1 c1, .slice A2 n2 c2], .int .i64 0]) ∧ FitG L (sendE m next) pv next V.heap.size w' y ix ct A1 n1 c1 A2 n2 c2 ∧ Below V.heap.size V w') := fun V s p hs9 => by
                have h := fitOne HOW.out HLI.out (by rw [HMT.out]; exact hnl) H1.out A c5 s V (HSq.out.later p) hs9 (fun x hx => ⟨(HEq.out x hx).1.later p, (HEq.out x hx).2⟩) (errType_later HGq.out p)
                rw [HPV.out] at h
                exact h
              have HFR : Hid (∀ w', Below wq.heap.size wq w' → w'.cell? ⟨g15, 0, none⟩ = some (Value.int .i64 0) ∧ w'.cell? ⟨g15, 1, none⟩ = some (.int .i64 0) ∧ w'.cell? ⟨g15, 2, none⟩ = some (.int .i64 0) ∧ w'.cell? ⟨g15, 3, none⟩ = some (.slice A L.length c5) ∧ w'.cell? ⟨g19, 0, none⟩ = some (.int .i64 pv.idx) ∧ w'.cell? ⟨g19, 1, none⟩ = some (.int .i64 pv.trm) ∧ w'.cell? ⟨g19, 2, none⟩ = some (.int .i64 pv.knd)) := fun w' p => ⟨cell_later p (XVq.out.cell 0), cell_later p (XVq.out.cell 1), cell_later p (XVq.out.cell 2), cell_later p (XVq.out.cell 3), cell_later p (XP1.out.cell 0), cell_later p (XP1.out.cell 1), cell_later p (XP1.out.cell 2)⟩
              have w3 : IntKind.i64.wrap ((next : Int) + 3) = (next : Int) + 3 := IntWalk.i64_in _ (by omega)
              go_cut [20, 21] (fun p e wx => ∃ gp y ix ct A1 n1 c1 A2 n2 c2, p = .pointer (some ⟨gp, 0, none⟩) ∧ e = .int .i64 0 ∧ Box wx gp #[.bool y, .int .i64 ix, .int .i64 ct, .slice A1 n1 c1, .slice A2 n2 c2] 35 ∧ FitG L (sendE m next) pv next wq.heap.size wx y ix ct A1 n1 c1 A2 n2 c2 ∧ Below wq.heap.size wq wx)
              case first =>
                by_cases hc3 : (ts.length : Int) < (next : Int) + 3
                · by_cases hcn : cl = next
                  · have a1 : next ≤ ts.length := hnl
                    have a2 : (ts.length : Int) ≤ (cl : Int) := by omega
                    have a3 : (next : Int) ≤ (ts.length : Int) := by omega
                    have HSS := Lib.hid (show Sl 4 entRow wq.heap.size wq (.slice (some ⟨gl, 0, none⟩) 0 0) (sendE m next) from by have h := HLq.out.drop2 (j := next) (by rw [HMT.out]; exact hnl); rw [if_pos hcn, HMT.out, show cl - next = 0 by omega, show ts.length - next = 0 by omega] at h; unfold sendE; rw [HMT.out, show min (next + 3) ts.length = ts.length by omega, show m.take ts.length = m from by rw [← HMT.out]; exact List.take_length]; exact h)
                    subst hcn
                    refine wp_region_held_drew (S := fun w' => w'.cell? ⟨g15, 0, none⟩ = some (Value.int .i64 0) ∧ w'.cell? ⟨g15, 1, none⟩ = some (.int .i64 0) ∧ w'.cell? ⟨g15, 2, none⟩ = some (.int .i64 0) ∧ w'.cell? ⟨g15, 3, none⟩ = some (.slice A L.length c5) ∧ w'.cell? ⟨g19, 0, none⟩ = some (.int .i64 pv.idx) ∧ w'.cell? ⟨g19, 1, none⟩ = some (.int .i64 pv.trm) ∧ w'.cell? ⟨g19, 2, none⟩ = some (.int .i64 pv.knd)) (by kernel_rfl) (HFR.out _ (Below.refl _ _).drew) (fun hHeld => ?_)
                    first
                      | (refine wpAnyH_take (i := 0) (v := ?_) rfl (by kernel_rfl) (by kernel_rfl) (by kernel_rfl) (fun _ _ _ h => h) (Or.inl ⟨?_, ?_⟩) (by assumption) ?_; rotate_left; (focus rfl); (focus (intro w hSw; go_split_ands; go_simp; try with_reducible rfl)); skip)
                      | (refine wpAnyH_take (i := 0) (v := undef) rfl (by kernel_rfl) (by kernel_rfl) (by kernel_rfl) (fun _ _ _ h => h) (Or.inr ⟨?_, rfl⟩) (by assumption) ?_; (focus rfl))
                    try simp only [Act.put, List.setIfInBounds_toArray, List.set_cons_zero, List.set_cons_succ, List.getElem_toArray, List.getElem_cons_zero, List.getElem_cons_succ]
                    first
                      | (refine wpAnyH_take (i := 1) (v := ?_) rfl (by kernel_rfl) (by kernel_rfl) (by kernel_rfl) (fun _ _ _ h => h) (Or.inl ⟨?_, ?_⟩) (by assumption) ?_; rotate_left; (focus rfl); (focus (intro w hSw; go_split_ands; go_simp; try with_reducible rfl)); skip)
                      | (refine wpAnyH_take (i := 1) (v := undef) rfl (by kernel_rfl) (by kernel_rfl) (by kernel_rfl) (fun _ _ _ h => h) (Or.inr ⟨?_, rfl⟩) (by assumption) ?_; (focus rfl))
                    try simp only [Act.put, List.setIfInBounds_toArray, List.set_cons_zero, List.set_cons_succ, List.getElem_toArray, List.getElem_cons_zero, List.getElem_cons_succ]
                    first
                      | (refine wpAnyH_take (i := 2) (v := ?_) rfl (by kernel_rfl) (by kernel_rfl) (by kernel_rfl) (fun _ _ _ h => h) (Or.inl ⟨?_, ?_⟩) (by assumption) ?_; rotate_left; (focus rfl); (focus (intro w hSw; go_split_ands; go_simp; try with_reducible rfl)); skip)
                      | (refine wpAnyH_take (i := 2) (v := undef) rfl (by kernel_rfl) (by kernel_rfl) (by kernel_rfl) (fun _ _ _ h => h) (Or.inr ⟨?_, rfl⟩) (by assumption) ?_; (focus rfl))
                    try simp only [Act.put, List.setIfInBounds_toArray, List.set_cons_zero, List.set_cons_succ, List.getElem_toArray, List.getElem_cons_zero, List.getElem_cons_succ]
                    first
                      | (refine wpAnyH_take (i := 3) (v := ?_) rfl (by kernel_rfl) (by kernel_rfl) (by kernel_rfl) (fun _ _ _ h => h) (Or.inl ⟨?_, ?_⟩) (by assumption) ?_; rotate_left; (focus rfl); (focus (intro w hSw; go_split_ands; go_simp; try with_reducible rfl)); skip)
                      | (refine wpAnyH_take (i := 3) (v := undef) rfl (by kernel_rfl) (by kernel_rfl) (by kernel_rfl) (fun _ _ _ h => h) (Or.inr ⟨?_, rfl⟩) (by assumption) ?_; (focus rfl))
                    try simp only [Act.put, List.setIfInBounds_toArray, List.set_cons_zero, List.set_cons_succ, List.getElem_toArray, List.getElem_cons_zero, List.getElem_cons_succ]
                    first
                      | (refine wpAnyH_take (i := 4) (v := ?_) rfl (by kernel_rfl) (by kernel_rfl) (by kernel_rfl) (fun _ _ _ h => h) (Or.inl ⟨?_, ?_⟩) (by assumption) ?_; rotate_left; (focus rfl); (focus (intro w hSw; go_split_ands; go_simp; try with_reducible rfl)); skip)
                      | (refine wpAnyH_take (i := 4) (v := undef) rfl (by kernel_rfl) (by kernel_rfl) (by kernel_rfl) (fun _ _ _ h => h) (Or.inr ⟨?_, rfl⟩) (by assumption) ?_; (focus rfl))
                    try simp only [Act.put, List.setIfInBounds_toArray, List.set_cons_zero, List.set_cons_succ, List.getElem_toArray, List.getElem_cons_zero, List.getElem_cons_succ]
                    first
                      | (refine wpAnyH_take (i := 5) (v := ?_) rfl (by kernel_rfl) (by kernel_rfl) (by kernel_rfl) (fun _ _ _ h => h) (Or.inl ⟨?_, ?_⟩) (by assumption) ?_; rotate_left; (focus rfl); (focus (intro w hSw; go_split_ands; go_simp; try with_reducible rfl)); skip)
                      | (refine wpAnyH_take (i := 5) (v := undef) rfl (by kernel_rfl) (by kernel_rfl) (by kernel_rfl) (fun _ _ _ h => h) (Or.inr ⟨?_, rfl⟩) (by assumption) ?_; (focus rfl))
                    try simp only [Act.put, List.setIfInBounds_toArray, List.set_cons_zero, List.set_cons_succ, List.getElem_toArray, List.getElem_cons_zero, List.getElem_cons_succ]
                    first
                      | (refine wpAnyH_take (i := 6) (v := ?_) rfl (by kernel_rfl) (by kernel_rfl) (by kernel_rfl) (fun _ _ _ h => h) (Or.inl ⟨?_, ?_⟩) (by assumption) ?_; rotate_left; (focus rfl); (focus (intro w hSw; go_split_ands; go_simp; try with_reducible rfl)); skip)
                      | (refine wpAnyH_take (i := 6) (v := undef) rfl (by kernel_rfl) (by kernel_rfl) (by kernel_rfl) (fun _ _ _ h => h) (Or.inr ⟨?_, rfl⟩) (by assumption) ?_; (focus rfl))
                    try simp only [Act.put, List.setIfInBounds_toArray, List.set_cons_zero, List.set_cons_succ, List.getElem_toArray, List.getElem_cons_zero, List.getElem_cons_succ]
                    first
                      | (refine wpAnyH_take (i := 7) (v := ?_) rfl (by kernel_rfl) (by kernel_rfl) (by kernel_rfl) (fun _ _ _ h => h) (Or.inl ⟨?_, ?_⟩) (by assumption) ?_; rotate_left; (focus rfl); (focus (intro w hSw; go_split_ands; go_simp; try with_reducible rfl)); skip)
                      | (refine wpAnyH_take (i := 7) (v := undef) rfl (by kernel_rfl) (by kernel_rfl) (by kernel_rfl) (fun _ _ _ h => h) (Or.inr ⟨?_, rfl⟩) (by assumption) ?_; (focus rfl))
                    try simp only [Act.put, List.setIfInBounds_toArray, List.set_cons_zero, List.set_cons_succ, List.getElem_toArray, List.getElem_cons_zero, List.getElem_cons_succ]
                    first
                      | (refine wpAnyH_take (i := 8) (v := ?_) rfl (by kernel_rfl) (by kernel_rfl) (by kernel_rfl) (fun _ _ _ h => h) (Or.inl ⟨?_, ?_⟩) (by assumption) ?_; rotate_left; (focus rfl); (focus (intro w hSw; go_split_ands; go_simp; try with_reducible rfl)); skip)
                      | (refine wpAnyH_take (i := 8) (v := undef) rfl (by kernel_rfl) (by kernel_rfl) (by kernel_rfl) (fun _ _ _ h => h) (Or.inr ⟨?_, rfl⟩) (by assumption) ?_; (focus rfl))
                    try simp only [Act.put, List.setIfInBounds_toArray, List.set_cons_zero, List.set_cons_succ, List.getElem_toArray, List.getElem_cons_zero, List.getElem_cons_succ]
                    first
                      | (refine wpAnyH_take (i := 9) (v := ?_) rfl (by kernel_rfl) (by kernel_rfl) (by kernel_rfl) (fun _ _ _ h => h) (Or.inl ⟨?_, ?_⟩) (by assumption) ?_; rotate_left; (focus rfl); (focus (intro w hSw; go_split_ands; go_simp; try with_reducible rfl)); skip)
                      | (refine wpAnyH_take (i := 9) (v := undef) rfl (by kernel_rfl) (by kernel_rfl) (by kernel_rfl) (fun _ _ _ h => h) (Or.inr ⟨?_, rfl⟩) (by assumption) ?_; (focus rfl))
                    try simp only [Act.put, List.setIfInBounds_toArray, List.set_cons_zero, List.set_cons_succ, List.getElem_toArray, List.getElem_cons_zero, List.getElem_cons_succ]
                    refine wpAnyH_ready (rs := [10, 14]) (by kernel_rfl) (by simp) ?_
                    refine AllReadyH.cons rfl (fun K hK => ?_) (AllReadyH.cons rfl (fun K hK => ?_) AllReadyH.nil)
                    · go_simp
                      go_at_call 12
                      with_reducible refine (CF.out _ _ (show Below wq.heap.size wq wq.drew from (Below.refl _ _).drew) (HSS.out.later (show Below wq.heap.size wq wq.drew from (Below.refl _ _).drew))).mono ?_
                      rintro e w8 ⟨y, ix, ct, B1, n1, d1, B2, n2, d2, rfl, hg8, hb8⟩
                      have P8 := Lib.hid (show Below wq.heap.size wq w8 from below_call (show Below wq.heap.size wq wq.drew from (Below.refl _ _).drew) hb8)
                      have HG8 := Lib.hid hg8
                      clear hg8 hb8
                      refine hK.out _ _ (HFR.out _ P8.out) (fun hH => ?_)
                      clear hK K
                      try simp only [Act.put, List.setIfInBounds_toArray, List.set_cons_zero, List.set_cons_succ, List.getElem_toArray, List.getElem_cons_zero, List.getElem_cons_succ]
                      have hHeld2 := hH
                      first
                        | (refine wpAnyH_take (i := 11) (v := ?_) rfl (by kernel_rfl) (by kernel_rfl) (by kernel_rfl) (fun _ _ _ h => h) (Or.inl ⟨?_, ?_⟩) (by assumption) ?_; rotate_left; (focus rfl); (focus (intro w hSw; go_split_ands; go_simp; try with_reducible rfl)); skip)
                        | (refine wpAnyH_take (i := 11) (v := undef) rfl (by kernel_rfl) (by kernel_rfl) (by kernel_rfl) (fun _ _ _ h => h) (Or.inr ⟨?_, rfl⟩) (by assumption) ?_; (focus rfl))
                      try simp only [Act.put, List.setIfInBounds_toArray, List.set_cons_zero, List.set_cons_succ, List.getElem_toArray, List.getElem_cons_zero, List.getElem_cons_succ]
                      first
                        | (refine wpAnyH_take (i := 12) (v := ?_) rfl (by kernel_rfl) (by kernel_rfl) (by kernel_rfl) (fun _ _ _ h => h) (Or.inl ⟨?_, ?_⟩) (by assumption) ?_; rotate_left; (focus rfl); (focus (intro w hSw; go_split_ands; go_simp; try with_reducible rfl)); skip)
                        | (refine wpAnyH_take (i := 12) (v := undef) rfl (by kernel_rfl) (by kernel_rfl) (by kernel_rfl) (fun _ _ _ h => h) (Or.inr ⟨?_, rfl⟩) (by assumption) ?_; (focus rfl))
                      try simp only [Act.put, List.setIfInBounds_toArray, List.set_cons_zero, List.set_cons_succ, List.getElem_toArray, List.getElem_cons_zero, List.getElem_cons_succ]
                      first
                        | (refine wpAnyH_take (i := 13) (v := ?_) rfl (by kernel_rfl) (by kernel_rfl) (by kernel_rfl) (fun _ _ _ h => h) (Or.inl ⟨?_, ?_⟩) (by assumption) ?_; rotate_left; (focus rfl); (focus (intro w hSw; go_split_ands; go_simp; try with_reducible rfl)); skip)
                        | (refine wpAnyH_take (i := 13) (v := undef) rfl (by kernel_rfl) (by kernel_rfl) (by kernel_rfl) (fun _ _ _ h => h) (Or.inr ⟨?_, rfl⟩) (by assumption) ?_; (focus rfl))
                      try simp only [Act.put, List.setIfInBounds_toArray, List.set_cons_zero, List.set_cons_succ, List.getElem_toArray, List.getElem_cons_zero, List.getElem_cons_succ]
                      refine wpAnyH_ready (rs := [14]) (by kernel_rfl) (by simp) ?_
                      refine AllReadyH.cons rfl (fun K hK => ?_) AllReadyH.nil
                      go_simp
                      refine hK.out _ _ (HFR.out _ (below_call P8.out (below_new _ _))) (fun hH => ?_)
                      clear hK K
                      try simp only [Act.put, List.setIfInBounds_toArray, List.set_cons_zero, List.set_cons_succ, List.getElem_toArray, List.getElem_cons_zero, List.getElem_cons_succ]
                      refine wpAnyH_ready (rs := [15]) (by kernel_rfl) (by simp) ?_
                      refine AllReadyH.cons rfl (fun K hK => ?_) AllReadyH.nil
                      go_simp
                      refine hK.out _ _ (HFR.out _ (below_call P8.out (below_new _ _))) (fun hH => ?_)
                      clear hK K
                      try simp only [Act.put, List.setIfInBounds_toArray, List.set_cons_zero, List.set_cons_succ, List.getElem_toArray, List.getElem_cons_zero, List.getElem_cons_succ]
                      have hHeld3 := hH
                      first
                        | (refine wpAnyH_take (i := 16) (v := ?_) rfl (by kernel_rfl) (by kernel_rfl) (by kernel_rfl) (fun _ _ _ h => h) (Or.inl ⟨?_, ?_⟩) (by assumption) ?_; rotate_left; (focus rfl); (focus (intro w hSw; go_split_ands; go_simp; try with_reducible rfl)); skip)
                        | (refine wpAnyH_take (i := 16) (v := undef) rfl (by kernel_rfl) (by kernel_rfl) (by kernel_rfl) (fun _ _ _ h => h) (Or.inr ⟨?_, rfl⟩) (by assumption) ?_; (focus rfl))
                      try simp only [Act.put, List.setIfInBounds_toArray, List.set_cons_zero, List.set_cons_succ, List.getElem_toArray, List.getElem_cons_zero, List.getElem_cons_succ]
                      refine wpAnyH_done (by kernel_rfl) ?_ _
                      go_wp2_with fail
                      go_meet
                      exact ⟨w8.heap.size, y, ix, ct, B1, n1, d1, B2, n2, d2, rfl, rfl, Box.new _ _ _, HG8.out.later (below_new _ _), below_call P8.out (below_new _ _)⟩
                    · go_simp
                      refine hK.out _ _ (HFR.out _ (show Below wq.heap.size wq ((wq.alloc (.cells #[.bool false, .int .i64 0, .int .i64 0, .slice none 0 0, .slice none 0 0] 35)).drew) from (below_new _ _).drew)) (fun hH => ?_)
                      clear hK K
                      try simp only [Act.put, List.setIfInBounds_toArray, List.set_cons_zero, List.set_cons_succ, List.getElem_toArray, List.getElem_cons_zero, List.getElem_cons_succ]
                      refine wpAnyH_ready (rs := [10]) (by kernel_rfl) (by simp) ?_
                      refine AllReadyH.cons rfl (fun K hK => ?_) AllReadyH.nil
                      go_simp
                      go_at_call 12
                      with_reducible refine (CF.out _ _ (show Below wq.heap.size wq ((wq.alloc (.cells #[.bool false, .int .i64 0, .int .i64 0, .slice none 0 0, .slice none 0 0] 35)).drew) from (below_new _ _).drew) (HSS.out.later (show Below wq.heap.size wq ((wq.alloc (.cells #[.bool false, .int .i64 0, .int .i64 0, .slice none 0 0, .slice none 0 0] 35)).drew) from (below_new _ _).drew))).mono ?_
                      rintro e w8 ⟨y, ix, ct, B1, n1, d1, B2, n2, d2, rfl, hg8, hb8⟩
                      have P8 := Lib.hid (show Below wq.heap.size wq w8 from below_call (show Below wq.heap.size wq ((wq.alloc (.cells #[.bool false, .int .i64 0, .int .i64 0, .slice none 0 0, .slice none 0 0] 35)).drew) from (below_new _ _).drew) hb8)
                      have HG8 := Lib.hid hg8
                      have XA8 := Lib.hid (show Box w8 wq.heap.size #[.bool false, .int .i64 0, .int .i64 0, .slice none 0 0, .slice none 0 0] 35 from Box.later (show Box ((wq.alloc (.cells #[.bool false, .int .i64 0, .int .i64 0, .slice none 0 0, .slice none 0 0] 35)).drew) wq.heap.size #[.bool false, .int .i64 0, .int .i64 0, .slice none 0 0, .slice none 0 0] 35 from Box.new _ _ _) hb8)
                      clear hg8 hb8
                      refine hK.out _ _ (HFR.out _ P8.out) (fun hH => ?_)
                      clear hK K
                      try simp only [Act.put, List.setIfInBounds_toArray, List.set_cons_zero, List.set_cons_succ, List.getElem_toArray, List.getElem_cons_zero, List.getElem_cons_succ]
                      have hHeld2 := hH
                      first
                        | (refine wpAnyH_take (i := 11) (v := ?_) rfl (by kernel_rfl) (by kernel_rfl) (by kernel_rfl) (fun _ _ _ h => h) (Or.inl ⟨?_, ?_⟩) (by assumption) ?_; rotate_left; (focus rfl); (focus (intro w hSw; go_split_ands; go_simp; try with_reducible rfl)); skip)
                        | (refine wpAnyH_take (i := 11) (v := undef) rfl (by kernel_rfl) (by kernel_rfl) (by kernel_rfl) (fun _ _ _ h => h) (Or.inr ⟨?_, rfl⟩) (by assumption) ?_; (focus rfl))
                      try simp only [Act.put, List.setIfInBounds_toArray, List.set_cons_zero, List.set_cons_succ, List.getElem_toArray, List.getElem_cons_zero, List.getElem_cons_succ]
                      first
                        | (refine wpAnyH_take (i := 12) (v := ?_) rfl (by kernel_rfl) (by kernel_rfl) (by kernel_rfl) (fun _ _ _ h => h) (Or.inl ⟨?_, ?_⟩) (by assumption) ?_; rotate_left; (focus rfl); (focus (intro w hSw; go_split_ands; go_simp; try with_reducible rfl)); skip)
                        | (refine wpAnyH_take (i := 12) (v := undef) rfl (by kernel_rfl) (by kernel_rfl) (by kernel_rfl) (fun _ _ _ h => h) (Or.inr ⟨?_, rfl⟩) (by assumption) ?_; (focus rfl))
                      try simp only [Act.put, List.setIfInBounds_toArray, List.set_cons_zero, List.set_cons_succ, List.getElem_toArray, List.getElem_cons_zero, List.getElem_cons_succ]
                      first
                        | (refine wpAnyH_take (i := 13) (v := ?_) rfl (by kernel_rfl) (by kernel_rfl) (by kernel_rfl) (fun _ _ _ h => h) (Or.inl ⟨?_, ?_⟩) (by assumption) ?_; rotate_left; (focus rfl); (focus (intro w hSw; go_split_ands; go_simp; try with_reducible rfl)); skip)
                        | (refine wpAnyH_take (i := 13) (v := undef) rfl (by kernel_rfl) (by kernel_rfl) (by kernel_rfl) (fun _ _ _ h => h) (Or.inr ⟨?_, rfl⟩) (by assumption) ?_; (focus rfl))
                      try simp only [Act.put, List.setIfInBounds_toArray, List.set_cons_zero, List.set_cons_succ, List.getElem_toArray, List.getElem_cons_zero, List.getElem_cons_succ]
                      obtain ⟨ka, fa, za⟩ := XA8.out.facts
                      refine wpAnyH_ready (rs := [15]) (by kernel_rfl) (by simp) ?_
                      refine AllReadyH.cons rfl (fun K hK => ?_) AllReadyH.nil
                      go_simp
                      refine hK.out _ _ (HFR.out _ (below_set (below_set (below_set (below_set (below_set P8.out (Nat.le_refl _)) (Nat.le_refl _)) (Nat.le_refl _)) (Nat.le_refl _)) (Nat.le_refl _))) (fun hH => ?_)
                      clear hK K
                      try simp only [Act.put, List.setIfInBounds_toArray, List.set_cons_zero, List.set_cons_succ, List.getElem_toArray, List.getElem_cons_zero, List.getElem_cons_succ]
                      have hHeld3 := hH
                      first
                        | (refine wpAnyH_take (i := 16) (v := ?_) rfl (by kernel_rfl) (by kernel_rfl) (by kernel_rfl) (fun _ _ _ h => h) (Or.inl ⟨?_, ?_⟩) (by assumption) ?_; rotate_left; (focus rfl); (focus (intro w hSw; go_split_ands; go_simp; try with_reducible rfl)); skip)
                        | (refine wpAnyH_take (i := 16) (v := undef) rfl (by kernel_rfl) (by kernel_rfl) (by kernel_rfl) (fun _ _ _ h => h) (Or.inr ⟨?_, rfl⟩) (by assumption) ?_; (focus rfl))
                      try simp only [Act.put, List.setIfInBounds_toArray, List.set_cons_zero, List.set_cons_succ, List.getElem_toArray, List.getElem_cons_zero, List.getElem_cons_succ]
                      refine wpAnyH_done (by kernel_rfl) ?_ _
                      go_wp2_with fail
                      go_meet
                      exact ⟨wq.heap.size, y, ix, ct, B1, n1, d1, B2, n2, d2, rfl, rfl, Box.set5 XA8.out _ _ _ _ _, (HG8.out.set5 (show wq.heap.size < ((wq.alloc (.cells #[.bool false, .int .i64 0, .int .i64 0, .slice none 0 0, .slice none 0 0] 35)).drew).heap.size by show wq.heap.size < (wq.alloc (.cells #[.bool false, .int .i64 0, .int .i64 0, .slice none 0 0, .slice none 0 0] 35)).heap.size; simp) _ _ _ _ _).less (by show wq.heap.size ≤ (wq.alloc (.cells #[.bool false, .int .i64 0, .int .i64 0, .slice none 0 0, .slice none 0 0] 35)).heap.size; simp), below_set (below_set (below_set (below_set (below_set P8.out (Nat.le_refl _)) (Nat.le_refl _)) (Nat.le_refl _)) (Nat.le_refl _)) (Nat.le_refl _)⟩
                  · have a1 : next ≤ ts.length := hnl
                    have a2 : (ts.length : Int) ≤ (cl : Int) := by omega
                    have a3 : (next : Int) ≤ (ts.length : Int) := by omega
                    have HSS := Lib.hid (show Sl 4 entRow wq.heap.size wq (.slice (some ⟨gl, next * 4, none⟩) (ts.length - next) (cl - next)) (sendE m next) from by have h := HLq.out.drop_ (j := next) (by rw [HMT.out]; exact hnl); rw [HMT.out] at h; unfold sendE; rw [HMT.out, show min (next + 3) ts.length = ts.length by omega, show m.take ts.length = m from by rw [← HMT.out]; exact List.take_length]; simpa using h)
                    refine wp_region_held_drew (S := fun w' => w'.cell? ⟨g15, 0, none⟩ = some (Value.int .i64 0) ∧ w'.cell? ⟨g15, 1, none⟩ = some (.int .i64 0) ∧ w'.cell? ⟨g15, 2, none⟩ = some (.int .i64 0) ∧ w'.cell? ⟨g15, 3, none⟩ = some (.slice A L.length c5) ∧ w'.cell? ⟨g19, 0, none⟩ = some (.int .i64 pv.idx) ∧ w'.cell? ⟨g19, 1, none⟩ = some (.int .i64 pv.trm) ∧ w'.cell? ⟨g19, 2, none⟩ = some (.int .i64 pv.knd)) (by kernel_rfl) (HFR.out _ (Below.refl _ _).drew) (fun hHeld => ?_)
                    first
                      | (refine wpAnyH_take (i := 0) (v := ?_) rfl (by kernel_rfl) (by kernel_rfl) (by kernel_rfl) (fun _ _ _ h => h) (Or.inl ⟨?_, ?_⟩) (by assumption) ?_; rotate_left; (focus rfl); (focus (intro w hSw; go_split_ands; go_simp; try with_reducible rfl)); skip)
                      | (refine wpAnyH_take (i := 0) (v := undef) rfl (by kernel_rfl) (by kernel_rfl) (by kernel_rfl) (fun _ _ _ h => h) (Or.inr ⟨?_, rfl⟩) (by assumption) ?_; (focus rfl))
                    try simp only [Act.put, List.setIfInBounds_toArray, List.set_cons_zero, List.set_cons_succ, List.getElem_toArray, List.getElem_cons_zero, List.getElem_cons_succ]
                    first
                      | (refine wpAnyH_take (i := 1) (v := ?_) rfl (by kernel_rfl) (by kernel_rfl) (by kernel_rfl) (fun _ _ _ h => h) (Or.inl ⟨?_, ?_⟩) (by assumption) ?_; rotate_left; (focus rfl); (focus (intro w hSw; go_split_ands; go_simp; try with_reducible rfl)); skip)
                      | (refine wpAnyH_take (i := 1) (v := undef) rfl (by kernel_rfl) (by kernel_rfl) (by kernel_rfl) (fun _ _ _ h => h) (Or.inr ⟨?_, rfl⟩) (by assumption) ?_; (focus rfl))
                    try simp only [Act.put, List.setIfInBounds_toArray, List.set_cons_zero, List.set_cons_succ, List.getElem_toArray, List.getElem_cons_zero, List.getElem_cons_succ]
                    first
                      | (refine wpAnyH_take (i := 2) (v := ?_) rfl (by kernel_rfl) (by kernel_rfl) (by kernel_rfl) (fun _ _ _ h => h) (Or.inl ⟨?_, ?_⟩) (by assumption) ?_; rotate_left; (focus rfl); (focus (intro w hSw; go_split_ands; go_simp; try with_reducible rfl)); skip)
                      | (refine wpAnyH_take (i := 2) (v := undef) rfl (by kernel_rfl) (by kernel_rfl) (by kernel_rfl) (fun _ _ _ h => h) (Or.inr ⟨?_, rfl⟩) (by assumption) ?_; (focus rfl))
                    try simp only [Act.put, List.setIfInBounds_toArray, List.set_cons_zero, List.set_cons_succ, List.getElem_toArray, List.getElem_cons_zero, List.getElem_cons_succ]
                    first
                      | (refine wpAnyH_take (i := 3) (v := ?_) rfl (by kernel_rfl) (by kernel_rfl) (by kernel_rfl) (fun _ _ _ h => h) (Or.inl ⟨?_, ?_⟩) (by assumption) ?_; rotate_left; (focus rfl); (focus (intro w hSw; go_split_ands; go_simp; try with_reducible rfl)); skip)
                      | (refine wpAnyH_take (i := 3) (v := undef) rfl (by kernel_rfl) (by kernel_rfl) (by kernel_rfl) (fun _ _ _ h => h) (Or.inr ⟨?_, rfl⟩) (by assumption) ?_; (focus rfl))
                    try simp only [Act.put, List.setIfInBounds_toArray, List.set_cons_zero, List.set_cons_succ, List.getElem_toArray, List.getElem_cons_zero, List.getElem_cons_succ]
                    first
                      | (refine wpAnyH_take (i := 4) (v := ?_) rfl (by kernel_rfl) (by kernel_rfl) (by kernel_rfl) (fun _ _ _ h => h) (Or.inl ⟨?_, ?_⟩) (by assumption) ?_; rotate_left; (focus rfl); (focus (intro w hSw; go_split_ands; go_simp; try with_reducible rfl)); skip)
                      | (refine wpAnyH_take (i := 4) (v := undef) rfl (by kernel_rfl) (by kernel_rfl) (by kernel_rfl) (fun _ _ _ h => h) (Or.inr ⟨?_, rfl⟩) (by assumption) ?_; (focus rfl))
                    try simp only [Act.put, List.setIfInBounds_toArray, List.set_cons_zero, List.set_cons_succ, List.getElem_toArray, List.getElem_cons_zero, List.getElem_cons_succ]
                    first
                      | (refine wpAnyH_take (i := 5) (v := ?_) rfl (by kernel_rfl) (by kernel_rfl) (by kernel_rfl) (fun _ _ _ h => h) (Or.inl ⟨?_, ?_⟩) (by assumption) ?_; rotate_left; (focus rfl); (focus (intro w hSw; go_split_ands; go_simp; try with_reducible rfl)); skip)
                      | (refine wpAnyH_take (i := 5) (v := undef) rfl (by kernel_rfl) (by kernel_rfl) (by kernel_rfl) (fun _ _ _ h => h) (Or.inr ⟨?_, rfl⟩) (by assumption) ?_; (focus rfl))
                    try simp only [Act.put, List.setIfInBounds_toArray, List.set_cons_zero, List.set_cons_succ, List.getElem_toArray, List.getElem_cons_zero, List.getElem_cons_succ]
                    first
                      | (refine wpAnyH_take (i := 6) (v := ?_) rfl (by kernel_rfl) (by kernel_rfl) (by kernel_rfl) (fun _ _ _ h => h) (Or.inl ⟨?_, ?_⟩) (by assumption) ?_; rotate_left; (focus rfl); (focus (intro w hSw; go_split_ands; go_simp; try with_reducible rfl)); skip)
                      | (refine wpAnyH_take (i := 6) (v := undef) rfl (by kernel_rfl) (by kernel_rfl) (by kernel_rfl) (fun _ _ _ h => h) (Or.inr ⟨?_, rfl⟩) (by assumption) ?_; (focus rfl))
                    try simp only [Act.put, List.setIfInBounds_toArray, List.set_cons_zero, List.set_cons_succ, List.getElem_toArray, List.getElem_cons_zero, List.getElem_cons_succ]
                    first
                      | (refine wpAnyH_take (i := 7) (v := ?_) rfl (by kernel_rfl) (by kernel_rfl) (by kernel_rfl) (fun _ _ _ h => h) (Or.inl ⟨?_, ?_⟩) (by assumption) ?_; rotate_left; (focus rfl); (focus (intro w hSw; go_split_ands; go_simp; try with_reducible rfl)); skip)
                      | (refine wpAnyH_take (i := 7) (v := undef) rfl (by kernel_rfl) (by kernel_rfl) (by kernel_rfl) (fun _ _ _ h => h) (Or.inr ⟨?_, rfl⟩) (by assumption) ?_; (focus rfl))
                    try simp only [Act.put, List.setIfInBounds_toArray, List.set_cons_zero, List.set_cons_succ, List.getElem_toArray, List.getElem_cons_zero, List.getElem_cons_succ]
                    first
                      | (refine wpAnyH_take (i := 8) (v := ?_) rfl (by kernel_rfl) (by kernel_rfl) (by kernel_rfl) (fun _ _ _ h => h) (Or.inl ⟨?_, ?_⟩) (by assumption) ?_; rotate_left; (focus rfl); (focus (intro w hSw; go_split_ands; go_simp; try with_reducible rfl)); skip)
                      | (refine wpAnyH_take (i := 8) (v := undef) rfl (by kernel_rfl) (by kernel_rfl) (by kernel_rfl) (fun _ _ _ h => h) (Or.inr ⟨?_, rfl⟩) (by assumption) ?_; (focus rfl))
                    try simp only [Act.put, List.setIfInBounds_toArray, List.set_cons_zero, List.set_cons_succ, List.getElem_toArray, List.getElem_cons_zero, List.getElem_cons_succ]
                    first
                      | (refine wpAnyH_take (i := 9) (v := ?_) rfl (by kernel_rfl) (by kernel_rfl) (by kernel_rfl) (fun _ _ _ h => h) (Or.inl ⟨?_, ?_⟩) (by assumption) ?_; rotate_left; (focus rfl); (focus (intro w hSw; go_split_ands; go_simp; try with_reducible rfl)); skip)
                      | (refine wpAnyH_take (i := 9) (v := undef) rfl (by kernel_rfl) (by kernel_rfl) (by kernel_rfl) (fun _ _ _ h => h) (Or.inr ⟨?_, rfl⟩) (by assumption) ?_; (focus rfl))
                    try simp only [Act.put, List.setIfInBounds_toArray, List.set_cons_zero, List.set_cons_succ, List.getElem_toArray, List.getElem_cons_zero, List.getElem_cons_succ]
                    refine wpAnyH_ready (rs := [10, 14]) (by kernel_rfl) (by simp) ?_
                    refine AllReadyH.cons rfl (fun K hK => ?_) (AllReadyH.cons rfl (fun K hK => ?_) AllReadyH.nil)
                    · go_simp
                      go_at_call 12
                      with_reducible refine (CF.out _ _ (show Below wq.heap.size wq wq.drew from (Below.refl _ _).drew) (HSS.out.later (show Below wq.heap.size wq wq.drew from (Below.refl _ _).drew))).mono ?_
                      rintro e w8 ⟨y, ix, ct, B1, n1, d1, B2, n2, d2, rfl, hg8, hb8⟩
                      have P8 := Lib.hid (show Below wq.heap.size wq w8 from below_call (show Below wq.heap.size wq wq.drew from (Below.refl _ _).drew) hb8)
                      have HG8 := Lib.hid hg8
                      clear hg8 hb8
                      refine hK.out _ _ (HFR.out _ P8.out) (fun hH => ?_)
                      clear hK K
                      try simp only [Act.put, List.setIfInBounds_toArray, List.set_cons_zero, List.set_cons_succ, List.getElem_toArray, List.getElem_cons_zero, List.getElem_cons_succ]
                      have hHeld2 := hH
                      first
                        | (refine wpAnyH_take (i := 11) (v := ?_) rfl (by kernel_rfl) (by kernel_rfl) (by kernel_rfl) (fun _ _ _ h => h) (Or.inl ⟨?_, ?_⟩) (by assumption) ?_; rotate_left; (focus rfl); (focus (intro w hSw; go_split_ands; go_simp; try with_reducible rfl)); skip)
                        | (refine wpAnyH_take (i := 11) (v := undef) rfl (by kernel_rfl) (by kernel_rfl) (by kernel_rfl) (fun _ _ _ h => h) (Or.inr ⟨?_, rfl⟩) (by assumption) ?_; (focus rfl))
                      try simp only [Act.put, List.setIfInBounds_toArray, List.set_cons_zero, List.set_cons_succ, List.getElem_toArray, List.getElem_cons_zero, List.getElem_cons_succ]
                      first
                        | (refine wpAnyH_take (i := 12) (v := ?_) rfl (by kernel_rfl) (by kernel_rfl) (by kernel_rfl) (fun _ _ _ h => h) (Or.inl ⟨?_, ?_⟩) (by assumption) ?_; rotate_left; (focus rfl); (focus (intro w hSw; go_split_ands; go_simp; try with_reducible rfl)); skip)
                        | (refine wpAnyH_take (i := 12) (v := undef) rfl (by kernel_rfl) (by kernel_rfl) (by kernel_rfl) (fun _ _ _ h => h) (Or.inr ⟨?_, rfl⟩) (by assumption) ?_; (focus rfl))
                      try simp only [Act.put, List.setIfInBounds_toArray, List.set_cons_zero, List.set_cons_succ, List.getElem_toArray, List.getElem_cons_zero, List.getElem_cons_succ]
                      first
                        | (refine wpAnyH_take (i := 13) (v := ?_) rfl (by kernel_rfl) (by kernel_rfl) (by kernel_rfl) (fun _ _ _ h => h) (Or.inl ⟨?_, ?_⟩) (by assumption) ?_; rotate_left; (focus rfl); (focus (intro w hSw; go_split_ands; go_simp; try with_reducible rfl)); skip)
                        | (refine wpAnyH_take (i := 13) (v := undef) rfl (by kernel_rfl) (by kernel_rfl) (by kernel_rfl) (fun _ _ _ h => h) (Or.inr ⟨?_, rfl⟩) (by assumption) ?_; (focus rfl))
                      try simp only [Act.put, List.setIfInBounds_toArray, List.set_cons_zero, List.set_cons_succ, List.getElem_toArray, List.getElem_cons_zero, List.getElem_cons_succ]
                      refine wpAnyH_ready (rs := [14]) (by kernel_rfl) (by simp) ?_
                      refine AllReadyH.cons rfl (fun K hK => ?_) AllReadyH.nil
                      go_simp
                      refine hK.out _ _ (HFR.out _ (below_call P8.out (below_new _ _))) (fun hH => ?_)
                      clear hK K
                      try simp only [Act.put, List.setIfInBounds_toArray, List.set_cons_zero, List.set_cons_succ, List.getElem_toArray, List.getElem_cons_zero, List.getElem_cons_succ]
                      refine wpAnyH_ready (rs := [15]) (by kernel_rfl) (by simp) ?_
                      refine AllReadyH.cons rfl (fun K hK => ?_) AllReadyH.nil
                      go_simp
                      refine hK.out _ _ (HFR.out _ (below_call P8.out (below_new _ _))) (fun hH => ?_)
                      clear hK K
                      try simp only [Act.put, List.setIfInBounds_toArray, List.set_cons_zero, List.set_cons_succ, List.getElem_toArray, List.getElem_cons_zero, List.getElem_cons_succ]
                      have hHeld3 := hH
                      first
                        | (refine wpAnyH_take (i := 16) (v := ?_) rfl (by kernel_rfl) (by kernel_rfl) (by kernel_rfl) (fun _ _ _ h => h) (Or.inl ⟨?_, ?_⟩) (by assumption) ?_; rotate_left; (focus rfl); (focus (intro w hSw; go_split_ands; go_simp; try with_reducible rfl)); skip)
                        | (refine wpAnyH_take (i := 16) (v := undef) rfl (by kernel_rfl) (by kernel_rfl) (by kernel_rfl) (fun _ _ _ h => h) (Or.inr ⟨?_, rfl⟩) (by assumption) ?_; (focus rfl))
                      try simp only [Act.put, List.setIfInBounds_toArray, List.set_cons_zero, List.set_cons_succ, List.getElem_toArray, List.getElem_cons_zero, List.getElem_cons_succ]
                      refine wpAnyH_done (by kernel_rfl) ?_ _
                      go_wp2_with fail
                      go_meet
                      exact ⟨w8.heap.size, y, ix, ct, B1, n1, d1, B2, n2, d2, rfl, rfl, Box.new _ _ _, HG8.out.later (below_new _ _), below_call P8.out (below_new _ _)⟩
                    · go_simp
                      refine hK.out _ _ (HFR.out _ (show Below wq.heap.size wq ((wq.alloc (.cells #[.bool false, .int .i64 0, .int .i64 0, .slice none 0 0, .slice none 0 0] 35)).drew) from (below_new _ _).drew)) (fun hH => ?_)
                      clear hK K
                      try simp only [Act.put, List.setIfInBounds_toArray, List.set_cons_zero, List.set_cons_succ, List.getElem_toArray, List.getElem_cons_zero, List.getElem_cons_succ]
                      refine wpAnyH_ready (rs := [10]) (by kernel_rfl) (by simp) ?_
                      refine AllReadyH.cons rfl (fun K hK => ?_) AllReadyH.nil
                      go_simp
                      go_at_call 12
                      with_reducible refine (CF.out _ _ (show Below wq.heap.size wq ((wq.alloc (.cells #[.bool false, .int .i64 0, .int .i64 0, .slice none 0 0, .slice none 0 0] 35)).drew) from (below_new _ _).drew) (HSS.out.later (show Below wq.heap.size wq ((wq.alloc (.cells #[.bool false, .int .i64 0, .int .i64 0, .slice none 0 0, .slice none 0 0] 35)).drew) from (below_new _ _).drew))).mono ?_
                      rintro e w8 ⟨y, ix, ct, B1, n1, d1, B2, n2, d2, rfl, hg8, hb8⟩
                      have P8 := Lib.hid (show Below wq.heap.size wq w8 from below_call (show Below wq.heap.size wq ((wq.alloc (.cells #[.bool false, .int .i64 0, .int .i64 0, .slice none 0 0, .slice none 0 0] 35)).drew) from (below_new _ _).drew) hb8)
                      have HG8 := Lib.hid hg8
                      have XA8 := Lib.hid (show Box w8 wq.heap.size #[.bool false, .int .i64 0, .int .i64 0, .slice none 0 0, .slice none 0 0] 35 from Box.later (show Box ((wq.alloc (.cells #[.bool false, .int .i64 0, .int .i64 0, .slice none 0 0, .slice none 0 0] 35)).drew) wq.heap.size #[.bool false, .int .i64 0, .int .i64 0, .slice none 0 0, .slice none 0 0] 35 from Box.new _ _ _) hb8)
                      clear hg8 hb8
                      refine hK.out _ _ (HFR.out _ P8.out) (fun hH => ?_)
                      clear hK K
                      try simp only [Act.put, List.setIfInBounds_toArray, List.set_cons_zero, List.set_cons_succ, List.getElem_toArray, List.getElem_cons_zero, List.getElem_cons_succ]
                      have hHeld2 := hH
                      first
                        | (refine wpAnyH_take (i := 11) (v := ?_) rfl (by kernel_rfl) (by kernel_rfl) (by kernel_rfl) (fun _ _ _ h => h) (Or.inl ⟨?_, ?_⟩) (by assumption) ?_; rotate_left; (focus rfl); (focus (intro w hSw; go_split_ands; go_simp; try with_reducible rfl)); skip)
                        | (refine wpAnyH_take (i := 11) (v := undef) rfl (by kernel_rfl) (by kernel_rfl) (by kernel_rfl) (fun _ _ _ h => h) (Or.inr ⟨?_, rfl⟩) (by assumption) ?_; (focus rfl))
                      try simp only [Act.put, List.setIfInBounds_toArray, List.set_cons_zero, List.set_cons_succ, List.getElem_toArray, List.getElem_cons_zero, List.getElem_cons_succ]
                      first
                        | (refine wpAnyH_take (i := 12) (v := ?_) rfl (by kernel_rfl) (by kernel_rfl) (by kernel_rfl) (fun _ _ _ h => h) (Or.inl ⟨?_, ?_⟩) (by assumption) ?_; rotate_left; (focus rfl); (focus (intro w hSw; go_split_ands; go_simp; try with_reducible rfl)); skip)
                        | (refine wpAnyH_take (i := 12) (v := undef) rfl (by kernel_rfl) (by kernel_rfl) (by kernel_rfl) (fun _ _ _ h => h) (Or.inr ⟨?_, rfl⟩) (by assumption) ?_; (focus rfl))
                      try simp only [Act.put, List.setIfInBounds_toArray, List.set_cons_zero, List.set_cons_succ, List.getElem_toArray, List.getElem_cons_zero, List.getElem_cons_succ]
                      first
                        | (refine wpAnyH_take (i := 13) (v := ?_) rfl (by kernel_rfl) (by kernel_rfl) (by kernel_rfl) (fun _ _ _ h => h) (Or.inl ⟨?_, ?_⟩) (by assumption) ?_; rotate_left; (focus rfl); (focus (intro w hSw; go_split_ands; go_simp; try with_reducible rfl)); skip)
                        | (refine wpAnyH_take (i := 13) (v := undef) rfl (by kernel_rfl) (by kernel_rfl) (by kernel_rfl) (fun _ _ _ h => h) (Or.inr ⟨?_, rfl⟩) (by assumption) ?_; (focus rfl))
                      try simp only [Act.put, List.setIfInBounds_toArray, List.set_cons_zero, List.set_cons_succ, List.getElem_toArray, List.getElem_cons_zero, List.getElem_cons_succ]
                      obtain ⟨ka, fa, za⟩ := XA8.out.facts
                      refine wpAnyH_ready (rs := [15]) (by kernel_rfl) (by simp) ?_
                      refine AllReadyH.cons rfl (fun K hK => ?_) AllReadyH.nil
                      go_simp
                      refine hK.out _ _ (HFR.out _ (below_set (below_set (below_set (below_set (below_set P8.out (Nat.le_refl _)) (Nat.le_refl _)) (Nat.le_refl _)) (Nat.le_refl _)) (Nat.le_refl _))) (fun hH => ?_)
                      clear hK K
                      try simp only [Act.put, List.setIfInBounds_toArray, List.set_cons_zero, List.set_cons_succ, List.getElem_toArray, List.getElem_cons_zero, List.getElem_cons_succ]
                      have hHeld3 := hH
                      first
                        | (refine wpAnyH_take (i := 16) (v := ?_) rfl (by kernel_rfl) (by kernel_rfl) (by kernel_rfl) (fun _ _ _ h => h) (Or.inl ⟨?_, ?_⟩) (by assumption) ?_; rotate_left; (focus rfl); (focus (intro w hSw; go_split_ands; go_simp; try with_reducible rfl)); skip)
                        | (refine wpAnyH_take (i := 16) (v := undef) rfl (by kernel_rfl) (by kernel_rfl) (by kernel_rfl) (fun _ _ _ h => h) (Or.inr ⟨?_, rfl⟩) (by assumption) ?_; (focus rfl))
                      try simp only [Act.put, List.setIfInBounds_toArray, List.set_cons_zero, List.set_cons_succ, List.getElem_toArray, List.getElem_cons_zero, List.getElem_cons_succ]
                      refine wpAnyH_done (by kernel_rfl) ?_ _
                      go_wp2_with fail
                      go_meet
                      exact ⟨wq.heap.size, y, ix, ct, B1, n1, d1, B2, n2, d2, rfl, rfl, Box.set5 XA8.out _ _ _ _ _, (HG8.out.set5 (show wq.heap.size < ((wq.alloc (.cells #[.bool false, .int .i64 0, .int .i64 0, .slice none 0 0, .slice none 0 0] 35)).drew).heap.size by show wq.heap.size < (wq.alloc (.cells #[.bool false, .int .i64 0, .int .i64 0, .slice none 0 0, .slice none 0 0] 35)).heap.size; simp) _ _ _ _ _).less (by show wq.heap.size ≤ (wq.alloc (.cells #[.bool false, .int .i64 0, .int .i64 0, .slice none 0 0, .slice none 0 0] 35)).heap.size; simp), below_set (below_set (below_set (below_set (below_set P8.out (Nat.le_refl _)) (Nat.le_refl _)) (Nat.le_refl _)) (Nat.le_refl _)) (Nat.le_refl _)⟩
                · have hcn : ¬ cl = next := by omega
                  have a1 : (0 : Int) ≤ (next : Int) + 3 := by omega
                  have a2 : next ≤ ((next : Int) + 3).toNat := by omega
                  have a3 : ((next : Int) + 3).toNat - next = 3 := by omega
                  have v2 : (next : Int) + 3 ≤ (cl : Int) := by omega
                  have HSS := Lib.hid (show Sl 4 entRow wq.heap.size wq (.slice (some ⟨gl, next * 4, none⟩) 3 (cl - next)) (sendE m next) from by have h := (HLq.out.take_ (j := next + 3) (by rw [HMT.out]; omega)).drop_ (j := next) (by rw [List.length_take, HMT.out]; omega); rw [List.length_take, HMT.out] at h; unfold sendE; rw [HMT.out, show min (next + 3) ts.length = next + 3 by omega]; rw [show min (next + 3) ts.length - next = 3 by omega] at h; simpa using h)
                  refine wp_region_held_drew (S := fun w' => w'.cell? ⟨g15, 0, none⟩ = some (Value.int .i64 0) ∧ w'.cell? ⟨g15, 1, none⟩ = some (.int .i64 0) ∧ w'.cell? ⟨g15, 2, none⟩ = some (.int .i64 0) ∧ w'.cell? ⟨g15, 3, none⟩ = some (.slice A L.length c5) ∧ w'.cell? ⟨g19, 0, none⟩ = some (.int .i64 pv.idx) ∧ w'.cell? ⟨g19, 1, none⟩ = some (.int .i64 pv.trm) ∧ w'.cell? ⟨g19, 2, none⟩ = some (.int .i64 pv.knd)) (by kernel_rfl) (HFR.out _ (Below.refl _ _).drew) (fun hHeld => ?_)
                  first
                    | (refine wpAnyH_take (i := 0) (v := ?_) rfl (by kernel_rfl) (by kernel_rfl) (by kernel_rfl) (fun _ _ _ h => h) (Or.inl ⟨?_, ?_⟩) (by assumption) ?_; rotate_left; (focus rfl); (focus (intro w hSw; go_split_ands; go_simp; try with_reducible rfl)); skip)
                    | (refine wpAnyH_take (i := 0) (v := undef) rfl (by kernel_rfl) (by kernel_rfl) (by kernel_rfl) (fun _ _ _ h => h) (Or.inr ⟨?_, rfl⟩) (by assumption) ?_; (focus rfl))
                  try simp only [Act.put, List.setIfInBounds_toArray, List.set_cons_zero, List.set_cons_succ, List.getElem_toArray, List.getElem_cons_zero, List.getElem_cons_succ]
                  first
                    | (refine wpAnyH_take (i := 1) (v := ?_) rfl (by kernel_rfl) (by kernel_rfl) (by kernel_rfl) (fun _ _ _ h => h) (Or.inl ⟨?_, ?_⟩) (by assumption) ?_; rotate_left; (focus rfl); (focus (intro w hSw; go_split_ands; go_simp; try with_reducible rfl)); skip)
                    | (refine wpAnyH_take (i := 1) (v := undef) rfl (by kernel_rfl) (by kernel_rfl) (by kernel_rfl) (fun _ _ _ h => h) (Or.inr ⟨?_, rfl⟩) (by assumption) ?_; (focus rfl))
                  try simp only [Act.put, List.setIfInBounds_toArray, List.set_cons_zero, List.set_cons_succ, List.getElem_toArray, List.getElem_cons_zero, List.getElem_cons_succ]
                  first
                    | (refine wpAnyH_take (i := 2) (v := ?_) rfl (by kernel_rfl) (by kernel_rfl) (by kernel_rfl) (fun _ _ _ h => h) (Or.inl ⟨?_, ?_⟩) (by assumption) ?_; rotate_left; (focus rfl); (focus (intro w hSw; go_split_ands; go_simp; try with_reducible rfl)); skip)
                    | (refine wpAnyH_take (i := 2) (v := undef) rfl (by kernel_rfl) (by kernel_rfl) (by kernel_rfl) (fun _ _ _ h => h) (Or.inr ⟨?_, rfl⟩) (by assumption) ?_; (focus rfl))
                  try simp only [Act.put, List.setIfInBounds_toArray, List.set_cons_zero, List.set_cons_succ, List.getElem_toArray, List.getElem_cons_zero, List.getElem_cons_succ]
                  first
                    | (refine wpAnyH_take (i := 3) (v := ?_) rfl (by kernel_rfl) (by kernel_rfl) (by kernel_rfl) (fun _ _ _ h => h) (Or.inl ⟨?_, ?_⟩) (by assumption) ?_; rotate_left; (focus rfl); (focus (intro w hSw; go_split_ands; go_simp; try with_reducible rfl)); skip)
                    | (refine wpAnyH_take (i := 3) (v := undef) rfl (by kernel_rfl) (by kernel_rfl) (by kernel_rfl) (fun _ _ _ h => h) (Or.inr ⟨?_, rfl⟩) (by assumption) ?_; (focus rfl))
                  try simp only [Act.put, List.setIfInBounds_toArray, List.set_cons_zero, List.set_cons_succ, List.getElem_toArray, List.getElem_cons_zero, List.getElem_cons_succ]
                  first
                    | (refine wpAnyH_take (i := 4) (v := ?_) rfl (by kernel_rfl) (by kernel_rfl) (by kernel_rfl) (fun _ _ _ h => h) (Or.inl ⟨?_, ?_⟩) (by assumption) ?_; rotate_left; (focus rfl); (focus (intro w hSw; go_split_ands; go_simp; try with_reducible rfl)); skip)
                    | (refine wpAnyH_take (i := 4) (v := undef) rfl (by kernel_rfl) (by kernel_rfl) (by kernel_rfl) (fun _ _ _ h => h) (Or.inr ⟨?_, rfl⟩) (by assumption) ?_; (focus rfl))
                  try simp only [Act.put, List.setIfInBounds_toArray, List.set_cons_zero, List.set_cons_succ, List.getElem_toArray, List.getElem_cons_zero, List.getElem_cons_succ]
                  first
                    | (refine wpAnyH_take (i := 5) (v := ?_) rfl (by kernel_rfl) (by kernel_rfl) (by kernel_rfl) (fun _ _ _ h => h) (Or.inl ⟨?_, ?_⟩) (by assumption) ?_; rotate_left; (focus rfl); (focus (intro w hSw; go_split_ands; go_simp; try with_reducible rfl)); skip)
                    | (refine wpAnyH_take (i := 5) (v := undef) rfl (by kernel_rfl) (by kernel_rfl) (by kernel_rfl) (fun _ _ _ h => h) (Or.inr ⟨?_, rfl⟩) (by assumption) ?_; (focus rfl))
                  try simp only [Act.put, List.setIfInBounds_toArray, List.set_cons_zero, List.set_cons_succ, List.getElem_toArray, List.getElem_cons_zero, List.getElem_cons_succ]
                  first
                    | (refine wpAnyH_take (i := 6) (v := ?_) rfl (by kernel_rfl) (by kernel_rfl) (by kernel_rfl) (fun _ _ _ h => h) (Or.inl ⟨?_, ?_⟩) (by assumption) ?_; rotate_left; (focus rfl); (focus (intro w hSw; go_split_ands; go_simp; try with_reducible rfl)); skip)
                    | (refine wpAnyH_take (i := 6) (v := undef) rfl (by kernel_rfl) (by kernel_rfl) (by kernel_rfl) (fun _ _ _ h => h) (Or.inr ⟨?_, rfl⟩) (by assumption) ?_; (focus rfl))
                  try simp only [Act.put, List.setIfInBounds_toArray, List.set_cons_zero, List.set_cons_succ, List.getElem_toArray, List.getElem_cons_zero, List.getElem_cons_succ]
                  first
                    | (refine wpAnyH_take (i := 7) (v := ?_) rfl (by kernel_rfl) (by kernel_rfl) (by kernel_rfl) (fun _ _ _ h => h) (Or.inl ⟨?_, ?_⟩) (by assumption) ?_; rotate_left; (focus rfl); (focus (intro w hSw; go_split_ands; go_simp; try with_reducible rfl)); skip)
                    | (refine wpAnyH_take (i := 7) (v := undef) rfl (by kernel_rfl) (by kernel_rfl) (by kernel_rfl) (fun _ _ _ h => h) (Or.inr ⟨?_, rfl⟩) (by assumption) ?_; (focus rfl))
                  try simp only [Act.put, List.setIfInBounds_toArray, List.set_cons_zero, List.set_cons_succ, List.getElem_toArray, List.getElem_cons_zero, List.getElem_cons_succ]
                  first
                    | (refine wpAnyH_take (i := 8) (v := ?_) rfl (by kernel_rfl) (by kernel_rfl) (by kernel_rfl) (fun _ _ _ h => h) (Or.inl ⟨?_, ?_⟩) (by assumption) ?_; rotate_left; (focus rfl); (focus (intro w hSw; go_split_ands; go_simp; try with_reducible rfl)); skip)
                    | (refine wpAnyH_take (i := 8) (v := undef) rfl (by kernel_rfl) (by kernel_rfl) (by kernel_rfl) (fun _ _ _ h => h) (Or.inr ⟨?_, rfl⟩) (by assumption) ?_; (focus rfl))
                  try simp only [Act.put, List.setIfInBounds_toArray, List.set_cons_zero, List.set_cons_succ, List.getElem_toArray, List.getElem_cons_zero, List.getElem_cons_succ]
                  first
                    | (refine wpAnyH_take (i := 9) (v := ?_) rfl (by kernel_rfl) (by kernel_rfl) (by kernel_rfl) (fun _ _ _ h => h) (Or.inl ⟨?_, ?_⟩) (by assumption) ?_; rotate_left; (focus rfl); (focus (intro w hSw; go_split_ands; go_simp; try with_reducible rfl)); skip)
                    | (refine wpAnyH_take (i := 9) (v := undef) rfl (by kernel_rfl) (by kernel_rfl) (by kernel_rfl) (fun _ _ _ h => h) (Or.inr ⟨?_, rfl⟩) (by assumption) ?_; (focus rfl))
                  try simp only [Act.put, List.setIfInBounds_toArray, List.set_cons_zero, List.set_cons_succ, List.getElem_toArray, List.getElem_cons_zero, List.getElem_cons_succ]
                  refine wpAnyH_ready (rs := [10, 14]) (by kernel_rfl) (by simp) ?_
                  refine AllReadyH.cons rfl (fun K hK => ?_) (AllReadyH.cons rfl (fun K hK => ?_) AllReadyH.nil)
                  · go_simp
                    go_at_call 12
                    with_reducible refine (CF.out _ _ (show Below wq.heap.size wq wq.drew from (Below.refl _ _).drew) (HSS.out.later (show Below wq.heap.size wq wq.drew from (Below.refl _ _).drew))).mono ?_
                    rintro e w8 ⟨y, ix, ct, B1, n1, d1, B2, n2, d2, rfl, hg8, hb8⟩
                    have P8 := Lib.hid (show Below wq.heap.size wq w8 from below_call (show Below wq.heap.size wq wq.drew from (Below.refl _ _).drew) hb8)
                    have HG8 := Lib.hid hg8
                    clear hg8 hb8
                    refine hK.out _ _ (HFR.out _ P8.out) (fun hH => ?_)
                    clear hK K
                    try simp only [Act.put, List.setIfInBounds_toArray, List.set_cons_zero, List.set_cons_succ, List.getElem_toArray, List.getElem_cons_zero, List.getElem_cons_succ]
                    have hHeld2 := hH
                    first
                      | (refine wpAnyH_take (i := 11) (v := ?_) rfl (by kernel_rfl) (by kernel_rfl) (by kernel_rfl) (fun _ _ _ h => h) (Or.inl ⟨?_, ?_⟩) (by assumption) ?_; rotate_left; (focus rfl); (focus (intro w hSw; go_split_ands; go_simp; try with_reducible rfl)); skip)
                      | (refine wpAnyH_take (i := 11) (v := undef) rfl (by kernel_rfl) (by kernel_rfl) (by kernel_rfl) (fun _ _ _ h => h) (Or.inr ⟨?_, rfl⟩) (by assumption) ?_; (focus rfl))
                    try simp only [Act.put, List.setIfInBounds_toArray, List.set_cons_zero, List.set_cons_succ, List.getElem_toArray, List.getElem_cons_zero, List.getElem_cons_succ]
                    first
                      | (refine wpAnyH_take (i := 12) (v := ?_) rfl (by kernel_rfl) (by kernel_rfl) (by kernel_rfl) (fun _ _ _ h => h) (Or.inl ⟨?_, ?_⟩) (by assumption) ?_; rotate_left; (focus rfl); (focus (intro w hSw; go_split_ands; go_simp; try with_reducible rfl)); skip)
                      | (refine wpAnyH_take (i := 12) (v := undef) rfl (by kernel_rfl) (by kernel_rfl) (by kernel_rfl) (fun _ _ _ h => h) (Or.inr ⟨?_, rfl⟩) (by assumption) ?_; (focus rfl))
                    try simp only [Act.put, List.setIfInBounds_toArray, List.set_cons_zero, List.set_cons_succ, List.getElem_toArray, List.getElem_cons_zero, List.getElem_cons_succ]
                    first
                      | (refine wpAnyH_take (i := 13) (v := ?_) rfl (by kernel_rfl) (by kernel_rfl) (by kernel_rfl) (fun _ _ _ h => h) (Or.inl ⟨?_, ?_⟩) (by assumption) ?_; rotate_left; (focus rfl); (focus (intro w hSw; go_split_ands; go_simp; try with_reducible rfl)); skip)
                      | (refine wpAnyH_take (i := 13) (v := undef) rfl (by kernel_rfl) (by kernel_rfl) (by kernel_rfl) (fun _ _ _ h => h) (Or.inr ⟨?_, rfl⟩) (by assumption) ?_; (focus rfl))
                    try simp only [Act.put, List.setIfInBounds_toArray, List.set_cons_zero, List.set_cons_succ, List.getElem_toArray, List.getElem_cons_zero, List.getElem_cons_succ]
                    refine wpAnyH_ready (rs := [14]) (by kernel_rfl) (by simp) ?_
                    refine AllReadyH.cons rfl (fun K hK => ?_) AllReadyH.nil
                    go_simp
                    refine hK.out _ _ (HFR.out _ (below_call P8.out (below_new _ _))) (fun hH => ?_)
                    clear hK K
                    try simp only [Act.put, List.setIfInBounds_toArray, List.set_cons_zero, List.set_cons_succ, List.getElem_toArray, List.getElem_cons_zero, List.getElem_cons_succ]
                    refine wpAnyH_ready (rs := [15]) (by kernel_rfl) (by simp) ?_
                    refine AllReadyH.cons rfl (fun K hK => ?_) AllReadyH.nil
                    go_simp
                    refine hK.out _ _ (HFR.out _ (below_call P8.out (below_new _ _))) (fun hH => ?_)
                    clear hK K
                    try simp only [Act.put, List.setIfInBounds_toArray, List.set_cons_zero, List.set_cons_succ, List.getElem_toArray, List.getElem_cons_zero, List.getElem_cons_succ]
                    have hHeld3 := hH
                    first
                      | (refine wpAnyH_take (i := 16) (v := ?_) rfl (by kernel_rfl) (by kernel_rfl) (by kernel_rfl) (fun _ _ _ h => h) (Or.inl ⟨?_, ?_⟩) (by assumption) ?_; rotate_left; (focus rfl); (focus (intro w hSw; go_split_ands; go_simp; try with_reducible rfl)); skip)
                      | (refine wpAnyH_take (i := 16) (v := undef) rfl (by kernel_rfl) (by kernel_rfl) (by kernel_rfl) (fun _ _ _ h => h) (Or.inr ⟨?_, rfl⟩) (by assumption) ?_; (focus rfl))
                    try simp only [Act.put, List.setIfInBounds_toArray, List.set_cons_zero, List.set_cons_succ, List.getElem_toArray, List.getElem_cons_zero, List.getElem_cons_succ]
                    refine wpAnyH_done (by kernel_rfl) ?_ _
                    go_wp2_with fail
                    go_meet
                    exact ⟨w8.heap.size, y, ix, ct, B1, n1, d1, B2, n2, d2, rfl, rfl, Box.new _ _ _, HG8.out.later (below_new _ _), below_call P8.out (below_new _ _)⟩
                  · go_simp
                    refine hK.out _ _ (HFR.out _ (show Below wq.heap.size wq ((wq.alloc (.cells #[.bool false, .int .i64 0, .int .i64 0, .slice none 0 0, .slice none 0 0] 35)).drew) from (below_new _ _).drew)) (fun hH => ?_)
                    clear hK K
                    try simp only [Act.put, List.setIfInBounds_toArray, List.set_cons_zero, List.set_cons_succ, List.getElem_toArray, List.getElem_cons_zero, List.getElem_cons_succ]
                    refine wpAnyH_ready (rs := [10]) (by kernel_rfl) (by simp) ?_
                    refine AllReadyH.cons rfl (fun K hK => ?_) AllReadyH.nil
                    go_simp
                    go_at_call 12
                    with_reducible refine (CF.out _ _ (show Below wq.heap.size wq ((wq.alloc (.cells #[.bool false, .int .i64 0, .int .i64 0, .slice none 0 0, .slice none 0 0] 35)).drew) from (below_new _ _).drew) (HSS.out.later (show Below wq.heap.size wq ((wq.alloc (.cells #[.bool false, .int .i64 0, .int .i64 0, .slice none 0 0, .slice none 0 0] 35)).drew) from (below_new _ _).drew))).mono ?_
                    rintro e w8 ⟨y, ix, ct, B1, n1, d1, B2, n2, d2, rfl, hg8, hb8⟩
                    have P8 := Lib.hid (show Below wq.heap.size wq w8 from below_call (show Below wq.heap.size wq ((wq.alloc (.cells #[.bool false, .int .i64 0, .int .i64 0, .slice none 0 0, .slice none 0 0] 35)).drew) from (below_new _ _).drew) hb8)
                    have HG8 := Lib.hid hg8
                    have XA8 := Lib.hid (show Box w8 wq.heap.size #[.bool false, .int .i64 0, .int .i64 0, .slice none 0 0, .slice none 0 0] 35 from Box.later (show Box ((wq.alloc (.cells #[.bool false, .int .i64 0, .int .i64 0, .slice none 0 0, .slice none 0 0] 35)).drew) wq.heap.size #[.bool false, .int .i64 0, .int .i64 0, .slice none 0 0, .slice none 0 0] 35 from Box.new _ _ _) hb8)
                    clear hg8 hb8
                    refine hK.out _ _ (HFR.out _ P8.out) (fun hH => ?_)
                    clear hK K
                    try simp only [Act.put, List.setIfInBounds_toArray, List.set_cons_zero, List.set_cons_succ, List.getElem_toArray, List.getElem_cons_zero, List.getElem_cons_succ]
                    have hHeld2 := hH
                    first
                      | (refine wpAnyH_take (i := 11) (v := ?_) rfl (by kernel_rfl) (by kernel_rfl) (by kernel_rfl) (fun _ _ _ h => h) (Or.inl ⟨?_, ?_⟩) (by assumption) ?_; rotate_left; (focus rfl); (focus (intro w hSw; go_split_ands; go_simp; try with_reducible rfl)); skip)
                      | (refine wpAnyH_take (i := 11) (v := undef) rfl (by kernel_rfl) (by kernel_rfl) (by kernel_rfl) (fun _ _ _ h => h) (Or.inr ⟨?_, rfl⟩) (by assumption) ?_; (focus rfl))
                    try simp only [Act.put, List.setIfInBounds_toArray, List.set_cons_zero, List.set_cons_succ, List.getElem_toArray, List.getElem_cons_zero, List.getElem_cons_succ]
                    first
                      | (refine wpAnyH_take (i := 12) (v := ?_) rfl (by kernel_rfl) (by kernel_rfl) (by kernel_rfl) (fun _ _ _ h => h) (Or.inl ⟨?_, ?_⟩) (by assumption) ?_; rotate_left; (focus rfl); (focus (intro w hSw; go_split_ands; go_simp; try with_reducible rfl)); skip)
                      | (refine wpAnyH_take (i := 12) (v := undef) rfl (by kernel_rfl) (by kernel_rfl) (by kernel_rfl) (fun _ _ _ h => h) (Or.inr ⟨?_, rfl⟩) (by assumption) ?_; (focus rfl))
                    try simp only [Act.put, List.setIfInBounds_toArray, List.set_cons_zero, List.set_cons_succ, List.getElem_toArray, List.getElem_cons_zero, List.getElem_cons_succ]
                    first
                      | (refine wpAnyH_take (i := 13) (v := ?_) rfl (by kernel_rfl) (by kernel_rfl) (by kernel_rfl) (fun _ _ _ h => h) (Or.inl ⟨?_, ?_⟩) (by assumption) ?_; rotate_left; (focus rfl); (focus (intro w hSw; go_split_ands; go_simp; try with_reducible rfl)); skip)
                      | (refine wpAnyH_take (i := 13) (v := undef) rfl (by kernel_rfl) (by kernel_rfl) (by kernel_rfl) (fun _ _ _ h => h) (Or.inr ⟨?_, rfl⟩) (by assumption) ?_; (focus rfl))
                    try simp only [Act.put, List.setIfInBounds_toArray, List.set_cons_zero, List.set_cons_succ, List.getElem_toArray, List.getElem_cons_zero, List.getElem_cons_succ]
                    obtain ⟨ka, fa, za⟩ := XA8.out.facts
                    refine wpAnyH_ready (rs := [15]) (by kernel_rfl) (by simp) ?_
                    refine AllReadyH.cons rfl (fun K hK => ?_) AllReadyH.nil
                    go_simp
                    refine hK.out _ _ (HFR.out _ (below_set (below_set (below_set (below_set (below_set P8.out (Nat.le_refl _)) (Nat.le_refl _)) (Nat.le_refl _)) (Nat.le_refl _)) (Nat.le_refl _))) (fun hH => ?_)
                    clear hK K
                    try simp only [Act.put, List.setIfInBounds_toArray, List.set_cons_zero, List.set_cons_succ, List.getElem_toArray, List.getElem_cons_zero, List.getElem_cons_succ]
                    have hHeld3 := hH
                    first
                      | (refine wpAnyH_take (i := 16) (v := ?_) rfl (by kernel_rfl) (by kernel_rfl) (by kernel_rfl) (fun _ _ _ h => h) (Or.inl ⟨?_, ?_⟩) (by assumption) ?_; rotate_left; (focus rfl); (focus (intro w hSw; go_split_ands; go_simp; try with_reducible rfl)); skip)
                      | (refine wpAnyH_take (i := 16) (v := undef) rfl (by kernel_rfl) (by kernel_rfl) (by kernel_rfl) (fun _ _ _ h => h) (Or.inr ⟨?_, rfl⟩) (by assumption) ?_; (focus rfl))
                    try simp only [Act.put, List.setIfInBounds_toArray, List.set_cons_zero, List.set_cons_succ, List.getElem_toArray, List.getElem_cons_zero, List.getElem_cons_succ]
                    refine wpAnyH_done (by kernel_rfl) ?_ _
                    go_wp2_with fail
                    go_meet
                    exact ⟨wq.heap.size, y, ix, ct, B1, n1, d1, B2, n2, d2, rfl, rfl, Box.set5 XA8.out _ _ _ _ _, (HG8.out.set5 (show wq.heap.size < ((wq.alloc (.cells #[.bool false, .int .i64 0, .int .i64 0, .slice none 0 0, .slice none 0 0] 35)).drew).heap.size by show wq.heap.size < (wq.alloc (.cells #[.bool false, .int .i64 0, .int .i64 0, .slice none 0 0, .slice none 0 0] 35)).heap.size; simp) _ _ _ _ _).less (by show wq.heap.size ≤ (wq.alloc (.cells #[.bool false, .int .i64 0, .int .i64 0, .slice none 0 0, .slice none 0 0] 35)).heap.size; simp), below_set (below_set (below_set (below_set (below_set P8.out (Nat.le_refl _)) (Nat.le_refl _)) (Nat.le_refl _)) (Nat.le_refl _)) (Nat.le_refl _)⟩
              case rest =>
                obtain ⟨gp, y, ix, ct, B1, n1, d1, B2, n2, d2, rfl, rfl, hxp, hfg, hBx⟩ := hcut
                obtain ⟨w24, hw24⟩ : ∃ z, z = wc := ⟨_, rfl⟩
                rw [← hw24] at hxp hfg hBx
                rw [← hw24]
                clear hw24 HFR CF w3
                have XV24 := Lib.hid (XVq.out.later hBx)
                have XP24 := Lib.hid hxp
                have HB24 := Lib.hid (HBq.out.trans (hBx.mono (by have := HBq.out.size; omega)))
                have hz24 := HB24.out.size
                rw [← HPV.out] at hfg
                have CB := Lib.hid (behOne HOW.out HLI.out (by rw [HMT.out]; exact hnl) H1.out A c5 w24 (HSq.out.later hBx) hfg)
                rcases hfg with ⟨hy, hct, -, -, -, -, -, -, hi0, hi1, hkn⟩ | ⟨hy, hkk, q, mm, m1, m2, hix, hct, e1, e2, -, -, hst, -, -, -, -⟩
                · subst hy
                  subst hct
                  clear hxp hBx
                  obtain ⟨kp, fp, zp⟩ := XP24.out.facts
                  obtain ⟨kv, fv, zv⟩ := XV24.out.facts
                  have f1 : decide ((next : Int) ≤ ix) = false := decide_eq_false (by omega)
                  have f2 : ¬ ((ts.length : Int) < ix) := by omega
                  go_upto_region 30 with (go_at_call 13; refine CB.out.mono ?_; rintro e w30 ⟨L2, A2, c2, rfl, ho, hb, hpost⟩; have HO := Lib.hid ho; have HBb2 := Lib.hid hb; have HPO := Lib.hid hpost; have XV30 := Lib.hid (XV24.out.later hb); have XP30 := Lib.hid (XP24.out.later hb); clear ho hb hpost kp fp zp kv fv zv; obtain ⟨kv, fv, zv⟩ := XV30.out.facts)
                  have hne : gp ≠ g15 := box_ne XP30.out XV30.out (by decide)
                  have XV31 := Lib.hid (XV30.out.set4 (.int .i64 0) (.int .i64 0) (.int .i64 0) (.slice A2 L2.length c2))
                  have XP31 := Lib.hid ((((XP30.out.far (p := ⟨g15, 0, none⟩) hne (.int .i64 0)).far (p := ⟨g15, 1, none⟩) hne (.int .i64 0)).far (p := ⟨g15, 2, none⟩) hne (.int .i64 0)).far (p := ⟨g15, 3, none⟩) hne (.slice A2 L2.length c2))
                  have HS31 := Lib.hid ((HO.out.set4x XV30.out (by decide) (.int .i64 0) (.int .i64 0) (.int .i64 0) (.slice A2 L2.length c2)).sl idRow_length)
                  have HB31 := Lib.hid (below_set (i := 3) (u := .slice A2 L2.length c2) (below_set (i := 2) (u := .int .i64 0) (below_set (i := 1) (u := .int .i64 0) (below_set (i := 0) (u := .int .i64 0) (HB24.out.trans (HBb2.out.mono (show g15 ≤ w24.heap.size by omega))) (Nat.le_refl g15)) (Nat.le_refl g15)) (Nat.le_refl g15)) (Nat.le_refl g15))
                  obtain ⟨w31, hw31⟩ : ∃ z, z = (((w30.setCell ⟨g15, 0, none⟩ (.int .i64 0)).setCell ⟨g15, 1, none⟩ (.int .i64 0)).setCell ⟨g15, 2, none⟩ (.int .i64 0)).setCell ⟨g15, 3, none⟩ (.slice A2 L2.length c2) := ⟨_, rfl⟩
                  rw [← hw31] at XV31 XP31 HS31 HB31
                  rw [← hw31]
                  clear hw31 kv fv zv
                  obtain ⟨kp, fp, zp⟩ := XP31.out.facts
                  go_wp2_with fail
                  go_roundw
                  case rel =>
                    rcases HPO.out with ⟨-, hL2, -, -, -, -⟩ | ⟨hyy, -⟩
                    · exact ⟨ix.toNat, turn + 1, a, L2.length, L2, A2, c2, by omega, by rw [Int.toNat_of_nonneg hi0], by go_num, by rw [hL2]; exact H1.out, hka, turn_no (by rw [HMT.out]; exact hnl) HOW.out HLI.out H1.out HTN.out hkn (by omega), XV31.out, HS31.out, HB31.out⟩
                    · simp at hyy
                  case measure => (simp [intOf]; omega)
                · obtain ⟨o1, o2, -⟩ := one_yes HOW.out HLI.out (by rw [HMT.out]; exact hnl) H1.out hkk hst
                  have hmt := HMT.out
                  have hixv : ix = ((min (next + 3) m.length : Nat) : Int) := hix.trans o1
                  have hcta : 0 < ct → (a : Int) < ct := by rw [hct]; exact o2
                  have f2 : ¬ ((ts.length : Int) < ix) := by omega
                  subst hy
                  have HIXV := Lib.hid hixv
                  have HCTA := Lib.hid hcta
                  clear hxp hBx o1 o2 hct hix hst hkk e1 e2 q hixv hmt hcta
                  obtain ⟨kp, fp, zp⟩ := XP24.out.facts
                  obtain ⟨kv, fv, zv⟩ := XV24.out.facts
                  by_cases hc0 : 0 < ct
                  · have f3 : decide (0 < ct) = true := decide_eq_true hc0
                    have f4 : decide (ct ≤ (kf : Int)) = false := decide_eq_false (by have := HCTA.out hc0; omega)
                    go_upto_region 30 with (go_at_call 13; refine CB.out.mono ?_; rintro e w30 ⟨L2, A2, c2, rfl, ho, hb, hpost⟩; have HO := Lib.hid ho; have HBb2 := Lib.hid hb; have HPO := Lib.hid hpost; have XV30 := Lib.hid (XV24.out.later hb); have XP30 := Lib.hid (XP24.out.later hb); clear ho hb hpost kp fp zp kv fv zv; obtain ⟨kv, fv, zv⟩ := XV30.out.facts)
                    have hne : gp ≠ g15 := box_ne XP30.out XV30.out (by decide)
                    have XV31 := Lib.hid (XV30.out.set4 (.int .i64 0) (.int .i64 0) (.int .i64 0) (.slice A2 L2.length c2))
                    have XP31 := Lib.hid ((((XP30.out.far (p := ⟨g15, 0, none⟩) hne (.int .i64 0)).far (p := ⟨g15, 1, none⟩) hne (.int .i64 0)).far (p := ⟨g15, 2, none⟩) hne (.int .i64 0)).far (p := ⟨g15, 3, none⟩) hne (.slice A2 L2.length c2))
                    have HS31 := Lib.hid ((HO.out.set4x XV30.out (by decide) (.int .i64 0) (.int .i64 0) (.int .i64 0) (.slice A2 L2.length c2)).sl idRow_length)
                    have HB31 := Lib.hid (below_set (i := 3) (u := .slice A2 L2.length c2) (below_set (i := 2) (u := .int .i64 0) (below_set (i := 1) (u := .int .i64 0) (below_set (i := 0) (u := .int .i64 0) (HB24.out.trans (HBb2.out.mono (show g15 ≤ w24.heap.size by omega))) (Nat.le_refl g15)) (Nat.le_refl g15)) (Nat.le_refl g15)) (Nat.le_refl g15))
                    obtain ⟨w31, hw31⟩ : ∃ z, z = (((w30.setCell ⟨g15, 0, none⟩ (.int .i64 0)).setCell ⟨g15, 1, none⟩ (.int .i64 0)).setCell ⟨g15, 2, none⟩ (.int .i64 0)).setCell ⟨g15, 3, none⟩ (.slice A2 L2.length c2) := ⟨_, rfl⟩
                    rw [← hw31] at XV31 XP31 HS31 HB31
                    rw [← hw31]
                    clear hw31 kv fv zv
                    obtain ⟨kp, fp, zp⟩ := XP31.out.facts
                    by_cases hfin : ix = (ts.length : Int)
                    · have f5 : (ix == (ts.length : Int)) = true := by simpa using hfin
                      have hmt := HMT.out
                      obtain ⟨o1, o3⟩ : ix = ((min (next + 3) m.length : Nat) : Int) ∧ OneI ow T L2 (max a (min (next + 3) m.length)) := by
                        rcases HPO.out with ⟨hyy, -⟩ | ⟨-, o1, -, o3⟩
                        · simp at hyy
                        · exact ⟨o1, o3⟩
                      have HO3 := Lib.hid o3
                      have hfull : ow.length ≤ max a (min (next + 3) m.length) := by have h1 := HMO.out; have h2 := HMT.out; omega
                      have HFU := Lib.hid hfull
                      have HL31 : Hid (Sl 4 entRow w31.heap.size w31 (.slice (some ⟨gl, 0, none⟩) ts.length cl) m) := (HLd.out.below HB31.out).more (by have := HB31.out.size; omega)
                      clear o1 o3 hfull hmt hfin
                      go_wp2_with fail
                      clear f5 f2
                      go_loopw [22] (fun i wx => ∃ k : Nat, k ≤ ts.length ∧ i = .int .i64 k ∧ Below w31.heap.size w31 wx) (fun i _ => ts.length - (intOf i).toNat)
                      case atStart => exact ⟨0, by omega, rfl, Below.refl _ _⟩
                      case round =>
                        obtain ⟨k, hk, rfl, hBk⟩ := hrel
                        have HBk := Lib.hid hBk
                        have HV4 := Lib.hid (XV31.out.later hBk)
                        obtain ⟨kv, fv, zv⟩ := HV4.out.facts
                        clear hBk kp fp zp
                        by_cases hlt : k < ts.length
                        · obtain ⟨x, hx⟩ : ∃ x, m[k]? = some x := ⟨_, List.getElem?_eq_getElem (by have := HMT.out; omega)⟩
                          obtain ⟨p, hp, hpt⟩ := one_done HO3.out HLI.out HFU.out hx
                          have hpt2 : (p.trm != x.trm) = false := by rw [hpt]; simp
                          have HAT := Lib.hid hp
                          obtain ⟨b3, off, cap3, e3, hlc3, hcm3, hb3, hcell⟩ := (HL31.out.later HBk.out).cellAt (by intro h9; rw [h9] at hx; simp at hx)
                          simp only [Value.slice.injEq, Option.some.injEq, Addr.mk.injEq, and_true] at e3
                          obtain ⟨⟨rfl, rfl⟩, -, rfl⟩ := e3
                          have y1 : wr.cell? ⟨gl, k * 4 + 1, none⟩ = some (.int .i64 x.trm) := by simpa using hcell k x hx 1 _ rfl
                          have HY1 := Lib.hid y1
                          have CA := Lib.hid (matchAt zI L2 A2 c2 ((k : Int) + 1) wr (HS31.out.later HBk.out) (by unfold I64 zI; simp only; omega) (by unfold I64; omega))
                          have d7 : decide ((k : Int) < (ts.length : Int)) = true := decide_eq_true (by omega)
                          have i0 : (0 : Int) ≤ (k : Int) := by omega
                          have i1 : (k : Int) < (ts.length : Int) := by omega
                          clear hcell hx hp hpt y1
                          go_upto_region 36 with (go_at_call 14; refine CA.out.mono ?_; rintro e w40 hq; obtain ⟨rfl, hb40⟩ := atS HAT.out hq; have HB40 := Lib.hid (below_call HBk.out hb40); have HBZ := Lib.hid hb40; clear hq hb40)
                          have XA := Lib.hid (Box.new w40 #[.int .i64 p.idx, .int .i64 p.trm, .int .i64 p.knd] 26)
                          have HB41 := Lib.hid (below_call HB40.out (below_new w40 (.cells #[.int .i64 p.idx, .int .i64 p.trm, .int .i64 p.knd] 26)))
                          have y2 := cell_later (below_call HBZ.out (below_new w40 (.cells #[.int .i64 p.idx, .int .i64 p.trm, .int .i64 p.knd] 26))) HY1.out
                          obtain ⟨g23, hg23⟩ : ∃ g, g = w40.heap.size := ⟨_, rfl⟩
                          obtain ⟨w41, hw41⟩ : ∃ z, z = w40.alloc (.cells #[.int .i64 p.idx, .int .i64 p.trm, .int .i64 p.knd] 26) := ⟨_, rfl⟩
                          rw [← hw41] at XA HB41 y2
                          rw [← hw41, ← hg23]
                          rw [← hg23] at XA
                          clear hw41 hg23 kv fv zv
                          have E1 : ∀ x9 : Ext w41, x9.wd.cell? ⟨gl, k * 4 + 1, none⟩ = some (.int .i64 x.trm) := fun x9 => cell_later x9.low y2
                          have E2 := XA.out.ext 1
                          clear y2
                          refine wp_region_ext (by kernel_rfl) (by kernel_rfl) ?_
                          repeat (go_big_quiet_step (fail))
                          refine wpQuiet_nil ?_
                          intro _ hw'
                          obtain ⟨x5, hw''⟩ := hw'
                          subst hw''
                          go_wp2_with fail
                          go_roundw
                          case rel => exact ⟨k + 1, by omega, by go_num, below_call HB41.out x5.low⟩
                          case measure => (simp [intOf]; omega)
                        · have d7 : decide ((k : Int) < (ts.length : Int)) = false := decide_eq_false (by omega)
                          go_wp2_with fail
                          go_ret
                          exact ⟨rfl, HBb.out.trans ((HB31.out.trans (HBk.out.mono (by have := HB31.out.size; omega))).mono hzb)⟩
                    · have f5 : (ix == (ts.length : Int)) = false := by simpa using hfin
                      go_wp2_with fail
                      go_roundw
                      case rel =>
                        rcases HPO.out with ⟨hyy, -⟩ | ⟨-, o1, -, o3⟩
                        · simp at hyy
                        · have hmt := HMT.out
                          exact ⟨min (next + 3) m.length, turn + 1, max a (min (next + 3) m.length), L2.length, L2, A2, c2, by omega, by rw [o1], by go_num, o3, by omega, turn_yes (by omega) HTN.out (by omega) rfl, XV31.out, HS31.out, HB31.out⟩
                      case measure => (simp [intOf]; omega)
                  · have f3 : decide (0 < ct) = false := decide_eq_false hc0
                    go_upto_region 30 with (go_at_call 13; refine CB.out.mono ?_; rintro e w30 ⟨L2, A2, c2, rfl, ho, hb, hpost⟩; have HO := Lib.hid ho; have HBb2 := Lib.hid hb; have HPO := Lib.hid hpost; have XV30 := Lib.hid (XV24.out.later hb); have XP30 := Lib.hid (XP24.out.later hb); clear ho hb hpost kp fp zp kv fv zv; obtain ⟨kv, fv, zv⟩ := XV30.out.facts)
                    have hne : gp ≠ g15 := box_ne XP30.out XV30.out (by decide)
                    have XV31 := Lib.hid (XV30.out.set4 (.int .i64 0) (.int .i64 0) (.int .i64 0) (.slice A2 L2.length c2))
                    have XP31 := Lib.hid ((((XP30.out.far (p := ⟨g15, 0, none⟩) hne (.int .i64 0)).far (p := ⟨g15, 1, none⟩) hne (.int .i64 0)).far (p := ⟨g15, 2, none⟩) hne (.int .i64 0)).far (p := ⟨g15, 3, none⟩) hne (.slice A2 L2.length c2))
                    have HS31 := Lib.hid ((HO.out.set4x XV30.out (by decide) (.int .i64 0) (.int .i64 0) (.int .i64 0) (.slice A2 L2.length c2)).sl idRow_length)
                    have HB31 := Lib.hid (below_set (i := 3) (u := .slice A2 L2.length c2) (below_set (i := 2) (u := .int .i64 0) (below_set (i := 1) (u := .int .i64 0) (below_set (i := 0) (u := .int .i64 0) (HB24.out.trans (HBb2.out.mono (show g15 ≤ w24.heap.size by omega))) (Nat.le_refl g15)) (Nat.le_refl g15)) (Nat.le_refl g15)) (Nat.le_refl g15))
                    obtain ⟨w31, hw31⟩ : ∃ z, z = (((w30.setCell ⟨g15, 0, none⟩ (.int .i64 0)).setCell ⟨g15, 1, none⟩ (.int .i64 0)).setCell ⟨g15, 2, none⟩ (.int .i64 0)).setCell ⟨g15, 3, none⟩ (.slice A2 L2.length c2) := ⟨_, rfl⟩
                    rw [← hw31] at XV31 XP31 HS31 HB31
                    rw [← hw31]
                    clear hw31 kv fv zv
                    obtain ⟨kp, fp, zp⟩ := XP31.out.facts
                    by_cases hfin : ix = (ts.length : Int)
                    · have f5 : (ix == (ts.length : Int)) = true := by simpa using hfin
                      have hmt := HMT.out
                      obtain ⟨o1, o3⟩ : ix = ((min (next + 3) m.length : Nat) : Int) ∧ OneI ow T L2 (max a (min (next + 3) m.length)) := by
                        rcases HPO.out with ⟨hyy, -⟩ | ⟨-, o1, -, o3⟩
                        · simp at hyy
                        · exact ⟨o1, o3⟩
                      have HO3 := Lib.hid o3
                      have hfull : ow.length ≤ max a (min (next + 3) m.length) := by have h1 := HMO.out; have h2 := HMT.out; omega
                      have HFU := Lib.hid hfull
                      have HL31 : Hid (Sl 4 entRow w31.heap.size w31 (.slice (some ⟨gl, 0, none⟩) ts.length cl) m) := (HLd.out.below HB31.out).more (by have := HB31.out.size; omega)
                      clear o1 o3 hfull hmt hfin
                      go_wp2_with fail
                      clear f5 f2
                      go_loopw [22] (fun i wx => ∃ k : Nat, k ≤ ts.length ∧ i = .int .i64 k ∧ Below w31.heap.size w31 wx) (fun i _ => ts.length - (intOf i).toNat)
                      case atStart => exact ⟨0, by omega, rfl, Below.refl _ _⟩
                      case round =>
                        obtain ⟨k, hk, rfl, hBk⟩ := hrel
                        have HBk := Lib.hid hBk
                        have HV4 := Lib.hid (XV31.out.later hBk)
                        obtain ⟨kv, fv, zv⟩ := HV4.out.facts
                        clear hBk kp fp zp
                        by_cases hlt : k < ts.length
                        · obtain ⟨x, hx⟩ : ∃ x, m[k]? = some x := ⟨_, List.getElem?_eq_getElem (by have := HMT.out; omega)⟩
                          obtain ⟨p, hp, hpt⟩ := one_done HO3.out HLI.out HFU.out hx
                          have hpt2 : (p.trm != x.trm) = false := by rw [hpt]; simp
                          have HAT := Lib.hid hp
                          obtain ⟨b3, off, cap3, e3, hlc3, hcm3, hb3, hcell⟩ := (HL31.out.later HBk.out).cellAt (by intro h9; rw [h9] at hx; simp at hx)
                          simp only [Value.slice.injEq, Option.some.injEq, Addr.mk.injEq, and_true] at e3
                          obtain ⟨⟨rfl, rfl⟩, -, rfl⟩ := e3
                          have y1 : wr.cell? ⟨gl, k * 4 + 1, none⟩ = some (.int .i64 x.trm) := by simpa using hcell k x hx 1 _ rfl
                          have HY1 := Lib.hid y1
                          have CA := Lib.hid (matchAt zI L2 A2 c2 ((k : Int) + 1) wr (HS31.out.later HBk.out) (by unfold I64 zI; simp only; omega) (by unfold I64; omega))
                          have d7 : decide ((k : Int) < (ts.length : Int)) = true := decide_eq_true (by omega)
                          have i0 : (0 : Int) ≤ (k : Int) := by omega
                          have i1 : (k : Int) < (ts.length : Int) := by omega
                          clear hcell hx hp hpt y1
                          go_upto_region 36 with (go_at_call 14; refine CA.out.mono ?_; rintro e w40 hq; obtain ⟨rfl, hb40⟩ := atS HAT.out hq; have HB40 := Lib.hid (below_call HBk.out hb40); have HBZ := Lib.hid hb40; clear hq hb40)
                          have XA := Lib.hid (Box.new w40 #[.int .i64 p.idx, .int .i64 p.trm, .int .i64 p.knd] 26)
                          have HB41 := Lib.hid (below_call HB40.out (below_new w40 (.cells #[.int .i64 p.idx, .int .i64 p.trm, .int .i64 p.knd] 26)))
                          have y2 := cell_later (below_call HBZ.out (below_new w40 (.cells #[.int .i64 p.idx, .int .i64 p.trm, .int .i64 p.knd] 26))) HY1.out
                          obtain ⟨g23, hg23⟩ : ∃ g, g = w40.heap.size := ⟨_, rfl⟩
                          obtain ⟨w41, hw41⟩ : ∃ z, z = w40.alloc (.cells #[.int .i64 p.idx, .int .i64 p.trm, .int .i64 p.knd] 26) := ⟨_, rfl⟩
                          rw [← hw41] at XA HB41 y2
                          rw [← hw41, ← hg23]
                          rw [← hg23] at XA
                          clear hw41 hg23 kv fv zv
                          have E1 : ∀ x9 : Ext w41, x9.wd.cell? ⟨gl, k * 4 + 1, none⟩ = some (.int .i64 x.trm) := fun x9 => cell_later x9.low y2
                          have E2 := XA.out.ext 1
                          clear y2
                          refine wp_region_ext (by kernel_rfl) (by kernel_rfl) ?_
                          repeat (go_big_quiet_step (fail))
                          refine wpQuiet_nil ?_
                          intro _ hw'
                          obtain ⟨x5, hw''⟩ := hw'
                          subst hw''
                          go_wp2_with fail
                          go_roundw
                          case rel => exact ⟨k + 1, by omega, by go_num, below_call HB41.out x5.low⟩
                          case measure => (simp [intOf]; omega)
                        · have d7 : decide ((k : Int) < (ts.length : Int)) = false := decide_eq_false (by omega)
                          go_wp2_with fail
                          go_ret
                          exact ⟨rfl, HBb.out.trans ((HB31.out.trans (HBk.out.mono (by have := HB31.out.size; omega))).mono hzb)⟩
                    · have f5 : (ix == (ts.length : Int)) = false := by simpa using hfin
                      go_wp2_with fail
                      go_roundw
                      case rel =>
                        rcases HPO.out with ⟨hyy, -⟩ | ⟨-, o1, -, o3⟩
                        · simp at hyy
                        · have hmt := HMT.out
                          exact ⟨min (next + 3) m.length, turn + 1, max a (min (next + 3) m.length), L2.length, L2, A2, c2, by omega, by rw [o1], by go_num, o3, by omega, turn_yes (by omega) HTN.out (by omega) rfl, XV31.out, HS31.out, HB31.out⟩
                      case measure => (simp [intOf]; omega)
end Go.Proofs.YthadfdpdillemaaDoor
