/-
  limpetlaw20's MatchRows: true. Condition: errors.errorType holds its value.
-/
import Derived.Test.YtfglkpcboodllaaGreatDoorMr40
import Derived.Test.YtfglkpcboodllaaGreatDoorMr33
import Derived.Test.YtfglkpcboodllaaGreatDoorMr17
set_option linter.unusedVariables false
set_option linter.unusedSimpArgs false
namespace Go.Proofs.YtfglkpcboodllaaGreatDoor
open Go.RowKit

set_option maxRecDepth 100000 in
set_option maxHeartbeats 8000000 in
theorem matchRows (w : World) (hG : errTypeIs w) : Calls Tryz.prog 5 #[] w fun e w' => e = .returned (.bool true) ∧ Below w.heap.size w w' := by
  have HG := Lib.hid hG
  clear hG
  go_enter Tryz.func5, Tryz.ntmps5
  go_wp2_with fail
  go_loopw [1] (fun n wr => ∃ i : Nat, i ≤ 1280 ∧ n = .int .i64 (i : Int) ∧ Below w.heap.size w wr) (fun n _ => 1281 - (intOf n).toNat)
  case atStart => exact ⟨0, by omega, rfl, Below.refl _ _⟩
  case round =>
    obtain ⟨n, hn, rfl, hB0⟩ := hrel
    have HB0 := Lib.hid hB0
    clear hB0
    by_cases hlt : n < 1280
    · have d0 : decide ((n : Int) < 1280) = true := decide_eq_true (by omega)
      have i0 : (n : Int) < 1280 := by omega
      go_upto_region 4 with fail
      go_cut [2] (fun u wx => ∃ bi bt : Int, u = .pointer (some ⟨wr.heap.size, 0, none⟩) ∧ 0 ≤ bi ∧ bi ≤ 2 ∧ wx = wr.alloc (.cells #[.int .i64 bi, .int .i64 bt, .int .i64 1, .slice none 0 0] 36))
      case first =>
        go_wp2_with fail
        go_meet
        exact ⟨_, _, rfl, by omega, by omega, rfl⟩
      case rest =>
        obtain ⟨bi, bt, rfl, b0, b1, hwc⟩ := hcut
        obtain ⟨W, hW⟩ : ∃ z, z = wc := ⟨_, rfl⟩
        obtain ⟨gv, hgv⟩ : ∃ z, z = wr.heap.size := ⟨_, rfl⟩
        have HXv := Lib.hid (show Box W gv #[.int .i64 bi, .int .i64 bt, .int .i64 1, .slice none 0 0] 36 by rw [hW, hwc, hgv]; exact Box.new _ _ _)
        have HBW := Lib.hid (show Below w.heap.size w W by rw [hW, hwc]; exact below_call HB0.out (below_new _ _))
        have hgs : W.heap.size = gv + 1 := by rw [hW, hwc, hgv]; simp
        have hwg := Lib.hid (show w.heap.size ≤ gv by rw [hgv]; exact HB0.out.size)
        rw [← hW, ← hgv]
        clear hwc hW hgv HB0
        have k5 : (0 : Int) ≤ (n : Int) := by omega
        go_wp2_with fail
        go_loopw [3, 4] (fun q j wr => ∃ (k i : Nat) (L : List Idt) (A1 : Option Addr) (c1 : Nat), i ≤ 4 ∧ j = .int .i64 (i : Int) ∧ q = .int .i64 (k : Int) ∧ k ≤ 1280 ∧ L.length = i ∧ (∀ x ∈ L, I64 x.idx) ∧ Box wr gv #[.int .i64 bi, .int .i64 bt, .int .i64 1, .slice A1 L.length c1] 36 ∧ Own 3 idRow 25 (gv + 1) wr (.slice A1 L.length c1) L ∧ Below gv W wr) (fun _ j _ => 5 - (intOf j).toNat)
        case atStart => exact ⟨n / 5, 0, [], none, 0, by omega, rfl, by go_num, by omega, rfl, fun x hx => by simp at hx, HXv.out, Own.nil_ _ _ _ _ _, Below.refl _ _⟩
        case round =>
          obtain ⟨k, i, L, A1, c1, hi, rfl, rfl, hk, hL, hin, hx, hown, hB⟩ := hrel
          have HLN := Lib.hid hL
          have HIN := Lib.hid hin
          have HX := Lib.hid hx
          have HO := Lib.hid hown
          have HB := Lib.hid hB
          have hgr : gv < wr.heap.size := hx.lt
          have hL4 : L.length ≤ 4 := by omega
          obtain ⟨kx, fx, zx⟩ := HX.out.facts
          have q0 : (0 : Int) ≤ (i : Int) := by omega
          have q1 : (i : Int) ≤ 4 := by omega
          have q2 : (0 : Int) ≤ (k : Int) := by omega
          have q3 : (k : Int) ≤ 1280 := by omega
          have hzb : gv + 1 ≤ wr.heap.size := by omega
          clear hx hown hB hin hL
          by_cases hi4 : i < 4 ∧ 0 < k
          · have e0 : decide ((i : Int) < 4) = true := decide_eq_true (by omega)
            have e1 : decide ((0 : Int) < (k : Int)) = true := decide_eq_true (by omega)
            have q4 : (i : Int) < 4 := by omega
            have q5 : (0 : Int) < (k : Int) := by omega
            clear hi4
            go_wp2_with (at_builtin; refine wpList_append_row _ rfl (.tmp 32) (.tmp 47) 34 rfl (gv + 1) 25 _ 3 24 Tryz.underlying34 identInfo rfl (Nat.succ_pos 2) idRow idRow_length idRow_one L _ rfl HO.out ⟨bi + 1 + (i : Int), 1 + (k : Int) % 2, (k : Int) / 2 % 2 * 2⟩ _ rfl 25 _ rfl rfl (by omega) (by omega) hzb ?_; intro v3 w3 p1 p2 p3 p4 p5; obtain ⟨A3, n3, c3, rfl⟩ := p1.form; have HP1 := Lib.hid p1; have HP2 := Lib.hid p2; have HX3 := Lib.hid (show Box w3 gv #[.int .i64 bi, .int .i64 bt, .int .i64 1, .slice A1 L.length c1] 36 from (p4 gv hgr (fun he => by have := (HO.out.block he.symm).1; omega)).trans HX.out); obtain ⟨k3, f3, z3⟩ := HX3.out.facts; clear p1 p2 p4 kx fx zx)
            have hn3 : n3 = (L ++ [(⟨bi + 1 + (i : Int), 1 + (k : Int) % 2, (k : Int) / 2 % 2 * 2⟩ : Idt)]).length := by obtain ⟨_, _, h⟩ := HP1.out.len; simp only [Value.slice.injEq] at h; exact h.2.1
            subst hn3
            go_roundw
            case rel =>
              refine ⟨k / 4, i + 1, L ++ [(⟨bi + 1 + (i : Int), 1 + (k : Int) % 2, (k : Int) / 2 % 2 * 2⟩ : Idt)], A3, c3, by omega, by go_num, by go_num, by omega, by have := HLN.out; simp; omega, fun x hx => ?_, HX3.out.set_ 3 _, HP1.out.set_below (Nat.lt_succ_self gv), below_set (HB.out.trans (HP2.out.mono (Nat.le_succ gv))) (Nat.le_refl _)⟩
              rcases List.mem_append.1 hx with h | h
              · exact HIN.out x h
              · simp only [List.mem_singleton] at h
                subst h
                unfold I64; simp only; omega
            case measure => simp [intOf]; omega
          · go_upto_region 7 with fail
            go_cut [28] (fun v wx => v = .bool false ∧ wx = wr)
            case first =>
              by_cases hi5 : i < 4
              · have e0 : decide ((i : Int) < 4) = true := decide_eq_true (by omega)
                have e1 : decide ((0 : Int) < (k : Int)) = false := decide_eq_false (by omega)
                have q6 : (k : Int) ≤ 0 := by omega
                have e1n : decide ((0 : Nat) < k) = false := decide_eq_false (by omega)
                have q7 : (i : Int) < 4 := by omega
                clear hi4 hi5
                have E1N := Lib.hid e1n
                clear e1n
                go_wp2_with fail
                go_meet
                exact ⟨congrArg Value.bool E1N.out, rfl⟩
              · have e0 : decide ((i : Int) < 4) = false := decide_eq_false (by omega)
                have q6 : (4 : Int) ≤ (i : Int) := by omega
                clear hi4 hi5
                go_wp2_with fail
                go_meet
                exact ⟨rfl, rfl⟩
            case rest =>
              obtain ⟨rfl, hwc⟩ := hcut
              rw [hwc]
              clear hwc
              have HXW := Lib.hid (HX.out)
              have HSL := Lib.hid (HO.out.sl idRow_length)
              have HBw := Lib.hid (HBW.out.trans (HB.out.mono hwg.out))
              obtain ⟨V, hV⟩ : ∃ z, z = wr := ⟨_, rfl⟩
              rw [← hV] at HXW HSL HBw
              rw [← hV]
              clear hV HO HB HX kx fx zx hgr hzb hi4
              go_wp2_with fail
              go_loopw [5] (fun o wr => ∃ m : Nat, m ≤ 42 ∧ o = .int .i64 (m : Int) ∧ Below V.heap.size V wr) (fun o _ => 43 - (intOf o).toNat)
              case atStart => exact ⟨0, by omega, rfl, Below.refl _ _⟩
              case round =>
                obtain ⟨m, hm, rfl, hBm⟩ := hrel
                have HBm := Lib.hid hBm
                clear hBm
                by_cases hm1 : m < 42
                · have d3 : decide ((m : Int) < 42) = true := decide_eq_true (by omega)
                  have m1 : (m : Int) < 42 := by omega
                  go_upto_region 14 with fail
                  go_cut [6] (fun u wx => ∃ pa pt : Int, u = .pointer (some ⟨wr.heap.size, 0, none⟩) ∧ 0 ≤ pa ∧ pa ≤ 5 ∧ wx = wr.alloc (.cells #[.int .i64 pa, .int .i64 pt, .int .i64 2] 25))
                  case first =>
                    go_wp2_with fail
                    go_meet
                    exact ⟨_, _, rfl, by omega, by omega, rfl⟩
                  case rest =>
                    obtain ⟨pa, pt, rfl, r0, r1, hwc⟩ := hcut
                    obtain ⟨X, hX⟩ : ∃ z, z = wc := ⟨_, rfl⟩
                    obtain ⟨gp, hgp⟩ : ∃ z, z = wr.heap.size := ⟨_, rfl⟩
                    have HXp := Lib.hid (show Box X gp #[.int .i64 pa, .int .i64 pt, .int .i64 2] 25 by rw [hX, hwc, hgp]; exact Box.new _ _ _)
                    have HBX := Lib.hid (show Below V.heap.size V X by rw [hX, hwc]; exact below_call HBm.out (below_new _ _))
                    rw [← hX, ← hgp]
                    clear hwc hX hgp
                    have hj : m / 6 % 4 ≤ 3 := by have := Nat.mod_lt (m / 6) (show 4 > 0 by omega); omega
                    have CE : Hid (Calls Tryz.prog 29 #[.int .i64 pa, .slice (some ⟨X.heap.size, 0, none⟩) 3 3] (X.alloc (.cells #[.int .i64 (1 + (n : Int) % 2), .int .i64 (1 + (n : Int) % 2 + (m : Int) % 2), .int .i64 (2 + (m : Int) % 2)] 3)) fun e w' => ∃ g c mm, e = .returned (.slice (some ⟨g, 0, none⟩) 3 c) ∧ 3 ≤ c ∧ Sl 4 entRow w'.heap.size w' (.slice (some ⟨g, 0, none⟩) 3 c) mm ∧ mm.length = 3 ∧ (∀ x ∈ mm, (EntIn w'.heap.size w' x ∧ x.bd.length ≤ 100000) ∧ I64 x.idx) ∧ Below X.heap.size X w') := by
                      refine (lawEnts pa [1 + (n : Int) % 2, 1 + (n : Int) % 2 + (m : Int) % 2, 2 + (m : Int) % 2] _ _ (Box.sl i64Row_length [1 + (n : Int) % 2, 1 + (n : Int) % 2 + (m : Int) % 2, 2 + (m : Int) % 2] (Box.new X _ 3) rfl (by unfold maxLen; simp)) (by simp) r0 (by omega)).mono ?_
                      rintro e w' ⟨A, c, mm, he, hk, ho, hf, hb⟩
                      have hml : mm.length = 3 := by have := congrArg List.length hk; simpa [entsK_length] using this
                      obtain ⟨g, cap, hpl, -, -, -⟩ := ho.place (by intro h; rw [h] at hml; simp at hml)
                      rw [hml] at hpl
                      have hpl' : (Value.slice A 3 c : Value) = .slice (some ⟨g, 0, none⟩) 3 cap := hpl
                      simp only [Value.slice.injEq] at hpl'
                      obtain ⟨rfl, -, rfl⟩ := hpl'
                      have hsl := ho.sl entRow_length
                      obtain ⟨A8, c8, hv8, k8, -, -, -⟩ := id hsl
                      simp only [Value.slice.injEq] at hv8
                      refine ⟨g, c, mm, he, by omega, hsl, hml, fun x hx => ⟨ents_in hk hf x hx, ?_⟩, below_call (below_new _ _) hb⟩
                      obtain ⟨i9, hi9⟩ := List.getElem?_of_mem hx
                      have e9 : (mm.map keyE)[i9]? = some (keyE x) := by rw [List.getElem?_map, hi9]; rfl
                      rw [hk, entsK_at] at e9
                      have h3 : i9 < 3 := by have := (List.getElem?_eq_some_iff.1 hi9).1; omega
                      cases hq : ([1 + (n : Int) % 2, 1 + (n : Int) % 2 + (m : Int) % 2, 2 + (m : Int) % 2] : List Int)[i9]? with
                      | none => rw [hq] at e9; simp at e9
                      | some q =>
                        rw [hq] at e9
                        simp only [Option.map_some, Option.some.injEq, keyE, Prod.mk.injEq] at e9
                        unfold I64; rw [← e9.1]; omega
                    obtain ⟨kp, fp, zp⟩ := HXp.out.facts
                    go_upto_region 16 with (go_at_call 29; (with_reducible refine CE.out.mono ?_); rintro e w6 ⟨g, c, mm, rfl, c0, hsm, hmm, hme, hb6⟩; have hc1 : (3 : Int) ≤ (c : Int) := (by omega); have HSM := Lib.hid hsm; have HMM := Lib.hid hmm; have HME := Lib.hid hme; have HB6 := Lib.hid hb6; clear hsm hmm hme hb6 kp fp zp)
                    have HBV6 := Lib.hid (below_call HBX.out HB6.out)
                    have HL := Lib.hid (show ((mm.take (m / 6 % 4)).length) = m / 6 % 4 by rw [List.length_take, HMM.out]; omega)
                    have CT : Hid (Calls Tryz.prog 4 #[.agg #[.int .i64 bi, .int .i64 bt, .int .i64 1, .slice A1 L.length c1], .agg #[.int .i64 pa, .int .i64 pt, .int .i64 2], .slice (some ⟨g, 0, none⟩) (m / 6 % 4) c, .int .i64 ((m : Int) % 8 - 1)] w6 fun e w' => e = .returned (.bool true) ∧ Below w6.heap.size w6 w') := by
                      have h := matchTells ⟨bi, bt, 1⟩ ⟨pa, pt, 2⟩ L A1 c1 (mm.take (m / 6 % 4)) (some ⟨g, 0, none⟩) c ((m : Int) % 8 - 1) w6 (HSL.out.later HBV6.out) (by rw [HL.out]; exact HSM.out.take_ (by rw [HMM.out]; omega)) (fun x hx => ⟨(HME.out x (List.mem_of_mem_take hx)).1.1, by have := (HME.out x (List.mem_of_mem_take hx)).1.2; omega⟩) (by omega) (by unfold I64; simp only; omega) (by unfold I64; simp only; omega) HIN.out (fun x hx => (HME.out x (List.mem_of_mem_take hx)).2) (by unfold I64; omega) (errType_later HG.out (below_call HBw.out HBV6.out))
                      rw [HL.out] at h
                      exact h
                    obtain ⟨kx, fx, zx⟩ := (HXW.out.later HBV6.out).facts
                    obtain ⟨kp, fp, zp⟩ := (HXp.out.later HB6.out).facts
                    go_wp2_with (go_at_call 4; (with_reducible refine CT.out.mono ?_); rintro e w7 ⟨rfl, hb7⟩)
                    go_roundw
                    case rel => exact ⟨m + 1, by omega, by go_num, below_call HBV6.out hb7⟩
                    case measure => simp [intOf]; omega
                · have d3 : decide ((m : Int) < 42) = false := decide_eq_false (by omega)
                  have m1 : (42 : Int) ≤ (m : Int) := by omega
                  go_wp2_with fail
                  go_roundw
                  case rel => exact ⟨n + 1, by omega, by go_num, below_call HBw.out HBm.out⟩
                  case measure => simp [intOf]; omega
    · have d0 : decide ((n : Int) < 1280) = false := decide_eq_false (by omega)
      have i0 : (1280 : Int) ≤ (n : Int) := by omega
      obtain ⟨V, hV⟩ : ∃ z, z = wr := ⟨_, rfl⟩
      rw [← hV] at HB0
      rw [← hV]
      clear hV hlt
      have hba : Below V.heap.size V ((V.alloc (.cells #[.int .i64 9223372036854775807, .int .i64 0, .int .i64 1, .int .i64 (-9223372036854775808), .int .i64 0, .int .i64 1] 25)).alloc (.cells #[.int .i64 9223372036854775806, .int .i64 0, .int .i64 0, .slice (some ⟨V.heap.size, 0, none⟩) 2 2] 36)) := below_call (below_new _ _) (below_new _ _)
      have F1 : Hid (Calls Tryz.prog 4 #[.agg #[.int .i64 9223372036854775806, .int .i64 0, .int .i64 0, .slice (some ⟨V.heap.size, 0, none⟩) 2 2], .agg #[.int .i64 9223372036854775807, .int .i64 0, .int .i64 0], .slice none 0 0, .int .i64 (-9223372036854775808)] ((V.alloc (.cells #[.int .i64 9223372036854775807, .int .i64 0, .int .i64 1, .int .i64 (-9223372036854775808), .int .i64 0, .int .i64 1] 25)).alloc (.cells #[.int .i64 9223372036854775806, .int .i64 0, .int .i64 0, .slice (some ⟨V.heap.size, 0, none⟩) 2 2] 36)) fun e w' => e = .returned (.bool true) ∧ Below V.heap.size V w') :=
        (matchTells ⟨9223372036854775806, 0, 0⟩ ⟨9223372036854775807, 0, 0⟩ [⟨9223372036854775807, 0, 1⟩, ⟨-9223372036854775808, 0, 1⟩] (some ⟨V.heap.size, 0, none⟩) 2 [] none 0 (-9223372036854775808) _ (Box.sl idRow_length [⟨9223372036854775807, 0, 1⟩, ⟨-9223372036854775808, 0, 1⟩] ((Box.new V #[.int .i64 9223372036854775807, .int .i64 0, .int .i64 1, .int .i64 (-9223372036854775808), .int .i64 0, .int .i64 1] 25).alloc _) rfl (by unfold maxLen; simp)) (Sl.nil_ _ _ _ _) (fun x hx => by simp at hx) (by simp) (by unfold I64; simp only; omega) (by unfold I64; simp only; omega) (fun x hx => by simp at hx; rcases hx with rfl | rfl <;> (unfold I64; simp only; omega)) (fun x hx => by simp at hx) (by unfold I64; omega) (errType_later HG.out (below_call HB0.out hba))).mono fun _ _ h => ⟨h.1, below_call hba h.2⟩
      have F2 : Hid (∀ v, Below V.heap.size V v → Calls Tryz.prog 4 #[.agg #[.int .i64 (-9223372036854775808), .int .i64 0, .int .i64 0, .slice none 0 0], .agg #[.int .i64 0, .int .i64 0, .int .i64 0], .slice none 0 0, .int .i64 9223372036854775807] v fun e w' => e = .returned (.bool true) ∧ Below V.heap.size V w') := fun v hv =>
        (matchTells ⟨-9223372036854775808, 0, 0⟩ ⟨0, 0, 0⟩ [] none 0 [] none 0 9223372036854775807 v (Sl.nil_ _ _ _ _) (Sl.nil_ _ _ _ _) (fun x hx => by simp at hx) (by simp) (by unfold I64; simp only; omega) (by unfold I64; simp only; omega) (fun x hx => by simp at hx) (fun x hx => by simp at hx) (by unfold I64; omega) (errType_later HG.out (below_call HB0.out hv))).mono fun _ _ h => ⟨h.1, below_call hv h.2⟩
      clear hba
      go_wp2_with (first
        | (go_at_call 4; (with_reducible refine F1.out.mono ?_); rintro e w3 ⟨rfl, hb⟩; have H3 := Lib.hid hb; clear hb)
        | (go_at_call 4; (with_reducible refine (F2.out w3 H3.out).mono ?_); rintro e w4 ⟨rfl, hb⟩; have H4 := Lib.hid hb; clear hb)
        | (go_at_call 13; (with_reducible refine (awake20 w4 (errType_later HG.out (below_call HB0.out H4.out))).mono ?_); rintro e w5 ⟨rfl, hb⟩))
      go_ret
      exact ⟨rfl, below_call HB0.out (below_call H4.out hb)⟩
end Go.Proofs.YtfglkpcboodllaaGreatDoor
