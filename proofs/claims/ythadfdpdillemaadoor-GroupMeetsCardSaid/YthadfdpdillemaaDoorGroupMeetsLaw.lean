/-
  GroupMeets: true. Condition: errors.errorType holds its value.
-/
import Derived.Test.YthadfdpdillemaaDoorGroupMeets
set_option linter.unusedVariables false
set_option linter.unusedSimpArgs false
namespace Go.Proofs.YthadfdpdillemaaDoor
open Go.RowKit Go.Sort Go.Shelf

def diffTo (l m : List Int) (k : Nat) : Nat := (sevenV.take k).countP fun n => l.contains n != m.contains n
theorem diffTo_succ {l m : List Int} {k : Nat} (hk : k < 7) : diffTo l m (k + 1) = diffTo l m k + (if (l.contains ((k : Int) + 1) != m.contains ((k : Int) + 1)) = true then 1 else 0) := by
  have h7 : sevenV[k]? = some ((k : Int) + 1) := by
    rcases (by omega : k = 0 ∨ k = 1 ∨ k = 2 ∨ k = 3 ∨ k = 4 ∨ k = 5 ∨ k = 6) with rfl | rfl | rfl | rfl | rfl | rfl | rfl <;> rfl
  unfold diffTo
  rw [take_at h7, List.countP_append]
  simp [List.countP_cons]
theorem diffTo_le (l m : List Int) (k : Nat) : diffTo l m k ≤ 7 := by
  have h1 : diffTo l m k ≤ (sevenV.take k).length := List.countP_le_length
  have h2 : (sevenV.take k).length ≤ 7 := by rw [List.length_take]; show min k 7 ≤ 7; omega
  omega
theorem diffTo_all (l m : List Int) : diffTo l m 7 = diffV l m := rfl

set_option maxRecDepth 100000 in
set_option maxHeartbeats 4000000 in
theorem groupMeetsLaw (l a b : List Int) (v va vb : Value) (add take : Int) (w : World) (h : Sl 1 i64Row w.heap.size w v l) (ha : Sl 1 i64Row w.heap.size w va a) (hb : Sl 1 i64Row w.heap.size w vb b) (zl : l.length ≤ 140737488351232) (za : a.length ≤ 140737488351232) (zb : b.length ≤ 140737488351232) (hG : errTypeIs w) :
    Calls Tryd.prog 6 #[v, va, vb, .int .i64 add, .int .i64 take] w fun e w' => e = .returned (.bool true) ∧ Below w.heap.size w w' := by
  obtain ⟨A, cap, rfl, -⟩ := id h
  obtain ⟨Aa, ca, rfl, -⟩ := id ha
  obtain ⟨Ab, cb, rfl, -⟩ := id hb
  have HS := Lib.hid h
  have HA := Lib.hid ha
  have HB := Lib.hid hb
  have HG := Lib.hid hG
  clear h ha hb hG
  go_enter Tryd.func6, Tryd.ntmps6
  go_upto_region 3 with (go_at_call 29; refine (awake22 w HG.out).mono ?_; rintro e w1 ⟨rfl, hb1⟩; have HB1 := Lib.hid hb1; have HS1 := Lib.hid (HS.out.later hb1); have HA1 := Lib.hid (HA.out.later hb1); have HBb1 := Lib.hid (HB.out.later hb1); have HG1 := Lib.hid (errType_later HG.out hb1); clear hb1)
  have n1 : wrap64 ((a.length : Int) + (b.length : Int)) = (a.length : Int) + (b.length : Int) := by unfold wrap64; omega
  have n2 : wrap64 ((a.length : Int) + (b.length : Int) + (l.length : Int)) = (a.length : Int) + (b.length : Int) + (l.length : Int) := by unfold wrap64; omega
  have CR := Lib.hid (entryRight l _ w1 HS1.out)
  by_cases hs : (1000 : Int) < (a.length : Int) + (b.length : Int) + (l.length : Int)
  · have d0 : decide ((1000 : Int) < (a.length : Int) + (b.length : Int) + (l.length : Int)) = true := decide_eq_true hs
    go_wp2_with fail
    go_ret
    exact ⟨rfl, HB1.out⟩
  have d0 : decide ((1000 : Int) < (a.length : Int) + (b.length : Int) + (l.length : Int)) = false := decide_eq_false hs
  have hs2 : l.length ≤ 1000 := by omega
  have hs3 : a.length ≤ 1000 := by omega
  have hs4 : b.length ≤ 1000 := by omega
  clear hs zl za zb
  cases hr : memRight l with
  | false =>
    rw [hr] at CR
    clear hr
    go_wp2_with (go_at_call 30; refine CR.out.mono ?_; rintro e w2 ⟨rfl, rfl⟩)
    go_ret
    exact ⟨rfl, HB1.out⟩
  | true =>
  rw [hr] at CR
  have HR := Lib.hid hr
  clear hr
  have CW1 := Lib.hid (groupWon l a _ _ w1 HS1.out HA1.out (by omega))
  have CW2 := Lib.hid (groupWon l b _ _ w1 HS1.out HBb1.out (by omega))
  have CM := Lib.hid (groupMeet a b _ _ w1 HA1.out HBb1.out)
  have HMT : Hid (wonV l a = true → wonV l b = true → meetV a b = true) := fun h1 h2 => won_meet h1 h2
  have CC := Lib.hid (groupChange l add take _ w1 HS1.out hs2 HG1.out)
  obtain ⟨c1, hc1⟩ : ∃ c, wonV l a = c := ⟨_, rfl⟩
  obtain ⟨c2, hc2⟩ : ∃ c, wonV l b = c := ⟨_, rfl⟩
  obtain ⟨c3, hc3⟩ : ∃ c, meetV a b = c := ⟨_, rfl⟩
  rw [hc1] at CW1 HMT
  rw [hc2] at CW2 HMT
  rw [hc3] at CM HMT
  have HC1 := Lib.hid hc1
  have HC3 := Lib.hid hc3
  clear hc1 hc2 hc3
  go_upto_region 5 with (go_at_call 30; refine CR.out.mono ?_; rintro e w2 ⟨rfl, rfl⟩)
  clear n1 n2 d0
  go_cut [46] (fun v wx => v = .bool false ∧ wx = w1)
  case first =>
    cases c1 with
    | false =>
      go_wp2_with (go_at_call 31; with_reducible refine CW1.out.mono ?_; rintro e w2 ⟨rfl, rfl⟩)
      go_meet
      exact ⟨rfl, rfl⟩
    | true =>
      cases c2 with
      | false =>
        go_wp2_with (first
          | (go_at_call 31; with_reducible refine CW1.out.mono ?_; rintro e w2 ⟨rfl, rfl⟩)
          | (go_at_call 31; with_reducible refine CW2.out.mono ?_; rintro e w3 ⟨rfl, rfl⟩))
        go_meet
        exact ⟨rfl, rfl⟩
      | true =>
        rw [HMT.out rfl rfl] at CM
        go_wp2_with (first
          | (go_at_call 31; with_reducible refine CW1.out.mono ?_; rintro e w2 ⟨rfl, rfl⟩)
          | (go_at_call 31; with_reducible refine CW2.out.mono ?_; rintro e w3 ⟨rfl, rfl⟩)
          | (go_at_call 32; with_reducible refine CM.out.mono ?_; rintro e w4 ⟨rfl, rfl⟩))
        go_meet
        exact ⟨rfl, rfl⟩
  case rest =>
  obtain ⟨rfl, hw⟩ := hcut
  rw [hw]
  clear hw
  cases hm : mayV l add take with
  | false =>
    have HM := Lib.hid hm
    clear hm
    go_wp2_with (go_at_call 33; refine CC.out.mono ?_; rintro e w5 ⟨v', rfl, ho, hb⟩; rw [HM.out]; have HB5 := Lib.hid (below_call HB1.out hb); obtain ⟨A5, c5, rfl⟩ : ∃ A5 c5, v' = .slice A5 0 c5 := (by rw [HM.out] at ho; exact ho.len); clear ho hb)
    go_ret
    exact ⟨rfl, HB5.out⟩
  | true =>
    have HM := Lib.hid hm
    clear hm
    obtain ⟨nx, hnx⟩ : ∃ nx, madeV l add take = nx := ⟨_, rfl⟩
    have HNX := Lib.hid hnx
    have hnl : nx.length ≤ 1000 := by
      rw [← hnx, (made_perm l add take).length_eq]
      unfold rawV
      have := List.length_filter_le (fun m => !decide (m = take)) l
      have h7 : l.length ≤ 7 := by
        have h1 := right_iff.1 (may_cases HM.out).1
        have h2 : l.Nodup := h1.1.imp (fun h => by omega)
        have h3 : l ⊆ sevenV := fun x hx => sevenV_mem.2 (h1.2.1 x hx)
        exact h2.length_le_of_subset h3
      rw [List.length_append]
      split
      · simp; omega
      · simp; omega
    clear hnx
    go_upto_region 8 with (go_at_call 33; refine CC.out.mono ?_; rintro e w5 ⟨v', rfl, ho, hb⟩; rw [HM.out] at ho; rw [HM.out]; rw [if_pos rfl, HNX.out] at ho; obtain ⟨A5, c5, rfl⟩ := ho.len; have HO5 := Lib.hid (ho.sl i64Row_length); have HB5 := Lib.hid (below_call HB1.out hb); have HS5 := Lib.hid (HS1.out.later hb); have HA5 := Lib.hid (HA1.out.later hb); have HBb5 := Lib.hid (HBb1.out.later hb); have HG5 := Lib.hid (errType_later HG1.out hb); clear ho hb)
    clear HS1 HA1 HBb1 HG1 CR CW1 CW2 CM CC
    have CC := Lib.hid (groupChange nx take add _ w5 HO5.out hnl HG5.out)
    have HMB := Lib.hid (show mayV nx take add = true by rw [← HNX.out]; exact may_back HM.out)
    have HMK := Lib.hid (show madeV nx take add = l by rw [← HNX.out]; exact made_back HM.out)
    go_upto_region 11 with (go_at_call 33; refine CC.out.mono ?_; rintro e w6 ⟨v', rfl, ho, hb⟩; rw [HMB.out] at ho; rw [HMB.out]; rw [if_pos rfl, HMK.out] at ho; obtain ⟨A6, c6, rfl⟩ := ho.len; have HO6 := Lib.hid (ho.sl i64Row_length); have HN6 := Lib.hid (HO5.out.later hb); have HB6 := Lib.hid (below_call HB5.out hb); have HS6 := Lib.hid (HS5.out.later hb); have HA6 := Lib.hid (HA5.out.later hb); have HBb6 := Lib.hid (HBb5.out.later hb); clear ho hb)
    clear HO5 HS5 HA5 HBb5 HG5 CC
    go_wp2_with fail
    go_loop [15, 16] (fun d n => ∃ k : Nat, k ≤ 7 ∧ n = .int .i64 ((k : Int) + 1) ∧ d = .int .i64 ((diffTo l nx k : Nat) : Int)) (fun _ n => 8 - (intOf n).toNat)
    case atStart => exact ⟨0, by omega, rfl, rfl⟩
    case round =>
      obtain ⟨k, hk, rfl, rfl⟩ := hrel
      have hd := diffTo_le l nx k
      by_cases hlt : k < 7
      · have HD := Lib.hid (diffTo_succ (l := l) (m := nx) hlt)
        have CI1 := Lib.hid (groupIn l ((k : Int) + 1) _ w6 HS6.out)
        have CI2 := Lib.hid (groupIn nx ((k : Int) + 1) _ w6 HN6.out)
        obtain ⟨d, hdd⟩ : ∃ d, diffTo l nx k = d := ⟨_, rfl⟩
        rw [hdd] at HD hd
        rw [hdd]
        obtain ⟨b1, hb1⟩ : ∃ b, l.contains ((k : Int) + 1) = b := ⟨_, rfl⟩
        obtain ⟨b2, hb2⟩ : ∃ b, nx.contains ((k : Int) + 1) = b := ⟨_, rfl⟩
        rw [hb1] at CI1 HD
        rw [hb2] at CI2 HD
        have k1 : decide ((k : Int) + 1 ≤ 7) = true := decide_eq_true (by omega)
        have k2 : wrap64 ((k : Int) + 1 + 1) = (k : Int) + 1 + 1 := by unfold wrap64; omega
        have k3 : wrap64 ((d : Int) + 1) = (d : Int) + 1 := by unfold wrap64; omega
        clear hdd hb1 hb2
        cases b1 <;> cases b2
        case false.true | true.false =>
          go_wp2_with (first
            | (go_at_call 34; with_reducible refine CI1.out.mono ?_; rintro e w2 ⟨rfl, rfl⟩)
            | (go_at_call 34; with_reducible refine CI2.out.mono ?_; rintro e w2 ⟨rfl, rfl⟩))
          go_roundw
          case rel => exact ⟨k + 1, by omega, by go_num, by rw [HD.out]; exact congrArg (Value.int .i64) (by simp)⟩
          case measure => simp [intOf]; omega
        case false.false | true.true =>
          go_wp2_with (first
            | (go_at_call 34; with_reducible refine CI1.out.mono ?_; rintro e w2 ⟨rfl, rfl⟩)
            | (go_at_call 34; with_reducible refine CI2.out.mono ?_; rintro e w2 ⟨rfl, rfl⟩))
          go_roundw
          case rel => exact ⟨k + 1, by omega, by go_num, by rw [HD.out]; exact congrArg (Value.int .i64) (by simp)⟩
          case measure => simp [intOf]; omega
      · have hk7 : k = 7 := by omega
        subst hk7
        have HD := Lib.hid (show diffTo l nx 7 = 1 by rw [diffTo_all, ← HNX.out]; exact diff_one HM.out)
        rw [HD.out]
        have CR := Lib.hid (entryRight nx _ w6 HN6.out)
        rw [show memRight nx = true by rw [← HNX.out]; exact made_right HM.out] at CR
        have CS := Lib.hid (sameIntsB l _ _ w6 HO6.out HS6.out)
        have CW1 := Lib.hid (fun (w7 : World) (p : Below w6.heap.size w6 w7) => groupWon l a _ _ w7 (HS6.out.later p) (HA6.out.later p) (by omega))
        have CW2 := Lib.hid (fun (w7 : World) (p : Below w6.heap.size w6 w7) => groupWon nx b _ _ w7 (HN6.out.later p) (HBb6.out.later p) (by omega))
        have CM := Lib.hid (fun (w7 : World) (p : Below w6.heap.size w6 w7) => groupMeet a b _ _ w7 (HA6.out.later p) (HBb6.out.later p))
        rw [HC1.out] at CW1
        rw [HC3.out] at CM
        have HMT2 : Hid (c1 = true → wonV nx b = true → c3 = true) := fun h1 h2 => by
          rw [← HC3.out]
          exact won_meet_next HM.out (by rw [HC1.out]; exact h1) (by rw [HNX.out]; exact h2)
        obtain ⟨c4, hc4⟩ : ∃ c, wonV nx b = c := ⟨_, rfl⟩
        rw [hc4] at CW2 HMT2
        clear hc4 HC1 HC3 HMT hd
        cases c1 with
        | false =>
          go_wp2_with (first
            | (go_at_call 30; refine CR.out.mono ?_; rintro e w2 ⟨rfl, rfl⟩)
            | (go_at_call 35; refine CS.out.mono ?_; rintro e w7 ⟨rfl, hb⟩; have HB7 := Lib.hid hb; clear hb)
            | (go_at_call 31; with_reducible refine (CW1.out w7 HB7.out).mono ?_; rintro e w8 ⟨rfl, rfl⟩))
          go_ret
          exact ⟨rfl, below_call HB6.out HB7.out⟩
        | true =>
          cases c4 with
          | false =>
            go_wp2_with (first
              | (go_at_call 30; refine CR.out.mono ?_; rintro e w2 ⟨rfl, rfl⟩)
              | (go_at_call 35; refine CS.out.mono ?_; rintro e w7 ⟨rfl, hb⟩; have HB7 := Lib.hid hb; clear hb)
              | (go_at_call 31; with_reducible refine (CW1.out w7 HB7.out).mono ?_; rintro e w8 ⟨rfl, rfl⟩)
              | (go_at_call 31; with_reducible refine (CW2.out w7 HB7.out).mono ?_; rintro e w8 ⟨rfl, rfl⟩))
            go_ret
            exact ⟨rfl, below_call HB6.out HB7.out⟩
          | true =>
            rw [HMT2.out rfl rfl] at CM
            go_wp2_with (first
              | (go_at_call 30; refine CR.out.mono ?_; rintro e w2 ⟨rfl, rfl⟩)
              | (go_at_call 35; refine CS.out.mono ?_; rintro e w7 ⟨rfl, hb⟩; have HB7 := Lib.hid hb; clear hb)
              | (go_at_call 31; with_reducible refine (CW1.out w7 HB7.out).mono ?_; rintro e w8 ⟨rfl, rfl⟩)
              | (go_at_call 31; with_reducible refine (CW2.out w7 HB7.out).mono ?_; rintro e w8 ⟨rfl, rfl⟩)
              | (go_at_call 32; with_reducible refine (CM.out w7 HB7.out).mono ?_; rintro e w8 ⟨rfl, rfl⟩))
            go_ret
            exact ⟨rfl, below_call HB6.out HB7.out⟩
end Go.Proofs.YthadfdpdillemaaDoor
