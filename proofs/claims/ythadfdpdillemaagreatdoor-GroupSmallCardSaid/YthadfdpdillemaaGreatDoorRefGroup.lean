/-
  The document's answer for groups: In, Won, Change: contracts.
-/
import Derived.Test.YthadfdpdillemaaGreatDoorGroup
import Derived.Test.YthadfdpdillemaaGreatDoorEntRef
set_option linter.unusedVariables false
set_option linter.unusedSimpArgs false
namespace Go.Proofs.YthadfdpdillemaaGreatDoor
open Go.RowKit

set_option maxHeartbeats 1000000 in
theorem refIn (l : List Int) (x : Int) (v : Value) (w : World) (h : Sl 1 i64Row w.heap.size w v l) :
    Calls Tryz.prog 56 #[v, .int .i64 x] w fun e w' => e = .returned (.bool (l.contains x)) ∧ w = w' := by
  obtain ⟨A, cap, rfl, hlc, hcm, -, hA⟩ := h
  have hn : l.length ≤ 9223372036854775807 := by unfold maxLen at hcm; omega
  obtain ⟨c, hc⟩ : ∃ c, l.contains x = c := ⟨_, rfl⟩
  have HC := Lib.hid hc
  rw [hc]
  clear hcm hc
  go_enter Tryz.func56, Tryz.ntmps56
  go_wp2_with fail
  go_loop [5] (fun i => ∃ k : Nat, k ≤ l.length ∧ i = .int .i64 k ∧ NotI l x k) (fun i => l.length - (intOf i).toNat)
  case atStart => exact ⟨0, by omega, rfl, fun i y h => absurd h (by omega)⟩
  case round =>
    obtain ⟨k, hk, rfl, hno⟩ := hrel
    by_cases hlt : k < l.length
    · obtain ⟨b, off, rfl, hb, hcell⟩ := hA (by intro h; subst h; simp at hlt)
      obtain ⟨y, hy⟩ : ∃ y, l[k]? = some y := ⟨_, List.getElem?_eq_getElem hlt⟩
      have c0 : w.cell? ⟨b, off + k, none⟩ = some (.int .i64 y) := by simpa using hcell k y hy 0 _ rfl
      have HY := Lib.hid hy
      have HN := Lib.hid hno
      clear hcell hy hA hno
      by_cases he : y = x
      · have e1 : (y == x) = true := by simpa using he
        have HI := Lib.hid (show c = true by rw [← HC.out, ← he]; exact isI_some HY.out)
        clear he
        go_wp2_with fail
        go_ret
        exact ⟨ret_bool HI.out.symm, rfl⟩
      · have e1 : (y == x) = false := by simpa using he
        have HE := Lib.hid he
        clear he
        go_wp2_with fail
        go_round
        case rel => exact ⟨k + 1, by omega, by go_num, notI_succ HN.out HY.out HE.out⟩
        case measure => simp [intOf]; omega
    · have hk' : k = l.length := by omega
      have HI := Lib.hid (show c = false by rw [← HC.out]; exact notI_all (by rw [← hk']; exact hno))
      clear hno hk'
      go_wp2_with fail
      go_ret
      exact ⟨ret_bool HI.out.symm, rfl⟩

set_option maxHeartbeats 4000000 in
theorem refWon (m a : List Int) (v v' : Value) (w : World) (h : Sl 1 i64Row w.heap.size w v m) (h' : Sl 1 i64Row w.heap.size w v' a) (hm : m.length ≤ 1000000) :
    Calls Tryz.prog 54 #[v, v'] w fun e w' => e = .returned (.bool (wonV m a)) ∧ w = w' := by
  obtain ⟨A, cap, rfl, hlc, hcm, -, hA⟩ := h
  have H2 := Lib.hid h'
  obtain ⟨A', cap', rfl, -⟩ := h'
  clear hcm
  go_enter Tryz.func54, Tryz.ntmps54
  go_wp2_with fail
  go_loop [5, 6] (fun n j => ∃ k : Nat, k ≤ m.length ∧ j = .int .i64 k ∧ n = .int .i64 ((cntIn (m.take k) a : Nat) : Int)) (fun _ j => m.length - (intOf j).toNat)
  case atStart => exact ⟨0, by omega, rfl, by simp [cntIn]⟩
  case round =>
    obtain ⟨k, hk, rfl, rfl⟩ := hrel
    have hle := cntIn_le (m.take k) a
    rw [List.length_take] at hle
    by_cases hlt : k < m.length
    · obtain ⟨b, off, rfl, hb, hcell⟩ := hA (by intro h; subst h; simp at hlt)
      obtain ⟨y, hy⟩ : ∃ y, m[k]? = some y := ⟨_, List.getElem?_eq_getElem hlt⟩
      have c0 : w.cell? ⟨b, off + k, none⟩ = some (.int .i64 y) := by simpa using hcell k y hy 0 _ rfl
      have HC := Lib.hid (cntIn_take (a := a) hy)
      obtain ⟨n, hn⟩ : ∃ n, cntIn (m.take k) a = n := ⟨_, rfl⟩
      rw [hn] at hle HC
      rw [hn]
      have w1 : wrap64 ((n : Int) + 1) = (n : Int) + 1 := by unfold wrap64; omega
      have i0 : (0 : Int) ≤ (k : Int) := by omega
      have i1 : (k : Int) < (m.length : Int) := by omega
      have CH := Lib.hid (refIn a y (.slice A' a.length cap') w H2.out)
      clear hcell hA hy hn
      cases hc : a.contains y with
      | true =>
        rw [hc] at CH HC
        go_wp2_with (go_at_call 56; refine CH.out.mono ?_; rintro e w2 ⟨rfl, rfl⟩)
        go_roundw
        case rel => exact ⟨k + 1, by omega, by go_num, by rw [HC.out]; exact congrArg (Value.int .i64) (by simp <;> omega)⟩
        case measure => simp [intOf]; omega
      | false =>
        rw [hc] at CH HC
        go_wp2_with (go_at_call 56; refine CH.out.mono ?_; rintro e w2 ⟨rfl, rfl⟩)
        go_roundw
        case rel => exact ⟨k + 1, by omega, by go_num, by rw [HC.out]; exact congrArg (Value.int .i64) (by simp)⟩
        case measure => simp [intOf]; omega
    · have hkl : k = m.length := by omega
      have HW := Lib.hid (show wonV m a = decide ((m.length : Int) - ((cntIn (m.take k) a : Nat) : Int) < ((cntIn (m.take k) a : Nat) : Int)) by rw [hkl, List.take_length]; unfold wonV; exact decide_eq_decide.2 (by omega))
      obtain ⟨n, hn⟩ : ∃ n, cntIn (m.take k) a = n := ⟨_, rfl⟩
      rw [hn] at HW hle
      rw [hn]
      have hnm : n ≤ m.length := by omega
      have w1 : wrap64 ((m.length : Int) - (n : Int)) = (m.length : Int) - (n : Int) := by unfold wrap64; omega
      clear hn hA
      go_wp2_with fail
      go_ret
      exact ⟨ret_bool (by rw [HW.out] <;> exact decide_eq_decide.2 (by omega)), rfl⟩

/-- What the loop has of its answer. -/
def refTo (l : List Int) (a t : Int) (k : Nat) : List Int := (sevenV.take k).filter fun n => decide (n = a) || (l.contains n && !decide (n = t))
theorem refTo_all (l : List Int) (a t : Int) : refTo l a t 7 = refV l a t := rfl
theorem seven_at {k : Nat} (hk : k < 7) : sevenV[k]? = some ((k : Int) + 1) := by
  rcases (show k = 0 ∨ k = 1 ∨ k = 2 ∨ k = 3 ∨ k = 4 ∨ k = 5 ∨ k = 6 by omega) with rfl | rfl | rfl | rfl | rfl | rfl | rfl <;> rfl
theorem refTo_succ {l : List Int} {a t : Int} {k : Nat} (hk : k < 7) : refTo l a t (k + 1) = refTo l a t k ++ (if (decide ((k : Int) + 1 = a) || (l.contains ((k : Int) + 1) && !decide ((k : Int) + 1 = t))) = true then [(k : Int) + 1] else []) := by
  unfold refTo
  rw [take_at (seven_at hk), List.filter_append]
  congr 1
  simp only [List.filter_cons, List.filter_nil]
theorem refTo_len (l : List Int) (a t : Int) (k : Nat) : (refTo l a t k).length ≤ 7 := by
  unfold refTo
  refine Nat.le_trans (List.length_filter_le _ _) ?_
  rw [List.length_take]
  exact Nat.min_le_right _ _
def RefPost (l : List Int) (a t : Int) (w : World) (e : Ending) (w' : World) : Prop :=
  ∃ v' : Value, e = .returned (.tuple #[v', .int .i64 (if mayV l a t then 0 else 2)]) ∧ Own 1 i64Row 3 w.heap.size w' v' (if mayV l a t then refV l a t else []) ∧ Below w.heap.size w w'
theorem rchg_no {l : List Int} {a t : Int} {w w' : World} (h : mayV l a t = false) (hb : Below w.heap.size w w') : RefPost l a t w (.returned (.tuple #[.slice none 0 0, .int .i64 2])) w' :=
  ⟨.slice none 0 0, by rw [h]; rfl, by rw [h]; exact Own.nil_ _ _ _ _ _, hb⟩
theorem rchg_yes {l : List Int} {a t : Int} {w w' : World} {v : Value} (h : mayV l a t = true) (ho : Own 1 i64Row 3 w.heap.size w' v (refV l a t)) (hb : Below w.heap.size w w') : RefPost l a t w (.returned (.tuple #[v, .int .i64 0])) w' :=
  ⟨v, by rw [h]; rfl, by rw [h]; exact ho, hb⟩

set_option maxRecDepth 100000 in
set_option maxHeartbeats 16000000 in
theorem refChange (l : List Int) (a t : Int) (v : Value) (w : World) (h : Sl 1 i64Row w.heap.size w v l) (hl : l.length ≤ 1000000) :
    Calls Tryz.prog 51 #[v, .int .i64 a, .int .i64 t] w (RefPost l a t w) := by
  obtain ⟨A, cap, rfl, -⟩ := id h
  have HS := Lib.hid h
  have CR := Lib.hid (refRight l _ w h)
  have CT := Lib.hid (refIn l t _ w h)
  have CA := Lib.hid (refIn l a _ w h)
  clear h
  go_enter Tryz.func51, Tryz.ntmps51
  cases hm : memRight l with
  | false =>
    rw [hm] at CR
    have HMAY := Lib.hid (show mayV l a t = false by unfold mayV; rw [hm]; rfl)
    clear hm
    go_wp2_with (go_at_call 105; with_reducible refine CR.out.mono ?_; rintro e w2 ⟨rfl, rfl⟩)
    go_ret2
    exact rchg_no HMAY.out (Below.refl _ _)
  | true =>
    rw [hm] at CR
    have HM := Lib.hid hm
    clear hm
    by_cases ha : a = 0
    · have a1 : (a == 0) = true := by simpa using ha
      have a2 : (a != 0) = false := by simpa using ha
      by_cases ht : t = 0
      · have t1 : (t == 0) = true := by simpa using ht
        have HMAY := Lib.hid (show mayV l a t = false by unfold mayV; simp [ha, ht])
        clear ha ht
        go_wp2_with (first
          | (go_at_call 105; with_reducible refine CR.out.mono ?_; rintro e w2 ⟨rfl, rfl⟩)
          | (go_at_call 56; with_reducible refine CT.out.mono ?_; rintro e w3 ⟨rfl, rfl⟩)
          | (go_at_call 56; with_reducible refine CA.out.mono ?_; rintro e w3 ⟨rfl, rfl⟩))
        go_ret2
        exact rchg_no HMAY.out (Below.refl _ _)
      · have t1 : (t == 0) = false := by simpa using ht
        have t2 : (t != 0) = true := by simpa using ht
        cases hc : l.contains t with
        | false =>
          rw [hc] at CT
          have HMAY := Lib.hid (show mayV l a t = false by unfold mayV; rw [hc]; simp [ha, ht])
          clear ht hc ha
          go_wp2_with (first
            | (go_at_call 105; with_reducible refine CR.out.mono ?_; rintro e w2 ⟨rfl, rfl⟩)
            | (go_at_call 56; with_reducible refine CT.out.mono ?_; rintro e w3 ⟨rfl, rfl⟩)
            | (go_at_call 56; with_reducible refine CA.out.mono ?_; rintro e w3 ⟨rfl, rfl⟩))
          go_ret2
          exact rchg_no HMAY.out (Below.refl _ _)
        | true =>
          rw [hc] at CT
          by_cases h1 : l.length = 1
          · have HMAY := Lib.hid (show mayV l a t = false by unfold mayV; rw [hc]; simp [ha, ht, h1])
            have l1 : ((l.length : Int) == 1) = true := by rw [h1]; rfl
            clear ht hc h1 ha
            go_wp2_with (first
              | (go_at_call 105; with_reducible refine CR.out.mono ?_; rintro e w2 ⟨rfl, rfl⟩)
              | (go_at_call 56; with_reducible refine CT.out.mono ?_; rintro e w3 ⟨rfl, rfl⟩)
              | (go_at_call 56; with_reducible refine CA.out.mono ?_; rintro e w3 ⟨rfl, rfl⟩))
            go_ret2
            exact rchg_no HMAY.out (Below.refl _ _)
          · have HMAY := Lib.hid (show mayV l a t = true by unfold mayV; rw [hc, HM.out]; simp [ha, ht, h1])
            have l1 : ((l.length : Int) == 1) = false := by simpa using (show ¬ (l.length : Int) = 1 by omega)
            clear ht hc h1 ha
            go_wp2_with (first
              | (go_at_call 105; with_reducible refine CR.out.mono ?_; rintro e w2 ⟨rfl, rfl⟩)
              | (go_at_call 56; with_reducible refine CT.out.mono ?_; rintro e w3 ⟨rfl, rfl⟩)
              | (go_at_call 56; with_reducible refine CA.out.mono ?_; rintro e w3 ⟨rfl, rfl⟩))
            clear CR CT CA
            go_loopw [8, 9] (fun o i wr => ∃ k : Nat, k ≤ 7 ∧ i = .int .i64 ((k : Int) + 1) ∧ Own 1 i64Row 3 w.heap.size wr o (refTo l a t k) ∧ Below w.heap.size w wr) (fun _ i _ => 9 - (intOf i).toNat)
            case atStart => exact ⟨0, by omega, rfl, Own.nil_ _ _ _ _ _, Below.refl _ _⟩
            case round =>
              obtain ⟨k, hk, rfl, hown, hB⟩ := hrel
              have hsl := hown.len
              have hle := refTo_len l a t k
              have HO := Lib.hid hown
              have HB := Lib.hid hB
              have hz := hB.size
              have CI := Lib.hid (refIn l ((k : Int) + 1) (.slice A l.length cap) wr (HS.out.later HB.out))
              clear hown hB hsl
              by_cases hk7 : k < 7
              · have d0 : decide ((k : Int) + 1 ≤ 7) = true := decide_eq_true (by omega)
                have k0 : (k : Int) + 1 ≤ 7 := by omega
                by_cases hka : (k : Int) + 1 = a
                · have HT := Lib.hid (show (decide ((k : Int) + 1 = a) || (l.contains ((k : Int) + 1) && !decide ((k : Int) + 1 = t))) = true by simp [hka])
                  have e1 : ((k : Int) + 1 == a) = true := by simpa using hka
                  clear hka
                  go_wp2_with (first
                    | (at_builtin; refine wpList_append_row _ rfl (.tmp 67) (.tmp 69) 70 rfl w.heap.size 3 _ 1 8 Tryz.underlying70 intInfo rfl (Nat.succ_pos 0) i64Row i64Row_length i64Row_one _ _ rfl HO.out ((k : Int) + 1) _ rfl 3 _ rfl rfl (by omega) (by omega) hz ?_; intro v' w' p1 p2 p3 p4 p5))
                  have HP := Lib.hid p1
                  have HB2 := Lib.hid (HB.out.trans p2)
                  clear p1 p2 p3 p4 p5
                  go_roundw
                  case rel => exact ⟨k + 1, by omega, by go_num, by rw [refTo_succ hk7, HT.out]; exact HP.out, HB2.out⟩
                  case measure => simp [intOf]; omega
                · have e1 : ((k : Int) + 1 == a) = false := by simpa using hka
                  cases hc : l.contains ((k : Int) + 1) with
                  | false =>
                    rw [hc] at CI
                    have HT := Lib.hid (show (decide ((k : Int) + 1 = a) || (l.contains ((k : Int) + 1) && !decide ((k : Int) + 1 = t))) = false by rw [hc]; simp [hka])
                    clear hka hc
                    go_wp2_with (first
                      | (go_at_call 56; with_reducible refine CI.out.mono ?_; rintro e w3 ⟨rfl, rfl⟩))
                    go_roundw
                    case rel => exact ⟨k + 1, by omega, by go_num, by rw [refTo_succ hk7, HT.out]; exact (by simpa using HO.out), HB.out⟩
                    case measure => simp [intOf]; omega
                  | true =>
                    rw [hc] at CI
                    by_cases hkt : (k : Int) + 1 = t
                    · have HT := Lib.hid (show (decide ((k : Int) + 1 = a) || (l.contains ((k : Int) + 1) && !decide ((k : Int) + 1 = t))) = false by rw [hc, decide_eq_false hka, decide_eq_true hkt]; rfl)
                      have e2 : ((k : Int) + 1 != t) = false := by simpa using hkt
                      clear hka hc hkt
                      go_wp2_with (first
                        | (go_at_call 56; with_reducible refine CI.out.mono ?_; rintro e w3 ⟨rfl, rfl⟩))
                      go_roundw
                      case rel => exact ⟨k + 1, by omega, by go_num, by rw [refTo_succ hk7, HT.out]; exact (by simpa using HO.out), HB.out⟩
                      case measure => simp [intOf]; omega
                    · have HT := Lib.hid (show (decide ((k : Int) + 1 = a) || (l.contains ((k : Int) + 1) && !decide ((k : Int) + 1 = t))) = true by rw [hc, decide_eq_false hka, decide_eq_false hkt]; rfl)
                      have e2 : ((k : Int) + 1 != t) = true := by simpa using hkt
                      clear hka hc hkt
                      go_wp2_with (first
                        | (at_builtin; refine wpList_append_row _ rfl (.tmp 67) (.tmp 69) 70 rfl w.heap.size 3 _ 1 8 Tryz.underlying70 intInfo rfl (Nat.succ_pos 0) i64Row i64Row_length i64Row_one _ _ rfl HO.out ((k : Int) + 1) _ rfl 3 _ rfl rfl (by omega) (by omega) hz ?_; intro v' w' p1 p2 p3 p4 p5)
                        | (go_at_call 56; with_reducible refine CI.out.mono ?_; rintro e w3 ⟨rfl, rfl⟩))
                      have HP := Lib.hid p1
                      have HB2 := Lib.hid (HB.out.trans p2)
                      clear p1 p2 p3 p4 p5
                      go_roundw
                      case rel => exact ⟨k + 1, by omega, by go_num, by rw [refTo_succ hk7, HT.out]; exact HP.out, HB2.out⟩
                      case measure => simp [intOf]; omega
              · have d0 : decide ((k : Int) + 1 ≤ 7) = false := decide_eq_false (by omega)
                have k0 : (7 : Int) < (k : Int) + 1 := by omega
                have HK := Lib.hid (show refTo l a t k = refV l a t by rw [show k = 7 by omega]; exact refTo_all l a t)
                go_wp2_with fail
                go_ret2
                exact rchg_yes HMAY.out (by rw [← HK.out]; exact HO.out) HB.out
    · have a1 : (a == 0) = false := by simpa using ha
      have a2 : (a != 0) = true := by simpa using ha
      by_cases ht : t = 0
      · have t1 : (t == 0) = true := by simpa using ht
        have t2 : (t != 0) = false := by simpa using ht
        by_cases hr1 : a < 1
        · have HMAY := Lib.hid (show mayV l a t = false by unfold mayV; simp [ha, ht]; omega)
          have d1 : decide (a < 1) = true := decide_eq_true hr1
          clear ha ht
          go_wp2_with (first
            | (go_at_call 105; with_reducible refine CR.out.mono ?_; rintro e w2 ⟨rfl, rfl⟩)
            | (go_at_call 56; with_reducible refine CT.out.mono ?_; rintro e w3 ⟨rfl, rfl⟩)
            | (go_at_call 56; with_reducible refine CA.out.mono ?_; rintro e w3 ⟨rfl, rfl⟩))
          go_ret2
          exact rchg_no HMAY.out (Below.refl _ _)
        · have d1 : decide (a < 1) = false := decide_eq_false hr1
          have r1 : 1 ≤ a := by omega
          by_cases hr7 : 7 < a
          · have HMAY := Lib.hid (show mayV l a t = false by unfold mayV; simp [ha, ht]; omega)
            have d7 : decide (7 < a) = true := decide_eq_true hr7
            clear ha ht
            go_wp2_with (first
              | (go_at_call 105; with_reducible refine CR.out.mono ?_; rintro e w2 ⟨rfl, rfl⟩)
              | (go_at_call 56; with_reducible refine CT.out.mono ?_; rintro e w3 ⟨rfl, rfl⟩)
              | (go_at_call 56; with_reducible refine CA.out.mono ?_; rintro e w3 ⟨rfl, rfl⟩))
            go_ret2
            exact rchg_no HMAY.out (Below.refl _ _)
          · have d7 : decide (7 < a) = false := decide_eq_false hr7
            have r7 : a ≤ 7 := by omega
            cases hc : l.contains a with
            | true =>
              rw [hc] at CA
              have HMAY := Lib.hid (show mayV l a t = false by unfold mayV; rw [hc]; simp [ha, ht])
              clear ha ht hc
              go_wp2_with (first
                | (go_at_call 105; with_reducible refine CR.out.mono ?_; rintro e w2 ⟨rfl, rfl⟩)
                | (go_at_call 56; with_reducible refine CT.out.mono ?_; rintro e w3 ⟨rfl, rfl⟩)
                | (go_at_call 56; with_reducible refine CA.out.mono ?_; rintro e w3 ⟨rfl, rfl⟩))
              go_ret2
              exact rchg_no HMAY.out (Below.refl _ _)
            | false =>
              rw [hc] at CA
              have HMAY := Lib.hid (show mayV l a t = true by unfold mayV; rw [hc, HM.out]; simp [ha, ht]; omega)
              clear ha ht hc hr1 hr7
              go_wp2_with (first
                | (go_at_call 105; with_reducible refine CR.out.mono ?_; rintro e w2 ⟨rfl, rfl⟩)
                | (go_at_call 56; with_reducible refine CT.out.mono ?_; rintro e w3 ⟨rfl, rfl⟩)
                | (go_at_call 56; with_reducible refine CA.out.mono ?_; rintro e w3 ⟨rfl, rfl⟩))
              clear CR CT CA
              go_loopw [8, 9] (fun o i wr => ∃ k : Nat, k ≤ 7 ∧ i = .int .i64 ((k : Int) + 1) ∧ Own 1 i64Row 3 w.heap.size wr o (refTo l a t k) ∧ Below w.heap.size w wr) (fun _ i _ => 9 - (intOf i).toNat)
              case atStart => exact ⟨0, by omega, rfl, Own.nil_ _ _ _ _ _, Below.refl _ _⟩
              case round =>
                obtain ⟨k, hk, rfl, hown, hB⟩ := hrel
                have hsl := hown.len
                have hle := refTo_len l a t k
                have HO := Lib.hid hown
                have HB := Lib.hid hB
                have hz := hB.size
                have CI := Lib.hid (refIn l ((k : Int) + 1) (.slice A l.length cap) wr (HS.out.later HB.out))
                clear hown hB hsl
                by_cases hk7 : k < 7
                · have d0 : decide ((k : Int) + 1 ≤ 7) = true := decide_eq_true (by omega)
                  have k0 : (k : Int) + 1 ≤ 7 := by omega
                  by_cases hka : (k : Int) + 1 = a
                  · have HT := Lib.hid (show (decide ((k : Int) + 1 = a) || (l.contains ((k : Int) + 1) && !decide ((k : Int) + 1 = t))) = true by simp [hka])
                    have e1 : ((k : Int) + 1 == a) = true := by simpa using hka
                    clear hka
                    go_wp2_with (first
                      | (at_builtin; refine wpList_append_row _ rfl (.tmp 67) (.tmp 69) 70 rfl w.heap.size 3 _ 1 8 Tryz.underlying70 intInfo rfl (Nat.succ_pos 0) i64Row i64Row_length i64Row_one _ _ rfl HO.out ((k : Int) + 1) _ rfl 3 _ rfl rfl (by omega) (by omega) hz ?_; intro v' w' p1 p2 p3 p4 p5))
                    have HP := Lib.hid p1
                    have HB2 := Lib.hid (HB.out.trans p2)
                    clear p1 p2 p3 p4 p5
                    go_roundw
                    case rel => exact ⟨k + 1, by omega, by go_num, by rw [refTo_succ hk7, HT.out]; exact HP.out, HB2.out⟩
                    case measure => simp [intOf]; omega
                  · have e1 : ((k : Int) + 1 == a) = false := by simpa using hka
                    cases hc : l.contains ((k : Int) + 1) with
                    | false =>
                      rw [hc] at CI
                      have HT := Lib.hid (show (decide ((k : Int) + 1 = a) || (l.contains ((k : Int) + 1) && !decide ((k : Int) + 1 = t))) = false by rw [hc]; simp [hka])
                      clear hka hc
                      go_wp2_with (first
                        | (go_at_call 56; with_reducible refine CI.out.mono ?_; rintro e w3 ⟨rfl, rfl⟩))
                      go_roundw
                      case rel => exact ⟨k + 1, by omega, by go_num, by rw [refTo_succ hk7, HT.out]; exact (by simpa using HO.out), HB.out⟩
                      case measure => simp [intOf]; omega
                    | true =>
                      rw [hc] at CI
                      by_cases hkt : (k : Int) + 1 = t
                      · have HT := Lib.hid (show (decide ((k : Int) + 1 = a) || (l.contains ((k : Int) + 1) && !decide ((k : Int) + 1 = t))) = false by rw [hc, decide_eq_false hka, decide_eq_true hkt]; rfl)
                        have e2 : ((k : Int) + 1 != t) = false := by simpa using hkt
                        clear hka hc hkt
                        go_wp2_with (first
                          | (go_at_call 56; with_reducible refine CI.out.mono ?_; rintro e w3 ⟨rfl, rfl⟩))
                        go_roundw
                        case rel => exact ⟨k + 1, by omega, by go_num, by rw [refTo_succ hk7, HT.out]; exact (by simpa using HO.out), HB.out⟩
                        case measure => simp [intOf]; omega
                      · have HT := Lib.hid (show (decide ((k : Int) + 1 = a) || (l.contains ((k : Int) + 1) && !decide ((k : Int) + 1 = t))) = true by rw [hc, decide_eq_false hka, decide_eq_false hkt]; rfl)
                        have e2 : ((k : Int) + 1 != t) = true := by simpa using hkt
                        clear hka hc hkt
                        go_wp2_with (first
                          | (at_builtin; refine wpList_append_row _ rfl (.tmp 67) (.tmp 69) 70 rfl w.heap.size 3 _ 1 8 Tryz.underlying70 intInfo rfl (Nat.succ_pos 0) i64Row i64Row_length i64Row_one _ _ rfl HO.out ((k : Int) + 1) _ rfl 3 _ rfl rfl (by omega) (by omega) hz ?_; intro v' w' p1 p2 p3 p4 p5)
                          | (go_at_call 56; with_reducible refine CI.out.mono ?_; rintro e w3 ⟨rfl, rfl⟩))
                        have HP := Lib.hid p1
                        have HB2 := Lib.hid (HB.out.trans p2)
                        clear p1 p2 p3 p4 p5
                        go_roundw
                        case rel => exact ⟨k + 1, by omega, by go_num, by rw [refTo_succ hk7, HT.out]; exact HP.out, HB2.out⟩
                        case measure => simp [intOf]; omega
                · have d0 : decide ((k : Int) + 1 ≤ 7) = false := decide_eq_false (by omega)
                  have k0 : (7 : Int) < (k : Int) + 1 := by omega
                  have HK := Lib.hid (show refTo l a t k = refV l a t by rw [show k = 7 by omega]; exact refTo_all l a t)
                  go_wp2_with fail
                  go_ret2
                  exact rchg_yes HMAY.out (by rw [← HK.out]; exact HO.out) HB.out
      · have HMAY := Lib.hid (show mayV l a t = false by unfold mayV; simp [ha, ht])
        have t1 : (t == 0) = false := by simpa using ht
        clear ha ht
        go_wp2_with (first
          | (go_at_call 105; with_reducible refine CR.out.mono ?_; rintro e w2 ⟨rfl, rfl⟩)
          | (go_at_call 56; with_reducible refine CT.out.mono ?_; rintro e w3 ⟨rfl, rfl⟩)
          | (go_at_call 56; with_reducible refine CA.out.mono ?_; rintro e w3 ⟨rfl, rfl⟩))
        go_ret2
        exact rchg_no HMAY.out (Below.refl _ _)
end Go.Proofs.YthadfdpdillemaaGreatDoor
