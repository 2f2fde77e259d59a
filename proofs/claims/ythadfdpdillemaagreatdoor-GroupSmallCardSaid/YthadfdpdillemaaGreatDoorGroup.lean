/-
  THE PACKAGE group: rows (has, In, Won), the change (may, made, Change): contracts.
-/
import Derived.Test.YthadfdpdillemaaGreatDoorSortRow
import Derived.Test.YthadfdpdillemaaGreatDoorOwnClear
import Derived.Test.YthadfdpdillemaaGreatDoorGroupMath
import Derived.Test.YthadfdpdillemaaGreatDoorErrGroup3
import Derived.Test.YthadfdpdillemaaGreatDoorEnt
import Derived.Test.YthadfdpdillemaaGreatDoorKitInts
import Derived.Test.YthadfdpdillemaaGreatDoorAppend
import Derived.Sort.OwnSorted
import Derived.Lib.SlKeysI
import Derived.Deep.DeepCutAuto
set_option linter.unusedVariables false
set_option linter.unusedSimpArgs false
namespace Go.Proofs.YthadfdpdillemaaGreatDoor
open Go.RowKit Go.Sort Go.Shelf

/-- Not met among the first k. -/
def NotI (l : List Int) (x : Int) (k : Nat) : Prop := ∀ (i : Nat) (y : Int), i < k → l[i]? = some y → y ≠ x
theorem notI_succ {l : List Int} {x y : Int} {k : Nat} (h : NotI l x k) (hy : l[k]? = some y) (hne : y ≠ x) : NotI l x (k + 1) := by
  intro i z hi hz
  rcases Nat.lt_or_ge i k with h' | h'
  · exact h i z h' hz
  · have : i = k := by omega
    subst this; rw [hy] at hz; cases hz; exact hne
theorem notI_all {l : List Int} {x : Int} (h : NotI l x l.length) : l.contains x = false := by
  cases hc : l.contains x with
  | false => rfl
  | true =>
    have hm : x ∈ l := by simpa using hc
    obtain ⟨i, hi⟩ := List.getElem?_of_mem hm
    exact absurd rfl (h i x (List.getElem?_eq_some_iff.1 hi).1 hi)
theorem isI_some {l : List Int} {x : Int} {k : Nat} (h : l[k]? = some x) : l.contains x = true := by
  have := List.mem_of_getElem? h
  simpa using this

def IdxPost (c : Bool) (e : Ending) : Prop := ∃ r : Int, e = .returned (.int .i64 r) ∧ decide (0 ≤ r) = c
theorem idxPost_yes (k : Nat) : IdxPost true (.returned (.int .i64 (k : Int))) := ⟨_, rfl, by simp⟩
theorem idxPost_no : IdxPost false (.returned (.int .i64 (-1))) := ⟨_, rfl, by simp⟩

set_option maxHeartbeats 1000000 in
theorem rowIndex (l : List Int) (x : Int) (v : Value) (w : World) (h : Sl 1 i64Row w.heap.size w v l) :
    Calls Tryz.prog 184 #[v, .int .i64 x] w fun e w' => IdxPost (l.contains x) e ∧ w = w' := by
  obtain ⟨A, cap, rfl, hlc, hcm, -, hA⟩ := h
  have hn : l.length ≤ 9223372036854775807 := by unfold maxLen at hcm; omega
  obtain ⟨c, hc⟩ : ∃ c, l.contains x = c := ⟨_, rfl⟩
  have HCC := Lib.hid hc
  rw [hc]
  clear hcm hc
  go_enter Tryz.func184, Tryz.ntmps184
  go_wp2_with fail
  go_loop [5, 8] (fun _ j => ∃ k : Nat, k ≤ l.length ∧ j = .int .i64 k ∧ NotI l x k) (fun _ j => l.length - (intOf j).toNat)
  case atStart => exact ⟨0, by omega, rfl, fun i y hi => absurd hi (Nat.not_lt_zero _)⟩
  case round =>
    obtain ⟨k, hk, rfl, hno⟩ := hrel
    have HNO := Lib.hid hno
    clear hno
    by_cases hlt : k < l.length
    · obtain ⟨b, off, rfl, hb, hcell⟩ := hA (by intro h; subst h; simp at hlt)
      obtain ⟨y, hy⟩ : ∃ y, l[k]? = some y := ⟨_, List.getElem?_eq_getElem hlt⟩
      have c0 : w.cell? ⟨b, off + k, none⟩ = some (.int .i64 y) := by simpa using hcell k y hy 0 _ rfl
      have HY := Lib.hid hy
      have i0 : (0 : Int) ≤ (k : Int) := by omega
      have i1 : (k : Int) < (l.length : Int) := by omega
      clear hcell hA hy
      by_cases hxy : x = y
      · have e1 : (x == y) = true := by simpa using hxy
        go_wp2_with fail
        go_ret
        exact ⟨by rw [← HCC.out, show l.contains x = true by rw [hxy]; exact isI_some HY.out]; exact idxPost_yes _, rfl⟩
      · have e1 : (x == y) = false := by simpa using hxy
        go_wp2_with fail
        go_roundw
        case rel => exact ⟨k + 1, by omega, by go_num, notI_succ HNO.out HY.out (fun h => hxy h.symm)⟩
        case measure => simp [intOf]; omega
    · go_wp2_with fail
      go_ret
      have : k = l.length := by omega
      subst this
      exact ⟨by rw [← HCC.out, notI_all HNO.out]; exact idxPost_no, rfl⟩

set_option maxHeartbeats 1000000 in
theorem rowContains (l : List Int) (x : Int) (v : Value) (w : World) (h : Sl 1 i64Row w.heap.size w v l) :
    Calls Tryz.prog 160 #[v, .int .i64 x] w fun e w' => e = .returned (.bool (l.contains x)) ∧ w = w' := by
  obtain ⟨c, hc⟩ : ∃ c, l.contains x = c := ⟨_, rfl⟩
  have CC := Lib.hid (rowIndex l x v w h)
  rw [hc] at CC ⊢
  clear hc h
  go_enter Tryz.func160, Tryz.ntmps160
  go_wp2_with (go_at_call 184; refine CC.out.mono ?_; rintro e w2 ⟨⟨r, rfl, hr⟩, rfl⟩)
  go_ret
  exact ⟨rfl, rfl⟩

set_option maxHeartbeats 1000000 in
theorem rowHas (l : List Int) (x : Int) (v : Value) (w : World) (h : Sl 1 i64Row w.heap.size w v l) :
    Calls Tryz.prog 106 #[v, .int .i64 x] w fun e w' => e = .returned (.bool (l.contains x)) ∧ w = w' := by
  obtain ⟨c, hc⟩ : ∃ c, l.contains x = c := ⟨_, rfl⟩
  have CC := Lib.hid (rowContains l x v w h)
  rw [hc] at CC ⊢
  clear hc h
  go_enter Tryz.func106, Tryz.ntmps106
  go_wp2_with (go_at_call 160; refine CC.out.mono ?_; rintro e w2 ⟨rfl, rfl⟩)
  go_ret
  exact ⟨rfl, rfl⟩

set_option maxHeartbeats 1000000 in
theorem groupIn (l : List Int) (x : Int) (v : Value) (w : World) (h : Sl 1 i64Row w.heap.size w v l) :
    Calls Tryz.prog 55 #[v, .int .i64 x] w fun e w' => e = .returned (.bool (l.contains x)) ∧ w = w' := by
  obtain ⟨c, hc⟩ : ∃ c, l.contains x = c := ⟨_, rfl⟩
  have CC := Lib.hid (rowHas l x v w h)
  rw [hc] at CC ⊢
  clear hc h
  go_enter Tryz.func55, Tryz.ntmps55
  go_wp2_with (go_at_call 106; refine CC.out.mono ?_; rintro e w2 ⟨rfl, rfl⟩)
  go_ret
  exact ⟨rfl, rfl⟩

theorem cntIn_take {m a : List Int} {k : Nat} {y : Int} (hy : m[k]? = some y) : cntIn (m.take (k + 1)) a = cntIn (m.take k) a + if a.contains y then 1 else 0 := by
  unfold cntIn
  rw [take_at hy, List.countP_append]
  simp [List.countP_cons]
theorem cntIn_le (m a : List Int) : cntIn m a ≤ m.length := List.countP_le_length

set_option maxHeartbeats 4000000 in
theorem groupWon (m a : List Int) (v v' : Value) (w : World) (h : Sl 1 i64Row w.heap.size w v m) (h' : Sl 1 i64Row w.heap.size w v' a) (hm : m.length ≤ 1000000) :
    Calls Tryz.prog 53 #[v, v'] w fun e w' => e = .returned (.bool (wonV m a)) ∧ w = w' := by
  obtain ⟨A, cap, rfl, hlc, hcm, -, hA⟩ := h
  have H2 := Lib.hid h'
  obtain ⟨A', cap', rfl, -⟩ := h'
  clear hcm
  go_enter Tryz.func53, Tryz.ntmps53
  go_wp2_with fail
  go_loop [5, 7, 10] (fun n _ j => ∃ k : Nat, k ≤ m.length ∧ j = .int .i64 k ∧ n = .int .i64 ((2 * cntIn (m.take k) a : Nat) : Int)) (fun _ _ j => m.length - (intOf j).toNat)
  case atStart => exact ⟨0, by omega, rfl, by simp [cntIn]⟩
  case round =>
    obtain ⟨k, hk, rfl, rfl⟩ := hrel
    have hle := cntIn_le (m.take k) a
    rw [List.length_take] at hle
    by_cases hlt : k < m.length
    · obtain ⟨b, off, rfl, hb, hcell⟩ := hA (by intro h; subst h; simp at hlt)
      obtain ⟨y, hy⟩ : ∃ y, m[k]? = some y := ⟨_, List.getElem?_eq_getElem hlt⟩
      have c0 : w.cell? ⟨b, off + k, none⟩ = some (.int .i64 y) := by simpa using hcell k y hy 0 _ rfl
      have HC := Lib.hid (cntIn_take (a := a) hy)
      obtain ⟨n, hn⟩ : ∃ n, cntIn (m.take k) a = n := ⟨_, rfl⟩
      rw [hn] at hle HC
      rw [hn]
      have w1 : wrap64 (((2 * n : Nat) : Int) + 2) = ((2 * n : Nat) : Int) + 2 := by unfold wrap64; omega
      have i0 : (0 : Int) ≤ (k : Int) := by omega
      have i1 : (k : Int) < (m.length : Int) := by omega
      have CH := Lib.hid (rowHas a y (.slice A' a.length cap') w H2.out)
      clear hcell hA hy hn
      cases hc : a.contains y with
      | true =>
        rw [hc] at CH HC
        go_wp2_with (go_at_call 106; refine CH.out.mono ?_; rintro e w2 ⟨rfl, rfl⟩)
        go_roundw
        case rel => exact ⟨k + 1, by omega, by go_num, by rw [HC.out]; exact congrArg (Value.int .i64) (by simp; omega)⟩
        case measure => simp [intOf]; omega
      | false =>
        rw [hc] at CH HC
        go_wp2_with (go_at_call 106; refine CH.out.mono ?_; rintro e w2 ⟨rfl, rfl⟩)
        go_roundw
        case rel => exact ⟨k + 1, by omega, by go_num, by rw [HC.out]; exact congrArg (Value.int .i64) (by simp)⟩
        case measure => simp [intOf]; omega
    · have hkl : k = m.length := by omega
      have HW := Lib.hid (show wonV m a = decide ((m.length : Int) < ((2 * cntIn (m.take k) a : Nat) : Int)) by rw [hkl, List.take_length]; unfold wonV; exact decide_eq_decide.2 (by omega))
      obtain ⟨n, hn⟩ : ∃ n, cntIn (m.take k) a = n := ⟨_, rfl⟩
      rw [hn] at HW
      rw [hn]
      clear hn hA
      go_wp2_with fail
      go_ret
      exact ⟨ret_bool (by rw [HW.out]; exact decide_eq_decide.2 (by omega)), rfl⟩
end Go.Proofs.YthadfdpdillemaaGreatDoor
