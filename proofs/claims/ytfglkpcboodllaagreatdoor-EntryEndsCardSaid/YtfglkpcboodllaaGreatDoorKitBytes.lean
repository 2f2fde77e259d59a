/-
  limpetkit's LentBytes, KeptBytes: contracts.
-/
import Derived.Test.YtfglkpcboodllaaGreatDoorKitMark
set_option linter.unusedVariables false
set_option linter.unusedSimpArgs false
namespace Go.Proofs.YtfglkpcboodllaaGreatDoor
open Go.RowKit

def mrkB (i : Nat) : Int := mkB 1 (i : Int)
def marksB : List Int := (List.range 12).map mrkB
theorem marksB_length : marksB.length = 12 := rfl
theorem marksB_at {i : Nat} (h : i < 12) : marksB[i]? = some (mrkB i) := by simp [marksB, h]
theorem marksB_more {i : Nat} (h : i < 12) : marksB.take (i + 1) = marksB.take i ++ [mrkB i] := take_at (marksB_at h)

set_option maxHeartbeats 1000000 in
theorem lentBytes (l : List Int) (v : Value) (w : World) (h : Sl 1 u8Row w.heap.size w v l) (hn : l.length ≤ 1000000) :
    Calls Tryz.prog 62 #[v] w fun e w' => ∃ g cp, e = .returned (.slice (some ⟨g, 0, none⟩) l.length cp) ∧ w.heap.size ≤ g ∧ Lnt 1 u8Row marksB w'.heap.size w' (.slice (some ⟨g, 0, none⟩) l.length cp) l ∧ Below w.heap.size w w' := by
  have h' := h
  obtain ⟨A, cap, rfl, hlc, hcm, hN, -⟩ := h'
  clear hcm hN
  go_enter Tryz.func62, Tryz.ntmps62
  go_wp2_with (first
    | (at_make; refine wpList_make_rows _ rfl _ _ 26 rfl u8Row w.heap.size 5 _ 1 1 Tryz.underlying26 u8Info .i64 .i64 _ (l.length + 12) rfl rfl (by omega) (by omega) (by omega) (Nat.le_refl _) ?_; intro w0 hown0 hb0)
    | (at_builtin; refine wpList_append_all _ rfl (.tmp 9) (.tmp 10) 26 rfl w.heap.size 5 _ 1 1 Tryz.underlying26 u8Info rfl (by omega) u8Row u8Row_length u8Row_one [] _ rfl hown0 l w.heap.size _ (h.below hb0) rfl (by unfold maxLen; simp; omega) (by simp; omega) hb0.size ?_; intro v' w' h1 h2 h3 h4 h5))
  have hB := hb0.trans h2
  rw [List.nil_append] at h1
  clear hown0 hb0 h2 h3 h4 h5
  go_loopw [3, 4] (fun v i wr => ∃ k : Nat, k ≤ 12 ∧ i = .int .i64 k ∧ Own 1 u8Row 5 w.heap.size wr v (l ++ marksB.take k) ∧ (v = .slice none 0 0 → k = 0) ∧ Below w.heap.size w wr) (fun _ i _ => 12 - (intOf i).toNat)
  case atStart => exact ⟨0, by omega, rfl, by simpa using h1, fun _ => rfl, hB⟩
  case round =>
    clear h1 hB
    obtain ⟨k, hk, rfl, hown, hnn, hB⟩ := hrel
    by_cases hlt : k < 12
    · have HO := Lib.hid hown
      have HN := Lib.hid hnn
      have hz := hB.size
      have hle : (l ++ marksB.take k).length ≤ 1000012 := by have := List.length_take_le k marksB; rw [List.length_append]; omega
      clear hown hnn
      go_wp2_with (first
        | (go_at_call 116; refine (markByteAny 1 k _ (by omega) (by omega) (by omega) (by omega)).mono ?_; rintro e w' ⟨rfl, rfl⟩)
        | (at_builtin; refine wpList_append_row _ rfl (.tmp 16) (.tmp 19) 26 rfl w.heap.size 5 _ 1 1 Tryz.underlying26 u8Info rfl (by omega) u8Row u8Row_length u8Row_one _ _ rfl HO.out (mrkB k) _ rfl 5 _ rfl rfl (by omega) (by omega) hz ?_; intro v' w' p1 p2 p3 p4 p5))
      have HP := Lib.hid p1
      have HB := Lib.hid (hB.trans p2)
      have HV := Lib.hid p5
      clear p1 p2 p3 p4 p5 hB
      go_roundw
      case rel => exact ⟨k + 1, by omega, by go_num, by rw [marksB_more hlt, ← List.append_assoc]; exact HP.out, fun h => absurd h HV.out, HB.out⟩
      case measure => simp [intOf]; omega
    · obtain rfl : k = 12 := by omega
      have h3 : u3 ≠ .slice none 0 0 := fun h => by have := hnn h; omega
      obtain ⟨g, cp, rfl, q1, q2, q3, q4⟩ := hown.form' h3
      have HL : Hid (Lnt 1 u8Row marksB wr.heap.size wr (.slice (some ⟨g, 0, none⟩) l.length cp) l) := Own.lnt hown u8Row_length (by decide)
      have HB := Lib.hid hB
      have hlen : (l ++ marksB.take 12).length = l.length + 12 := by rw [List.length_append]; rfl
      rw [hlen] at q1
      clear hown hnn h3 hB
      go_wp2
      go_ret
      exact ⟨_, _, rfl, q3, HL.out, HB.out⟩

set_option maxRecDepth 100000 in
set_option maxHeartbeats 2000000 in
theorem keptBytes (l : List Int) (v v' : Value) (w : World) (h : Lnt 1 u8Row marksB w.heap.size w v l) (h' : Sl 1 u8Row w.heap.size w v' l) (hn : l.length ≤ 1000000) :
    Calls Tryz.prog 72 #[v, v'] w fun e w' => e = .returned (.bool true) ∧ Below w.heap.size w w' := by
  obtain ⟨g, cap, rfl, q1, q2, hg, hall⟩ := h
  obtain ⟨A', cap', rfl, hlc', hcm', -, hA'⟩ := h'
  rw [marksB_length] at q1
  have q2' : cap ≤ 9223372036854775807 := by unfold maxLen at q2; omega
  have HALL := Lib.hid hall
  have HA := Lib.hid hA'
  clear hcm' q2 hall hA'
  go_enter Tryz.func72, Tryz.ntmps72
  go_wp2_with fail
  go_loopw [6] (fun i wr => ∃ k : Nat, k ≤ l.length + 12 ∧ i = .int .i64 k ∧ Below w.heap.size w wr) (fun i _ => l.length + 12 - (intOf i).toNat)
  case atStart => exact ⟨0, by omega, rfl, Below.refl _ _⟩
  case round =>
    obtain ⟨k, hk, rfl, hB⟩ := hrel
    have HB := Lib.hid hB
    clear hB
    have i0 : (0 : Int) ≤ (k : Int) := by omega
    by_cases hlt : k < l.length
    · obtain ⟨b', off', rfl, hb', hcell'⟩ := HA.out (by intro h; subst h; simp at hlt)
      obtain ⟨x, hx⟩ : ∃ x, l[k]? = some x := ⟨_, List.getElem?_eq_getElem hlt⟩
      have c0 : ∀ zw : Ext wr, zw.wd.cell? ⟨g, k, none⟩ = some (.int .u8 x) := fun zw => ((HB.out.trans (zw.low.mono HB.out.size)).cell (p := ⟨g, k, none⟩) hg).trans (by simpa using HALL.out k x (by rw [List.getElem?_append_left hlt]; exact hx) 0 _ rfl)
      have c1 : ∀ zw : Ext wr, zw.wd.cell? ⟨b', off' + k, none⟩ = some (.int .u8 x) := fun zw => ((HB.out.trans (zw.low.mono HB.out.size)).cell (p := ⟨b', off' + k, none⟩) hb').trans (by simpa using hcell' k x hx 0 _ rfl)
      have i1 : (k : Int) < (l.length : Int) := by omega
      have i2 : (k : Int) < (l.length : Int) + 12 := by omega
      have d1 : decide (k < l.length) = true := by simpa using hlt
      have d2 : decide (l.length ≤ k) = false := by simpa using hlt
      have d3 : decide ((k : Int) < (l.length : Int)) = true := decide_eq_true i1
      have d4 : decide ((l.length : Int) ≤ (k : Int)) = false := decide_eq_false (by omega)
      have d5 : decide ((k : Int) < (l.length : Int) + 12) = true := decide_eq_true i2
      clear hcell' hx
      go_upto_region 7 with fail
      refine wp_region_ext (by kernel_rfl) (by kernel_rfl) ?_
      repeat (go_big_quiet_step (fail))
      refine wpQuiet_nil ?_
      intro _ hw'
      obtain ⟨x5, hw''⟩ := hw'
      subst hw''
      go_wp2_with fail
      go_roundw
      case rel => exact ⟨k + 1, by omega, by go_num, HB.out.trans (x5.low.mono HB.out.size)⟩
      case measure => simp [intOf]; omega
    · by_cases hlt2 : k < l.length + 12
      · obtain ⟨j, hj⟩ : ∃ j, j = k - l.length := ⟨_, rfl⟩
        have c0 : ∀ zw : Ext wr, zw.wd.cell? ⟨g, k, none⟩ = some (.int .u8 (mkB 1 (j : Int))) := fun zw => ((HB.out.trans (zw.low.mono HB.out.size)).cell (p := ⟨g, k, none⟩) hg).trans (by simpa [u8Row, mrkB] using HALL.out k (mrkB j) (by rw [hj, List.getElem?_append_right (by omega)]; exact marksB_at (by omega)) 0 _ rfl)
        have i1 : (l.length : Int) ≤ (k : Int) := by omega
        have i2 : (k : Int) < (l.length : Int) + 12 := by omega
        have d1 : decide (k < l.length) = false := by simpa using hlt
        have d2 : decide (l.length ≤ k) = true := by simpa using hlt
        have d3 : decide ((k : Int) < (l.length : Int)) = false := decide_eq_false (by omega)
        have d4 : decide ((l.length : Int) ≤ (k : Int)) = true := decide_eq_true i1
        have d5 : decide ((k : Int) < (l.length : Int) + 12) = true := decide_eq_true i2
        have w1 : IntKind.i64.wrap ((k : Int) - (l.length : Int)) = (j : Int) := by rw [IntWalk.i64_in _ (by omega)]; omega
        have m0 : (0 : Int) ≤ (j : Int) := by omega
        have m1 : (j : Int) ≤ 1000000 := by omega
        clear hlt hj
        go_upto_region 7 with fail
        refine wp_region_ext (by kernel_rfl) (by kernel_rfl) ?_
        repeat (go_big_quiet_step ((rename_i x5; have h5 := x5.low; first
          | (go_at_call 116; exact ext_of_same x5 (markByteAny 1 (j : Int) x5.wd (by omega) (by omega) m0 m1)))))
        refine wpQuiet_nil ?_
        intro _ hw'
        obtain ⟨x5, hw''⟩ := hw'
        subst hw''
        clear w1
        go_wp2_with fail
        go_roundw
        case rel => exact ⟨k + 1, by omega, by go_num, HB.out.trans (x5.low.mono HB.out.size)⟩
        case measure => simp [intOf]; omega
      · have d5 : decide ((k : Int) < (l.length : Int) + 12) = false := decide_eq_false (by omega)
        go_wp2_with fail
        go_ret
        exact ⟨rfl, HB.out⟩
end Go.Proofs.YtfglkpcboodllaaGreatDoor
