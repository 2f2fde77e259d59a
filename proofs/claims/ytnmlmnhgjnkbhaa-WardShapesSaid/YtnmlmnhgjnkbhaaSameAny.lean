/-
  limpetkit's SameInts at any two lists; Pick: contracts.
-/
import Derived.Test.YtnmlmnhgjnkbhaaKitInts
set_option linter.unusedVariables false
namespace Go.Proofs.Ytnmlmnhgjnkbhaa
open Go.RowKit

theorem eq_to {l l' : List Int} {k : Nat} {x : Int} (h : l.take k = l'.take k) (hx : l[k]? = some x) (hy : l'[k]? = some x) : l.take (k + 1) = l'.take (k + 1) := by rw [take_at hx, take_at hy, h]
theorem ne_at {l l' : List Int} {k : Nat} {x y : Int} (hx : l[k]? = some x) (hy : l'[k]? = some y) (hne : x ≠ y) : l ≠ l' := by
  rintro rfl
  rw [hx] at hy; cases hy; exact hne rfl

set_option maxRecDepth 100000 in
set_option maxHeartbeats 2000000 in
theorem sameAny (l l' : List Int) (v v' : Value) (w : World) (h : Sl 1 i64Row w.heap.size w v l) (h' : Sl 1 i64Row w.heap.size w v' l') :
    Calls Try.prog 19 #[v, v'] w fun e w' => e = .returned (.bool (decide (l = l'))) ∧ Below w.heap.size w w' := by
  obtain ⟨A, cap, rfl, hlc, hcm, -, hA⟩ := h
  obtain ⟨A', cap', rfl, hlc', hcm', -, hA'⟩ := h'
  have hn : l.length ≤ 9223372036854775807 := by unfold maxLen at hcm; omega
  have hn' : l'.length ≤ 9223372036854775807 := by unfold maxLen at hcm'; omega
  clear hcm hcm'
  by_cases hll : l.length = l'.length
  · obtain ⟨b, hb⟩ : ∃ b, decide (l = l') = b := ⟨_, rfl⟩
    have HBB := Lib.hid hb
    rw [hb]
    clear hb
    have HLL := Lib.hid hll
    rw [← hll] at hlc' hn'
    rw [← hll]
    clear hll
    go_enter Try.func19, Try.ntmps19
    go_wp2_with fail
    go_loopw [5] (fun i wr => ∃ k n : Nat, k ≤ l.length ∧ i = .int .i64 k ∧ wr = w.drewN n ∧ l.take k = l'.take k) (fun i _ => l.length - (intOf i).toNat)
    case atStart => exact ⟨0, 0, by omega, rfl, rfl, rfl⟩
    case round =>
      obtain ⟨k, n, hk, rfl, rfl, hto⟩ := hrel
      have HTO := Lib.hid hto
      clear hto
      by_cases hlt : k < l.length
      · obtain ⟨b1, off, rfl, hb1, hcell⟩ := hA (by intro h; subst h; simp at hlt)
        obtain ⟨b', off', rfl, hb', hcell'⟩ := hA' (by intro h; have := HLL.out; rw [h, List.length_nil] at this; omega)
        obtain ⟨x, hx⟩ : ∃ x, l[k]? = some x := ⟨_, List.getElem?_eq_getElem hlt⟩
        obtain ⟨y, hy⟩ : ∃ y, l'[k]? = some y := ⟨_, List.getElem?_eq_getElem (by have := HLL.out; omega)⟩
        have c0 : w.cell? ⟨b1, off + k, none⟩ = some (.int .i64 x) := by simpa using hcell k x hx 0 _ rfl
        have c1 : w.cell? ⟨b', off' + k, none⟩ = some (.int .i64 y) := by simpa using hcell' k y hy 0 _ rfl
        have HX := Lib.hid hx
        have HY := Lib.hid hy
        have i0 : (0 : Int) ≤ (k : Int) := by omega
        have i1 : (k : Int) < (l.length : Int) := by omega
        clear hcell hcell' hx hy hA hA'
        by_cases hxy : x = y
        · have e1 : (x == y) = true := by simpa using hxy
          have HXY := Lib.hid hxy
          clear hxy
          go_wp2_with fail
          go_quiet (fail)
          go_wp2_with fail
          go_roundw
          case rel => exact ⟨k + 1, _, by omega, by go_num, rfl, eq_to HTO.out HX.out (by rw [HXY.out]; exact HY.out)⟩
          case measure => simp [intOf]; omega
        · have e1 : (x == y) = false := by simpa using hxy
          have HXY := Lib.hid hxy
          clear hxy
          go_wp2_with fail
          go_quiet (fail)
          go_wp2_with fail
          go_ret
          exact ⟨ret_bool (by rw [← HBB.out]; exact (decide_eq_false (ne_at HX.out HY.out HXY.out)).symm), below_drewN (below_drewN (Below.refl _ _) _) _⟩
      · have hkl : k = l.length := by omega
        have HT := Lib.hid (show l = l' by have h := HTO.out; rw [hkl, List.take_length] at h; rw [h, HLL.out, List.take_length])
        go_wp2_with fail
        go_ret
        exact ⟨ret_bool (by rw [← HBB.out]; exact (decide_eq_true HT.out).symm), below_drewN (Below.refl _ _) _⟩
  · have e1 : ((l.length : Int) == (l'.length : Int)) = false := by simpa using (show ¬ (l.length : Int) = (l'.length : Int) by omega)
    have e2 : ((l.length : Int) != (l'.length : Int)) = true := by simpa using (show ¬ (l.length : Int) = (l'.length : Int) by omega)
    have HF := Lib.hid (show decide (l = l') = false from decide_eq_false (fun h => hll (by rw [h])))
    rw [HF.out]
    clear hA hA'
    go_enter Try.func19, Try.ntmps19
    go_wp2_with fail
    go_ret
    exact ⟨rfl, Below.refl _ _⟩
end Go.Proofs.Ytnmlmnhgjnkbhaa
