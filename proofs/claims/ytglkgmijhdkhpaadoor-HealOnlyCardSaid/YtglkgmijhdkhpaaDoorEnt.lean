/-
  THE PACKAGE entry, 1: members: contracts.
-/
import Derived.Test.YtglkgmijhdkhpaaDoorProg
import Derived.Test.YtglkgmijhdkhpaaDoorBase
import Derived.Test.YtglkgmijhdkhpaaDoorLent
import Derived.Test.YtglkgmijhdkhpaaDoorKitInts
import Derived.Test.YtglkgmijhdkhpaaDoorEntMath
import Derived.WalkLawsBesides
import Derived.Lib.Hide
set_option linter.unusedVariables false
namespace Go.Proofs.YtglkgmijhdkhpaaDoor
open Go.RowKit

set_option maxHeartbeats 400000 in
theorem entryRight (l : List Int) (v : Value) (w : World) (h : Sl 1 i64Row w.heap.size w v l) :
    Calls Tryd.prog 53 #[v] w fun e w' => e = .returned (.bool (memRight l)) ∧ w = w' := by
  obtain ⟨A, cap, rfl, hlc, hcm, -, hA⟩ := h
  have hn : l.length ≤ 9223372036854775807 := by unfold maxLen at hcm; omega
  clear hcm
  go_enter Tryd.func53, Tryd.ntmps53
  go_wp2_with fail
  go_loop [3, 4, 7] (fun _ _ j => ∃ (k : Nat) (p : Int), k ≤ l.length ∧ j = .int .i64 k ∧ memFrom 0 l = memFrom p (l.drop k) ∧ (0 < k → l[k - 1]? = some p) ∧ (k = 0 → p = 0)) (fun _ _ j => l.length - (intOf j).toNat)
  case atStart => exact ⟨0, 0, by omega, rfl, by simp, by simp, by simp⟩
  case round =>
    obtain ⟨k, p, hk, rfl, hm, hp, h0⟩ := hrel
    by_cases hlt : k < l.length
    · obtain ⟨b, off, rfl, hb, hcell⟩ := hA (by intro h; subst h; simp at hlt)
      obtain ⟨x, hx⟩ : ∃ x, l[k]? = some x := ⟨_, List.getElem?_eq_getElem hlt⟩
      have c0 : w.cell? ⟨b, off + k, none⟩ = some (.int .i64 x) := by simpa using hcell k x hx 0 _ rfl
      have cp : 0 < k → w.cell? ⟨b, off + (k - 1), none⟩ = some (.int .i64 p) := fun h => by simpa using hcell (k - 1) p (hp h) 0 _ rfl
      have HM : Hid (memFrom 0 l = (decide (1 ≤ x ∧ x ≤ 7 ∧ p < x) && memFrom x (l.drop (k + 1)))) := by rw [hm, drop_at hx]; rfl
      have HX := Lib.hid hx
      have HE : Hid (l.isEmpty = false) := by cases l <;> first | rfl | simp at hlt
      have H0 := Lib.hid h0
      clear hcell hx hm hp h0
      go_wp2
      all_goals first
        | (go_roundw
           case rel => exact ⟨k + 1, x, by omega, by go_num, by rw [HM.out, show decide (1 ≤ x ∧ x ≤ 7 ∧ p < x) = true from decide_eq_true (by first | omega | (have := H0.out (by omega); omega))]; rfl, fun _ => HX.out, by omega⟩
           case measure => simp [intOf]; omega)
        | (go_ret
           exact ⟨ret_bool (by rw [memRight, HM.out, show decide (1 ≤ x ∧ x ≤ 7 ∧ p < x) = false from decide_eq_false (by omega)]; rfl), rfl⟩)
    · have : k = l.length := by omega
      subst this
      have HM := Lib.hid (show memFrom 0 l = true by rw [hm]; simp [memFrom])
      clear hm hp h0
      go_wp2
      go_ret
      exact ⟨ret_bool (by rw [memRight, HM.out]; cases l <;> simp), rfl⟩


end Go.Proofs.YtglkgmijhdkhpaaDoor
