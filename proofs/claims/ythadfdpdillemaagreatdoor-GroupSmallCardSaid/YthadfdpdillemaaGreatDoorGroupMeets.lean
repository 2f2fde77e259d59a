/-
  GroupMeets: true. Condition: errors.errorType holds its value.
-/
import Derived.Test.YthadfdpdillemaaGreatDoorGroupChange
import Derived.Test.YthadfdpdillemaaGreatDoorKitSameInts
set_option linter.unusedVariables false
set_option linter.unusedSimpArgs false
namespace Go.Proofs.YthadfdpdillemaaGreatDoor
open Go.RowKit Go.Sort Go.Shelf

theorem sameIntsB (l : List Int) (v v' : Value) (w : World) (h : Sl 1 i64Row w.heap.size w v l) (h' : Sl 1 i64Row w.heap.size w v' l) :
    Calls Tryz.prog 52 #[v, v'] w fun e w' => e = .returned (.bool true) ∧ Below w.heap.size w w' :=
  (sameInts l v v' w h h').mono fun _ _ ⟨he, n, hn⟩ => ⟨he, by subst hn; exact below_drewN (Below.refl _ _) n⟩
theorem box_ints {w : World} {n : Nat} {cs : Array Value} (l : List Int) (h : Box w n cs 3) (hcs : cs = (l.map encZ).toArray) (hl : l.length ≤ 1000) : Sl 1 i64Row w.heap.size w (.slice (some ⟨n, 0, none⟩) l.length l.length) l :=
  Box.sl i64Row_length l h (by rw [hcs, flat_map]) (by unfold maxLen; omega)

theorem meetV_no {a b : List Int} (h : ∀ (i : Nat) (y : Int), i < a.length → a[i]? = some y → b.contains y = false) : meetV a b = false := by
  unfold meetV
  rw [List.any_eq_false]
  intro x hx
  obtain ⟨i, hi⟩ := List.getElem?_of_mem hx
  rw [h i x (List.getElem?_eq_some_iff.1 hi).1 hi]; simp
theorem meetV_yes {a b : List Int} {k : Nat} {y : Int} (hy : a[k]? = some y) (h : b.contains y = true) : meetV a b = true := by
  unfold meetV
  rw [List.any_eq_true]
  exact ⟨y, List.mem_of_getElem? hy, h⟩

def NoMeet (a b : List Int) (k : Nat) : Prop := ∀ (i : Nat) (y : Int), i < k → a[i]? = some y → b.contains y = false
theorem noMeet_succ {a b : List Int} {k : Nat} {y : Int} (h : NoMeet a b k) (hy : a[k]? = some y) (hc : b.contains y = false) : NoMeet a b (k + 1) := by
  intro i z hi hz
  rcases Nat.lt_or_ge i k with h' | h'
  · exact h i z h' hz
  · have : i = k := by omega
    subst this; rw [hy] at hz; cases hz; exact hc

set_option maxRecDepth 100000 in
set_option maxHeartbeats 4000000 in
theorem awake22 (w : World) (hG : errTypeIs w) : Calls Tryz.prog 48 #[] w fun e w' => e = .returned (.bool true) ∧ Below w.heap.size w w' := by
  have HG := Lib.hid hG
  have hmay : mayV [1, 2, 3] 4 0 = true := by decide
  have hmade : madeV [1, 2, 3] 4 0 = [1, 2, 3, 4] := by rw [made_ref hmay]; decide
  have C1 : Hid (Calls Tryz.prog 50 #[.slice (some ⟨w.heap.size, 0, none⟩) 3 3, .int .i64 4, .int .i64 0] (w.alloc (.cells #[.int .i64 1, .int .i64 2, .int .i64 3] 3)) fun e w' => ∃ A c, e = .returned (.tuple #[.slice A 4 c, .int .i64 0]) ∧ Own 1 i64Row 3 (w.alloc (.cells #[.int .i64 1, .int .i64 2, .int .i64 3] 3)).heap.size w' (.slice A 4 c) [1, 2, 3, 4] ∧ Below (w.alloc (.cells #[.int .i64 1, .int .i64 2, .int .i64 3] 3)).heap.size (w.alloc (.cells #[.int .i64 1, .int .i64 2, .int .i64 3] 3)) w') := by
    refine (groupChange [1, 2, 3] 4 0 _ _ (box_ints [1, 2, 3] (Box.new w #[.int .i64 1, .int .i64 2, .int .i64 3] 3) rfl (by simp)) (by simp) (errType_later hG (below_new _ _))).mono ?_
    rintro e w' ⟨v', he, ho, hb⟩
    rw [hmay] at he ho
    simp only [if_true, hmade] at he ho
    obtain ⟨A, c, hv⟩ := ho.len
    exact ⟨A, c, by rw [he, hv]; rfl, by rw [← show (Value.slice A ([1, 2, 3, 4] : List Int).length c) = .slice A 4 c from rfl, ← hv]; exact ho, hb⟩
  have hw1 : wonV [1, 2, 3] [1, 3] = true := by decide
  have hw2 : wonV [1, 2, 3, 4] [1, 3] = false := by decide
  have hin : ([1, 2, 3, 4] : List Int).contains 4 = true := by decide
  have CS : Hid (∀ w2 A c, Sl 1 i64Row w2.heap.size w2 (.slice A 4 c) [1, 2, 3, 4] → Calls Tryz.prog 52 #[.slice A 4 c, .slice (some ⟨w2.heap.size, 0, none⟩) 4 4] (w2.alloc (.cells #[.int .i64 1, .int .i64 2, .int .i64 3, .int .i64 4] 3)) fun e w' => e = .returned (.bool true) ∧ Below (w2.alloc (.cells #[.int .i64 1, .int .i64 2, .int .i64 3, .int .i64 4] 3)).heap.size (w2.alloc (.cells #[.int .i64 1, .int .i64 2, .int .i64 3, .int .i64 4] 3)) w') := fun w2 A c h =>
    sameIntsB [1, 2, 3, 4] _ _ _ (h.alloc _) (box_ints [1, 2, 3, 4] (Box.new w2 #[.int .i64 1, .int .i64 2, .int .i64 3, .int .i64 4] 3) rfl (by simp))
  have CW1 : Hid (∀ w3 : World, Calls Tryz.prog 53 #[.slice (some ⟨w3.heap.size, 0, none⟩) 3 3, .slice (some ⟨w3.heap.size + 1, 0, none⟩) 2 2] ((w3.alloc (.cells #[.int .i64 1, .int .i64 2, .int .i64 3] 3)).alloc (.cells #[.int .i64 1, .int .i64 3] 3)) fun e w' => e = .returned (.bool true) ∧ ((w3.alloc (.cells #[.int .i64 1, .int .i64 2, .int .i64 3] 3)).alloc (.cells #[.int .i64 1, .int .i64 3] 3)) = w') := fun w3 => by
    have h := groupWon [1, 2, 3] [1, 3] _ _ ((w3.alloc (.cells #[.int .i64 1, .int .i64 2, .int .i64 3] 3)).alloc (.cells #[.int .i64 1, .int .i64 3] 3)) (box_ints [1, 2, 3] ((Box.new w3 #[.int .i64 1, .int .i64 2, .int .i64 3] 3).alloc _) rfl (by simp)) (box_ints [1, 3] (Box.new (w3.alloc (.cells #[.int .i64 1, .int .i64 2, .int .i64 3] 3)) #[.int .i64 1, .int .i64 3] 3) rfl (by simp)) (by simp)
    rw [hw1, World.size_alloc] at h
    exact h
  have CW2 : Hid (∀ (w3 : World) A c, Sl 1 i64Row w3.heap.size w3 (.slice A 4 c) [1, 2, 3, 4] → Calls Tryz.prog 53 #[.slice A 4 c, .slice (some ⟨w3.heap.size + 1 + 1, 0, none⟩) 2 2] (((w3.alloc (.cells #[.int .i64 1, .int .i64 2, .int .i64 3] 3)).alloc (.cells #[.int .i64 1, .int .i64 3] 3)).alloc (.cells #[.int .i64 1, .int .i64 3] 3)) fun e w' => e = .returned (.bool false) ∧ (((w3.alloc (.cells #[.int .i64 1, .int .i64 2, .int .i64 3] 3)).alloc (.cells #[.int .i64 1, .int .i64 3] 3)).alloc (.cells #[.int .i64 1, .int .i64 3] 3)) = w') := fun w3 A c h3 => by
    have h := groupWon [1, 2, 3, 4] [1, 3] _ _ (((w3.alloc (.cells #[.int .i64 1, .int .i64 2, .int .i64 3] 3)).alloc (.cells #[.int .i64 1, .int .i64 3] 3)).alloc (.cells #[.int .i64 1, .int .i64 3] 3)) (((h3.alloc (.cells #[.int .i64 1, .int .i64 2, .int .i64 3] 3)).alloc (.cells #[.int .i64 1, .int .i64 3] 3)).alloc (.cells #[.int .i64 1, .int .i64 3] 3)) (box_ints [1, 3] (Box.new ((w3.alloc (.cells #[.int .i64 1, .int .i64 2, .int .i64 3] 3)).alloc (.cells #[.int .i64 1, .int .i64 3] 3)) #[.int .i64 1, .int .i64 3] 3) rfl (by simp)) (by simp)
    rw [hw2, World.size_alloc, World.size_alloc] at h
    exact h
  have CI : Hid (∀ (w3 : World) A c, Sl 1 i64Row w3.heap.size w3 (.slice A 4 c) [1, 2, 3, 4] → Calls Tryz.prog 55 #[.slice A 4 c, .int .i64 4] (((w3.alloc (.cells #[.int .i64 1, .int .i64 2, .int .i64 3] 3)).alloc (.cells #[.int .i64 1, .int .i64 3] 3)).alloc (.cells #[.int .i64 1, .int .i64 3] 3)) fun e w' => e = .returned (.bool true) ∧ (((w3.alloc (.cells #[.int .i64 1, .int .i64 2, .int .i64 3] 3)).alloc (.cells #[.int .i64 1, .int .i64 3] 3)).alloc (.cells #[.int .i64 1, .int .i64 3] 3)) = w') := fun w3 A c h3 => by
    have h := groupIn [1, 2, 3, 4] 4 _ (((w3.alloc (.cells #[.int .i64 1, .int .i64 2, .int .i64 3] 3)).alloc (.cells #[.int .i64 1, .int .i64 3] 3)).alloc (.cells #[.int .i64 1, .int .i64 3] 3)) (((h3.alloc (.cells #[.int .i64 1, .int .i64 2, .int .i64 3] 3)).alloc (.cells #[.int .i64 1, .int .i64 3] 3)).alloc (.cells #[.int .i64 1, .int .i64 3] 3))
    rw [hin] at h
    exact h
  have HB0 := Lib.hid (below_new w (.cells #[.int .i64 1, .int .i64 2, .int .i64 3] 3))
  clear hG hmay hmade hw1 hw2 hin
  go_enter Tryz.func48, Tryz.ntmps48
  go_wp2_with (first
    | (go_at_call 50; refine C1.out.mono ?_; rintro e w2 ⟨A, c, rfl, ho, hb⟩; have HS2 := Lib.hid (ho.sl i64Row_length); have HB2 := Lib.hid (below_call HB0.out hb); clear ho hb)
    | (go_at_call 52; refine (CS.out w2 A c HS2.out).mono ?_; rintro e w3 ⟨rfl, hb⟩; have HB3 := Lib.hid (below_call HB2.out (below_call (below_new w2 (.cells #[.int .i64 1, .int .i64 2, .int .i64 3, .int .i64 4] 3)) hb)); have HS3 := Lib.hid (HS2.out.later (below_call (below_new w2 (.cells #[.int .i64 1, .int .i64 2, .int .i64 3, .int .i64 4] 3)) hb)); clear hb)
    | (go_at_call 53; with_reducible refine (CW1.out w3).mono ?_; rintro e w4 ⟨rfl, rfl⟩)
    | (go_at_call 53; with_reducible refine (CW2.out w3 A c HS3.out).mono ?_; rintro e w5 ⟨rfl, rfl⟩)
    | (go_at_call 55; with_reducible refine (CI.out w3 A c HS3.out).mono ?_; rintro e w6 ⟨rfl, rfl⟩))
  go_ret
  exact ⟨rfl, below_call (below_call (below_call HB3.out (below_new _ _)) (below_new _ _)) (below_new _ _)⟩
end Go.Proofs.YthadfdpdillemaaGreatDoor
