/-
  limpetlaw12.awake: it returns true.
-/
import Derived.Test.YtnmlmnhgjnkbhaaWardNums
import Derived.Test.YtnmlmnhgjnkbhaaWardWorst
set_option linter.unusedVariables false
set_option linter.unusedSimpArgs false
namespace Go.Proofs.Ytnmlmnhgjnkbhaa
open Go.RowKit

theorem awk12_add : addV [] [⟨9, 5, 3⟩, ⟨4, 3, -1⟩] = [⟨4, 3, -1⟩, ⟨9, 5, 3⟩] := rfl
theorem awk12_ok : addOk [] [⟨9, 5, 3⟩, ⟨4, 3, -1⟩] = true := rfl
theorem awk12_right : rightW [⟨4, 3, -1⟩, ⟨9, 5, 3⟩] = true := rfl
theorem awk12_worst : worstR [⟨4, 3, -1⟩, ⟨9, 5, 3⟩] = (3, 0) := rfl
theorem awk12_nums : numsR [⟨4, 3, -1⟩, ⟨9, 5, 3⟩] 5 = [3] := by
  unfold numsR
  rw [awk12_right, if_pos rfl]
  unfold numsV
  rw [show numsL [⟨4, 3, -1⟩, ⟨9, 5, 3⟩] 5 = [3] from rfl]
  simp
set_option maxRecDepth 100000 in
set_option maxHeartbeats 2000000 in
theorem awake12 (w : World) : Calls Try.prog 6 #[] w fun e w' => e = .returned (.bool true) ∧ Below w.heap.size w w' := by
  have HB0 := Lib.hid (below_new w (.cells #[.int .i64 9, .int .i64 5, .int .i64 3, .int .i64 4, .int .i64 3, .int .i64 (-1)] 41))
  have C1 : Hid (Calls Try.prog 8 #[.slice none 0 0, .slice (some ⟨w.heap.size, 0, none⟩) 2 2] (w.alloc (.cells #[.int .i64 9, .int .i64 5, .int .i64 3, .int .i64 4, .int .i64 3, .int .i64 (-1)] 41)) fun e w' => ∃ g c, e = .returned (.tuple #[.slice (some ⟨g, 0, none⟩) 2 c, .int .i64 0]) ∧ (2 : Int) ≤ (c : Int) ∧ Sl 3 wntRow w'.heap.size w' (.slice (some ⟨g, 0, none⟩) 2 c) [⟨4, 3, -1⟩, ⟨9, 5, 3⟩] ∧ w'.cell? ⟨g, 0, none⟩ = some (.int .i64 4) ∧ g < w'.heap.size ∧ Below (w.heap.size + 1) (w.alloc (.cells #[.int .i64 9, .int .i64 5, .int .i64 3, .int .i64 4, .int .i64 3, .int .i64 (-1)] 41)) w') := by
    refine (wardAdd [] [⟨9, 5, 3⟩, ⟨4, 3, -1⟩] _ _ _ (Sl.nil_ _ _ _ _) (Box.sl wntRow_length [⟨9, 5, 3⟩, ⟨4, 3, -1⟩] (Box.new w _ 41) rfl (by unfold maxLen; simp)) (by simp) (by intro x hx; simp at hx; rcases hx with rfl | rfl <;> (unfold J64; simp)) (by simp)).mono ?_
    rintro e w' ⟨v, rfl, ho, hb⟩
    rw [awk12_add] at ho
    rw [World.size_alloc] at hb
    obtain ⟨g, c, hv, -, hg, -⟩ := ho.place (by simp)
    have hs := ho.sl wntRow_length
    rw [hv] at hs
    obtain ⟨b, off, c2, h1, h2, -, -, hc⟩ := hs.cellAt (by simp)
    simp only [Value.slice.injEq, Option.some.injEq, Addr.mk.injEq, and_true] at h1
    obtain ⟨⟨rfl, rfl⟩, -, rfl⟩ := h1
    refine ⟨g, c, by rw [hv, awk12_ok]; rfl, by simp at h2; omega, hs, by simpa using hc 0 _ rfl 0 _ rfl, hg, hb⟩
  have C2 : Hid (∀ (W : World) g c, Sl 3 wntRow W.heap.size W (.slice (some ⟨g, 0, none⟩) 2 c) [⟨4, 3, -1⟩, ⟨9, 5, 3⟩] → Calls Try.prog 14 #[.slice (some ⟨g, 0, none⟩) 2 c] W fun e w' => e = .returned (.tuple #[.int .i64 3, .int .i64 0]) ∧ Below W.heap.size W w') := fun W g c h => by
    have hw := wardWorst _ _ W h
    rw [awk12_worst] at hw
    exact hw
  have C3 : Hid (∀ (W : World) g c, Sl 3 wntRow W.heap.size W (.slice (some ⟨g, 0, none⟩) 2 c) [⟨4, 3, -1⟩, ⟨9, 5, 3⟩] → Calls Try.prog 12 #[.slice (some ⟨g, 0, none⟩) 2 c, .int .i64 5] W fun e w' => ∃ g2 c2, e = .returned (.tuple #[.slice (some ⟨g2, 0, none⟩) 1 c2, .int .i64 0]) ∧ (1 : Int) ≤ (c2 : Int) ∧ w'.cell? ⟨g2, 0, none⟩ = some (.int .i64 3) ∧ Below W.heap.size W w') := fun W g c h => by
    refine (wardNums _ _ 5 W h (by simp)).mono ?_
    rintro e w' ⟨v, rfl, ho, hb⟩
    rw [awk12_nums] at ho
    obtain ⟨g, c, hv, -, hg, -⟩ := ho.place (by simp)
    have hs := ho.sl i64Row_length
    rw [hv] at hs
    obtain ⟨b, off, c2, h1, h2, -, -, hc⟩ := hs.cellAt (by simp)
    simp only [Value.slice.injEq, Option.some.injEq, Addr.mk.injEq, and_true] at h1
    obtain ⟨⟨rfl, rfl⟩, -, rfl⟩ := h1
    exact ⟨g, c, by rw [hv, awk12_right]; rfl, by simp at h2; omega, by simpa using hc 0 _ rfl 0 _ rfl, hb⟩
  go_enter Try.func6, Try.ntmps6
  go_wp2_with (first
    | (go_at_call 8; (with_reducible refine C1.out.mono ?_); rintro e w2 ⟨g, c, rfl, hc2, hs, hc, hg, hb⟩; have HS2 := Lib.hid hs; have HC2 := Lib.hid hc; have HG2 := Lib.hid hg; have HB2 := Lib.hid (below_call HB0.out (by rw [World.size_alloc]; exact hb)); clear hs hc hb hg)
    | (go_at_call 14; (with_reducible refine (C2.out _ _ _ HS2.out).mono ?_); rintro e w3 ⟨rfl, hb⟩; have HS3 := Lib.hid (HS2.out.later hb); have HC3 := Lib.hid (cell_later hb HC2.out); have HB3 := Lib.hid (below_call HB2.out hb); clear hb)
    | (go_at_call 12; (with_reducible refine (C3.out _ _ _ HS3.out).mono ?_); rintro e w4 ⟨g4, c4, rfl, hc4, hcn, hb⟩; have hca := cell_later hb HC3.out; have HB4 := Lib.hid (below_call HB3.out hb); clear hb))
  go_ret
  exact ⟨rfl, HB4.out⟩
end Go.Proofs.Ytnmlmnhgjnkbhaa
