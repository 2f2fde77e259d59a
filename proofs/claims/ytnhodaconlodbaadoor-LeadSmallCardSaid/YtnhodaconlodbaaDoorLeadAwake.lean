/-
  limpetlaw25.awake: it returns true.
-/
import Derived.Test.YtnhodaconlodbaaDoorLead3
namespace Go.Proofs.YtnhodaconlodbaaDoor
open Go.RowKit
set_option linter.unusedVariables false

theorem ak1 : keepBks [] [1, 2, 3] 1 5 = [⟨2, 6, 0, 0⟩, ⟨3, 6, 0, 0⟩] := rfl
theorem ak2 : ackBks [⟨2, 6, 0, 0⟩, ⟨3, 6, 0, 0⟩] 2 3 false = [⟨2, 4, 0, 0⟩, ⟨3, 6, 0, 0⟩] := rfl
theorem ak3 : ackBks [⟨2, 4, 0, 0⟩, ⟨3, 6, 0, 0⟩] 2 5 true = [⟨2, 6, 5, 0⟩, ⟨3, 6, 0, 0⟩] := rfl

set_option maxHeartbeats 1000000 in
theorem leadAwk (w : World) : Calls Tryd.prog 12 #[] w fun e w' => e = .returned (.bool true) ∧ Below w.heap.size w w' := by
  have hs : Sl 1 i64Row (w.alloc (.cells #[.int .i64 1, .int .i64 2, .int .i64 3] 3)).heap.size (w.alloc (.cells #[.int .i64 1, .int .i64 2, .int .i64 3] 3)) (.slice (some ⟨w.heap.size, 0, none⟩) 3 3) [1, 2, 3] := by
    refine ⟨_, 3, rfl, by simp, by unfold maxLen; omega, by simp, fun _ => ⟨w.heap.size, 0, rfl, by simp, ?_⟩⟩
    intro i x hx j u hu
    have hj : j < 1 := by have := (List.getElem?_eq_some_iff.1 hu).1; simpa [i64Row] using this
    obtain rfl : j = 0 := by omega
    rw [Nat.zero_add, Nat.mul_one, Nat.add_zero, World.cell?_alloc_new]
    match i, hx with
    | 0, hx => simp at hx; subst hx; simpa [i64Row] using hu
    | 1, hx => simp at hx; subst hx; simpa [i64Row] using hu
    | 2, hx => simp at hx; subst hx; simpa [i64Row] using hu
  go_enter Tryd.func12, Tryd.ntmps12
  go_wp2_with fail
  refine (begin_ [1, 2, 3] _ 1 5 _ hs (by simp) (by omega) (by omega)).mono ?_
  rintro e w1 ⟨v1, rfl, ho1, hb1⟩
  rw [ak1] at ho1
  have s1 := ho1.sl bkRow_length
  clear ho1
  go_wp2_with fail
  refine (ack _ v1 2 3 false _ s1 (by simp) (by simp) (by omega)).mono ?_
  rintro e w2 ⟨v2, rfl, s2, hb2⟩
  rw [ak2] at s2
  go_wp2_with fail
  refine (ack _ v2 2 5 true _ s2 (by simp) (by simp) (by omega)).mono ?_
  rintro e w3 ⟨v3, rfl, s3, hb3⟩
  rw [ak3] at s3
  have HB := Lib.hid (below_call (below_call (below_call (below_new _ _) hb1) hb2) hb3)
  obtain ⟨b1, o1, c1, rfl, -, -, -, p1⟩ := bk_at ((s1.later hb2).later hb3) (by simp)
  obtain ⟨b2, o2, c2, rfl, -, -, -, p2⟩ := bk_at (s2.later hb3) (by simp)
  obtain ⟨b3, o3, c3, rfl, -, -, -, p3⟩ := bk_at s3 (by simp)
  obtain ⟨q0, q1, q2, q3⟩ := p1 0 _ rfl
  obtain ⟨q4, q5, q6, q7⟩ := p1 1 _ rfl
  obtain ⟨-, r1, -, -⟩ := p2 0 _ rfl
  obtain ⟨t0, t1, t2, t3⟩ := p3 0 _ rfl
  obtain ⟨t4, t5, t6, t7⟩ := p3 1 _ rfl
  simp only [Nat.zero_mul, Nat.one_mul, Nat.add_zero] at *
  clear p1 p2 p3 s1 s2 s3 hb1 hb2 hb3 hs
  go_wp2_with fail
  simp only [List.length_cons, List.length_nil, Nat.zero_add, Nat.reduceAdd]
  go_quiet (fail)
  go_wp2
  go_ret
  exact ⟨rfl, below_drewN HB.out nq⟩
end Go.Proofs.YtnhodaconlodbaaDoor
