/-
  limpetlaw23.awake: it returns true.
-/
import Derived.Test.YtaembglohjgkhaaDoorAb3
import Derived.Test.YtaembglohjgkhaaDoorKitIdents
import Derived.Deep.DeepCutAuto
set_option linter.unusedVariables false
namespace Go.Proofs.YtaembglohjgkhaaDoor
open Go.RowKit

theorem Sl.lit {α : Type} {k : Nat} {row : α → List Value} (hrow : ∀ x, (row x).length = k) (l : List α) (hl : l.length ≤ maxLen) (w : World) (e : TypeId) :
    Sl k row (w.alloc (.cells (l.flatMap row).toArray e)).heap.size (w.alloc (.cells (l.flatMap row).toArray e)) (.slice (some ⟨w.heap.size, 0, none⟩) l.length l.length) l :=
  ⟨_, l.length, rfl, Nat.le_refl _, hl, fun h => by simp at h, fun _ => ⟨w.heap.size, 0, rfl, by simp, fun i x hx j u hu => by
    rw [Nat.zero_add, World.cell?_alloc_new]
    simpa using flat_at hrow l i x hx j u hu⟩⟩

theorem ak1 : leadsI false 2 [1, 2, 3] [⟨5, 1, 2⟩] = 0 := by simp [leadsI, inB, firstBad, badKind]
theorem ak2 : acksI false [⟨5, 1, 2⟩] 9 = 4 := by simp [acksI, firstI, firstFrom, wrap64]
theorem ak3 : firstI [⟨5, 1, 2⟩] = 5 := rfl
theorem ak4 : leadsI false 2 [1, 2, 3] [⟨5, 0, 0⟩] = 15 := by simp [leadsI, inB, firstBad, badKind]

set_option maxHeartbeats 2000000 in
theorem awake (w : World) (hG : errTypeIs w) : Calls Tryd.prog 6 #[] w fun e w' => e = .returned (.bool true) ∧ Below w.heap.size w w' := by
  have HG := Lib.hid hG
  clear hG
  go_enter Tryd.func6, Tryd.ntmps6
  go_upto_region 3 with fail
  obtain ⟨W6, hW6⟩ : ∃ W6 : World, W6 = ((((((w.alloc (.cells #[.int .i64 1, .int .i64 2, .int .i64 3] 3)).alloc (.cells #[.int .i64 5, .int .i64 1, .int .i64 2] 46)).alloc (.cells #[.bool false, .int .i64 2, .slice (some ⟨w.heap.size, 0, none⟩) 3 3, .slice (some ⟨w.heap.size + 1, 0, none⟩) 1 1] 25)).alloc (.cells #[.int .i64 1, .int .i64 2, .int .i64 3] 3)).alloc (.cells #[.int .i64 5, .int .i64 0, .int .i64 0] 46)).alloc (.cells #[.bool false, .int .i64 2, .slice (some ⟨w.heap.size + 1 + 1 + 1, 0, none⟩) 3 3, .slice (some ⟨w.heap.size + 1 + 1 + 1 + 1, 0, none⟩) 1 1] 25)) := ⟨_, rfl⟩
  have sA : Sl 1 i64Row W6.heap.size W6 (.slice (some ⟨w.heap.size, 0, none⟩) 3 3) [1, 2, 3] := by
    have := ((((((Sl.lit i64Row_length [1, 2, 3] (by unfold maxLen; simp) w 3).alloc (.cells #[.int .i64 5, .int .i64 1, .int .i64 2] 46)).alloc (.cells #[.bool false, .int .i64 2, .slice (some ⟨w.heap.size, 0, none⟩) 3 3, .slice (some ⟨w.heap.size + 1, 0, none⟩) 1 1] 25)).alloc (.cells #[.int .i64 1, .int .i64 2, .int .i64 3] 3)).alloc (.cells #[.int .i64 5, .int .i64 0, .int .i64 0] 46)).alloc (.cells #[.bool false, .int .i64 2, .slice (some ⟨w.heap.size + 1 + 1 + 1, 0, none⟩) 3 3, .slice (some ⟨w.heap.size + 1 + 1 + 1 + 1, 0, none⟩) 1 1] 25))
    rw [hW6]; exact this
  have sB : Sl 3 idRow W6.heap.size W6 (.slice (some ⟨w.heap.size + 1, 0, none⟩) 1 1) [⟨5, 1, 2⟩] := by
    have e : (w.alloc (.cells #[.int .i64 1, .int .i64 2, .int .i64 3] 3)).heap.size = w.heap.size + 1 := by simp
    have := (((((Sl.lit idRow_length [⟨5, 1, 2⟩] (by unfold maxLen; simp) (w.alloc (.cells #[.int .i64 1, .int .i64 2, .int .i64 3] 3)) 46).alloc (.cells #[.bool false, .int .i64 2, .slice (some ⟨w.heap.size, 0, none⟩) 3 3, .slice (some ⟨w.heap.size + 1, 0, none⟩) 1 1] 25)).alloc (.cells #[.int .i64 1, .int .i64 2, .int .i64 3] 3)).alloc (.cells #[.int .i64 5, .int .i64 0, .int .i64 0] 46)).alloc (.cells #[.bool false, .int .i64 2, .slice (some ⟨w.heap.size + 1 + 1 + 1, 0, none⟩) 3 3, .slice (some ⟨w.heap.size + 1 + 1 + 1 + 1, 0, none⟩) 1 1] 25))
    rw [e] at this
    rw [hW6]; exact this
  have sC : Sl 1 i64Row W6.heap.size W6 (.slice (some ⟨w.heap.size + 1 + 1 + 1, 0, none⟩) 3 3) [1, 2, 3] := by
    have e : (((w.alloc (.cells #[.int .i64 1, .int .i64 2, .int .i64 3] 3)).alloc (.cells #[.int .i64 5, .int .i64 1, .int .i64 2] 46)).alloc (.cells #[.bool false, .int .i64 2, .slice (some ⟨w.heap.size, 0, none⟩) 3 3, .slice (some ⟨w.heap.size + 1, 0, none⟩) 1 1] 25)).heap.size = w.heap.size + 1 + 1 + 1 := by simp
    have := (((Sl.lit i64Row_length [1, 2, 3] (by unfold maxLen; simp) (((w.alloc (.cells #[.int .i64 1, .int .i64 2, .int .i64 3] 3)).alloc (.cells #[.int .i64 5, .int .i64 1, .int .i64 2] 46)).alloc (.cells #[.bool false, .int .i64 2, .slice (some ⟨w.heap.size, 0, none⟩) 3 3, .slice (some ⟨w.heap.size + 1, 0, none⟩) 1 1] 25)) 3).alloc (.cells #[.int .i64 5, .int .i64 0, .int .i64 0] 46)).alloc (.cells #[.bool false, .int .i64 2, .slice (some ⟨w.heap.size + 1 + 1 + 1, 0, none⟩) 3 3, .slice (some ⟨w.heap.size + 1 + 1 + 1 + 1, 0, none⟩) 1 1] 25))
    rw [e] at this
    rw [hW6]; exact this
  have sD : Sl 3 idRow W6.heap.size W6 (.slice (some ⟨w.heap.size + 1 + 1 + 1 + 1, 0, none⟩) 1 1) [⟨5, 0, 0⟩] := by
    have e : ((((w.alloc (.cells #[.int .i64 1, .int .i64 2, .int .i64 3] 3)).alloc (.cells #[.int .i64 5, .int .i64 1, .int .i64 2] 46)).alloc (.cells #[.bool false, .int .i64 2, .slice (some ⟨w.heap.size, 0, none⟩) 3 3, .slice (some ⟨w.heap.size + 1, 0, none⟩) 1 1] 25)).alloc (.cells #[.int .i64 1, .int .i64 2, .int .i64 3] 3)).heap.size = w.heap.size + 1 + 1 + 1 + 1 := by simp
    have := ((Sl.lit idRow_length [⟨5, 0, 0⟩] (by unfold maxLen; simp) ((((w.alloc (.cells #[.int .i64 1, .int .i64 2, .int .i64 3] 3)).alloc (.cells #[.int .i64 5, .int .i64 1, .int .i64 2] 46)).alloc (.cells #[.bool false, .int .i64 2, .slice (some ⟨w.heap.size, 0, none⟩) 3 3, .slice (some ⟨w.heap.size + 1, 0, none⟩) 1 1] 25)).alloc (.cells #[.int .i64 1, .int .i64 2, .int .i64 3] 3)) 46).alloc (.cells #[.bool false, .int .i64 2, .slice (some ⟨w.heap.size + 1 + 1 + 1, 0, none⟩) 3 3, .slice (some ⟨w.heap.size + 1 + 1 + 1 + 1, 0, none⟩) 1 1] 25))
    rw [e] at this
    rw [hW6]; exact this
  have p1 : Box W6 (w.heap.size + 1 + 1) #[.bool false, .int .i64 2, .slice (some ⟨w.heap.size, 0, none⟩) 3 3, .slice (some ⟨w.heap.size + 1, 0, none⟩) 1 1] 25 := by
    have e : ((w.alloc (.cells #[.int .i64 1, .int .i64 2, .int .i64 3] 3)).alloc (.cells #[.int .i64 5, .int .i64 1, .int .i64 2] 46)).heap.size = w.heap.size + 1 + 1 := by simp
    have := ((((Box.new ((w.alloc (.cells #[.int .i64 1, .int .i64 2, .int .i64 3] 3)).alloc (.cells #[.int .i64 5, .int .i64 1, .int .i64 2] 46)) #[.bool false, .int .i64 2, .slice (some ⟨w.heap.size, 0, none⟩) 3 3, .slice (some ⟨w.heap.size + 1, 0, none⟩) 1 1] 25).alloc (.cells #[.int .i64 1, .int .i64 2, .int .i64 3] 3)).alloc (.cells #[.int .i64 5, .int .i64 0, .int .i64 0] 46)).alloc (.cells #[.bool false, .int .i64 2, .slice (some ⟨w.heap.size + 1 + 1 + 1, 0, none⟩) 3 3, .slice (some ⟨w.heap.size + 1 + 1 + 1 + 1, 0, none⟩) 1 1] 25))
    rw [e] at this
    rw [hW6]; exact this
  have p2 : Box W6 (w.heap.size + 1 + 1 + 1 + 1 + 1) #[.bool false, .int .i64 2, .slice (some ⟨w.heap.size + 1 + 1 + 1, 0, none⟩) 3 3, .slice (some ⟨w.heap.size + 1 + 1 + 1 + 1, 0, none⟩) 1 1] 25 := by
    have e : (((((w.alloc (.cells #[.int .i64 1, .int .i64 2, .int .i64 3] 3)).alloc (.cells #[.int .i64 5, .int .i64 1, .int .i64 2] 46)).alloc (.cells #[.bool false, .int .i64 2, .slice (some ⟨w.heap.size, 0, none⟩) 3 3, .slice (some ⟨w.heap.size + 1, 0, none⟩) 1 1] 25)).alloc (.cells #[.int .i64 1, .int .i64 2, .int .i64 3] 3)).alloc (.cells #[.int .i64 5, .int .i64 0, .int .i64 0] 46)).heap.size = w.heap.size + 1 + 1 + 1 + 1 + 1 := by simp
    have := (Box.new (((((w.alloc (.cells #[.int .i64 1, .int .i64 2, .int .i64 3] 3)).alloc (.cells #[.int .i64 5, .int .i64 1, .int .i64 2] 46)).alloc (.cells #[.bool false, .int .i64 2, .slice (some ⟨w.heap.size, 0, none⟩) 3 3, .slice (some ⟨w.heap.size + 1, 0, none⟩) 1 1] 25)).alloc (.cells #[.int .i64 1, .int .i64 2, .int .i64 3] 3)).alloc (.cells #[.int .i64 5, .int .i64 0, .int .i64 0] 46)) #[.bool false, .int .i64 2, .slice (some ⟨w.heap.size + 1 + 1 + 1, 0, none⟩) 3 3, .slice (some ⟨w.heap.size + 1 + 1 + 1 + 1, 0, none⟩) 1 1] 25)
    rw [e] at this
    rw [hW6]; exact this
  have P : Below w.heap.size w W6 := by
    rw [hW6]; exact below_call (below_call (below_call (below_call (below_call (below_new _ _) (below_new _ _)) (below_new _ _)) (below_new _ _)) (below_new _ _)) (below_new _ _)
  rw [← hW6]
  clear hW6
  obtain ⟨kp1, -, zp1⟩ := p1.facts
  obtain ⟨kp2, -, zp2⟩ := p2.facts
  go_wp2_with fail
  refine (votesB false 2 [1, 2, 3] [⟨5, 1, 2⟩] _ _ 3 1 _ sA sB).mono ?_
  rintro e w1 ⟨rfl, hb⟩
  have sA := sA.later hb
  have sB := sB.later hb
  have sC := sC.later hb
  have sD := sD.later hb
  have p1 := p1.later hb
  have p2 := p2.later hb
  have P := below_call P hb
  clear hb kp1 zp1 kp2 zp2
  obtain ⟨kp1, -, zp1⟩ := p1.facts
  obtain ⟨kp2, -, zp2⟩ := p2.facts
  go_wp2_with fail
  refine (leadsB false 2 [1, 2, 3] [⟨5, 1, 2⟩] _ _ 3 1 _ sA sB (errType_later HG.out P)).mono ?_
  rintro e w2 ⟨rfl, hb⟩
  rw [ak1]
  have sA := sA.later hb
  have sB := sB.later hb
  have sC := sC.later hb
  have sD := sD.later hb
  have p1 := p1.later hb
  have p2 := p2.later hb
  have P := below_call P hb
  clear hb kp1 zp1 kp2 zp2
  obtain ⟨kp1, -, zp1⟩ := p1.facts
  obtain ⟨kp2, -, zp2⟩ := p2.facts
  go_wp2_with fail
  refine (acksB false 2 [1, 2, 3] [⟨5, 1, 2⟩] _ _ 3 1 9 _ sB).mono ?_
  rintro e w3 ⟨rfl, hb⟩
  rw [ak2]
  have sA := sA.later hb
  have sB := sB.later hb
  have sC := sC.later hb
  have sD := sD.later hb
  have p1 := p1.later hb
  have p2 := p2.later hb
  have P := below_call P hb
  clear hb kp1 zp1 kp2 zp2
  obtain ⟨kp1, -, zp1⟩ := p1.facts
  obtain ⟨kp2, -, zp2⟩ := p2.facts
  go_wp2_with fail
  refine (firstB false 2 [1, 2, 3] [⟨5, 1, 2⟩] _ _ 3 1 _ sB).mono ?_
  rintro e w4 ⟨rfl, hb⟩
  rw [ak3]
  have sA := sA.later hb
  have sB := sB.later hb
  have sC := sC.later hb
  have sD := sD.later hb
  have p1 := p1.later hb
  have p2 := p2.later hb
  have P := below_call P hb
  clear hb kp1 zp1 kp2 zp2
  obtain ⟨kp1, -, zp1⟩ := p1.facts
  obtain ⟨kp2, -, zp2⟩ := p2.facts
  go_wp2_with fail
  refine (leadsB false 2 [1, 2, 3] [⟨5, 0, 0⟩] _ _ 3 1 _ sC sD (errType_later HG.out P)).mono ?_
  rintro e w5 ⟨rfl, hb⟩
  rw [ak4]
  have sA := sA.later hb
  have sB := sB.later hb
  have sC := sC.later hb
  have sD := sD.later hb
  have p1 := p1.later hb
  have p2 := p2.later hb
  have P := below_call P hb
  clear hb kp1 zp1 kp2 zp2
  obtain ⟨kp1, -, zp1⟩ := p1.facts
  obtain ⟨kp2, -, zp2⟩ := p2.facts
  go_wp2_with fail
  go_ret
  exact ⟨rfl, P⟩
end Go.Proofs.YtaembglohjgkhaaDoor
