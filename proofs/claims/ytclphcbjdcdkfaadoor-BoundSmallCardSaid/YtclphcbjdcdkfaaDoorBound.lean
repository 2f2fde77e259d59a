/-
  bound's functions: contracts.
-/
import Derived.Test.YtclphcbjdcdkfaaDoorKitInts
import Derived.Test.YtclphcbjdcdkfaaDoorErrBound3
import Derived.Test.YtclphcbjdcdkfaaDoorBoundOf
import Derived.Test.YtclphcbjdcdkfaaDoorExt
set_option linter.unusedVariables false
set_option linter.unusedSimpArgs false
namespace Go.Proofs.YtclphcbjdcdkfaaDoor
open Go.RowKit

def backV (c k : Int) : Value := .iface 89 (.agg #[.int .i64 c, .iface 91 (.int .i64 k)])
def whyB (c t n : Int) (a : Idt) : Value := if n ≤ c then backV c 1 else if a.idx ≠ n then backV c 3 else if a.trm ≠ t then backV c 2 else .nilIface

set_option maxHeartbeats 1000000 in
theorem reachB (c t n : Int) (a : Idt) (w : World) :
    Calls Tryd.prog 50 #[.int .i64 c, .int .i64 t, .int .i64 n, .agg #[.int .i64 a.idx, .int .i64 a.trm, .int .i64 a.knd]] w fun e w' => e = .returned (whyB c t n a) ∧ Below w.heap.size w w' := by
  have hH : ∀ W : World, Below w.heap.size w W → Below w.heap.size w W := fun _ h => h
  by_cases h1 : n ≤ c
  · have e : whyB c t n a = backV c 1 := by unfold whyB; rw [if_pos h1]
    rw [e]
    clear e
    go_enter Tryd.func50, Tryd.ntmps50
    go_wp2
    go_ret
    refine ⟨rfl, ?_⟩
    first | exact Below.refl _ _ | exact below_new _ _
  · by_cases h2 : a.idx = n
    · by_cases h3 : a.trm = t
      · have e : whyB c t n a = .nilIface := by unfold whyB; rw [if_neg h1, if_neg (fun h => h h2), if_neg (fun h => h h3)]
        rw [e]
        clear e
        go_enter Tryd.func50, Tryd.ntmps50
        have h1' : c < n := by omega
        go_wp2
        go_ret
        refine ⟨rfl, ?_⟩
        first | exact Below.refl _ _ | exact below_new _ _
      · have e : whyB c t n a = backV c 2 := by unfold whyB; rw [if_neg h1, if_neg (fun h => h h2), if_pos h3]
        rw [e]
        clear e
        go_enter Tryd.func50, Tryd.ntmps50
        have h1' : c < n := by omega
        go_wp2
        go_ret
        refine ⟨rfl, ?_⟩
        first | exact Below.refl _ _ | exact below_new _ _
    · have e : whyB c t n a = backV c 3 := by unfold whyB; rw [if_neg h1, if_pos h2]
      rw [e]
      clear e
      go_enter Tryd.func50, Tryd.ntmps50
      have h1' : c < n := by omega
      go_wp2
      go_ret
      refine ⟨rfl, ?_⟩
      first | exact Below.refl _ _ | exact below_new _ _

theorem whyB_1 {c t n : Int} {a : Idt} (h : n ≤ c) : whyB c t n a = backV c 1 := by unfold whyB; rw [if_pos h]
theorem whyB_3 {c t n : Int} {a : Idt} (h : ¬ n ≤ c) (h2 : a.idx ≠ n) : whyB c t n a = backV c 3 := by unfold whyB; rw [if_neg h, if_pos h2]
theorem whyB_2 {c t n : Int} {a : Idt} (h : ¬ n ≤ c) (h2 : a.idx = n) (h3 : a.trm ≠ t) : whyB c t n a = backV c 2 := by unfold whyB; rw [if_neg h, if_neg (fun g => g h2), if_pos h3]
theorem whyB_0 {c t n : Int} {a : Idt} (h : ¬ n ≤ c) (h2 : a.idx = n) (h3 : a.trm = t) : whyB c t n a = .nilIface := by unfold whyB; rw [if_neg h, if_neg (fun g => g h2), if_neg (fun g => g h3)]

set_option maxRecDepth 100000 in
set_option maxHeartbeats 4000000 in
theorem ofB_of (c t n : Int) (a : Idt) (v : Value) (w : World) (hG : errTypeIs w)
    (CM : ∀ W, Below w.heap.size w W → Calls Tryd.prog 21 #[v] W fun e w' => e = .returned (.int .i64 n) ∧ Below W.heap.size W w') :
    Calls Tryd.prog 26 #[.int .i64 c, .int .i64 t, .agg #[.int .i64 a.idx, .int .i64 a.trm, .int .i64 a.knd], v] w fun e w' => e = .returned (.int .i64 (ofI c t n a)) ∧ Below w.heap.size w w' := by
  have HM := Lib.hid CM
  have HG := Lib.hid hG
  have HX0 := Lib.hid (Box.new w #[.int .i64 a.idx, .int .i64 a.trm, .int .i64 a.knd] 24)
  clear CM hG
  by_cases h1 : n ≤ c
  · have e : ofI c t n a = c := by unfold ofI; rw [if_pos h1]
    have HW := Lib.hid (whyB_1 (t := t) (a := a) h1)
    rw [e]
    clear e
    go_enter Tryd.func26, Tryd.ntmps26
    go_wp2_with (first
      | (go_at_call 21; refine (HM.out _ (below_new _ _)).mono ?_; rintro e w2 ⟨rfl, hb2⟩; have HB2 := Lib.hid (below_call (below_new _ _) hb2); have HX2 := Lib.hid ((HX0.out.later hb2).alloc (.cells #[.int .i64 0, .nilIface] 89)); have HY2 := Lib.hid (Box.new w2 #[.int .i64 0, .nilIface] 89); have HZ := Lib.hid (show 0 < w2.heap.size from Nat.lt_of_lt_of_le (World.block_lt_of_cell? _ _ HG.out) HB2.out.size); obtain ⟨k2, f2, z2⟩ := HX2.out.facts; clear hb2)
      | (go_at_call 50; refine (reachB c t n a _).mono ?_; rintro e w3 ⟨rfl, hb3⟩; rw [HW.out]; have HB3 := Lib.hid (below_call HB2.out (below_call (below_new _ _) hb3)); have HY3 := Lib.hid (HY2.out.later hb3); clear hb3 k2 f2 z2)
      | (go_at_call 44; refine (BndE.is_wrap _ _ _ _).mono ?_; rintro e w4 ⟨rfl, hb4⟩; rw [show ((1 : Int) == 1) = true from rfl]; have HB4 := Lib.hid (below_call HB3.out hb4); have HY4 := Lib.hid (HY3.out.later hb4); clear hb4))
    go_ret
    exact ⟨rfl, HB4.out⟩
  · by_cases h2 : a.idx = n
    · by_cases h3 : a.trm = t
      · have e : ofI c t n a = n := by unfold ofI; rw [if_neg h1, if_neg (fun h => h h2), if_neg (fun h => h h3)]
        have HW := Lib.hid (whyB_0 h1 h2 h3)
        rw [e]
        clear e h1 h2 h3
        go_enter Tryd.func26, Tryd.ntmps26
        go_wp2_with (first
          | (go_at_call 21; refine (HM.out _ (below_new _ _)).mono ?_; rintro e w2 ⟨rfl, hb2⟩; have HB2 := Lib.hid (below_call (below_new _ _) hb2); have HX2 := Lib.hid ((HX0.out.later hb2).alloc (.cells #[.int .i64 0, .nilIface] 89)); have HY2 := Lib.hid (Box.new w2 #[.int .i64 0, .nilIface] 89); have HZ := Lib.hid (show 0 < w2.heap.size from Nat.lt_of_lt_of_le (World.block_lt_of_cell? _ _ HG.out) HB2.out.size); obtain ⟨k2, f2, z2⟩ := HX2.out.facts; clear hb2)
          | (go_at_call 50; refine (reachB c t n a _).mono ?_; rintro e w3 ⟨rfl, hb3⟩; rw [HW.out]; have HB3 := Lib.hid (below_call HB2.out (below_call (below_new _ _) hb3)); have HY3 := Lib.hid (HY2.out.later hb3); clear hb3 k2 f2 z2)
          | (go_at_call 44; refine (BndE.is_nil _ _).mono ?_; rintro e w4 ⟨rfl, rfl⟩)
          | (go_at_call 39; refine (BndE.as_nil _ _).mono ?_; rintro e w5 ⟨rfl, rfl⟩))
        go_ret
        exact ⟨rfl, HB3.out⟩
      · have e : ofI c t n a = c := by unfold ofI; rw [if_neg h1, if_neg (fun h => h h2), if_pos h3]
        have HW := Lib.hid (whyB_2 h1 h2 h3)
        rw [e]
        clear e h1 h2 h3
        go_enter Tryd.func26, Tryd.ntmps26
        go_wp2_with (first
          | (go_at_call 21; refine (HM.out _ (below_new _ _)).mono ?_; rintro e w2 ⟨rfl, hb2⟩; have HB2 := Lib.hid (below_call (below_new _ _) hb2); have HX2 := Lib.hid ((HX0.out.later hb2).alloc (.cells #[.int .i64 0, .nilIface] 89)); have HY2 := Lib.hid (Box.new w2 #[.int .i64 0, .nilIface] 89); have HZ := Lib.hid (show 0 < w2.heap.size from Nat.lt_of_lt_of_le (World.block_lt_of_cell? _ _ HG.out) HB2.out.size); obtain ⟨k2, f2, z2⟩ := HX2.out.facts; clear hb2)
          | (go_at_call 50; refine (reachB c t n a _).mono ?_; rintro e w3 ⟨rfl, hb3⟩; rw [HW.out]; have HB3 := Lib.hid (below_call HB2.out (below_call (below_new _ _) hb3)); have HY3 := Lib.hid (HY2.out.later hb3); clear hb3 k2 f2 z2)
          | (go_at_call 44; refine (BndE.is_wrap _ _ _ _).mono ?_; rintro e w4 ⟨rfl, hb4⟩; rw [show ((2 : Int) == 1) = false from rfl]; have HB4 := Lib.hid (below_call HB3.out hb4); have HY4 := Lib.hid (HY3.out.later hb4); clear hb4)
          | (go_at_call 39; refine (BndE.as_direct w2.heap.size _ _ _ _ w4 (errType_later HG.out HB4.out) HY4.out).mono ?_; rintro e w5 ⟨rfl, hx5, hbut5⟩))
        go_ret
        exact ⟨rfl, HB4.out.trans (hbut5.below (by have := HB2.out.size; omega) (by have := HB4.out.size; omega))⟩
    · have e : ofI c t n a = c := by unfold ofI; rw [if_neg h1, if_pos h2]
      have HW := Lib.hid (whyB_3 (t := t) h1 h2)
      rw [e]
      clear e h1 h2
      go_enter Tryd.func26, Tryd.ntmps26
      go_wp2_with (first
        | (go_at_call 21; refine (HM.out _ (below_new _ _)).mono ?_; rintro e w2 ⟨rfl, hb2⟩; have HB2 := Lib.hid (below_call (below_new _ _) hb2); have HX2 := Lib.hid ((HX0.out.later hb2).alloc (.cells #[.int .i64 0, .nilIface] 89)); have HY2 := Lib.hid (Box.new w2 #[.int .i64 0, .nilIface] 89); have HZ := Lib.hid (show 0 < w2.heap.size from Nat.lt_of_lt_of_le (World.block_lt_of_cell? _ _ HG.out) HB2.out.size); obtain ⟨k2, f2, z2⟩ := HX2.out.facts; clear hb2)
        | (go_at_call 50; refine (reachB c t n a _).mono ?_; rintro e w3 ⟨rfl, hb3⟩; rw [HW.out]; have HB3 := Lib.hid (below_call HB2.out (below_call (below_new _ _) hb3)); have HY3 := Lib.hid (HY2.out.later hb3); clear hb3 k2 f2 z2)
        | (go_at_call 44; refine (BndE.is_wrap _ _ _ _).mono ?_; rintro e w4 ⟨rfl, hb4⟩; rw [show ((3 : Int) == 1) = false from rfl]; have HB4 := Lib.hid (below_call HB3.out hb4); have HY4 := Lib.hid (HY3.out.later hb4); clear hb4)
        | (go_at_call 39; refine (BndE.as_direct w2.heap.size _ _ _ _ w4 (errType_later HG.out HB4.out) HY4.out).mono ?_; rintro e w5 ⟨rfl, hx5, hbut5⟩))
      go_ret
      exact ⟨rfl, HB4.out.trans (hbut5.below (by have := HB2.out.size; omega) (by have := HB4.out.size; omega))⟩
end Go.Proofs.YtclphcbjdcdkfaaDoor
