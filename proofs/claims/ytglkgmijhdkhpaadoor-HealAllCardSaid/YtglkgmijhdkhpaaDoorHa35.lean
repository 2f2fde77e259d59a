/-
  slices.SortStableFunc, heal's wants, Wants: contracts.
-/
import Derived.Test.YtglkgmijhdkhpaaDoorHa33
import Derived.Test.YtglkgmijhdkhpaaDoorHa18
import Derived.Test.YtglkgmijhdkhpaaDoorHa34
set_option linter.unusedVariables false
set_option linter.unusedSimpArgs false
namespace Go.Proofs.YtglkgmijhdkhpaaDoor
open Go.RowKit

set_option maxHeartbeats 1000000 in
theorem idtInsNil (A : Option Addr) (c : Nat) (w : World) : Calls Tryd.prog 60 #[.slice A 0 c, .int .i64 0, .int .i64 0, .func (.func 42) #[] #[]] w fun e w' => e = .returned (.tuple #[]) ∧ w = w' := by
  go_enter Tryd.func60, Tryd.ntmps60
  go_wp2_with fail
  go_loop [8, 9] (fun s _ => s = .int .i64 1) (fun _ _ => 0)
  case atStart => rfl
  case round =>
    subst hrel
    go_wp2_with fail
    go_end0
    exact ⟨rfl, rfl⟩
set_option maxHeartbeats 1000000 in
theorem idtStableNil (A : Option Addr) (c : Nat) (w : World) : Calls Tryd.prog 56 #[.slice A 0 c, .int .i64 0, .func (.func 42) #[] #[]] w fun e w' => e = .returned (.tuple #[]) ∧ w = w' := by
  have L := Lib.hid (idtInsNil A c w)
  go_enter Tryd.func56, Tryd.ntmps56
  go_wp2_with fail
  go_loop [7, 8] (fun s t => s = .int .i64 0 ∧ t = .int .i64 20) (fun _ _ => 0)
  case atStart => exact ⟨rfl, rfl⟩
  case round =>
    obtain ⟨rfl, rfl⟩ := hrel
    go_wp2_with (go_at_call 60; (with_reducible refine L.out.mono ?_); rintro e w3 ⟨rfl, rfl⟩)
    go_loop [6, 7, 8, 9] (fun s _ _ _ => s = .int .i64 20) (fun _ _ _ _ => 0)
    case atStart => rfl
    case round =>
      subst hrel
      go_wp2_with fail
      go_end0
      exact ⟨rfl, rfl⟩
/-- What is sorted so, with where it stood. -/
def Srt (F R : List Idt) : Prop := ∃ T : List (Idt × Nat), SL Idt.idx T ∧ T.Perm F.zipIdx ∧ R = T.map (·.1)
set_option maxHeartbeats 1000000 in
theorem idtSort (base : Nat) (l : List Idt) (v : Value) (w : World) (h : Own 3 idRow 31 base w v l) (hn : l.length ≤ 100000) :
    Calls Tryd.prog 41 #[v, .func (.func 42) #[] #[]] w fun e w' => e = .returned (.tuple #[]) ∧ (∃ R, Srt l R ∧ Own 3 idRow 31 base w' v R) ∧ Below base w w' := by
  by_cases hl : l = []
  · subst hl
    obtain ⟨A, c, rfl⟩ := h.len
    have HO := Lib.hid h
    have L := Lib.hid (idtStableNil A c w)
    clear h
    go_enter Tryd.func41, Tryd.ntmps41
    go_wp2_with (go_at_call 56; (with_reducible refine L.out.mono ?_); rintro e w3 ⟨rfl, rfl⟩)
    go_end0
    exact ⟨rfl, ⟨[], ⟨[], by simp [SL], by simp, rfl⟩, HO.out⟩, Below.refl _ _⟩
  · obtain ⟨g, c, rfl, -, -, -⟩ := h.place hl
    have hz : ut l.zipIdx = l := by unfold ut; rw [List.zipIdx_map_fst]
    have L := Lib.hid (idtStable base g l.length c l.zipIdx w (by rw [hz]; exact h) (zip_tags l) hn)
    clear h hz hl
    go_enter Tryd.func41, Tryd.ntmps41
    go_wp2_with (go_at_call 56; (with_reducible refine L.out.mono ?_); rintro e w3 ⟨rfl, ⟨R, r1, r2, r3⟩, hb⟩)
    go_end0
    exact ⟨rfl, ⟨_, ⟨R, r1, r2, rfl⟩, r3⟩, hb⟩
set_option maxHeartbeats 1000000 in
theorem healWants0 (l : List Idt) (v : Value) (w : World) (h : Sl 3 idRow w.heap.size w v l) (hn : l.length ≤ 100000) :
    Calls Tryd.prog 20 #[v] w fun e w' => ∃ v', e = .returned v' ∧ Own 3 idRow 31 w.heap.size w' v' (wantsV l) ∧ Below w.heap.size w w' := by
  have C1 := Lib.hid (idtClone l v w h (by omega))
  obtain ⟨A, c, rfl, -⟩ := id h
  have hfl := List.length_filter_le knownI l
  clear h
  go_enter Tryd.func20, Tryd.ntmps20
  go_wp2_with (first
    | (go_at_call 38; (with_reducible refine C1.out.mono ?_); rintro e w2 ⟨v2, rfl, ho2, hb2⟩; have HB2 := Lib.hid hb2; have L2 := Lib.hid (idtDelete w.heap.size l v2 w2 ho2 hn hb2.size); clear ho2 hb2)
    | (go_at_call 37; (with_reducible refine L2.out.mono ?_); rintro e w3 ⟨v3, rfl, ho3, hb3⟩; have HB3 := Lib.hid (HB2.out.trans hb3); have L3 := Lib.hid (idtSort w.heap.size (l.filter knownI) v3 w3 ho3 (by omega)); clear ho3 hb3)
    | (go_at_call 41; (with_reducible refine L3.out.mono ?_); rintro e w4 ⟨rfl, ⟨R, hr4, ho4⟩, hb4⟩; have HB4 := Lib.hid (HB3.out.trans hb4); have HR := Lib.hid hr4; have HRL := Lib.hid (show R.length ≤ 100000 by obtain ⟨T, t1, t2, t3⟩ := hr4; rw [t3, List.length_map, t2.length_eq, List.length_zipIdx]; omega); have L4 := Lib.hid (idtCompact w.heap.size R v3 w4 ho4 HRL.out HB4.out.size); clear ho4 hb4 hr4)
    | (go_at_call 44; (with_reducible refine L4.out.mono ?_); rintro e w5 ⟨v5, rfl, ho5, hb5⟩; have HO5 := Lib.hid ho5; have HB5 := Lib.hid (HB4.out.trans hb5); clear ho5 hb5))
  go_ret
  exact ⟨_, rfl, by obtain ⟨T, t1, t2, t3⟩ := HR.out; rw [← cmp_eq t1 t2, ← t3]; exact HO5.out, HB5.out⟩

/-- What Wants tells: it lies in a row of the call's own, cut. -/
def WantsPost (l : List Idt) (most : Int) (w : World) (e : Ending) (w' : World) : Prop :=
  ∃ (v0 : Value) (A : Option Addr) (m c : Nat), e = .returned (.slice A m m) ∧ m = (WantsV l most).length ∧ v0 = .slice A (wantsV l).length c ∧ Own 3 idRow 31 w.heap.size w' v0 (wantsV l) ∧ Sl 3 idRow w'.heap.size w' (.slice A m m) (WantsV l most) ∧ Below w.heap.size w w'
theorem sl_clip {B : Nat} {w : World} {A : Option Addr} {m c : Nat} {l : List Idt} (h : Sl 3 idRow B w (.slice A m c) l) : Sl 3 idRow B w (.slice A m m) l := by
  obtain ⟨A', c', h1, h2, h3, h4, h5⟩ := h
  simp only [Value.slice.injEq] at h1
  obtain ⟨rfl, rfl, rfl⟩ := h1
  exact ⟨A, l.length, rfl, Nat.le_refl _, by omega, fun hA => by have := h4 hA; omega, h5⟩
set_option maxHeartbeats 400000 in
theorem idtClip (A : Option Addr) (m c : Nat) (w : World) (hc : m ≤ c) (hcm : c ≤ 9223372036854775807) : Calls Tryd.prog 28 #[.slice A m c] w fun e w' => e = .returned (.slice A m m) ∧ w = w' := by
  have i0 : (0 : Int) ≤ (m : Int) := by omega
  have i1 : (m : Int) ≤ (c : Int) := by omega
  go_enter Tryd.func28, Tryd.ntmps28
  go_wp2_with fail
  go_ret
  exact ⟨rfl, rfl⟩
set_option maxRecDepth 100000 in
set_option maxHeartbeats 2000000 in
theorem healWants (l : List Idt) (v : Value) (most : Int) (w : World) (h : Sl 3 idRow w.heap.size w v l) (hn : l.length ≤ 100000) :
    Calls Tryd.prog 9 #[v, .int .i64 most] w (WantsPost l most w) := by
  have C1 := Lib.hid (healWants0 l v w h hn)
  have hwl := wants_len l
  obtain ⟨A, c, rfl, -⟩ := id h
  obtain ⟨L, hL⟩ : ∃ L, wantsV l = L := ⟨_, rfl⟩
  have HLW := Lib.hid hL
  rw [hL] at C1 hwl
  have hll : L.length ≤ 100000 := by omega
  clear h hL
  have HC : Hid (∀ (w2 : World) (A2 : Option Addr) (c2 m : Nat), Own 3 idRow 31 w.heap.size w2 (.slice A2 L.length c2) L → m ≤ L.length → (m ≤ c2 ∧ c2 ≤ 9223372036854775807) ∧ Sl 3 idRow w2.heap.size w2 (.slice A2 m m) (L.take m)) := fun w2 A2 c2 m ho hm => by
    have hs := ho.sl idRow_length
    obtain ⟨A', c', g1, g2, g3, -⟩ := id hs
    simp only [Value.slice.injEq] at g1
    unfold maxLen at g3
    exact ⟨by omega, sl_clip (hs.take_ hm)⟩
  have HE : Hid (∀ m : Nat, (min ((L.length : Int)) (max most 0)).toNat = m → WantsV l most = L.take m) := fun m hm => by unfold WantsV; rw [HLW.out, hm]
  by_cases h0 : most ≤ 0
  · by_cases hm : most < 0
    · have HM := Lib.hid (HE.out 0 (by omega))
      by_cases hz : L.length = 0
      · have hz' : (L.length : Int) ≤ 0 := by omega
        have HZ := Lib.hid hz
        go_enter Tryd.func9, Tryd.ntmps9
        go_wp2_with (first
          | (go_at_call 20; (with_reducible refine C1.out.mono ?_); rintro e w2 ⟨v2, rfl, ho2, hb2⟩; obtain ⟨A2, c2, rfl⟩ := ho2.len; have HO2 := Lib.hid ho2; have HB2 := Lib.hid hb2; have HS2 := Lib.hid (HC.out w2 A2 c2 (0) ho2 (by omega)); have q1 := HS2.out.1.1; have q2 := HS2.out.1.2; have q3 : ((0 : Nat) : Int) ≤ (c2 : Int) := (by omega); have q4 : (0 : Int) ≤ (c2 : Int) := (by omega); have L2 := Lib.hid (idtClip A2 (0) c2 w2 q1 q2); clear ho2 hb2)
          | (go_at_call 28; (with_reducible refine L2.out.mono ?_); rintro e w3 ⟨rfl, rfl⟩))
        go_ret
        exact ⟨_, A2, 0, c2, rfl, by rw [HM.out, List.length_take]; omega, by rw [HLW.out], by rw [HLW.out]; exact HO2.out, by rw [HM.out]; exact HS2.out.2, HB2.out⟩
      · have hz' : (0 : Int) < (L.length : Int) := by omega
        go_enter Tryd.func9, Tryd.ntmps9
        go_wp2_with (first
          | (go_at_call 20; (with_reducible refine C1.out.mono ?_); rintro e w2 ⟨v2, rfl, ho2, hb2⟩; obtain ⟨A2, c2, rfl⟩ := ho2.len; have HO2 := Lib.hid ho2; have HB2 := Lib.hid hb2; have HS2 := Lib.hid (HC.out w2 A2 c2 (0) ho2 (by omega)); have q1 := HS2.out.1.1; have q2 := HS2.out.1.2; have q3 : ((0 : Nat) : Int) ≤ (c2 : Int) := (by omega); have q4 : (0 : Int) ≤ (c2 : Int) := (by omega); have L2 := Lib.hid (idtClip A2 (0) c2 w2 q1 q2); clear ho2 hb2)
          | (go_at_call 28; (with_reducible refine L2.out.mono ?_); rintro e w3 ⟨rfl, rfl⟩))
        go_ret
        exact ⟨_, A2, 0, c2, rfl, by rw [HM.out, List.length_take]; omega, by rw [HLW.out], by rw [HLW.out]; exact HO2.out, by rw [HM.out]; exact HS2.out.2, HB2.out⟩
    · obtain rfl : most = 0 := by omega
      have HM := Lib.hid (HE.out 0 (by omega))
      by_cases hz : L.length = 0
      · have hz' : (L.length : Int) ≤ 0 := by omega
        have HZ := Lib.hid hz
        go_enter Tryd.func9, Tryd.ntmps9
        go_wp2_with (first
          | (go_at_call 20; (with_reducible refine C1.out.mono ?_); rintro e w2 ⟨v2, rfl, ho2, hb2⟩; obtain ⟨A2, c2, rfl⟩ := ho2.len; have HO2 := Lib.hid ho2; have HB2 := Lib.hid hb2; have HS2 := Lib.hid (HC.out w2 A2 c2 (0) ho2 (by omega)); have q1 := HS2.out.1.1; have q2 := HS2.out.1.2; have q3 : ((0 : Nat) : Int) ≤ (c2 : Int) := (by omega); have q4 : (0 : Int) ≤ (c2 : Int) := (by omega); have L2 := Lib.hid (idtClip A2 (0) c2 w2 q1 q2); clear ho2 hb2)
          | (go_at_call 28; (with_reducible refine L2.out.mono ?_); rintro e w3 ⟨rfl, rfl⟩))
        go_ret
        exact ⟨_, A2, 0, c2, rfl, by rw [HM.out, List.length_take]; omega, by rw [HLW.out], by rw [HLW.out]; exact HO2.out, by rw [HM.out]; exact HS2.out.2, HB2.out⟩
      · have hz' : (0 : Int) < (L.length : Int) := by omega
        go_enter Tryd.func9, Tryd.ntmps9
        go_wp2_with (first
          | (go_at_call 20; (with_reducible refine C1.out.mono ?_); rintro e w2 ⟨v2, rfl, ho2, hb2⟩; obtain ⟨A2, c2, rfl⟩ := ho2.len; have HO2 := Lib.hid ho2; have HB2 := Lib.hid hb2; have HS2 := Lib.hid (HC.out w2 A2 c2 (0) ho2 (by omega)); have q1 := HS2.out.1.1; have q2 := HS2.out.1.2; have q3 : ((0 : Nat) : Int) ≤ (c2 : Int) := (by omega); have q4 : (0 : Int) ≤ (c2 : Int) := (by omega); have L2 := Lib.hid (idtClip A2 (0) c2 w2 q1 q2); clear ho2 hb2)
          | (go_at_call 28; (with_reducible refine L2.out.mono ?_); rintro e w3 ⟨rfl, rfl⟩))
        go_ret
        exact ⟨_, A2, 0, c2, rfl, by rw [HM.out, List.length_take]; omega, by rw [HLW.out], by rw [HLW.out]; exact HO2.out, by rw [HM.out]; exact HS2.out.2, HB2.out⟩
  · by_cases h1 : most < (L.length : Int)
    · obtain ⟨mm, rfl⟩ : ∃ mm : Nat, most = (mm : Int) := ⟨most.toNat, by omega⟩
      have HM := Lib.hid (HE.out mm (by omega))
      have d0 : (0 : Int) < (mm : Int) := by omega
      have d1 : mm < L.length := by omega
      go_enter Tryd.func9, Tryd.ntmps9
      go_wp2_with (first
        | (go_at_call 20; (with_reducible refine C1.out.mono ?_); rintro e w2 ⟨v2, rfl, ho2, hb2⟩; obtain ⟨A2, c2, rfl⟩ := ho2.len; have HO2 := Lib.hid ho2; have HB2 := Lib.hid hb2; have HS2 := Lib.hid (HC.out w2 A2 c2 (mm) ho2 (by omega)); have q1 := HS2.out.1.1; have q2 := HS2.out.1.2; have q3 : ((mm : Nat) : Int) ≤ (c2 : Int) := (by omega); have q4 : (0 : Int) ≤ (c2 : Int) := (by omega); have L2 := Lib.hid (idtClip A2 (mm) c2 w2 q1 q2); clear ho2 hb2)
        | (go_at_call 28; (with_reducible refine L2.out.mono ?_); rintro e w3 ⟨rfl, rfl⟩))
      go_ret
      exact ⟨_, A2, mm, c2, rfl, by rw [HM.out, List.length_take]; omega, by rw [HLW.out], by rw [HLW.out]; exact HO2.out, by rw [HM.out]; exact HS2.out.2, HB2.out⟩
    · by_cases h2 : (L.length : Int) < most
      · have HM := Lib.hid (HE.out L.length (by omega))
        have d0 : (0 : Int) < most := by omega
        go_enter Tryd.func9, Tryd.ntmps9
        go_wp2_with (first
          | (go_at_call 20; (with_reducible refine C1.out.mono ?_); rintro e w2 ⟨v2, rfl, ho2, hb2⟩; obtain ⟨A2, c2, rfl⟩ := ho2.len; have HO2 := Lib.hid ho2; have HB2 := Lib.hid hb2; have HS2 := Lib.hid (HC.out w2 A2 c2 (L.length) ho2 (by omega)); have q1 := HS2.out.1.1; have q2 := HS2.out.1.2; have q3 : ((L.length : Nat) : Int) ≤ (c2 : Int) := (by omega); have q4 : (0 : Int) ≤ (c2 : Int) := (by omega); have L2 := Lib.hid (idtClip A2 (L.length) c2 w2 q1 q2); clear ho2 hb2)
          | (go_at_call 28; (with_reducible refine L2.out.mono ?_); rintro e w3 ⟨rfl, rfl⟩))
        go_ret
        exact ⟨_, A2, L.length, c2, rfl, by rw [HM.out, List.length_take]; omega, by rw [HLW.out], by rw [HLW.out]; exact HO2.out, by rw [HM.out]; exact HS2.out.2, HB2.out⟩
      · obtain rfl : most = (L.length : Int) := by omega
        have HM := Lib.hid (HE.out L.length (by omega))
        have d0 : (0 : Int) < (L.length : Int) := by omega
        go_enter Tryd.func9, Tryd.ntmps9
        go_wp2_with (first
          | (go_at_call 20; (with_reducible refine C1.out.mono ?_); rintro e w2 ⟨v2, rfl, ho2, hb2⟩; obtain ⟨A2, c2, rfl⟩ := ho2.len; have HO2 := Lib.hid ho2; have HB2 := Lib.hid hb2; have HS2 := Lib.hid (HC.out w2 A2 c2 (L.length) ho2 (by omega)); have q1 := HS2.out.1.1; have q2 := HS2.out.1.2; have q3 : ((L.length : Nat) : Int) ≤ (c2 : Int) := (by omega); have q4 : (0 : Int) ≤ (c2 : Int) := (by omega); have L2 := Lib.hid (idtClip A2 (L.length) c2 w2 q1 q2); clear ho2 hb2)
          | (go_at_call 28; (with_reducible refine L2.out.mono ?_); rintro e w3 ⟨rfl, rfl⟩))
        go_ret
        exact ⟨_, A2, L.length, c2, rfl, by rw [HM.out, List.length_take]; omega, by rw [HLW.out], by rw [HLW.out]; exact HO2.out, by rw [HM.out]; exact HS2.out.2, HB2.out⟩
end Go.Proofs.YtglkgmijhdkhpaaDoor
