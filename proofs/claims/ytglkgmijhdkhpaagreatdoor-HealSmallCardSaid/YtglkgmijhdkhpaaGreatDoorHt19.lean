/-
  Merged: HealWants, Cls, EntRef, KitSameBytes.
-/
import Derived.Test.YtglkgmijhdkhpaaGreatDoorHt18
import Derived.Test.YtglkgmijhdkhpaaGreatDoorHt8
import Derived.Test.YtglkgmijhdkhpaaGreatDoorHt4
import Derived.Test.YtglkgmijhdkhpaaGreatDoorHt10
import Derived.Test.YtglkgmijhdkhpaaGreatDoorHt3
import Derived.Test.YtglkgmijhdkhpaaGreatDoorHt2
/-
  slices.SortStableFunc, heal's wants, Wants: contracts.
-/
set_option linter.unusedVariables false
set_option linter.unusedSimpArgs false
namespace Go.Proofs.YtglkgmijhdkhpaaGreatDoor
open Go.RowKit

set_option maxHeartbeats 1000000 in
theorem idtInsNil (A : Option Addr) (c : Nat) (w : World) : Calls Tryz.prog 116 #[.slice A 0 c, .int .i64 0, .int .i64 0, .func (.func 62) #[] #[]] w fun e w' => e = .returned (.tuple #[]) ∧ w = w' := by
  go_enter Tryz.func116, Tryz.ntmps116
  go_wp2_with fail
  go_loop [8, 9] (fun s _ => s = .int .i64 1) (fun _ _ => 0)
  case atStart => rfl
  case round =>
    subst hrel
    go_wp2_with fail
    go_end0
    exact ⟨rfl, rfl⟩
set_option maxHeartbeats 1000000 in
theorem idtStableNil (A : Option Addr) (c : Nat) (w : World) : Calls Tryz.prog 97 #[.slice A 0 c, .int .i64 0, .func (.func 62) #[] #[]] w fun e w' => e = .returned (.tuple #[]) ∧ w = w' := by
  have L := Lib.hid (idtInsNil A c w)
  go_enter Tryz.func97, Tryz.ntmps97
  go_wp2_with fail
  go_loop [7, 8] (fun s t => s = .int .i64 0 ∧ t = .int .i64 20) (fun _ _ => 0)
  case atStart => exact ⟨rfl, rfl⟩
  case round =>
    obtain ⟨rfl, rfl⟩ := hrel
    go_wp2_with (go_at_call 116; (with_reducible refine L.out.mono ?_); rintro e w3 ⟨rfl, rfl⟩)
    go_loop [6, 7, 8, 9] (fun s _ _ _ => s = .int .i64 20) (fun _ _ _ _ => 0)
    case atStart => rfl
    case round =>
      subst hrel
      go_wp2_with fail
      go_end0
      exact ⟨rfl, rfl⟩
/-- What is sorted so, with where it stood. -/
def Srt (F R : List Idt) : Prop := ∃ T : List (Idt × Nat), SL Idt.idx T ∧ T.Perm F.zipIdx ∧ R = T.map (·.1)
set_option maxHeartbeats 1000000 in
theorem idtSort (base : Nat) (l : List Idt) (v : Value) (w : World) (h : Own 3 idRow 42 base w v l) (hn : l.length ≤ 100000) :
    Calls Tryz.prog 61 #[v, .func (.func 62) #[] #[]] w fun e w' => e = .returned (.tuple #[]) ∧ (∃ R, Srt l R ∧ Own 3 idRow 42 base w' v R) ∧ Below base w w' := by
  by_cases hl : l = []
  · subst hl
    obtain ⟨A, c, rfl⟩ := h.len
    have HO := Lib.hid h
    have L := Lib.hid (idtStableNil A c w)
    clear h
    go_enter Tryz.func61, Tryz.ntmps61
    go_wp2_with (go_at_call 97; (with_reducible refine L.out.mono ?_); rintro e w3 ⟨rfl, rfl⟩)
    go_end0
    exact ⟨rfl, ⟨[], ⟨[], by simp [SL], by simp, rfl⟩, HO.out⟩, Below.refl _ _⟩
  · obtain ⟨g, c, rfl, -, -, -⟩ := h.place hl
    have hz : ut l.zipIdx = l := by unfold ut; rw [List.zipIdx_map_fst]
    have L := Lib.hid (idtStable base g l.length c l.zipIdx w (by rw [hz]; exact h) (zip_tags l) hn)
    clear h hz hl
    go_enter Tryz.func61, Tryz.ntmps61
    go_wp2_with (go_at_call 97; (with_reducible refine L.out.mono ?_); rintro e w3 ⟨rfl, ⟨R, r1, r2, r3⟩, hb⟩)
    go_end0
    exact ⟨rfl, ⟨_, ⟨R, r1, r2, rfl⟩, r3⟩, hb⟩
set_option maxHeartbeats 1000000 in
theorem healWants0 (l : List Idt) (v : Value) (w : World) (h : Sl 3 idRow w.heap.size w v l) (hn : l.length ≤ 100000) :
    Calls Tryz.prog 30 #[v] w fun e w' => ∃ v', e = .returned v' ∧ Own 3 idRow 42 w.heap.size w' v' (wantsV l) ∧ Below w.heap.size w w' := by
  have C1 := Lib.hid (idtClone l v w h (by omega))
  obtain ⟨A, c, rfl, -⟩ := id h
  have hfl := List.length_filter_le knownI l
  clear h
  go_enter Tryz.func30, Tryz.ntmps30
  go_wp2_with (first
    | (go_at_call 58; (with_reducible refine C1.out.mono ?_); rintro e w2 ⟨v2, rfl, ho2, hb2⟩; have HB2 := Lib.hid hb2; have L2 := Lib.hid (idtDelete w.heap.size l v2 w2 ho2 hn hb2.size); clear ho2 hb2)
    | (go_at_call 57; (with_reducible refine L2.out.mono ?_); rintro e w3 ⟨v3, rfl, ho3, hb3⟩; have HB3 := Lib.hid (HB2.out.trans hb3); have L3 := Lib.hid (idtSort w.heap.size (l.filter knownI) v3 w3 ho3 (by omega)); clear ho3 hb3)
    | (go_at_call 61; (with_reducible refine L3.out.mono ?_); rintro e w4 ⟨rfl, ⟨R, hr4, ho4⟩, hb4⟩; have HB4 := Lib.hid (HB3.out.trans hb4); have HR := Lib.hid hr4; have HRL := Lib.hid (show R.length ≤ 100000 by obtain ⟨T, t1, t2, t3⟩ := hr4; rw [t3, List.length_map, t2.length_eq, List.length_zipIdx]; omega); have L4 := Lib.hid (idtCompact w.heap.size R v3 w4 ho4 HRL.out HB4.out.size); clear ho4 hb4 hr4)
    | (go_at_call 64; (with_reducible refine L4.out.mono ?_); rintro e w5 ⟨v5, rfl, ho5, hb5⟩; have HO5 := Lib.hid ho5; have HB5 := Lib.hid (HB4.out.trans hb5); clear ho5 hb5))
  go_ret
  exact ⟨_, rfl, by obtain ⟨T, t1, t2, t3⟩ := HR.out; rw [← cmp_eq t1 t2, ← t3]; exact HO5.out, HB5.out⟩

/-- What Wants tells: it lies in a row of the call's own, cut. -/
def WantsPost (l : List Idt) (most : Int) (w : World) (e : Ending) (w' : World) : Prop :=
  ∃ (v0 : Value) (A : Option Addr) (m c : Nat), e = .returned (.slice A m m) ∧ m = (WantsV l most).length ∧ v0 = .slice A (wantsV l).length c ∧ Own 3 idRow 42 w.heap.size w' v0 (wantsV l) ∧ Sl 3 idRow w'.heap.size w' (.slice A m m) (WantsV l most) ∧ Below w.heap.size w w'
theorem sl_clip {B : Nat} {w : World} {A : Option Addr} {m c : Nat} {l : List Idt} (h : Sl 3 idRow B w (.slice A m c) l) : Sl 3 idRow B w (.slice A m m) l := by
  obtain ⟨A', c', h1, h2, h3, h4, h5⟩ := h
  simp only [Value.slice.injEq] at h1
  obtain ⟨rfl, rfl, rfl⟩ := h1
  exact ⟨A, l.length, rfl, Nat.le_refl _, by omega, fun hA => by have := h4 hA; omega, h5⟩
set_option maxHeartbeats 400000 in
theorem idtClip (A : Option Addr) (m c : Nat) (w : World) (hc : m ≤ c) (hcm : c ≤ 9223372036854775807) : Calls Tryz.prog 31 #[.slice A m c] w fun e w' => e = .returned (.slice A m m) ∧ w = w' := by
  have i0 : (0 : Int) ≤ (m : Int) := by omega
  have i1 : (m : Int) ≤ (c : Int) := by omega
  go_enter Tryz.func31, Tryz.ntmps31
  go_wp2_with fail
  go_ret
  exact ⟨rfl, rfl⟩
set_option maxRecDepth 100000 in
set_option maxHeartbeats 2000000 in
theorem healWants (l : List Idt) (v : Value) (most : Int) (w : World) (h : Sl 3 idRow w.heap.size w v l) (hn : l.length ≤ 100000) :
    Calls Tryz.prog 9 #[v, .int .i64 most] w (WantsPost l most w) := by
  have C1 := Lib.hid (healWants0 l v w h hn)
  have hwl := wants_len l
  obtain ⟨A, c, rfl, -⟩ := id h
  obtain ⟨L, hL⟩ : ∃ L, wantsV l = L := ⟨_, rfl⟩
  have HLW := Lib.hid hL
  rw [hL] at C1 hwl
  have hll : L.length ≤ 100000 := by omega
  clear h hL
  have HC : Hid (∀ (w2 : World) (A2 : Option Addr) (c2 m : Nat), Own 3 idRow 42 w.heap.size w2 (.slice A2 L.length c2) L → m ≤ L.length → (m ≤ c2 ∧ c2 ≤ 9223372036854775807) ∧ Sl 3 idRow w2.heap.size w2 (.slice A2 m m) (L.take m)) := fun w2 A2 c2 m ho hm => by
    have hs := ho.sl idRow_length
    obtain ⟨A', c', g1, g2, g3, -⟩ := id hs
    simp only [Value.slice.injEq] at g1
    unfold maxLen at g3
    exact ⟨by omega, sl_clip (hs.take_ hm)⟩
  have HE : Hid (∀ m : Nat, (min ((L.length : Int)) (max most 0)).toNat = m → WantsV l most = L.take m) := fun m hm => by unfold WantsV; rw [HLW.out, hm]
  by_cases h0 : most ≤ 0
  · by_cases hm : most < 0
    · have HM := Lib.hid (HE.out 0 (by omega))
      by_cases hz : L.length = 0
      · have hz' : (L.length : Int) ≤ 0 := by omega
        have HZ := Lib.hid hz
        go_enter Tryz.func9, Tryz.ntmps9
        go_wp2_with (first
          | (go_at_call 30; (with_reducible refine C1.out.mono ?_); rintro e w2 ⟨v2, rfl, ho2, hb2⟩; obtain ⟨A2, c2, rfl⟩ := ho2.len; have HO2 := Lib.hid ho2; have HB2 := Lib.hid hb2; have HS2 := Lib.hid (HC.out w2 A2 c2 (0) ho2 (by omega)); have q1 := HS2.out.1.1; have q2 := HS2.out.1.2; have q3 : ((0 : Nat) : Int) ≤ (c2 : Int) := (by omega); have q4 : (0 : Int) ≤ (c2 : Int) := (by omega); have L2 := Lib.hid (idtClip A2 (0) c2 w2 q1 q2); clear ho2 hb2)
          | (go_at_call 31; (with_reducible refine L2.out.mono ?_); rintro e w3 ⟨rfl, rfl⟩))
        go_ret
        exact ⟨_, A2, 0, c2, rfl, by rw [HM.out, List.length_take]; omega, by rw [HLW.out], by rw [HLW.out]; exact HO2.out, by rw [HM.out]; exact HS2.out.2, HB2.out⟩
      · have hz' : (0 : Int) < (L.length : Int) := by omega
        go_enter Tryz.func9, Tryz.ntmps9
        go_wp2_with (first
          | (go_at_call 30; (with_reducible refine C1.out.mono ?_); rintro e w2 ⟨v2, rfl, ho2, hb2⟩; obtain ⟨A2, c2, rfl⟩ := ho2.len; have HO2 := Lib.hid ho2; have HB2 := Lib.hid hb2; have HS2 := Lib.hid (HC.out w2 A2 c2 (0) ho2 (by omega)); have q1 := HS2.out.1.1; have q2 := HS2.out.1.2; have q3 : ((0 : Nat) : Int) ≤ (c2 : Int) := (by omega); have q4 : (0 : Int) ≤ (c2 : Int) := (by omega); have L2 := Lib.hid (idtClip A2 (0) c2 w2 q1 q2); clear ho2 hb2)
          | (go_at_call 31; (with_reducible refine L2.out.mono ?_); rintro e w3 ⟨rfl, rfl⟩))
        go_ret
        exact ⟨_, A2, 0, c2, rfl, by rw [HM.out, List.length_take]; omega, by rw [HLW.out], by rw [HLW.out]; exact HO2.out, by rw [HM.out]; exact HS2.out.2, HB2.out⟩
    · obtain rfl : most = 0 := by omega
      have HM := Lib.hid (HE.out 0 (by omega))
      by_cases hz : L.length = 0
      · have hz' : (L.length : Int) ≤ 0 := by omega
        have HZ := Lib.hid hz
        go_enter Tryz.func9, Tryz.ntmps9
        go_wp2_with (first
          | (go_at_call 30; (with_reducible refine C1.out.mono ?_); rintro e w2 ⟨v2, rfl, ho2, hb2⟩; obtain ⟨A2, c2, rfl⟩ := ho2.len; have HO2 := Lib.hid ho2; have HB2 := Lib.hid hb2; have HS2 := Lib.hid (HC.out w2 A2 c2 (0) ho2 (by omega)); have q1 := HS2.out.1.1; have q2 := HS2.out.1.2; have q3 : ((0 : Nat) : Int) ≤ (c2 : Int) := (by omega); have q4 : (0 : Int) ≤ (c2 : Int) := (by omega); have L2 := Lib.hid (idtClip A2 (0) c2 w2 q1 q2); clear ho2 hb2)
          | (go_at_call 31; (with_reducible refine L2.out.mono ?_); rintro e w3 ⟨rfl, rfl⟩))
        go_ret
        exact ⟨_, A2, 0, c2, rfl, by rw [HM.out, List.length_take]; omega, by rw [HLW.out], by rw [HLW.out]; exact HO2.out, by rw [HM.out]; exact HS2.out.2, HB2.out⟩
      · have hz' : (0 : Int) < (L.length : Int) := by omega
        go_enter Tryz.func9, Tryz.ntmps9
        go_wp2_with (first
          | (go_at_call 30; (with_reducible refine C1.out.mono ?_); rintro e w2 ⟨v2, rfl, ho2, hb2⟩; obtain ⟨A2, c2, rfl⟩ := ho2.len; have HO2 := Lib.hid ho2; have HB2 := Lib.hid hb2; have HS2 := Lib.hid (HC.out w2 A2 c2 (0) ho2 (by omega)); have q1 := HS2.out.1.1; have q2 := HS2.out.1.2; have q3 : ((0 : Nat) : Int) ≤ (c2 : Int) := (by omega); have q4 : (0 : Int) ≤ (c2 : Int) := (by omega); have L2 := Lib.hid (idtClip A2 (0) c2 w2 q1 q2); clear ho2 hb2)
          | (go_at_call 31; (with_reducible refine L2.out.mono ?_); rintro e w3 ⟨rfl, rfl⟩))
        go_ret
        exact ⟨_, A2, 0, c2, rfl, by rw [HM.out, List.length_take]; omega, by rw [HLW.out], by rw [HLW.out]; exact HO2.out, by rw [HM.out]; exact HS2.out.2, HB2.out⟩
  · by_cases h1 : most < (L.length : Int)
    · obtain ⟨mm, rfl⟩ : ∃ mm : Nat, most = (mm : Int) := ⟨most.toNat, by omega⟩
      have HM := Lib.hid (HE.out mm (by omega))
      have d0 : (0 : Int) < (mm : Int) := by omega
      have d1 : mm < L.length := by omega
      go_enter Tryz.func9, Tryz.ntmps9
      go_wp2_with (first
        | (go_at_call 30; (with_reducible refine C1.out.mono ?_); rintro e w2 ⟨v2, rfl, ho2, hb2⟩; obtain ⟨A2, c2, rfl⟩ := ho2.len; have HO2 := Lib.hid ho2; have HB2 := Lib.hid hb2; have HS2 := Lib.hid (HC.out w2 A2 c2 (mm) ho2 (by omega)); have q1 := HS2.out.1.1; have q2 := HS2.out.1.2; have q3 : ((mm : Nat) : Int) ≤ (c2 : Int) := (by omega); have q4 : (0 : Int) ≤ (c2 : Int) := (by omega); have L2 := Lib.hid (idtClip A2 (mm) c2 w2 q1 q2); clear ho2 hb2)
        | (go_at_call 31; (with_reducible refine L2.out.mono ?_); rintro e w3 ⟨rfl, rfl⟩))
      go_ret
      exact ⟨_, A2, mm, c2, rfl, by rw [HM.out, List.length_take]; omega, by rw [HLW.out], by rw [HLW.out]; exact HO2.out, by rw [HM.out]; exact HS2.out.2, HB2.out⟩
    · by_cases h2 : (L.length : Int) < most
      · have HM := Lib.hid (HE.out L.length (by omega))
        have d0 : (0 : Int) < most := by omega
        go_enter Tryz.func9, Tryz.ntmps9
        go_wp2_with (first
          | (go_at_call 30; (with_reducible refine C1.out.mono ?_); rintro e w2 ⟨v2, rfl, ho2, hb2⟩; obtain ⟨A2, c2, rfl⟩ := ho2.len; have HO2 := Lib.hid ho2; have HB2 := Lib.hid hb2; have HS2 := Lib.hid (HC.out w2 A2 c2 (L.length) ho2 (by omega)); have q1 := HS2.out.1.1; have q2 := HS2.out.1.2; have q3 : ((L.length : Nat) : Int) ≤ (c2 : Int) := (by omega); have q4 : (0 : Int) ≤ (c2 : Int) := (by omega); have L2 := Lib.hid (idtClip A2 (L.length) c2 w2 q1 q2); clear ho2 hb2)
          | (go_at_call 31; (with_reducible refine L2.out.mono ?_); rintro e w3 ⟨rfl, rfl⟩))
        go_ret
        exact ⟨_, A2, L.length, c2, rfl, by rw [HM.out, List.length_take]; omega, by rw [HLW.out], by rw [HLW.out]; exact HO2.out, by rw [HM.out]; exact HS2.out.2, HB2.out⟩
      · obtain rfl : most = (L.length : Int) := by omega
        have HM := Lib.hid (HE.out L.length (by omega))
        have d0 : (0 : Int) < (L.length : Int) := by omega
        go_enter Tryz.func9, Tryz.ntmps9
        go_wp2_with (first
          | (go_at_call 30; (with_reducible refine C1.out.mono ?_); rintro e w2 ⟨v2, rfl, ho2, hb2⟩; obtain ⟨A2, c2, rfl⟩ := ho2.len; have HO2 := Lib.hid ho2; have HB2 := Lib.hid hb2; have HS2 := Lib.hid (HC.out w2 A2 c2 (L.length) ho2 (by omega)); have q1 := HS2.out.1.1; have q2 := HS2.out.1.2; have q3 : ((L.length : Nat) : Int) ≤ (c2 : Int) := (by omega); have q4 : (0 : Int) ≤ (c2 : Int) := (by omega); have L2 := Lib.hid (idtClip A2 (L.length) c2 w2 q1 q2); clear ho2 hb2)
          | (go_at_call 31; (with_reducible refine L2.out.mono ?_); rintro e w3 ⟨rfl, rfl⟩))
        go_ret
        exact ⟨_, A2, L.length, c2, rfl, by rw [HM.out, List.length_take]; omega, by rw [HLW.out], by rw [HLW.out]; exact HO2.out, by rw [HM.out]; exact HS2.out.2, HB2.out⟩
end Go.Proofs.YtglkgmijhdkhpaaGreatDoor
/-
  A REGION walked once over any class of worlds that is closed under a draw: laws that name no program.
-/
set_option linter.unusedVariables false
namespace Go.Proofs.YtglkgmijhdkhpaaGreatDoor
open Go.RowKit

def Cls (C : World → Prop) : Type := { w : World // C w }
def Cls.wd {C : World → Prop} (x : Cls C) : World := x.val
theorem Cls.is {C : World → Prop} (x : Cls C) : C x.wd := x.property
def Cls.mk {C : World → Prop} {w : World} (h : C w) : Cls C := ⟨w, h⟩
theorem wp_region_cls {P : Program} {id : Nat} {Q : Exit → Act → World → Prop} {a : Act} {w : World} {l : List Oper} (C : World → Prop) (hm : P.follows .mixedOrders = true) (hB : Region.lexB .any l.toArray = true) (h0 : C w.drew)
    (h : Nonempty (Cls C) → wpQuiet P l.toArray (fun w' => ∃ x : Cls C, w' = x.wd) (fun a' => ∀ w', (∃ x : Cls C, w' = x.wd) → Q .normal a' w') l a) : (Code.region id l.toArray true).wp P Q a w :=
  wp_region_quiet (C := fun w' => ∃ x : Cls C, w' = x.wd) hm hB ⟨Cls.mk h0, rfl⟩ (by simpa using h ⟨Cls.mk h0⟩)
theorem wp_region_cls_plain {P : Program} {id : Nat} {Q : Exit → Act → World → Prop} {a : Act} {w : World} {l : List Oper} (C : World → Prop) (h0 : C w)
    (h : Nonempty (Cls C) → wpQuiet P l.toArray (fun w' => ∃ x : Cls C, w' = x.wd) (fun a' => ∀ w', (∃ x : Cls C, w' = x.wd) → Q .normal a' w') l a) : (Code.region id l.toArray false).wp P Q a w :=
  wp_region_lit (wpList_of_quiet (C := fun w' => ∃ x : Cls C, w' = x.wd) (fun _ w' hw h => h w' hw) l a w ⟨Cls.mk h0, rfl⟩ (h ⟨Cls.mk h0⟩))
/-- A callee's contract, met in a world of the class. -/
theorem cls_of {P : Program} {f : FuncId} {args : Array Value} {C : World → Prop} {v : Value} (x : Cls C) (h : Calls P f args x.wd fun e w' => e = .returned v ∧ C w') :
    Calls P f args x.wd fun e w'' => e = .returned v ∧ ∃ y : Cls C, w'' = y.wd := h.mono fun _ w' ⟨he, hb⟩ => ⟨he, Cls.mk hb, rfl⟩
end Go.Proofs.YtglkgmijhdkhpaaGreatDoor
/-
  limpetref17, 1: Of, Right, Members, Good, Older: contracts.
-/
set_option linter.unusedVariables false
set_option linter.unusedSimpArgs false
namespace Go.Proofs.YtglkgmijhdkhpaaGreatDoor
open Go.RowKit

set_option maxHeartbeats 400000 in
theorem refOf (x : Ent) (w : World) :
    Calls Tryz.prog 42 #[.agg #[.int .i64 x.idx, .int .i64 x.trm, .int .i64 x.knd, .slice x.ba x.bd.length x.bc]] w fun e w' => e = .returned (.agg #[.int .i64 x.idx, .int .i64 x.trm, .int .i64 x.knd]) ∧ Below w.heap.size w w' := by
  go_enter Tryz.func42, Tryz.ntmps42
  go_wp2_with fail
  refine bodyPost_ret (v := .agg #[.int .i64 x.idx, .int .i64 x.trm, .int .i64 x.knd]) (by simp [results, Tryz.results42, go_sem]) rfl ⟨rfl, ?_⟩
  first | exact below_call (below_new _ _) (below_new _ _) | exact below_new _ _ | (repeat (first | exact Below.refl _ _ | refine Below.alloc ?_ (by simp) _ | refine below_set ?_ (by simp)))

theorem memFrom_next {p x : Int} {l : List Int} {k : Nat} (hp : 0 ≤ p) (hm : memFrom 0 l = memFrom p (l.drop k)) (hx : l[k]? = some x) : memFrom 0 l = (decide (p < x ∧ x ≤ 7) && memFrom x (l.drop (k + 1))) := by
  rw [hm, drop_at hx]
  show (decide (1 ≤ x ∧ x ≤ 7 ∧ p < x) && memFrom x (l.drop (k + 1))) = _
  congr 1
  rw [decide_eq_decide]; omega

set_option maxHeartbeats 400000 in
theorem refRight (l : List Int) (v : Value) (w : World) (h : Sl 1 i64Row w.heap.size w v l) :
    Calls Tryz.prog 120 #[v] w fun e w' => e = .returned (.bool (memRight l)) ∧ w = w' := by
  obtain ⟨A, cap, rfl, hlc, hcm, -, hA⟩ := h
  have hn : l.length ≤ 9223372036854775807 := by unfold maxLen at hcm; omega
  clear hcm
  go_enter Tryz.func120, Tryz.ntmps120
  go_wp2_with fail
  go_loop [3, 4] (fun q j => ∃ (k : Nat) (p : Int), k ≤ l.length ∧ j = .int .i64 k ∧ q = .int .i64 p ∧ 0 ≤ p ∧ memFrom 0 l = memFrom p (l.drop k)) (fun _ j => l.length - (intOf j).toNat)
  case atStart => exact ⟨0, 0, by omega, rfl, rfl, by omega, by simp⟩
  case round =>
    obtain ⟨k, p, hk, rfl, rfl, hp, hm⟩ := hrel
    by_cases hlt : k < l.length
    · obtain ⟨b, off, rfl, hb, hcell⟩ := hA (by intro h; subst h; simp at hlt)
      obtain ⟨x, hx⟩ : ∃ x, l[k]? = some x := ⟨_, List.getElem?_eq_getElem hlt⟩
      have c0 : w.cell? ⟨b, off + k, none⟩ = some (.int .i64 x) := by simpa using hcell k x hx 0 _ rfl
      have HM := Lib.hid (memFrom_next hp hm hx)
      have i0 : (0 : Int) ≤ (k : Int) := by omega
      have i1 : (k : Int) < (l.length : Int) := by omega
      have d0 : decide ((k : Int) < (l.length : Int)) = true := decide_eq_true i1
      have d0' : decide (k < l.length) = true := decide_eq_true hlt
      clear hcell hx hm
      by_cases g1 : x ≤ p
      · have d1 : decide (x ≤ p) = true := decide_eq_true g1
        go_wp2_with fail
        go_ret
        exact ⟨ret_bool (by rw [memRight, HM.out, decide_eq_false (by omega)]; rfl), rfl⟩
      · have d1 : decide (x ≤ p) = false := decide_eq_false g1
        by_cases g2 : 7 < x
        · have d2 : decide (7 < x) = true := decide_eq_true g2
          go_wp2_with fail
          go_ret
          exact ⟨ret_bool (by rw [memRight, HM.out, decide_eq_false (by omega)]; rfl), rfl⟩
        · have d2 : decide (7 < x) = false := decide_eq_false g2
          have HM2 := Lib.hid (show memFrom 0 l = memFrom x (l.drop (k + 1)) by rw [HM.out, decide_eq_true (by omega)]; rfl)
          have hx0 : 0 ≤ x := by omega
          clear HM
          go_wp2_with fail
          go_round
          case rel => exact ⟨k + 1, x, by omega, by go_num, rfl, hx0, HM2.out⟩
          case measure => simp [intOf]; omega
    · have hk' : k = l.length := by omega
      have d0 : decide ((k : Int) < (l.length : Int)) = false := decide_eq_false (by omega)
      have d0' : decide (k < l.length) = false := decide_eq_false hlt
      have HM := Lib.hid (show memFrom 0 l = true by rw [hm, hk']; simp [memFrom])
      clear hm hp hk'
      go_wp2_with fail
      go_ret
      exact ⟨ret_bool (by rw [memRight, HM.out]; cases l <;> simp), rfl⟩

theorem memOk_take {b : List Int} {k : Nat} (hk : k = b.length ∧ k ≤ 8 ∨ k = 8 ∧ 8 ≤ b.length) : memRight (b.take k) = memOk b := by
  unfold memOk
  rcases hk with ⟨rfl, h8⟩ | ⟨rfl, h8⟩
  · rw [List.take_length]
    by_cases h : b.length ≤ 7
    · rw [decide_eq_true h]; rfl
    · rw [decide_eq_false h]
      cases hm : memRight b with
      | false => rfl
      | true => exact absurd (memRight_short hm) h
  · rw [decide_eq_false (by omega)]
    cases hm : memRight (b.take 8) with
    | false => rfl
    | true => have := memRight_short hm; rw [List.length_take] at this; omega
theorem memOk_len {b : List Int} (h : memOk b = true) : b.length ≤ 7 := by unfold memOk at h; simp only [Bool.and_eq_true, decide_eq_true_eq] at h; exact h.1

set_option maxHeartbeats 1000000 in
theorem refMembers (b : List Int) (hbb : ∀ x ∈ b, 0 ≤ x ∧ x ≤ 255) (v : Value) (w : World) (h : Sl 1 u8Row w.heap.size w v b) :
    Calls Tryz.prog 103 #[v] w (MemPost b w) := by
  obtain ⟨A, cap, rfl, hlc, hcm, -, hA⟩ := h
  have hn : b.length ≤ 9223372036854775807 := by unfold maxLen at hcm; omega
  clear hcm
  have HA := Lib.hid hA
  have HBB := Lib.hid hbb
  clear hA hbb
  go_enter Tryz.func103, Tryz.ntmps103
  go_wp2_with fail
  go_loopw [4, 5] (fun o i wr => ∃ k : Nat, k ≤ b.length ∧ k ≤ 8 ∧ i = .int .i64 k ∧ Own 1 i64Row 3 w.heap.size wr o (b.take k) ∧ Below w.heap.size w wr) (fun _ i _ => b.length - (intOf i).toNat)
  case atStart => exact ⟨0, by omega, by omega, rfl, Own.nil_ _ _ _ _ _, Below.refl _ _⟩
  case round =>
    obtain ⟨k, hk, hk8, rfl, hown, hB⟩ := hrel
    have i0 : (0 : Int) ≤ (k : Int) := by omega
    by_cases hlt : k < b.length
    · have i1 : (k : Int) < (b.length : Int) := by omega
      have d0 : decide ((k : Int) < (b.length : Int)) = true := decide_eq_true i1
      have d0' : decide (k < b.length) = true := decide_eq_true hlt
      by_cases h7 : k ≤ 7
      · have d1 : decide ((k : Int) ≤ 7) = true := decide_eq_true (by omega)
        have d1' : decide (k ≤ 7) = true := decide_eq_true h7
        have i7 : (k : Int) ≤ 7 := by omega
        obtain ⟨bb, off, rfl, hbl, hcell⟩ := HA.out (by intro h; subst h; simp at hlt)
        obtain ⟨x, hx⟩ : ∃ x, b[k]? = some x := ⟨_, List.getElem?_eq_getElem hlt⟩
        have c0 : wr.cell? ⟨bb, off + k, none⟩ = some (.int .u8 x) := by
          have := (hB.cell (p := ⟨bb, off + k * 1 + 0, none⟩) hbl).trans (hcell k x hx 0 _ rfl)
          simpa using this
        obtain ⟨x0, x1⟩ := HBB.out x (List.mem_of_getElem? hx)
        have hwx : IntKind.i64.wrap x = x := IntWalk.i64_in _ (by omega)
        have HX := Lib.hid hx
        have HO := Lib.hid hown
        have HB := Lib.hid hB
        have hz := hB.size
        have hle : (b.take k).length ≤ 8 := by have := List.length_take_le k b; omega
        clear hcell hx hown hB
        go_wp2_with (at_builtin; refine wpList_append_row _ rfl (.tmp 16) (.tmp 22) 39 rfl w.heap.size 3 _ 1 8 Tryz.underlying39 intInfo rfl (Nat.succ_pos 0) i64Row i64Row_length i64Row_one _ _ rfl HO.out x _ rfl 3 _ rfl rfl (by omega) (by omega) hz ?_; intro v' w' p1 p2 p3 p4 p5)
        have HP := Lib.hid p1
        have HB2 := Lib.hid (HB.out.trans p2)
        clear p1 p2 p3 p4 p5
        go_roundw
        case rel => exact ⟨k + 1, by omega, by omega, by go_num, by rw [take_at HX.out]; exact HP.out, HB2.out⟩
        case measure => simp [intOf]; omega
      · have d1 : decide ((k : Int) ≤ 7) = false := decide_eq_false (by omega)
        have d1' : decide (k ≤ 7) = false := decide_eq_false h7
        have i7 : (7 : Int) < (k : Int) := by omega
        have HK := Lib.hid (memOk_take (b := b) (k := k) (.inr (by omega)))
        have HNO := Lib.hid (show memOk b = false by cases hm : memOk b with | false => rfl | true => have := memOk_len hm; omega)
        have HS := Lib.hid (hown.sl i64Row_length)
        have HB := Lib.hid hB
        clear hown hB
        go_wp2_with (go_at_call 120; refine (refRight (b.take k) _ _ HS.out).mono ?_; rintro e w2 ⟨rfl, rfl⟩; rw [HK.out, HNO.out])
        go_ret2
        exact memPost_no HNO.out HB.out
    · have d0 : decide ((k : Int) < (b.length : Int)) = false := decide_eq_false (by omega)
      have d0' : decide (k < b.length) = false := decide_eq_false hlt
      have i1 : (b.length : Int) ≤ (k : Int) := by omega
      have HK := Lib.hid (memOk_take (b := b) (k := k) (.inl (by omega)))
      have HTK := Lib.hid (show b.take k = b by rw [show k = b.length by omega, List.take_length])
      have HO := Lib.hid hown
      have HS := Lib.hid (hown.sl i64Row_length)
      have HB := Lib.hid hB
      clear hown hB
      cases hm : memOk b with
      | false =>
        have HNO := Lib.hid hm
        clear hm
        go_wp2_with (go_at_call 120; refine (refRight (b.take k) _ _ HS.out).mono ?_; rintro e w2 ⟨rfl, rfl⟩; rw [HK.out, HNO.out])
        go_ret2
        exact memPost_no HNO.out HB.out
      | true =>
        have HNO := Lib.hid hm
        clear hm
        go_wp2_with (go_at_call 120; refine (refRight (b.take k) _ _ HS.out).mono ?_; rintro e w2 ⟨rfl, rfl⟩; rw [HK.out, HNO.out])
        go_ret2
        exact memPost_yes HNO.out (by have := HO.out; rw [HTK.out] at this; exact this) HB.out

set_option maxHeartbeats 2000000 in
theorem refGood (x : Ent) (w : World) (hx : EntIn w.heap.size w x) :
    Calls Tryz.prog 76 #[.agg #[.int .i64 x.idx, .int .i64 x.trm, .int .i64 x.knd, .slice x.ba x.bd.length x.bc]] w fun e w' => e = .returned (.bool (goodE x)) ∧ Below w.heap.size w w' := by
  have HX := Lib.hid hx
  clear hx
  by_cases g0 : x.idx < 1
  · have d0 : decide (x.idx < 1) = true := decide_eq_true g0
    have HGD := Lib.hid (show goodE x = false from good_false (by unfold rangeE; simp only [Bool.and_eq_false_iff, decide_eq_false_iff_not]; omega))
    go_enter Tryz.func76, Tryz.ntmps76
    go_wp2_with fail
    go_ret
    exact ⟨ret_bool HGD.out.symm, below_new _ _⟩
  · have d0 : decide (x.idx < 1) = false := decide_eq_false g0
    by_cases g1 : 1099511627776 < x.idx
    · have d1 : decide (1099511627776 < x.idx) = true := decide_eq_true g1
      have HGD := Lib.hid (show goodE x = false from good_false (by unfold rangeE; simp only [Bool.and_eq_false_iff, decide_eq_false_iff_not]; omega))
      go_enter Tryz.func76, Tryz.ntmps76
      go_wp2_with fail
      go_ret
      exact ⟨ret_bool HGD.out.symm, below_new _ _⟩
    · have d1 : decide (1099511627776 < x.idx) = false := decide_eq_false g1
      by_cases g2 : x.trm < 0
      · have d2 : decide (x.trm < 0) = true := decide_eq_true g2
        have HGD := Lib.hid (show goodE x = false from good_false (by unfold rangeE; simp only [Bool.and_eq_false_iff, decide_eq_false_iff_not]; omega))
        go_enter Tryz.func76, Tryz.ntmps76
        go_wp2_with fail
        go_ret
        exact ⟨ret_bool HGD.out.symm, below_new _ _⟩
      · have d2 : decide (x.trm < 0) = false := decide_eq_false g2
        by_cases g3 : 1099511627776 < x.trm
        · have d3 : decide (1099511627776 < x.trm) = true := decide_eq_true g3
          have HGD := Lib.hid (show goodE x = false from good_false (by unfold rangeE; simp only [Bool.and_eq_false_iff, decide_eq_false_iff_not]; omega))
          go_enter Tryz.func76, Tryz.ntmps76
          go_wp2_with fail
          go_ret
          exact ⟨ret_bool HGD.out.symm, below_new _ _⟩
        · have d3 : decide (1099511627776 < x.trm) = false := decide_eq_false g3
          by_cases g4 : 200 < x.bd.length
          · have d4 : decide (200 < x.bd.length) = true := decide_eq_true g4
            have d9 : decide (200 < (x.bd.length : Int)) = true := decide_eq_true (by omega)
            have HGD := Lib.hid (show goodE x = false from good_false (by unfold rangeE; simp only [Bool.and_eq_false_iff, decide_eq_false_iff_not]; omega))
            go_enter Tryz.func76, Tryz.ntmps76
            go_wp2_with fail
            go_ret
            exact ⟨ret_bool HGD.out.symm, below_new _ _⟩
          · have d4 : decide (200 < x.bd.length) = false := decide_eq_false g4
            have d9 : decide (200 < (x.bd.length : Int)) = false := decide_eq_false (by omega)
            by_cases k1 : x.knd = 1
            · have e1 : (x.knd == 1) = true := by simpa using k1
              have HR := Lib.hid (show rangeE x = true by unfold rangeE; simp only [Bool.and_eq_true, decide_eq_true_eq]; omega)
              have HGD := Lib.hid (good_none HR.out k1)
              by_cases z : x.bd.length = 0
              · have ez : ((x.bd.length : Int) == 0) = true := by rw [beq_iff_eq]; omega
                have ez2 : decide (x.bd.length = 0) = true := decide_eq_true z
                have HGD := Lib.hid (HGD.out.trans ez2)
                clear z k1
                go_enter Tryz.func76, Tryz.ntmps76
                go_wp2_with fail
                go_ret
                exact ⟨ret_bool HGD.out.symm, below_new _ _⟩
              · have ez : ((x.bd.length : Int) == 0) = false := by rw [beq_eq_false_iff_ne]; omega
                have ez2 : decide (x.bd.length = 0) = false := decide_eq_false z
                have HGD := Lib.hid (HGD.out.trans ez2)
                clear z k1
                go_enter Tryz.func76, Tryz.ntmps76
                go_wp2_with fail
                go_ret
                exact ⟨ret_bool HGD.out.symm, below_new _ _⟩
            · have e1 : (x.knd == 1) = false := by simpa using k1
              by_cases k2 : x.knd = 2
              · have e2 : (x.knd == 2) = true := by simpa using k2
                have HR := Lib.hid (show rangeE x = true by unfold rangeE; simp only [Bool.and_eq_true, decide_eq_true_eq]; omega)
                have HGD := Lib.hid (good_com HR.out k2)
                clear k1 k2
                go_enter Tryz.func76, Tryz.ntmps76
                go_wp2_with fail
                go_ret
                exact ⟨ret_bool HGD.out.symm, below_new _ _⟩
              · have e2 : (x.knd == 2) = false := by simpa using k2
                by_cases k3 : x.knd = 3
                · have e3 : (x.knd == 3) = true := by simpa using k3
                  have HR := Lib.hid (show rangeE x = true by unfold rangeE; simp only [Bool.and_eq_true, decide_eq_true_eq]; omega)
                  have HGD := Lib.hid (good_grp HR.out k1 k2)
                  clear k1 k2 k3
                  cases hm : memOk x.bd with
                  | true =>
                    have HM := Lib.hid hm
                    have HGD := Lib.hid (HGD.out.trans hm)
                    clear hm
                    go_enter Tryz.func76, Tryz.ntmps76
                    go_wp2_with (go_at_call 103; refine (refMembers x.bd HX.out.2 _ _ (HX.out.later (below_new _ _)).1).mono ?_; rintro e w2 ⟨v2, rfl, -, hb2⟩; rw [HM.out])
                    go_ret
                    exact ⟨ret_bool HGD.out.symm, below_call (below_new _ _) hb2⟩
                  | false =>
                    have HM := Lib.hid hm
                    have HGD := Lib.hid (HGD.out.trans hm)
                    clear hm
                    go_enter Tryz.func76, Tryz.ntmps76
                    go_wp2_with (go_at_call 103; refine (refMembers x.bd HX.out.2 _ _ (HX.out.later (below_new _ _)).1).mono ?_; rintro e w2 ⟨v2, rfl, -, hb2⟩; rw [HM.out])
                    go_ret
                    exact ⟨ret_bool HGD.out.symm, below_call (below_new _ _) hb2⟩
                · have e3 : (x.knd == 3) = false := by simpa using k3
                  have HGD := Lib.hid (show goodE x = false from good_false (by unfold rangeE; simp only [Bool.and_eq_false_iff, decide_eq_false_iff_not]; omega))
                  clear k1 k2 k3
                  go_enter Tryz.func76, Tryz.ntmps76
                  go_wp2_with fail
                  go_ret
                  exact ⟨ret_bool HGD.out.symm, below_new _ _⟩

end Go.Proofs.YtglkgmijhdkhpaaGreatDoor
/-
  limpetkit's SameBytes: contract.
-/
namespace Go.Proofs.YtglkgmijhdkhpaaGreatDoor
open Go.RowKit
set_option linter.unusedVariables false

set_option maxHeartbeats 1000000 in
theorem sameBytes (l : List Int) (v v' : Value) (w : World) (h : Sl 1 u8Row w.heap.size w v l) (h' : Sl 1 u8Row w.heap.size w v' l) :
    Calls Tryz.prog 75 #[v, v'] w fun e w' => e = .returned (.bool true) ∧ ∃ n, w' = w.drewN n := by
  obtain ⟨A, cap, rfl, hlc, hcm, -, hA⟩ := h
  obtain ⟨A', cap', rfl, hlc', hcm', -, hA'⟩ := h'
  have hn : l.length ≤ 9223372036854775807 := by unfold maxLen at hcm; omega
  clear hcm hcm'
  go_enter Tryz.func75, Tryz.ntmps75
  go_wp2_with fail
  go_loopw [5] (fun i wr => ∃ k n : Nat, k ≤ l.length ∧ i = .int .i64 k ∧ wr = w.drewN n) (fun i _ => l.length - (intOf i).toNat)
  case atStart => exact ⟨0, 0, by omega, rfl, rfl⟩
  case round =>
    obtain ⟨k, n, hk, rfl, rfl⟩ := hrel
    by_cases hlt : k < l.length
    · obtain ⟨b, off, rfl, hb, hcell⟩ := hA (by intro h; subst h; simp at hlt)
      obtain ⟨b', off', rfl, hb', hcell'⟩ := hA' (by intro h; subst h; simp at hlt)
      obtain ⟨x, hx⟩ : ∃ x, l[k]? = some x := ⟨_, List.getElem?_eq_getElem hlt⟩
      have c0 : w.cell? ⟨b, off + k, none⟩ = some (.int .u8 x) := by simpa using hcell k x hx 0 _ rfl
      have c1 : w.cell? ⟨b', off' + k, none⟩ = some (.int .u8 x) := by simpa using hcell' k x hx 0 _ rfl
      have i0 : (0 : Int) ≤ (k : Int) := by omega
      have i1 : (k : Int) < (l.length : Int) := by omega
      clear hcell hcell' hx hA hA'
      go_wp2_with fail
      go_quiet (fail)
      go_wp2_with fail
      go_roundw
      case rel => exact ⟨k + 1, _, by omega, by go_num, rfl⟩
      case measure => simp [intOf]; omega
    · go_wp2_with fail
      go_ret
      exact ⟨rfl, n, rfl⟩
end Go.Proofs.YtglkgmijhdkhpaaGreatDoor
