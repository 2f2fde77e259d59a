/-
  maps.Keys at a ward, slices.Sorted at int: the shelf's contracts, laid at this program.
-/
import Derived.Shelf.SlIterI.Nil
import Derived.Test.YtnmlmnhgjnkbhaaSortLay
import Derived.Test.YtnmlmnhgjnkbhaaWard2
set_option linter.unusedVariables false
set_option linter.unusedSimpArgs false
namespace Go.Proofs.Ytnmlmnhgjnkbhaa
open Go.RowKit Go.Maps Go.Sort Go.Shelf

def keyF (n : FuncId) : FuncId := match n with
    | 6 => 38
    | 7 => 39
    | 8 => 44
    | 9 => 31
    | 10 => 45
    | 11 => 57
    | _ => 0
def keyT (n : TypeId) : TypeId := match n with
    | 0 => 0
    | 1 => 1
    | 2 => 2
    | 3 => 41
    | 4 => 4
    | 5 => 5
    | 20 => 20
    | 21 => 21
    | 22 => 49
    | 23 => 50
    | 24 => 23
    | 25 => 66
    | 26 => 3
    | 27 => 67
    | 28 => 68
    | 29 => 69
    | 32 => 55
    | 33 => 79
    | 34 => 104
    | _ => 0
def keyRen : Ren := ⟨keyF, keyT, fun n => n⟩
set_option maxHeartbeats 4000000 in
theorem sortedLays : SlLaysZI.n6 Try.prog keyRen where
  mixed := by kernel_rfl
  f6 := ⟨Try.f38.name, by kernel_rfl, Try.func38.trans (congrArg some (by kernel_rfl))⟩
  f8 := ⟨Try.f44.name, by kernel_rfl, Try.func44.trans (congrArg some (by kernel_rfl))⟩
  f11 := ⟨Try.f57.name, by kernel_rfl, Try.func57.trans (congrArg some (by kernel_rfl))⟩
  t0 := by kernel_rfl
  a0 := fun w => by kernel_rfl
  z0 := fun w => by kernel_rfl
  v0 := fun w => by kernel_rfl
  t24 := by kernel_rfl
  a24 := fun w => by kernel_rfl
  z24 := fun w => by kernel_rfl
  v24 := fun w => by kernel_rfl
  t26 := by kernel_rfl
  a26 := fun w => by kernel_rfl
  z26 := fun w => by kernel_rfl
  v26 := fun w => by kernel_rfl
  t28 := by kernel_rfl
  a28 := fun w => by kernel_rfl
  z28 := fun w => by kernel_rfl
  v28 := fun w => by kernel_rfl
  i26 := by kernel_rfl
set_option maxHeartbeats 4000000 in
theorem keysLays : SlLaysZI.n7 Try.prog keyRen where
  mixed := by kernel_rfl
  f7 := ⟨Try.f39.name, by kernel_rfl, Try.func39.trans (congrArg some (by kernel_rfl))⟩
  f10 := ⟨Try.f45.name, by kernel_rfl, Try.func45.trans (congrArg some (by kernel_rfl))⟩
  t0 := by kernel_rfl
  a0 := fun w => by kernel_rfl
  z0 := fun w => by kernel_rfl
  v0 := fun w => by kernel_rfl
  t4 := by kernel_rfl
  a4 := fun w => by kernel_rfl
  z4 := fun w => by kernel_rfl
  v4 := fun w => by kernel_rfl
  t23 := by kernel_rfl
  a23 := fun w => by kernel_rfl
  z23 := fun w => by kernel_rfl
  v23 := fun w => by kernel_rfl
  t26 := by kernel_rfl
  a26 := fun w => by kernel_rfl
  z26 := fun w => by kernel_rfl
  v26 := fun w => by kernel_rfl
  t27 := by kernel_rfl
  a27 := fun w => by kernel_rfl
  z27 := fun w => by kernel_rfl
  v27 := fun w => by kernel_rfl
  t28 := by kernel_rfl
  a28 := fun w => by kernel_rfl
  z28 := fun w => by kernel_rfl
  v28 := fun w => by kernel_rfl
  t33 := by kernel_rfl
  a33 := fun w => by kernel_rfl
  z33 := fun w => by kernel_rfl
  v33 := fun w => by kernel_rfl

theorem wardSorts (m : Nat) : AnyZI.SortsIn Try.prog keyRen Fence.wide m :=
  ⟨fun blk off cap ss W hH hblk hsz => callsIn_wide.2 (AnyM.slices_Sort_int sortLays blk off cap ss W hH hblk hsz),
   fun p cap W => callsIn_wide.2 (AnyM.slices_Sort_int_none sortLays p cap W)⟩
theorem wardKeys (mb : Option Nat) (w : World) : Calls Try.prog 39 #[.map mb] w fun e w' => e = .returned (.func (.func 45) #[] #[.pointer (some ⟨w.heap.size, 0, none⟩)]) ∧ w' = w.alloc (.cells #[.map mb] 50) :=
  (callsIn_wide (n := 5)).1 (AnyZI.keys_in keysLays Fence.wide 5 trivial rfl mb w)
/-- The keys, in whatever order the map gives them, sorted. -/
theorem wardSorted (b n : Nat) (f : WMap) (w : World) (hm : MapW w b n f) (hn : n ≤ 100000) :
    Calls Try.prog 38 #[.func (.func 45) #[] #[.pointer (some ⟨w.heap.size, 0, none⟩)]] (w.alloc (.cells #[.map (some b)] 50)) fun e w' =>
      ∃ (v : Value) (ks : List Int), e = .returned v ∧ ks.Pairwise (· < ·) ∧ (∀ m, m ∈ ks ↔ (f m).isSome = true) ∧ (∀ m ∈ ks, J64 m) ∧ ks.length ≤ n ∧ w'.ownsRow (w.heap.size + 1) 3 1 v ks.length (ks.map encZ) ∧ Below w.heap.size w w' := by
  obtain ⟨D, hown, hhas, -⟩ := hm
  have hbl := hown.lt
  have hsz := hown.size_le
  refine (callsIn_wide (n := 5)).1 ?_
  have hseq : SeqGives Fence.wide 2 Try.prog 45 #[.pointer (some ⟨w.heap.size, 0, none⟩)] encZ (fun ss => ss.Perm (intKeys D)) (Maps.size D) (w.alloc (.cells #[.map (some b)] 50)) :=
    AnyZI.keys_gives (ρ := keyRen) { keysLays with } Fence.wide _ trivial rfl (by omega) w.heap.size b n D _ (by simp) (by simp) (by
      obtain ⟨es, clock, hb, Ft, hs, hD⟩ := hown
      exact ⟨es, clock, (Below.heap_alloc _ _ b hbl).trans hb, Ft, hs, hD⟩)
  have cS := AnyZI.sorted_in sortedLays Fence.wide 5 trivial trivial trivial trivial rfl (by omega) (wardSorts _) (enters_of Try.func31 (by kernel_rfl) rfl) 45 #[.pointer (some ⟨w.heap.size, 0, none⟩)] trivial (enters_of Try.func45 (by kernel_rfl) rfl) _ _ (by unfold maxLen; omega) (by omega) _ hseq
  change CallsIn _ _ Try.prog 38 _ _ _ at cS
  refine cS.mono ?_
  rintro e w' ⟨v, ss, rfl, hS, hrow, hnil, hb⟩
  obtain ⟨k1, k2, k3, k4⟩ := MapAt.keys intK hown hhas hS
  refine ⟨v, _, rfl, k1, k2, k3, by rw [List.length_mergeSort]; exact k4, ?_, ((Below.refl _ w).alloc (Nat.le_refl _) _).trans (hb.mono (by simp))⟩
  rw [List.length_mergeSort]
  have hrow' : w'.ownsRow (w.heap.size + 1) (keyRen.t 26) 1 v ss.length ((ss.mergeSort fun x y => decide (x ≤ y)).map encZ) := by simpa using hrow
  exact hrow'
end Go.Proofs.Ytnmlmnhgjnkbhaa
