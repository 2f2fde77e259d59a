/-
  slices.Sort at []int: the shelf's contract, laid at this program.
-/
import Derived.Shelf.SortM.Plain
import Derived.Shelf.SortM.SortNone
import Derived.Test.YtclphcbjdcdkfaaDoorProg
set_option linter.unusedVariables false
namespace Go.Proofs.YtclphcbjdcdkfaaDoor
open Go.RowKit Go.Sort Go.Shelf

def sortF (n : FuncId) : FuncId := match n with
    | 0 => 0
    | 1 => 1
    | 2 => 2
    | 5 => 76
    | 7 => 80
    | 8 => 81
    | 10 => 85
    | 11 => 86
    | 12 => 87
    | 13 => 88
    | 14 => 89
    | 15 => 90
    | 16 => 91
    | 17 => 92
    | 18 => 93
    | 19 => 94
    | 20 => 95
    | 30 => 97
    | 31 => 98
    | 32 => 99
    | 33 => 100
    | 34 => 101
    | 35 => 102
    | 40 => 103
    | _ => 0
def sortT (n : TypeId) : TypeId := match n with
    | 0 => 0
    | 1 => 1
    | 2 => 2
    | 3 => 3
    | 4 => 4
    | 5 => 5
    | 6 => 6
    | 7 => 7
    | 8 => 8
    | 9 => 9
    | 10 => 10
    | 11 => 11
    | 12 => 12
    | 13 => 13
    | 14 => 14
    | 15 => 15
    | 16 => 16
    | 17 => 17
    | 18 => 18
    | 19 => 19
    | 20 => 20
    | 21 => 21
    | 22 => 45
    | 23 => 45
    | 24 => 148
    | 25 => 3
    | 30 => 151
    | 31 => 152
    | 32 => 153
    | 34 => 156
    | 35 => 157
    | 36 => 158
    | 37 => 159
    | 38 => 160
    | 39 => 161
    | 40 => 162
    | 41 => 163
    | 42 => 164
    | 43 => 165
    | 44 => 166
    | 45 => 167
    | 46 => 168
    | 53 => 169
    | 54 => 170
    | 55 => 171
    | 56 => 172
    | 57 => 173
    | 58 => 174
    | 59 => 87
    | 63 => 175
    | 64 => 52
    | 65 => 176
    | _ => 0
def sortRen : Ren := ⟨sortF, sortT, fun n => n⟩
set_option maxHeartbeats 4000000 in
theorem sortLays : SlLaysM.n5 Tryd.prog sortRen where
  mixed := by kernel_rfl
  f5 := ⟨Tryd.f76.name, by kernel_rfl, Tryd.func76.trans (congrArg some (by kernel_rfl))⟩
  f7 := ⟨Tryd.f80.name, by kernel_rfl, Tryd.func80.trans (congrArg some (by kernel_rfl))⟩
  f8 := Tryd.func81.trans (congrArg some (by kernel_rfl))
  f10 := ⟨Tryd.f85.name, by kernel_rfl, Tryd.func85.trans (congrArg some (by kernel_rfl))⟩
  f11 := ⟨Tryd.f86.name, by kernel_rfl, Tryd.func86.trans (congrArg some (by kernel_rfl))⟩
  f12 := ⟨Tryd.f87.name, by kernel_rfl, Tryd.func87.trans (congrArg some (by kernel_rfl))⟩
  f13 := ⟨Tryd.f88.name, by kernel_rfl, Tryd.func88.trans (congrArg some (by kernel_rfl))⟩
  f14 := ⟨Tryd.f89.name, by kernel_rfl, Tryd.func89.trans (congrArg some (by kernel_rfl))⟩
  f15 := ⟨Tryd.f90.name, by kernel_rfl, Tryd.func90.trans (congrArg some (by kernel_rfl))⟩
  f16 := ⟨Tryd.f91.name, by kernel_rfl, Tryd.func91.trans (congrArg some (by kernel_rfl))⟩
  f17 := ⟨Tryd.f92.name, by kernel_rfl, Tryd.func92.trans (congrArg some (by kernel_rfl))⟩
  f18 := ⟨Tryd.f93.name, by kernel_rfl, Tryd.func93.trans (congrArg some (by kernel_rfl))⟩
  f19 := Tryd.func94.trans (congrArg some (by kernel_rfl))
  f20 := Tryd.func95.trans (congrArg some (by kernel_rfl))
  f30 := ⟨Tryd.f97.name, by kernel_rfl, Tryd.func97.trans (congrArg some (by kernel_rfl))⟩
  f31 := Tryd.func98.trans (congrArg some (by kernel_rfl))
  f32 := Tryd.func99.trans (congrArg some (by kernel_rfl))
  f33 := ⟨Tryd.f100.name, by kernel_rfl, Tryd.func100.trans (congrArg some (by kernel_rfl))⟩
  f34 := ⟨Tryd.f101.name, by kernel_rfl, Tryd.func101.trans (congrArg some (by kernel_rfl))⟩
  f35 := ⟨Tryd.f102.name, by kernel_rfl, Tryd.func102.trans (congrArg some (by kernel_rfl))⟩
  f40 := ⟨Tryd.f103.name, by kernel_rfl, Tryd.func103.trans (congrArg some (by kernel_rfl))⟩
  t0 := by kernel_rfl
  a0 := fun w => by kernel_rfl
  z0 := fun w => by kernel_rfl
  v0 := fun w => by kernel_rfl
  t3 := by kernel_rfl
  a3 := fun w => by kernel_rfl
  z3 := fun w => by kernel_rfl
  v3 := fun w => by kernel_rfl
  t4 := by kernel_rfl
  a4 := fun w => by kernel_rfl
  z4 := fun w => by kernel_rfl
  v4 := fun w => by kernel_rfl
  t5 := by kernel_rfl
  a5 := fun w => by kernel_rfl
  z5 := fun w => by kernel_rfl
  v5 := fun w => by kernel_rfl
  t9 := by kernel_rfl
  a9 := fun w => by kernel_rfl
  z9 := fun w => by kernel_rfl
  v9 := fun w => by kernel_rfl
  t22 := by kernel_rfl
  a22 := fun w => by kernel_rfl
  z22 := fun w => by kernel_rfl
  v22 := fun w => by kernel_rfl
  t23 := by kernel_rfl
  a23 := fun w => by kernel_rfl
  z23 := fun w => by kernel_rfl
  v23 := fun w => by kernel_rfl
  t25 := by kernel_rfl
  a25 := fun w => by kernel_rfl
  z25 := fun w => by kernel_rfl
  v25 := fun w => by kernel_rfl
  t32 := by kernel_rfl
  a32 := fun w => by kernel_rfl
  z32 := fun w => by kernel_rfl
  v32 := fun w => by kernel_rfl
  t35 := by kernel_rfl
  a35 := fun w => by kernel_rfl
  z35 := fun w => by kernel_rfl
  v35 := fun w => by kernel_rfl
  t36 := by kernel_rfl
  a36 := fun w => by kernel_rfl
  z36 := fun w => by kernel_rfl
  v36 := fun w => by kernel_rfl
  t41 := by kernel_rfl
  a41 := fun w => by kernel_rfl
  z41 := fun w => by kernel_rfl
  v41 := fun w => by kernel_rfl
  t44 := by kernel_rfl
  a44 := fun w => by kernel_rfl
  z44 := fun w => by kernel_rfl
  v44 := fun w => by kernel_rfl
  t46 := by kernel_rfl
  a46 := fun w => by kernel_rfl
  z46 := fun w => by kernel_rfl
  v46 := fun w => by kernel_rfl
  t53 := by kernel_rfl
  a53 := fun w => by kernel_rfl
  z53 := fun w => by kernel_rfl
  v53 := fun w => by kernel_rfl
  t57 := by kernel_rfl
  a57 := fun w => by kernel_rfl
  z57 := fun w => by kernel_rfl
  v57 := fun w => by kernel_rfl
  t63 := by kernel_rfl
  a63 := fun w => by kernel_rfl
  z63 := fun w => by kernel_rfl
  v63 := fun w => by kernel_rfl
  t64 := by kernel_rfl
  a64 := fun w => by kernel_rfl
  z64 := fun w => by kernel_rfl
  v64 := fun w => by kernel_rfl

theorem sortInts (blk off cap : Nat) (zs : List Int) (w : World) (hH : Holds (Value.int .i64) w blk off zs.toArray) (hblk : blk < w.heap.size) (hsz : zs.length < 4611686018427387904) :
    Calls Tryd.prog 76 #[.slice (some ⟨blk, off, none⟩) zs.length cap] w fun e w' =>
      e = .returned (.tuple #[]) ∧ ∃ n os, w' = grow (putRow (Value.int .i64) (Sort.ahead w n) blk off (zs.mergeSort fun x y => decide (x ≤ y)).toArray) os :=
  AnyM.slices_Sort_int sortLays blk off cap zs w hH hblk hsz
theorem sortNone (p : Option Addr) (cap : Nat) (w : World) : Calls Tryd.prog 76 #[.slice p 0 cap] w fun e w' => e = .returned (.tuple #[]) ∧ w' = w :=
  AnyM.slices_Sort_int_none sortLays p cap w
end Go.Proofs.YtclphcbjdcdkfaaDoor
