/-
  Merged: KitMark, FlatNil, Bag.
-/
import Derived.Test.YtglkgmijhdkhpaaGreatDoorHt19
import Derived.Test.YtglkgmijhdkhpaaGreatDoorHt4
import Derived.Test.YtglkgmijhdkhpaaGreatDoorHt9
import Derived.Test.YtglkgmijhdkhpaaGreatDoorHt10
/-
  limpetkit's marks: contracts.
-/
set_option linter.unusedVariables false
set_option linter.unusedSimpArgs false
namespace Go.Proofs.YtglkgmijhdkhpaaGreatDoor
open Go.RowKit

def mkI (k x : Int) : Int := 1000003 * (k + 7) + x
def mkB (k x : Int) : Int := IntKind.u64.wrap ((1000003 * (k + 7) + x) * 11400714819323198485) / 72057594037927936 % 256
theorem mkB_byte (k x : Int) : 0 ≤ mkB k x ∧ mkB k x ≤ 255 := by unfold mkB; omega
set_option maxHeartbeats 400000 in
theorem markAny (k x : Int) (w : World) (k0 : 0 ≤ k) (k1 : k ≤ 1000000) (h0 : 0 ≤ x) (h1 : x ≤ 1000000) : Calls Tryz.prog 55 #[.int .i64 k, .int .i64 x] w fun e w' => e = .returned (.int .i64 (mkI k x)) ∧ w = w' := by
  go_enter Tryz.func55, Tryz.ntmps55
  go_wp2
  go_ret
  exact ⟨rfl, rfl⟩
set_option maxHeartbeats 400000 in
theorem markByteAny (k x : Int) (w : World) (k0 : 0 ≤ k) (k1 : k ≤ 1000000) (h0 : 0 ≤ x) (h1 : x ≤ 1000000) : Calls Tryz.prog 95 #[.int .i64 k, .int .i64 x] w fun e w' => e = .returned (.int .u8 (mkB k x)) ∧ w = w' := by
  go_enter Tryz.func95, Tryz.ntmps95
  go_wp2_with (go_at_call 55; refine (markAny k x _ k0 k1 h0 h1).mono ?_; unfold mkI; rintro e w2 ⟨rfl, rfl⟩)
  go_ret
  exact ⟨rfl, rfl⟩
set_option maxHeartbeats 400000 in
theorem markEntryAny (k x : Int) (w : World) (k0 : 0 ≤ k) (k1 : k ≤ 1000000) (h0 : 0 ≤ x) (h1 : x ≤ 1000000) : Calls Tryz.prog 107 #[.int .i64 k, .int .i64 x] w fun e w' => e = .returned (.agg #[.int .i64 (mkI k x), .int .i64 0, .int .i64 0, .slice none 0 0]) ∧ Below w.heap.size w w' := by
  go_enter Tryz.func107, Tryz.ntmps107
  go_wp2_with (go_at_call 55; refine (markAny k x _ k0 k1 h0 h1).mono ?_; rintro e w2 ⟨rfl, rfl⟩)
  refine bodyPost_ret (v := .agg #[.int .i64 (mkI k x), .int .i64 0, .int .i64 0, .slice none 0 0]) (by simp [results, Tryz.results107, go_sem]) rfl ⟨rfl, ?_⟩
  repeat refine below_set ?_ (by simp)
  exact below_new _ _
end Go.Proofs.YtglkgmijhdkhpaaGreatDoor
/-
  limpetkit's flats of no lists: contracts.
-/
set_option linter.unusedVariables false
set_option linter.unusedSimpArgs false
namespace Go.Proofs.YtglkgmijhdkhpaaGreatDoor
open Go.RowKit

set_option maxRecDepth 100000 in
set_option maxHeartbeats 1000000 in
theorem flatLimbsNil (w : World) : Calls Tryz.prog 79 #[.slice none 0 0] w fun e w' => e = .returned (.bool true) ∧ Below w.heap.size w w' := by
  go_enter Tryz.func79, Tryz.ntmps79
  go_wp2_with fail
  go_loopw [3] (fun i wr => i = .int .i64 0 ∧ wr = w) (fun _ _ => 0)
  case atStart => exact ⟨rfl, rfl⟩
  case round =>
    obtain ⟨rfl, rfl⟩ := hrel
    go_wp2_with (at_make; refine wpList_make_nils _ rfl _ _ 86 rfl wr.heap.size 163 Tryz.underlying86 (by kernel_rfl) _ _ 0 rfl rfl rfl rfl (by omega) (Nat.le_refl _) ?_; intro w2 ho2 hb2 hz2)
    go_wp2_with fail
    go_loopw [6] (fun i wx => i = .int .i64 0 ∧ wx = w2) (fun _ _ => 0)
    case atStart => exact ⟨rfl, rfl⟩
    case round =>
      obtain ⟨rfl, hw⟩ := hrel
      rw [hw]
      go_wp2_with fail
      go_loopw [9] (fun i wx => i = .int .i64 0 ∧ wx = w2) (fun _ _ => 0)
      case atStart => exact ⟨rfl, rfl⟩
      case round =>
        obtain ⟨rfl, hw⟩ := hrel
        rw [hw]
        go_wp2_with fail
        go_loopw [11] (fun i wx => i = .int .i64 0 ∧ wx = w2) (fun _ _ => 0)
        case atStart => exact ⟨rfl, rfl⟩
        case round =>
          obtain ⟨rfl, hw⟩ := hrel
          rw [hw]
          go_wp2_with fail
          go_loopw [14] (fun i wx => i = .int .i64 0 ∧ wx = w2) (fun _ _ => 0)
          case atStart => exact ⟨rfl, rfl⟩
          case round =>
            obtain ⟨rfl, hw⟩ := hrel
            rw [hw]
            go_wp2_with fail
            go_ret
            exact ⟨rfl, hb2⟩

set_option maxRecDepth 100000 in
set_option maxHeartbeats 1000000 in
theorem flatWordsNil (w : World) : Calls Tryz.prog 80 #[.slice none 0 0] w fun e w' => e = .returned (.bool true) ∧ Below w.heap.size w w' := by
  go_enter Tryz.func80, Tryz.ntmps80
  go_wp2_with fail
  go_loopw [3] (fun i wr => i = .int .i64 0 ∧ wr = w) (fun _ _ => 0)
  case atStart => exact ⟨rfl, rfl⟩
  case round =>
    obtain ⟨rfl, rfl⟩ := hrel
    go_wp2_with (at_make; refine wpList_make_nils _ rfl _ _ 87 rfl wr.heap.size 165 Tryz.underlying87 (by kernel_rfl) _ _ 0 rfl rfl rfl rfl (by omega) (Nat.le_refl _) ?_; intro w2 ho2 hb2 hz2)
    go_wp2_with fail
    go_loopw [6] (fun i wx => i = .int .i64 0 ∧ wx = w2) (fun _ _ => 0)
    case atStart => exact ⟨rfl, rfl⟩
    case round =>
      obtain ⟨rfl, hw⟩ := hrel
      rw [hw]
      go_wp2_with fail
      go_loopw [9] (fun i wx => i = .int .i64 0 ∧ wx = w2) (fun _ _ => 0)
      case atStart => exact ⟨rfl, rfl⟩
      case round =>
        obtain ⟨rfl, hw⟩ := hrel
        rw [hw]
        go_wp2_with fail
        go_loopw [11] (fun i wx => i = .int .i64 0 ∧ wx = w2) (fun _ _ => 0)
        case atStart => exact ⟨rfl, rfl⟩
        case round =>
          obtain ⟨rfl, hw⟩ := hrel
          rw [hw]
          go_wp2_with fail
          go_loopw [14] (fun i wx => i = .int .i64 0 ∧ wx = w2) (fun _ _ => 0)
          case atStart => exact ⟨rfl, rfl⟩
          case round =>
            obtain ⟨rfl, hw⟩ := hrel
            rw [hw]
            go_wp2_with fail
            go_ret
            exact ⟨rfl, hb2⟩

set_option maxRecDepth 100000 in
set_option maxHeartbeats 1000000 in
theorem flatIntsNil (w : World) : Calls Tryz.prog 81 #[.slice none 0 0] w fun e w' => e = .returned (.bool true) ∧ Below w.heap.size w w' := by
  go_enter Tryz.func81, Tryz.ntmps81
  go_wp2_with fail
  go_loopw [3] (fun i wr => i = .int .i64 0 ∧ wr = w) (fun _ _ => 0)
  case atStart => exact ⟨rfl, rfl⟩
  case round =>
    obtain ⟨rfl, rfl⟩ := hrel
    go_wp2_with (at_make; refine wpList_make_nils _ rfl _ _ 88 rfl wr.heap.size 39 Tryz.underlying88 (by kernel_rfl) _ _ 0 rfl rfl rfl rfl (by omega) (Nat.le_refl _) ?_; intro w2 ho2 hb2 hz2)
    go_wp2_with fail
    go_loopw [6] (fun i wx => i = .int .i64 0 ∧ wx = w2) (fun _ _ => 0)
    case atStart => exact ⟨rfl, rfl⟩
    case round =>
      obtain ⟨rfl, hw⟩ := hrel
      rw [hw]
      go_wp2_with fail
      go_loopw [9] (fun i wx => i = .int .i64 0 ∧ wx = w2) (fun _ _ => 0)
      case atStart => exact ⟨rfl, rfl⟩
      case round =>
        obtain ⟨rfl, hw⟩ := hrel
        rw [hw]
        go_wp2_with fail
        go_loopw [11] (fun i wx => i = .int .i64 0 ∧ wx = w2) (fun _ _ => 0)
        case atStart => exact ⟨rfl, rfl⟩
        case round =>
          obtain ⟨rfl, hw⟩ := hrel
          rw [hw]
          go_wp2_with fail
          go_loopw [14] (fun i wx => i = .int .i64 0 ∧ wx = w2) (fun _ _ => 0)
          case atStart => exact ⟨rfl, rfl⟩
          case round =>
            obtain ⟨rfl, hw⟩ := hrel
            rw [hw]
            go_wp2_with fail
            go_ret
            exact ⟨rfl, hb2⟩

set_option maxRecDepth 100000 in
set_option maxHeartbeats 1000000 in
theorem flatLongsNil (w : World) : Calls Tryz.prog 82 #[.slice none 0 0] w fun e w' => e = .returned (.bool true) ∧ Below w.heap.size w w' := by
  go_enter Tryz.func82, Tryz.ntmps82
  go_wp2_with fail
  go_loopw [3] (fun i wr => i = .int .i64 0 ∧ wr = w) (fun _ _ => 0)
  case atStart => exact ⟨rfl, rfl⟩
  case round =>
    obtain ⟨rfl, rfl⟩ := hrel
    go_wp2_with (at_make; refine wpList_make_nils _ rfl _ _ 89 rfl wr.heap.size 167 Tryz.underlying89 (by kernel_rfl) _ _ 0 rfl rfl rfl rfl (by omega) (Nat.le_refl _) ?_; intro w2 ho2 hb2 hz2)
    go_wp2_with fail
    go_loopw [6] (fun i wx => i = .int .i64 0 ∧ wx = w2) (fun _ _ => 0)
    case atStart => exact ⟨rfl, rfl⟩
    case round =>
      obtain ⟨rfl, hw⟩ := hrel
      rw [hw]
      go_wp2_with fail
      go_loopw [9] (fun i wx => i = .int .i64 0 ∧ wx = w2) (fun _ _ => 0)
      case atStart => exact ⟨rfl, rfl⟩
      case round =>
        obtain ⟨rfl, hw⟩ := hrel
        rw [hw]
        go_wp2_with fail
        go_loopw [11] (fun i wx => i = .int .i64 0 ∧ wx = w2) (fun _ _ => 0)
        case atStart => exact ⟨rfl, rfl⟩
        case round =>
          obtain ⟨rfl, hw⟩ := hrel
          rw [hw]
          go_wp2_with fail
          go_loopw [14] (fun i wx => i = .int .i64 0 ∧ wx = w2) (fun _ _ => 0)
          case atStart => exact ⟨rfl, rfl⟩
          case round =>
            obtain ⟨rfl, hw⟩ := hrel
            rw [hw]
            go_wp2_with fail
            go_ret
            exact ⟨rfl, hb2⟩

set_option maxRecDepth 100000 in
set_option maxHeartbeats 1000000 in
theorem flatTextsNil (w : World) : Calls Tryz.prog 83 #[.slice none 0 0] w fun e w' => e = .returned (.bool true) ∧ Below w.heap.size w w' := by
  go_enter Tryz.func83, Tryz.ntmps83
  go_wp2_with fail
  go_loopw [3] (fun i wr => i = .int .i64 0 ∧ wr = w) (fun _ _ => 0)
  case atStart => exact ⟨rfl, rfl⟩
  case round =>
    obtain ⟨rfl, rfl⟩ := hrel
    go_wp2_with (at_make; refine wpList_make_nils _ rfl _ _ 90 rfl wr.heap.size 168 Tryz.underlying90 (by kernel_rfl) _ _ 0 rfl rfl rfl rfl (by omega) (Nat.le_refl _) ?_; intro w2 ho2 hb2 hz2)
    go_wp2_with fail
    go_loopw [6] (fun i wx => i = .int .i64 0 ∧ wx = w2) (fun _ _ => 0)
    case atStart => exact ⟨rfl, rfl⟩
    case round =>
      obtain ⟨rfl, hw⟩ := hrel
      rw [hw]
      go_wp2_with fail
      go_loopw [9] (fun i wx => i = .int .i64 0 ∧ wx = w2) (fun _ _ => 0)
      case atStart => exact ⟨rfl, rfl⟩
      case round =>
        obtain ⟨rfl, hw⟩ := hrel
        rw [hw]
        go_wp2_with fail
        go_loopw [11] (fun i wx => i = .int .i64 0 ∧ wx = w2) (fun _ _ => 0)
        case atStart => exact ⟨rfl, rfl⟩
        case round =>
          obtain ⟨rfl, hw⟩ := hrel
          rw [hw]
          go_wp2_with fail
          go_loopw [14] (fun i wx => i = .int .i64 0 ∧ wx = w2) (fun _ _ => 0)
          case atStart => exact ⟨rfl, rfl⟩
          case round =>
            obtain ⟨rfl, hw⟩ := hrel
            rw [hw]
            go_wp2_with fail
            go_ret
            exact ⟨rfl, hb2⟩

set_option maxRecDepth 100000 in
set_option maxHeartbeats 1000000 in
theorem flatBytesNil (w : World) : Calls Tryz.prog 84 #[.slice none 0 0] w fun e w' => e = .returned (.bool true) ∧ Below w.heap.size w w' := by
  go_enter Tryz.func84, Tryz.ntmps84
  go_wp2_with fail
  go_loopw [3] (fun i wr => i = .int .i64 0 ∧ wr = w) (fun _ _ => 0)
  case atStart => exact ⟨rfl, rfl⟩
  case round =>
    obtain ⟨rfl, rfl⟩ := hrel
    go_wp2_with (at_make; refine wpList_make_nils _ rfl _ _ 91 rfl wr.heap.size 52 Tryz.underlying91 (by kernel_rfl) _ _ 0 rfl rfl rfl rfl (by omega) (Nat.le_refl _) ?_; intro w2 ho2 hb2 hz2)
    go_wp2_with fail
    go_loopw [6] (fun i wx => i = .int .i64 0 ∧ wx = w2) (fun _ _ => 0)
    case atStart => exact ⟨rfl, rfl⟩
    case round =>
      obtain ⟨rfl, hw⟩ := hrel
      rw [hw]
      go_wp2_with fail
      go_loopw [9] (fun i wx => i = .int .i64 0 ∧ wx = w2) (fun _ _ => 0)
      case atStart => exact ⟨rfl, rfl⟩
      case round =>
        obtain ⟨rfl, hw⟩ := hrel
        rw [hw]
        go_wp2_with fail
        go_loopw [11] (fun i wx => i = .int .i64 0 ∧ wx = w2) (fun _ _ => 0)
        case atStart => exact ⟨rfl, rfl⟩
        case round =>
          obtain ⟨rfl, hw⟩ := hrel
          rw [hw]
          go_wp2_with fail
          go_loopw [14] (fun i wx => i = .int .i64 0 ∧ wx = w2) (fun _ _ => 0)
          case atStart => exact ⟨rfl, rfl⟩
          case round =>
            obtain ⟨rfl, hw⟩ := hrel
            rw [hw]
            go_wp2_with fail
            go_ret
            exact ⟨rfl, hb2⟩

set_option maxRecDepth 100000 in
set_option maxHeartbeats 1000000 in
theorem flatTruthsNil (w : World) : Calls Tryz.prog 85 #[.slice none 0 0] w fun e w' => e = .returned (.bool true) ∧ Below w.heap.size w w' := by
  go_enter Tryz.func85, Tryz.ntmps85
  go_wp2_with fail
  go_loopw [3] (fun i wr => i = .int .i64 0 ∧ wr = w) (fun _ _ => 0)
  case atStart => exact ⟨rfl, rfl⟩
  case round =>
    obtain ⟨rfl, rfl⟩ := hrel
    go_wp2_with (at_make; refine wpList_make_nils _ rfl _ _ 92 rfl wr.heap.size 170 Tryz.underlying92 (by kernel_rfl) _ _ 0 rfl rfl rfl rfl (by omega) (Nat.le_refl _) ?_; intro w2 ho2 hb2 hz2)
    go_wp2_with fail
    go_loopw [6] (fun i wx => i = .int .i64 0 ∧ wx = w2) (fun _ _ => 0)
    case atStart => exact ⟨rfl, rfl⟩
    case round =>
      obtain ⟨rfl, hw⟩ := hrel
      rw [hw]
      go_wp2_with fail
      go_loopw [9] (fun i wx => i = .int .i64 0 ∧ wx = w2) (fun _ _ => 0)
      case atStart => exact ⟨rfl, rfl⟩
      case round =>
        obtain ⟨rfl, hw⟩ := hrel
        rw [hw]
        go_wp2_with fail
        go_loopw [11] (fun i wx => i = .int .i64 0 ∧ wx = w2) (fun _ _ => 0)
        case atStart => exact ⟨rfl, rfl⟩
        case round =>
          obtain ⟨rfl, hw⟩ := hrel
          rw [hw]
          go_wp2_with fail
          go_loopw [14] (fun i wx => i = .int .i64 0 ∧ wx = w2) (fun _ _ => 0)
          case atStart => exact ⟨rfl, rfl⟩
          case round =>
            obtain ⟨rfl, hw⟩ := hrel
            rw [hw]
            go_wp2_with fail
            go_ret
            exact ⟨rfl, hb2⟩

set_option maxRecDepth 100000 in
set_option maxHeartbeats 1000000 in
theorem flatUnitsNil (w : World) : Calls Tryz.prog 86 #[.slice none 0 0] w fun e w' => e = .returned (.bool true) ∧ Below w.heap.size w w' := by
  go_enter Tryz.func86, Tryz.ntmps86
  go_wp2_with fail
  go_loopw [3] (fun i wr => i = .int .i64 0 ∧ wr = w) (fun _ _ => 0)
  case atStart => exact ⟨rfl, rfl⟩
  case round =>
    obtain ⟨rfl, rfl⟩ := hrel
    go_wp2_with (at_make; refine wpList_make_nils _ rfl _ _ 93 rfl wr.heap.size 171 Tryz.underlying93 (by kernel_rfl) _ _ 0 rfl rfl rfl rfl (by omega) (Nat.le_refl _) ?_; intro w2 ho2 hb2 hz2)
    go_wp2_with fail
    go_loopw [6] (fun i wx => i = .int .i64 0 ∧ wx = w2) (fun _ _ => 0)
    case atStart => exact ⟨rfl, rfl⟩
    case round =>
      obtain ⟨rfl, hw⟩ := hrel
      rw [hw]
      go_wp2_with fail
      go_loopw [9] (fun i wx => i = .int .i64 0 ∧ wx = w2) (fun _ _ => 0)
      case atStart => exact ⟨rfl, rfl⟩
      case round =>
        obtain ⟨rfl, hw⟩ := hrel
        rw [hw]
        go_wp2_with fail
        go_loopw [11] (fun i wx => i = .int .i64 0 ∧ wx = w2) (fun _ _ => 0)
        case atStart => exact ⟨rfl, rfl⟩
        case round =>
          obtain ⟨rfl, hw⟩ := hrel
          rw [hw]
          go_wp2_with fail
          go_loopw [14] (fun i wx => i = .int .i64 0 ∧ wx = w2) (fun _ _ => 0)
          case atStart => exact ⟨rfl, rfl⟩
          case round =>
            obtain ⟨rfl, hw⟩ := hrel
            rw [hw]
            go_wp2_with fail
            go_ret
            exact ⟨rfl, hb2⟩

set_option maxRecDepth 100000 in
set_option maxHeartbeats 1000000 in
theorem flatEntriesNil (w : World) : Calls Tryz.prog 87 #[.slice none 0 0] w fun e w' => e = .returned (.bool true) ∧ Below w.heap.size w w' := by
  go_enter Tryz.func87, Tryz.ntmps87
  go_wp2_with fail
  go_loopw [3] (fun i wr => i = .int .i64 0 ∧ wr = w) (fun _ _ => 0)
  case atStart => exact ⟨rfl, rfl⟩
  case round =>
    obtain ⟨rfl, rfl⟩ := hrel
    go_wp2_with (at_make; refine wpList_make_nils _ rfl _ _ 50 rfl wr.heap.size 48 Tryz.underlying50 (by kernel_rfl) _ _ 0 rfl rfl rfl rfl (by omega) (Nat.le_refl _) ?_; intro w2 ho2 hb2 hz2)
    go_wp2_with fail
    go_loopw [6] (fun i wx => i = .int .i64 0 ∧ wx = w2) (fun _ _ => 0)
    case atStart => exact ⟨rfl, rfl⟩
    case round =>
      obtain ⟨rfl, hw⟩ := hrel
      rw [hw]
      go_wp2_with fail
      go_loopw [9] (fun i wx => i = .int .i64 0 ∧ wx = w2) (fun _ _ => 0)
      case atStart => exact ⟨rfl, rfl⟩
      case round =>
        obtain ⟨rfl, hw⟩ := hrel
        rw [hw]
        go_wp2_with fail
        go_loopw [11] (fun i wx => i = .int .i64 0 ∧ wx = w2) (fun _ _ => 0)
        case atStart => exact ⟨rfl, rfl⟩
        case round =>
          obtain ⟨rfl, hw⟩ := hrel
          rw [hw]
          go_wp2_with fail
          go_loopw [14] (fun i wx => i = .int .i64 0 ∧ wx = w2) (fun _ _ => 0)
          case atStart => exact ⟨rfl, rfl⟩
          case round =>
            obtain ⟨rfl, hw⟩ := hrel
            rw [hw]
            go_wp2_with fail
            go_ret
            exact ⟨rfl, hb2⟩

set_option maxRecDepth 100000 in
set_option maxHeartbeats 1000000 in
theorem flatIdentsNil (w : World) : Calls Tryz.prog 88 #[.slice none 0 0] w fun e w' => e = .returned (.bool true) ∧ Below w.heap.size w w' := by
  go_enter Tryz.func88, Tryz.ntmps88
  go_wp2_with fail
  go_loopw [3] (fun i wr => i = .int .i64 0 ∧ wr = w) (fun _ _ => 0)
  case atStart => exact ⟨rfl, rfl⟩
  case round =>
    obtain ⟨rfl, rfl⟩ := hrel
    go_wp2_with (at_make; refine wpList_make_nils _ rfl _ _ 46 rfl wr.heap.size 22 Tryz.underlying46 (by kernel_rfl) _ _ 0 rfl rfl rfl rfl (by omega) (Nat.le_refl _) ?_; intro w2 ho2 hb2 hz2)
    go_wp2_with fail
    go_loopw [6] (fun i wx => i = .int .i64 0 ∧ wx = w2) (fun _ _ => 0)
    case atStart => exact ⟨rfl, rfl⟩
    case round =>
      obtain ⟨rfl, hw⟩ := hrel
      rw [hw]
      go_wp2_with fail
      go_loopw [9] (fun i wx => i = .int .i64 0 ∧ wx = w2) (fun _ _ => 0)
      case atStart => exact ⟨rfl, rfl⟩
      case round =>
        obtain ⟨rfl, hw⟩ := hrel
        rw [hw]
        go_wp2_with fail
        go_loopw [11] (fun i wx => i = .int .i64 0 ∧ wx = w2) (fun _ _ => 0)
        case atStart => exact ⟨rfl, rfl⟩
        case round =>
          obtain ⟨rfl, hw⟩ := hrel
          rw [hw]
          go_wp2_with fail
          go_loopw [14] (fun i wx => i = .int .i64 0 ∧ wx = w2) (fun _ _ => 0)
          case atStart => exact ⟨rfl, rfl⟩
          case round =>
            obtain ⟨rfl, hw⟩ := hrel
            rw [hw]
            go_wp2_with fail
            go_ret
            exact ⟨rfl, hb2⟩

set_option maxRecDepth 100000 in
set_option maxHeartbeats 1000000 in
theorem flatMetasNil (w : World) : Calls Tryz.prog 89 #[.slice none 0 0] w fun e w' => e = .returned (.bool true) ∧ Below w.heap.size w w' := by
  go_enter Tryz.func89, Tryz.ntmps89
  go_wp2_with fail
  go_loopw [3] (fun i wr => i = .int .i64 0 ∧ wr = w) (fun _ _ => 0)
  case atStart => exact ⟨rfl, rfl⟩
  case round =>
    obtain ⟨rfl, rfl⟩ := hrel
    go_wp2_with (at_make; refine wpList_make_nils _ rfl _ _ 94 rfl wr.heap.size 178 Tryz.underlying94 (by kernel_rfl) _ _ 0 rfl rfl rfl rfl (by omega) (Nat.le_refl _) ?_; intro w2 ho2 hb2 hz2)
    go_wp2_with fail
    go_loopw [6] (fun i wx => i = .int .i64 0 ∧ wx = w2) (fun _ _ => 0)
    case atStart => exact ⟨rfl, rfl⟩
    case round =>
      obtain ⟨rfl, hw⟩ := hrel
      rw [hw]
      go_wp2_with fail
      go_loopw [9] (fun i wx => i = .int .i64 0 ∧ wx = w2) (fun _ _ => 0)
      case atStart => exact ⟨rfl, rfl⟩
      case round =>
        obtain ⟨rfl, hw⟩ := hrel
        rw [hw]
        go_wp2_with fail
        go_loopw [11] (fun i wx => i = .int .i64 0 ∧ wx = w2) (fun _ _ => 0)
        case atStart => exact ⟨rfl, rfl⟩
        case round =>
          obtain ⟨rfl, hw⟩ := hrel
          rw [hw]
          go_wp2_with fail
          go_loopw [14] (fun i wx => i = .int .i64 0 ∧ wx = w2) (fun _ _ => 0)
          case atStart => exact ⟨rfl, rfl⟩
          case round =>
            obtain ⟨rfl, hw⟩ := hrel
            rw [hw]
            go_wp2_with fail
            go_ret
            exact ⟨rfl, hb2⟩

set_option maxRecDepth 100000 in
set_option maxHeartbeats 1000000 in
theorem flatMarksNil (w : World) : Calls Tryz.prog 90 #[.slice none 0 0] w fun e w' => e = .returned (.bool true) ∧ Below w.heap.size w w' := by
  go_enter Tryz.func90, Tryz.ntmps90
  go_wp2_with fail
  go_loopw [3] (fun i wr => i = .int .i64 0 ∧ wr = w) (fun _ _ => 0)
  case atStart => exact ⟨rfl, rfl⟩
  case round =>
    obtain ⟨rfl, rfl⟩ := hrel
    go_wp2_with (at_make; refine wpList_make_nils _ rfl _ _ 95 rfl wr.heap.size 182 Tryz.underlying95 (by kernel_rfl) _ _ 0 rfl rfl rfl rfl (by omega) (Nat.le_refl _) ?_; intro w2 ho2 hb2 hz2)
    go_wp2_with fail
    go_loopw [6] (fun i wx => i = .int .i64 0 ∧ wx = w2) (fun _ _ => 0)
    case atStart => exact ⟨rfl, rfl⟩
    case round =>
      obtain ⟨rfl, hw⟩ := hrel
      rw [hw]
      go_wp2_with fail
      go_loopw [9] (fun i wx => i = .int .i64 0 ∧ wx = w2) (fun _ _ => 0)
      case atStart => exact ⟨rfl, rfl⟩
      case round =>
        obtain ⟨rfl, hw⟩ := hrel
        rw [hw]
        go_wp2_with fail
        go_loopw [11] (fun i wx => i = .int .i64 0 ∧ wx = w2) (fun _ _ => 0)
        case atStart => exact ⟨rfl, rfl⟩
        case round =>
          obtain ⟨rfl, hw⟩ := hrel
          rw [hw]
          go_wp2_with fail
          go_loopw [14] (fun i wx => i = .int .i64 0 ∧ wx = w2) (fun _ _ => 0)
          case atStart => exact ⟨rfl, rfl⟩
          case round =>
            obtain ⟨rfl, hw⟩ := hrel
            rw [hw]
            go_wp2_with fail
            go_ret
            exact ⟨rfl, hb2⟩

set_option maxRecDepth 100000 in
set_option maxHeartbeats 1000000 in
theorem flatSnapsNil (w : World) : Calls Tryz.prog 91 #[.slice none 0 0] w fun e w' => e = .returned (.bool true) ∧ Below w.heap.size w w' := by
  go_enter Tryz.func91, Tryz.ntmps91
  go_wp2_with fail
  go_loopw [3] (fun i wr => i = .int .i64 0 ∧ wr = w) (fun _ _ => 0)
  case atStart => exact ⟨rfl, rfl⟩
  case round =>
    obtain ⟨rfl, rfl⟩ := hrel
    go_wp2_with (at_make; refine wpList_make_nils _ rfl _ _ 96 rfl wr.heap.size 186 Tryz.underlying96 (by kernel_rfl) _ _ 0 rfl rfl rfl rfl (by omega) (Nat.le_refl _) ?_; intro w2 ho2 hb2 hz2)
    go_wp2_with fail
    go_loopw [6] (fun i wx => i = .int .i64 0 ∧ wx = w2) (fun _ _ => 0)
    case atStart => exact ⟨rfl, rfl⟩
    case round =>
      obtain ⟨rfl, hw⟩ := hrel
      rw [hw]
      go_wp2_with fail
      go_loopw [9] (fun i wx => i = .int .i64 0 ∧ wx = w2) (fun _ _ => 0)
      case atStart => exact ⟨rfl, rfl⟩
      case round =>
        obtain ⟨rfl, hw⟩ := hrel
        rw [hw]
        go_wp2_with fail
        go_loopw [11] (fun i wx => i = .int .i64 0 ∧ wx = w2) (fun _ _ => 0)
        case atStart => exact ⟨rfl, rfl⟩
        case round =>
          obtain ⟨rfl, hw⟩ := hrel
          rw [hw]
          go_wp2_with fail
          go_loopw [14] (fun i wx => i = .int .i64 0 ∧ wx = w2) (fun _ _ => 0)
          case atStart => exact ⟨rfl, rfl⟩
          case round =>
            obtain ⟨rfl, hw⟩ := hrel
            rw [hw]
            go_wp2_with fail
            go_ret
            exact ⟨rfl, hb2⟩

set_option maxRecDepth 100000 in
set_option maxHeartbeats 1000000 in
theorem flatShapesNil (w : World) : Calls Tryz.prog 92 #[.slice none 0 0] w fun e w' => e = .returned (.bool true) ∧ Below w.heap.size w w' := by
  go_enter Tryz.func92, Tryz.ntmps92
  go_wp2_with fail
  go_loopw [3] (fun i wr => i = .int .i64 0 ∧ wr = w) (fun _ _ => 0)
  case atStart => exact ⟨rfl, rfl⟩
  case round =>
    obtain ⟨rfl, rfl⟩ := hrel
    go_wp2_with (at_make; refine wpList_make_nils _ rfl _ _ 97 rfl wr.heap.size 191 Tryz.underlying97 (by kernel_rfl) _ _ 0 rfl rfl rfl rfl (by omega) (Nat.le_refl _) ?_; intro w2 ho2 hb2 hz2)
    go_wp2_with fail
    go_loopw [6] (fun i wx => i = .int .i64 0 ∧ wx = w2) (fun _ _ => 0)
    case atStart => exact ⟨rfl, rfl⟩
    case round =>
      obtain ⟨rfl, hw⟩ := hrel
      rw [hw]
      go_wp2_with fail
      go_loopw [9] (fun i wx => i = .int .i64 0 ∧ wx = w2) (fun _ _ => 0)
      case atStart => exact ⟨rfl, rfl⟩
      case round =>
        obtain ⟨rfl, hw⟩ := hrel
        rw [hw]
        go_wp2_with fail
        go_loopw [11] (fun i wx => i = .int .i64 0 ∧ wx = w2) (fun _ _ => 0)
        case atStart => exact ⟨rfl, rfl⟩
        case round =>
          obtain ⟨rfl, hw⟩ := hrel
          rw [hw]
          go_wp2_with fail
          go_loopw [14] (fun i wx => i = .int .i64 0 ∧ wx = w2) (fun _ _ => 0)
          case atStart => exact ⟨rfl, rfl⟩
          case round =>
            obtain ⟨rfl, hw⟩ := hrel
            rw [hw]
            go_wp2_with fail
            go_ret
            exact ⟨rfl, hb2⟩

set_option maxRecDepth 100000 in
set_option maxHeartbeats 1000000 in
theorem flatLettersNil (w : World) : Calls Tryz.prog 93 #[.slice none 0 0] w fun e w' => e = .returned (.bool true) ∧ Below w.heap.size w w' := by
  go_enter Tryz.func93, Tryz.ntmps93
  go_wp2_with fail
  go_loopw [3] (fun i wr => i = .int .i64 0 ∧ wr = w) (fun _ _ => 0)
  case atStart => exact ⟨rfl, rfl⟩
  case round =>
    obtain ⟨rfl, rfl⟩ := hrel
    go_wp2_with (at_make; refine wpList_make_nils _ rfl _ _ 98 rfl wr.heap.size 195 Tryz.underlying98 (by kernel_rfl) _ _ 0 rfl rfl rfl rfl (by omega) (Nat.le_refl _) ?_; intro w2 ho2 hb2 hz2)
    go_wp2_with fail
    go_loopw [6] (fun i wx => i = .int .i64 0 ∧ wx = w2) (fun _ _ => 0)
    case atStart => exact ⟨rfl, rfl⟩
    case round =>
      obtain ⟨rfl, hw⟩ := hrel
      rw [hw]
      go_wp2_with fail
      go_loopw [9] (fun i wx => i = .int .i64 0 ∧ wx = w2) (fun _ _ => 0)
      case atStart => exact ⟨rfl, rfl⟩
      case round =>
        obtain ⟨rfl, hw⟩ := hrel
        rw [hw]
        go_wp2_with fail
        go_loopw [11] (fun i wx => i = .int .i64 0 ∧ wx = w2) (fun _ _ => 0)
        case atStart => exact ⟨rfl, rfl⟩
        case round =>
          obtain ⟨rfl, hw⟩ := hrel
          rw [hw]
          go_wp2_with fail
          go_loopw [14] (fun i wx => i = .int .i64 0 ∧ wx = w2) (fun _ _ => 0)
          case atStart => exact ⟨rfl, rfl⟩
          case round =>
            obtain ⟨rfl, hw⟩ := hrel
            rw [hw]
            go_wp2_with fail
            go_ret
            exact ⟨rfl, hb2⟩

end Go.Proofs.YtglkgmijhdkhpaaGreatDoor
/-
  limpetkit's bag: what is put into it; whether all lies apart: contracts.
-/
set_option linter.unusedVariables false
set_option linter.unusedSimpArgs false
namespace Go.Proofs.YtglkgmijhdkhpaaGreatDoor
open Go.RowKit

/-- A slice value, as a row of one cell. -/
abbrev Sv := Option Addr × Nat × Nat
def Sv.v (x : Sv) : Value := .slice x.1 x.2.1 x.2.2
def sRow (x : Sv) : List Value := [.slice x.1 x.2.1 x.2.2]
theorem sRow_length (x : Sv) : (sRow x).length = 1 := rfl
theorem sRow_one (x : Sv) : ∀ u ∈ sRow x, u.oneCell' = true := by
  intro u hu; simp [sRow] at hu; rcases hu with rfl; rfl
def bagNil : Array Value := #[nilS, nilS, nilS, nilS, nilS, nilS, nilS, nilS, nilS, nilS, nilS, nilS, nilS, nilS, nilS]
theorem bag_set {i : Nat} (cs : Array Value) (v : Value) (h : i < cs.size) : (cs.setIfInBounds i v)[i]? = some v := by simp [h]

theorem svInfoInts : (Tryz.prog.info? 39).map (fun i => (i.zero, i.size, i.bytes)) = some (some nilS, 1, 24) := by kernel_rfl
theorem svInfoBytes : (Tryz.prog.info? 52).map (fun i => (i.zero, i.size, i.bytes)) = some (some nilS, 1, 24) := by kernel_rfl
set_option maxHeartbeats 1000000 in
/-- A list is put into the bag. -/
theorem putBytes (gb base : Nat) (cs : Array Value) (A0 : Option Addr) (n0 c0 : Nat) (x : Sv) (L : List Sv) (w : World) (hx : Box w gb cs 100) (hi : cs[5]? = some (.slice A0 n0 c0)) (ho : Own 1 sRow 52 base w (.slice A0 n0 c0) L) (hne : blkH (.slice A0 n0 c0) ≠ some gb) (hn : L.length ≤ 100000) (hB : base ≤ w.heap.size) (hg : base ≤ gb) :
    Calls Tryz.prog 115 #[.pointer (some ⟨gb, 0, none⟩), .slice x.1 x.2.1 x.2.2] w fun e w' => e = .returned (.tuple #[]) ∧ ∃ g cap, Box w' gb (cs.setIfInBounds 5 (.slice (some ⟨g, 0, none⟩) (L.length + 1) cap)) 100 ∧ Own 1 sRow 52 base w' (.slice (some ⟨g, 0, none⟩) (L.length + 1) cap) (L ++ [x]) ∧ g ≠ gb ∧ Below base w w' ∧ w.heap.size ≤ w'.heap.size ∧ (∀ b, b < w.heap.size → b ≠ gb → some b ≠ blkH (.slice A0 n0 c0) → w'.heap[b]? = w.heap[b]?) ∧ (blkH (.slice A0 n0 c0) = some g ∨ w.heap.size < g) := by
  have HX := Lib.hid hx
  have HO := Lib.hid ho
  have HNE := Lib.hid hne
  have HI := Lib.hid hi
  have hgs : gb < w.heap.size := hx.lt
  have kz : w.cell? ⟨gb, 5, none⟩ = some (.slice A0 n0 c0) := (hx.cell 5).trans hi
  have fz : ∀ i, w.frozen? ⟨gb, i, none⟩ = false := hx.free
  clear hx ho hne hi
  go_enter Tryz.func115, Tryz.ntmps115
  go_wp2_with (at_builtin; refine wpList_append_keepH1 _ rfl (.tmp 8) (.tmp 10) 91 rfl base 52 _ 1 24 Tryz.underlying91 svInfoBytes rfl (Nat.succ_pos 0) sRow sRow_length sRow_one L _ rfl HO.out.h x _ rfl 52 _ rfl rfl (by omega) (by omega) hB ?_; intro g7 c7 w7 p1 p2 p3 p4 p5 p6 p7; have HP1 := Lib.hid p1; have HP3 := Lib.hid p3; have HP4 := Lib.hid p4; have HX7 := Lib.hid (show Box w7 gb cs 100 from (p4 gb hgs (fun he => HNE.out he.symm)).trans HX.out); have fz7 : ∀ i, w7.frozen? ⟨gb, i, none⟩ = false := HX7.out.free; have kz7 : w7.cell? ⟨gb, 5, none⟩ = some (.slice A0 n0 c0) := (HX7.out.cell 5).trans HI.out; clear p1 p2 p3 p4)
  go_end0
  have hgb : g7 ≠ gb := by
    rcases p5 with h | h
    · intro he; subst he; exact HNE.out h
    · omega
  refine ⟨rfl, g7, c7, HX7.out.set_ 5 _, ?_, hgb, below_set HP3.out hg, by simp; omega, fun b h1 h2 h3 => (Below.heap_setCell w7 ⟨gb, 5, none⟩ _ b (fun he => h2 he)).trans (HP4.out b h1 h3), p5⟩
  exact Own.set_far HP1.out (fun he => hgb he.symm)

end Go.Proofs.YtglkgmijhdkhpaaGreatDoor
