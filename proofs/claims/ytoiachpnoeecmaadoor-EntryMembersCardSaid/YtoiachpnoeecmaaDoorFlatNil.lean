/-
  limpetkit's flats of no lists: contracts.
-/
import Derived.Test.YtoiachpnoeecmaaDoorKitMark
import Derived.Test.YtoiachpnoeecmaaDoorApartMath
set_option linter.unusedVariables false
set_option linter.unusedSimpArgs false
namespace Go.Proofs.YtoiachpnoeecmaaDoor
open Go.RowKit

set_option maxRecDepth 100000 in
set_option maxHeartbeats 1000000 in
theorem flatLimbsNil (w : World) : Calls Tryd.prog 99 #[.slice none 0 0] w fun e w' => e = .returned (.bool true) ∧ Below w.heap.size w w' := by
  go_enter Tryd.func99, Tryd.ntmps99
  go_wp2_with fail
  go_loopw [3] (fun i wr => i = .int .i64 0 ∧ wr = w) (fun _ _ => 0)
  case atStart => exact ⟨rfl, rfl⟩
  case round =>
    obtain ⟨rfl, rfl⟩ := hrel
    go_wp2_with (at_make; refine wpList_make_nils _ rfl _ _ 91 rfl wr.heap.size 233 Tryd.underlying91 (by kernel_rfl) _ _ 0 rfl rfl rfl rfl (by omega) (Nat.le_refl _) ?_; intro w2 ho2 hb2 hz2)
    go_wp2_with fail
    go_loopw [6] (fun i wx => i = .int .i64 0 ∧ wx = w2) (fun _ _ => 0)
    case atStart => exact ⟨rfl, rfl⟩
    case round =>
      obtain ⟨rfl, hw⟩ := hrel
      rw [hw]
      go_wp2_with fail
      go_loopw [9] (fun i wx => i = .int .i64 0 ∧ wx = w2) (fun _ _ => 0)
      case atStart => exact ⟨rfl, rfl⟩
      case round =>
        obtain ⟨rfl, hw⟩ := hrel
        rw [hw]
        go_wp2_with fail
        go_loopw [11] (fun i wx => i = .int .i64 0 ∧ wx = w2) (fun _ _ => 0)
        case atStart => exact ⟨rfl, rfl⟩
        case round =>
          obtain ⟨rfl, hw⟩ := hrel
          rw [hw]
          go_wp2_with fail
          go_loopw [14] (fun i wx => i = .int .i64 0 ∧ wx = w2) (fun _ _ => 0)
          case atStart => exact ⟨rfl, rfl⟩
          case round =>
            obtain ⟨rfl, hw⟩ := hrel
            rw [hw]
            go_wp2_with fail
            go_ret
            exact ⟨rfl, hb2⟩

set_option maxRecDepth 100000 in
set_option maxHeartbeats 1000000 in
theorem flatWordsNil (w : World) : Calls Tryd.prog 100 #[.slice none 0 0] w fun e w' => e = .returned (.bool true) ∧ Below w.heap.size w w' := by
  go_enter Tryd.func100, Tryd.ntmps100
  go_wp2_with fail
  go_loopw [3] (fun i wr => i = .int .i64 0 ∧ wr = w) (fun _ _ => 0)
  case atStart => exact ⟨rfl, rfl⟩
  case round =>
    obtain ⟨rfl, rfl⟩ := hrel
    go_wp2_with (at_make; refine wpList_make_nils _ rfl _ _ 92 rfl wr.heap.size 235 Tryd.underlying92 (by kernel_rfl) _ _ 0 rfl rfl rfl rfl (by omega) (Nat.le_refl _) ?_; intro w2 ho2 hb2 hz2)
    go_wp2_with fail
    go_loopw [6] (fun i wx => i = .int .i64 0 ∧ wx = w2) (fun _ _ => 0)
    case atStart => exact ⟨rfl, rfl⟩
    case round =>
      obtain ⟨rfl, hw⟩ := hrel
      rw [hw]
      go_wp2_with fail
      go_loopw [9] (fun i wx => i = .int .i64 0 ∧ wx = w2) (fun _ _ => 0)
      case atStart => exact ⟨rfl, rfl⟩
      case round =>
        obtain ⟨rfl, hw⟩ := hrel
        rw [hw]
        go_wp2_with fail
        go_loopw [11] (fun i wx => i = .int .i64 0 ∧ wx = w2) (fun _ _ => 0)
        case atStart => exact ⟨rfl, rfl⟩
        case round =>
          obtain ⟨rfl, hw⟩ := hrel
          rw [hw]
          go_wp2_with fail
          go_loopw [14] (fun i wx => i = .int .i64 0 ∧ wx = w2) (fun _ _ => 0)
          case atStart => exact ⟨rfl, rfl⟩
          case round =>
            obtain ⟨rfl, hw⟩ := hrel
            rw [hw]
            go_wp2_with fail
            go_ret
            exact ⟨rfl, hb2⟩

set_option maxRecDepth 100000 in
set_option maxHeartbeats 1000000 in
theorem flatIntsNil (w : World) : Calls Tryd.prog 101 #[.slice none 0 0] w fun e w' => e = .returned (.bool true) ∧ Below w.heap.size w w' := by
  go_enter Tryd.func101, Tryd.ntmps101
  go_wp2_with fail
  go_loopw [3] (fun i wr => i = .int .i64 0 ∧ wr = w) (fun _ _ => 0)
  case atStart => exact ⟨rfl, rfl⟩
  case round =>
    obtain ⟨rfl, rfl⟩ := hrel
    go_wp2_with (at_make; refine wpList_make_nils _ rfl _ _ 38 rfl wr.heap.size 22 Tryd.underlying38 (by kernel_rfl) _ _ 0 rfl rfl rfl rfl (by omega) (Nat.le_refl _) ?_; intro w2 ho2 hb2 hz2)
    go_wp2_with fail
    go_loopw [6] (fun i wx => i = .int .i64 0 ∧ wx = w2) (fun _ _ => 0)
    case atStart => exact ⟨rfl, rfl⟩
    case round =>
      obtain ⟨rfl, hw⟩ := hrel
      rw [hw]
      go_wp2_with fail
      go_loopw [9] (fun i wx => i = .int .i64 0 ∧ wx = w2) (fun _ _ => 0)
      case atStart => exact ⟨rfl, rfl⟩
      case round =>
        obtain ⟨rfl, hw⟩ := hrel
        rw [hw]
        go_wp2_with fail
        go_loopw [11] (fun i wx => i = .int .i64 0 ∧ wx = w2) (fun _ _ => 0)
        case atStart => exact ⟨rfl, rfl⟩
        case round =>
          obtain ⟨rfl, hw⟩ := hrel
          rw [hw]
          go_wp2_with fail
          go_loopw [14] (fun i wx => i = .int .i64 0 ∧ wx = w2) (fun _ _ => 0)
          case atStart => exact ⟨rfl, rfl⟩
          case round =>
            obtain ⟨rfl, hw⟩ := hrel
            rw [hw]
            go_wp2_with fail
            go_ret
            exact ⟨rfl, hb2⟩

set_option maxRecDepth 100000 in
set_option maxHeartbeats 1000000 in
theorem flatLongsNil (w : World) : Calls Tryd.prog 102 #[.slice none 0 0] w fun e w' => e = .returned (.bool true) ∧ Below w.heap.size w w' := by
  go_enter Tryd.func102, Tryd.ntmps102
  go_wp2_with fail
  go_loopw [3] (fun i wr => i = .int .i64 0 ∧ wr = w) (fun _ _ => 0)
  case atStart => exact ⟨rfl, rfl⟩
  case round =>
    obtain ⟨rfl, rfl⟩ := hrel
    go_wp2_with (at_make; refine wpList_make_nils _ rfl _ _ 93 rfl wr.heap.size 236 Tryd.underlying93 (by kernel_rfl) _ _ 0 rfl rfl rfl rfl (by omega) (Nat.le_refl _) ?_; intro w2 ho2 hb2 hz2)
    go_wp2_with fail
    go_loopw [6] (fun i wx => i = .int .i64 0 ∧ wx = w2) (fun _ _ => 0)
    case atStart => exact ⟨rfl, rfl⟩
    case round =>
      obtain ⟨rfl, hw⟩ := hrel
      rw [hw]
      go_wp2_with fail
      go_loopw [9] (fun i wx => i = .int .i64 0 ∧ wx = w2) (fun _ _ => 0)
      case atStart => exact ⟨rfl, rfl⟩
      case round =>
        obtain ⟨rfl, hw⟩ := hrel
        rw [hw]
        go_wp2_with fail
        go_loopw [11] (fun i wx => i = .int .i64 0 ∧ wx = w2) (fun _ _ => 0)
        case atStart => exact ⟨rfl, rfl⟩
        case round =>
          obtain ⟨rfl, hw⟩ := hrel
          rw [hw]
          go_wp2_with fail
          go_loopw [14] (fun i wx => i = .int .i64 0 ∧ wx = w2) (fun _ _ => 0)
          case atStart => exact ⟨rfl, rfl⟩
          case round =>
            obtain ⟨rfl, hw⟩ := hrel
            rw [hw]
            go_wp2_with fail
            go_ret
            exact ⟨rfl, hb2⟩

set_option maxRecDepth 100000 in
set_option maxHeartbeats 1000000 in
theorem flatTextsNil (w : World) : Calls Tryd.prog 103 #[.slice none 0 0] w fun e w' => e = .returned (.bool true) ∧ Below w.heap.size w w' := by
  go_enter Tryd.func103, Tryd.ntmps103
  go_wp2_with fail
  go_loopw [3] (fun i wr => i = .int .i64 0 ∧ wr = w) (fun _ _ => 0)
  case atStart => exact ⟨rfl, rfl⟩
  case round =>
    obtain ⟨rfl, rfl⟩ := hrel
    go_wp2_with (at_make; refine wpList_make_nils _ rfl _ _ 94 rfl wr.heap.size 237 Tryd.underlying94 (by kernel_rfl) _ _ 0 rfl rfl rfl rfl (by omega) (Nat.le_refl _) ?_; intro w2 ho2 hb2 hz2)
    go_wp2_with fail
    go_loopw [6] (fun i wx => i = .int .i64 0 ∧ wx = w2) (fun _ _ => 0)
    case atStart => exact ⟨rfl, rfl⟩
    case round =>
      obtain ⟨rfl, hw⟩ := hrel
      rw [hw]
      go_wp2_with fail
      go_loopw [9] (fun i wx => i = .int .i64 0 ∧ wx = w2) (fun _ _ => 0)
      case atStart => exact ⟨rfl, rfl⟩
      case round =>
        obtain ⟨rfl, hw⟩ := hrel
        rw [hw]
        go_wp2_with fail
        go_loopw [11] (fun i wx => i = .int .i64 0 ∧ wx = w2) (fun _ _ => 0)
        case atStart => exact ⟨rfl, rfl⟩
        case round =>
          obtain ⟨rfl, hw⟩ := hrel
          rw [hw]
          go_wp2_with fail
          go_loopw [14] (fun i wx => i = .int .i64 0 ∧ wx = w2) (fun _ _ => 0)
          case atStart => exact ⟨rfl, rfl⟩
          case round =>
            obtain ⟨rfl, hw⟩ := hrel
            rw [hw]
            go_wp2_with fail
            go_ret
            exact ⟨rfl, hb2⟩

set_option maxRecDepth 100000 in
set_option maxHeartbeats 1000000 in
theorem flatBytesNil (w : World) : Calls Tryd.prog 104 #[.slice none 0 0] w fun e w' => e = .returned (.bool true) ∧ Below w.heap.size w w' := by
  go_enter Tryd.func104, Tryd.ntmps104
  go_wp2_with fail
  go_loopw [3] (fun i wr => i = .int .i64 0 ∧ wr = w) (fun _ _ => 0)
  case atStart => exact ⟨rfl, rfl⟩
  case round =>
    obtain ⟨rfl, rfl⟩ := hrel
    go_wp2_with (at_make; refine wpList_make_nils _ rfl _ _ 36 rfl wr.heap.size 23 Tryd.underlying36 (by kernel_rfl) _ _ 0 rfl rfl rfl rfl (by omega) (Nat.le_refl _) ?_; intro w2 ho2 hb2 hz2)
    go_wp2_with fail
    go_loopw [6] (fun i wx => i = .int .i64 0 ∧ wx = w2) (fun _ _ => 0)
    case atStart => exact ⟨rfl, rfl⟩
    case round =>
      obtain ⟨rfl, hw⟩ := hrel
      rw [hw]
      go_wp2_with fail
      go_loopw [9] (fun i wx => i = .int .i64 0 ∧ wx = w2) (fun _ _ => 0)
      case atStart => exact ⟨rfl, rfl⟩
      case round =>
        obtain ⟨rfl, hw⟩ := hrel
        rw [hw]
        go_wp2_with fail
        go_loopw [11] (fun i wx => i = .int .i64 0 ∧ wx = w2) (fun _ _ => 0)
        case atStart => exact ⟨rfl, rfl⟩
        case round =>
          obtain ⟨rfl, hw⟩ := hrel
          rw [hw]
          go_wp2_with fail
          go_loopw [14] (fun i wx => i = .int .i64 0 ∧ wx = w2) (fun _ _ => 0)
          case atStart => exact ⟨rfl, rfl⟩
          case round =>
            obtain ⟨rfl, hw⟩ := hrel
            rw [hw]
            go_wp2_with fail
            go_ret
            exact ⟨rfl, hb2⟩

set_option maxRecDepth 100000 in
set_option maxHeartbeats 1000000 in
theorem flatTruthsNil (w : World) : Calls Tryd.prog 105 #[.slice none 0 0] w fun e w' => e = .returned (.bool true) ∧ Below w.heap.size w w' := by
  go_enter Tryd.func105, Tryd.ntmps105
  go_wp2_with fail
  go_loopw [3] (fun i wr => i = .int .i64 0 ∧ wr = w) (fun _ _ => 0)
  case atStart => exact ⟨rfl, rfl⟩
  case round =>
    obtain ⟨rfl, rfl⟩ := hrel
    go_wp2_with (at_make; refine wpList_make_nils _ rfl _ _ 95 rfl wr.heap.size 239 Tryd.underlying95 (by kernel_rfl) _ _ 0 rfl rfl rfl rfl (by omega) (Nat.le_refl _) ?_; intro w2 ho2 hb2 hz2)
    go_wp2_with fail
    go_loopw [6] (fun i wx => i = .int .i64 0 ∧ wx = w2) (fun _ _ => 0)
    case atStart => exact ⟨rfl, rfl⟩
    case round =>
      obtain ⟨rfl, hw⟩ := hrel
      rw [hw]
      go_wp2_with fail
      go_loopw [9] (fun i wx => i = .int .i64 0 ∧ wx = w2) (fun _ _ => 0)
      case atStart => exact ⟨rfl, rfl⟩
      case round =>
        obtain ⟨rfl, hw⟩ := hrel
        rw [hw]
        go_wp2_with fail
        go_loopw [11] (fun i wx => i = .int .i64 0 ∧ wx = w2) (fun _ _ => 0)
        case atStart => exact ⟨rfl, rfl⟩
        case round =>
          obtain ⟨rfl, hw⟩ := hrel
          rw [hw]
          go_wp2_with fail
          go_loopw [14] (fun i wx => i = .int .i64 0 ∧ wx = w2) (fun _ _ => 0)
          case atStart => exact ⟨rfl, rfl⟩
          case round =>
            obtain ⟨rfl, hw⟩ := hrel
            rw [hw]
            go_wp2_with fail
            go_ret
            exact ⟨rfl, hb2⟩

set_option maxRecDepth 100000 in
set_option maxHeartbeats 1000000 in
theorem flatUnitsNil (w : World) : Calls Tryd.prog 106 #[.slice none 0 0] w fun e w' => e = .returned (.bool true) ∧ Below w.heap.size w w' := by
  go_enter Tryd.func106, Tryd.ntmps106
  go_wp2_with fail
  go_loopw [3] (fun i wr => i = .int .i64 0 ∧ wr = w) (fun _ _ => 0)
  case atStart => exact ⟨rfl, rfl⟩
  case round =>
    obtain ⟨rfl, rfl⟩ := hrel
    go_wp2_with (at_make; refine wpList_make_nils _ rfl _ _ 96 rfl wr.heap.size 240 Tryd.underlying96 (by kernel_rfl) _ _ 0 rfl rfl rfl rfl (by omega) (Nat.le_refl _) ?_; intro w2 ho2 hb2 hz2)
    go_wp2_with fail
    go_loopw [6] (fun i wx => i = .int .i64 0 ∧ wx = w2) (fun _ _ => 0)
    case atStart => exact ⟨rfl, rfl⟩
    case round =>
      obtain ⟨rfl, hw⟩ := hrel
      rw [hw]
      go_wp2_with fail
      go_loopw [9] (fun i wx => i = .int .i64 0 ∧ wx = w2) (fun _ _ => 0)
      case atStart => exact ⟨rfl, rfl⟩
      case round =>
        obtain ⟨rfl, hw⟩ := hrel
        rw [hw]
        go_wp2_with fail
        go_loopw [11] (fun i wx => i = .int .i64 0 ∧ wx = w2) (fun _ _ => 0)
        case atStart => exact ⟨rfl, rfl⟩
        case round =>
          obtain ⟨rfl, hw⟩ := hrel
          rw [hw]
          go_wp2_with fail
          go_loopw [14] (fun i wx => i = .int .i64 0 ∧ wx = w2) (fun _ _ => 0)
          case atStart => exact ⟨rfl, rfl⟩
          case round =>
            obtain ⟨rfl, hw⟩ := hrel
            rw [hw]
            go_wp2_with fail
            go_ret
            exact ⟨rfl, hb2⟩

set_option maxRecDepth 100000 in
set_option maxHeartbeats 1000000 in
theorem flatEntriesNil (w : World) : Calls Tryd.prog 107 #[.slice none 0 0] w fun e w' => e = .returned (.bool true) ∧ Below w.heap.size w w' := by
  go_enter Tryd.func107, Tryd.ntmps107
  go_wp2_with fail
  go_loopw [3] (fun i wr => i = .int .i64 0 ∧ wr = w) (fun _ _ => 0)
  case atStart => exact ⟨rfl, rfl⟩
  case round =>
    obtain ⟨rfl, rfl⟩ := hrel
    go_wp2_with (at_make; refine wpList_make_nils _ rfl _ _ 97 rfl wr.heap.size 51 Tryd.underlying97 (by kernel_rfl) _ _ 0 rfl rfl rfl rfl (by omega) (Nat.le_refl _) ?_; intro w2 ho2 hb2 hz2)
    go_wp2_with fail
    go_loopw [6] (fun i wx => i = .int .i64 0 ∧ wx = w2) (fun _ _ => 0)
    case atStart => exact ⟨rfl, rfl⟩
    case round =>
      obtain ⟨rfl, hw⟩ := hrel
      rw [hw]
      go_wp2_with fail
      go_loopw [9] (fun i wx => i = .int .i64 0 ∧ wx = w2) (fun _ _ => 0)
      case atStart => exact ⟨rfl, rfl⟩
      case round =>
        obtain ⟨rfl, hw⟩ := hrel
        rw [hw]
        go_wp2_with fail
        go_loopw [11] (fun i wx => i = .int .i64 0 ∧ wx = w2) (fun _ _ => 0)
        case atStart => exact ⟨rfl, rfl⟩
        case round =>
          obtain ⟨rfl, hw⟩ := hrel
          rw [hw]
          go_wp2_with fail
          go_loopw [14] (fun i wx => i = .int .i64 0 ∧ wx = w2) (fun _ _ => 0)
          case atStart => exact ⟨rfl, rfl⟩
          case round =>
            obtain ⟨rfl, hw⟩ := hrel
            rw [hw]
            go_wp2_with fail
            go_ret
            exact ⟨rfl, hb2⟩

set_option maxRecDepth 100000 in
set_option maxHeartbeats 1000000 in
theorem flatIdentsNil (w : World) : Calls Tryd.prog 108 #[.slice none 0 0] w fun e w' => e = .returned (.bool true) ∧ Below w.heap.size w w' := by
  go_enter Tryd.func108, Tryd.ntmps108
  go_wp2_with fail
  go_loopw [3] (fun i wr => i = .int .i64 0 ∧ wr = w) (fun _ _ => 0)
  case atStart => exact ⟨rfl, rfl⟩
  case round =>
    obtain ⟨rfl, rfl⟩ := hrel
    go_wp2_with (at_make; refine wpList_make_nils _ rfl _ _ 98 rfl wr.heap.size 47 Tryd.underlying98 (by kernel_rfl) _ _ 0 rfl rfl rfl rfl (by omega) (Nat.le_refl _) ?_; intro w2 ho2 hb2 hz2)
    go_wp2_with fail
    go_loopw [6] (fun i wx => i = .int .i64 0 ∧ wx = w2) (fun _ _ => 0)
    case atStart => exact ⟨rfl, rfl⟩
    case round =>
      obtain ⟨rfl, hw⟩ := hrel
      rw [hw]
      go_wp2_with fail
      go_loopw [9] (fun i wx => i = .int .i64 0 ∧ wx = w2) (fun _ _ => 0)
      case atStart => exact ⟨rfl, rfl⟩
      case round =>
        obtain ⟨rfl, hw⟩ := hrel
        rw [hw]
        go_wp2_with fail
        go_loopw [11] (fun i wx => i = .int .i64 0 ∧ wx = w2) (fun _ _ => 0)
        case atStart => exact ⟨rfl, rfl⟩
        case round =>
          obtain ⟨rfl, hw⟩ := hrel
          rw [hw]
          go_wp2_with fail
          go_loopw [14] (fun i wx => i = .int .i64 0 ∧ wx = w2) (fun _ _ => 0)
          case atStart => exact ⟨rfl, rfl⟩
          case round =>
            obtain ⟨rfl, hw⟩ := hrel
            rw [hw]
            go_wp2_with fail
            go_ret
            exact ⟨rfl, hb2⟩

set_option maxRecDepth 100000 in
set_option maxHeartbeats 1000000 in
theorem flatMetasNil (w : World) : Calls Tryd.prog 109 #[.slice none 0 0] w fun e w' => e = .returned (.bool true) ∧ Below w.heap.size w w' := by
  go_enter Tryd.func109, Tryd.ntmps109
  go_wp2_with fail
  go_loopw [3] (fun i wr => i = .int .i64 0 ∧ wr = w) (fun _ _ => 0)
  case atStart => exact ⟨rfl, rfl⟩
  case round =>
    obtain ⟨rfl, rfl⟩ := hrel
    go_wp2_with (at_make; refine wpList_make_nils _ rfl _ _ 99 rfl wr.heap.size 247 Tryd.underlying99 (by kernel_rfl) _ _ 0 rfl rfl rfl rfl (by omega) (Nat.le_refl _) ?_; intro w2 ho2 hb2 hz2)
    go_wp2_with fail
    go_loopw [6] (fun i wx => i = .int .i64 0 ∧ wx = w2) (fun _ _ => 0)
    case atStart => exact ⟨rfl, rfl⟩
    case round =>
      obtain ⟨rfl, hw⟩ := hrel
      rw [hw]
      go_wp2_with fail
      go_loopw [9] (fun i wx => i = .int .i64 0 ∧ wx = w2) (fun _ _ => 0)
      case atStart => exact ⟨rfl, rfl⟩
      case round =>
        obtain ⟨rfl, hw⟩ := hrel
        rw [hw]
        go_wp2_with fail
        go_loopw [11] (fun i wx => i = .int .i64 0 ∧ wx = w2) (fun _ _ => 0)
        case atStart => exact ⟨rfl, rfl⟩
        case round =>
          obtain ⟨rfl, hw⟩ := hrel
          rw [hw]
          go_wp2_with fail
          go_loopw [14] (fun i wx => i = .int .i64 0 ∧ wx = w2) (fun _ _ => 0)
          case atStart => exact ⟨rfl, rfl⟩
          case round =>
            obtain ⟨rfl, hw⟩ := hrel
            rw [hw]
            go_wp2_with fail
            go_ret
            exact ⟨rfl, hb2⟩

set_option maxRecDepth 100000 in
set_option maxHeartbeats 1000000 in
theorem flatMarksNil (w : World) : Calls Tryd.prog 110 #[.slice none 0 0] w fun e w' => e = .returned (.bool true) ∧ Below w.heap.size w w' := by
  go_enter Tryd.func110, Tryd.ntmps110
  go_wp2_with fail
  go_loopw [3] (fun i wr => i = .int .i64 0 ∧ wr = w) (fun _ _ => 0)
  case atStart => exact ⟨rfl, rfl⟩
  case round =>
    obtain ⟨rfl, rfl⟩ := hrel
    go_wp2_with (at_make; refine wpList_make_nils _ rfl _ _ 100 rfl wr.heap.size 251 Tryd.underlying100 (by kernel_rfl) _ _ 0 rfl rfl rfl rfl (by omega) (Nat.le_refl _) ?_; intro w2 ho2 hb2 hz2)
    go_wp2_with fail
    go_loopw [6] (fun i wx => i = .int .i64 0 ∧ wx = w2) (fun _ _ => 0)
    case atStart => exact ⟨rfl, rfl⟩
    case round =>
      obtain ⟨rfl, hw⟩ := hrel
      rw [hw]
      go_wp2_with fail
      go_loopw [9] (fun i wx => i = .int .i64 0 ∧ wx = w2) (fun _ _ => 0)
      case atStart => exact ⟨rfl, rfl⟩
      case round =>
        obtain ⟨rfl, hw⟩ := hrel
        rw [hw]
        go_wp2_with fail
        go_loopw [11] (fun i wx => i = .int .i64 0 ∧ wx = w2) (fun _ _ => 0)
        case atStart => exact ⟨rfl, rfl⟩
        case round =>
          obtain ⟨rfl, hw⟩ := hrel
          rw [hw]
          go_wp2_with fail
          go_loopw [14] (fun i wx => i = .int .i64 0 ∧ wx = w2) (fun _ _ => 0)
          case atStart => exact ⟨rfl, rfl⟩
          case round =>
            obtain ⟨rfl, hw⟩ := hrel
            rw [hw]
            go_wp2_with fail
            go_ret
            exact ⟨rfl, hb2⟩

set_option maxRecDepth 100000 in
set_option maxHeartbeats 1000000 in
theorem flatSnapsNil (w : World) : Calls Tryd.prog 111 #[.slice none 0 0] w fun e w' => e = .returned (.bool true) ∧ Below w.heap.size w w' := by
  go_enter Tryd.func111, Tryd.ntmps111
  go_wp2_with fail
  go_loopw [3] (fun i wr => i = .int .i64 0 ∧ wr = w) (fun _ _ => 0)
  case atStart => exact ⟨rfl, rfl⟩
  case round =>
    obtain ⟨rfl, rfl⟩ := hrel
    go_wp2_with (at_make; refine wpList_make_nils _ rfl _ _ 101 rfl wr.heap.size 255 Tryd.underlying101 (by kernel_rfl) _ _ 0 rfl rfl rfl rfl (by omega) (Nat.le_refl _) ?_; intro w2 ho2 hb2 hz2)
    go_wp2_with fail
    go_loopw [6] (fun i wx => i = .int .i64 0 ∧ wx = w2) (fun _ _ => 0)
    case atStart => exact ⟨rfl, rfl⟩
    case round =>
      obtain ⟨rfl, hw⟩ := hrel
      rw [hw]
      go_wp2_with fail
      go_loopw [9] (fun i wx => i = .int .i64 0 ∧ wx = w2) (fun _ _ => 0)
      case atStart => exact ⟨rfl, rfl⟩
      case round =>
        obtain ⟨rfl, hw⟩ := hrel
        rw [hw]
        go_wp2_with fail
        go_loopw [11] (fun i wx => i = .int .i64 0 ∧ wx = w2) (fun _ _ => 0)
        case atStart => exact ⟨rfl, rfl⟩
        case round =>
          obtain ⟨rfl, hw⟩ := hrel
          rw [hw]
          go_wp2_with fail
          go_loopw [14] (fun i wx => i = .int .i64 0 ∧ wx = w2) (fun _ _ => 0)
          case atStart => exact ⟨rfl, rfl⟩
          case round =>
            obtain ⟨rfl, hw⟩ := hrel
            rw [hw]
            go_wp2_with fail
            go_ret
            exact ⟨rfl, hb2⟩

set_option maxRecDepth 100000 in
set_option maxHeartbeats 1000000 in
theorem flatShapesNil (w : World) : Calls Tryd.prog 112 #[.slice none 0 0] w fun e w' => e = .returned (.bool true) ∧ Below w.heap.size w w' := by
  go_enter Tryd.func112, Tryd.ntmps112
  go_wp2_with fail
  go_loopw [3] (fun i wr => i = .int .i64 0 ∧ wr = w) (fun _ _ => 0)
  case atStart => exact ⟨rfl, rfl⟩
  case round =>
    obtain ⟨rfl, rfl⟩ := hrel
    go_wp2_with (at_make; refine wpList_make_nils _ rfl _ _ 102 rfl wr.heap.size 260 Tryd.underlying102 (by kernel_rfl) _ _ 0 rfl rfl rfl rfl (by omega) (Nat.le_refl _) ?_; intro w2 ho2 hb2 hz2)
    go_wp2_with fail
    go_loopw [6] (fun i wx => i = .int .i64 0 ∧ wx = w2) (fun _ _ => 0)
    case atStart => exact ⟨rfl, rfl⟩
    case round =>
      obtain ⟨rfl, hw⟩ := hrel
      rw [hw]
      go_wp2_with fail
      go_loopw [9] (fun i wx => i = .int .i64 0 ∧ wx = w2) (fun _ _ => 0)
      case atStart => exact ⟨rfl, rfl⟩
      case round =>
        obtain ⟨rfl, hw⟩ := hrel
        rw [hw]
        go_wp2_with fail
        go_loopw [11] (fun i wx => i = .int .i64 0 ∧ wx = w2) (fun _ _ => 0)
        case atStart => exact ⟨rfl, rfl⟩
        case round =>
          obtain ⟨rfl, hw⟩ := hrel
          rw [hw]
          go_wp2_with fail
          go_loopw [14] (fun i wx => i = .int .i64 0 ∧ wx = w2) (fun _ _ => 0)
          case atStart => exact ⟨rfl, rfl⟩
          case round =>
            obtain ⟨rfl, hw⟩ := hrel
            rw [hw]
            go_wp2_with fail
            go_ret
            exact ⟨rfl, hb2⟩

set_option maxRecDepth 100000 in
set_option maxHeartbeats 1000000 in
theorem flatLettersNil (w : World) : Calls Tryd.prog 113 #[.slice none 0 0] w fun e w' => e = .returned (.bool true) ∧ Below w.heap.size w w' := by
  go_enter Tryd.func113, Tryd.ntmps113
  go_wp2_with fail
  go_loopw [3] (fun i wr => i = .int .i64 0 ∧ wr = w) (fun _ _ => 0)
  case atStart => exact ⟨rfl, rfl⟩
  case round =>
    obtain ⟨rfl, rfl⟩ := hrel
    go_wp2_with (at_make; refine wpList_make_nils _ rfl _ _ 103 rfl wr.heap.size 264 Tryd.underlying103 (by kernel_rfl) _ _ 0 rfl rfl rfl rfl (by omega) (Nat.le_refl _) ?_; intro w2 ho2 hb2 hz2)
    go_wp2_with fail
    go_loopw [6] (fun i wx => i = .int .i64 0 ∧ wx = w2) (fun _ _ => 0)
    case atStart => exact ⟨rfl, rfl⟩
    case round =>
      obtain ⟨rfl, hw⟩ := hrel
      rw [hw]
      go_wp2_with fail
      go_loopw [9] (fun i wx => i = .int .i64 0 ∧ wx = w2) (fun _ _ => 0)
      case atStart => exact ⟨rfl, rfl⟩
      case round =>
        obtain ⟨rfl, hw⟩ := hrel
        rw [hw]
        go_wp2_with fail
        go_loopw [11] (fun i wx => i = .int .i64 0 ∧ wx = w2) (fun _ _ => 0)
        case atStart => exact ⟨rfl, rfl⟩
        case round =>
          obtain ⟨rfl, hw⟩ := hrel
          rw [hw]
          go_wp2_with fail
          go_loopw [14] (fun i wx => i = .int .i64 0 ∧ wx = w2) (fun _ _ => 0)
          case atStart => exact ⟨rfl, rfl⟩
          case round =>
            obtain ⟨rfl, hw⟩ := hrel
            rw [hw]
            go_wp2_with fail
            go_ret
            exact ⟨rfl, hb2⟩

end Go.Proofs.YtoiachpnoeecmaaDoor
