/-
  limpetkit's flats of no lists: contracts.
-/
import Derived.Test.YtfglkpcboodllaaGreatDoorMr13
import Derived.Test.YtfglkpcboodllaaGreatDoorMr12
set_option linter.unusedVariables false
set_option linter.unusedSimpArgs false
namespace Go.Proofs.YtfglkpcboodllaaGreatDoor
open Go.RowKit

set_option maxRecDepth 100000 in
set_option maxHeartbeats 1000000 in
theorem flatLimbsNil (w : World) : Calls Tryz.prog 127 #[.slice none 0 0] w fun e w' => e = .returned (.bool true) ∧ Below w.heap.size w w' := by
  go_enter Tryz.func127, Tryz.ntmps127
  go_wp2_with fail
  go_loopw [3] (fun i wr => i = .int .i64 0 ∧ wr = w) (fun _ _ => 0)
  case atStart => exact ⟨rfl, rfl⟩
  case round =>
    obtain ⟨rfl, rfl⟩ := hrel
    go_wp2_with (at_make; refine wpList_make_nils _ rfl _ _ 126 rfl wr.heap.size 226 Tryz.underlying126 (by kernel_rfl) _ _ 0 rfl rfl rfl rfl (by omega) (Nat.le_refl _) ?_; intro w2 ho2 hb2 hz2)
    go_wp2_with fail
    go_loopw [6] (fun i wx => i = .int .i64 0 ∧ wx = w2) (fun _ _ => 0)
    case atStart => exact ⟨rfl, rfl⟩
    case round =>
      obtain ⟨rfl, hw⟩ := hrel
      rw [hw]
      go_wp2_with fail
      go_loopw [9] (fun i wx => i = .int .i64 0 ∧ wx = w2) (fun _ _ => 0)
      case atStart => exact ⟨rfl, rfl⟩
      case round =>
        obtain ⟨rfl, hw⟩ := hrel
        rw [hw]
        go_wp2_with fail
        go_loopw [11] (fun i wx => i = .int .i64 0 ∧ wx = w2) (fun _ _ => 0)
        case atStart => exact ⟨rfl, rfl⟩
        case round =>
          obtain ⟨rfl, hw⟩ := hrel
          rw [hw]
          go_wp2_with fail
          go_loopw [14] (fun i wx => i = .int .i64 0 ∧ wx = w2) (fun _ _ => 0)
          case atStart => exact ⟨rfl, rfl⟩
          case round =>
            obtain ⟨rfl, hw⟩ := hrel
            rw [hw]
            go_wp2_with fail
            go_ret
            exact ⟨rfl, hb2⟩

set_option maxRecDepth 100000 in
set_option maxHeartbeats 1000000 in
theorem flatWordsNil (w : World) : Calls Tryz.prog 128 #[.slice none 0 0] w fun e w' => e = .returned (.bool true) ∧ Below w.heap.size w w' := by
  go_enter Tryz.func128, Tryz.ntmps128
  go_wp2_with fail
  go_loopw [3] (fun i wr => i = .int .i64 0 ∧ wr = w) (fun _ _ => 0)
  case atStart => exact ⟨rfl, rfl⟩
  case round =>
    obtain ⟨rfl, rfl⟩ := hrel
    go_wp2_with (at_make; refine wpList_make_nils _ rfl _ _ 127 rfl wr.heap.size 228 Tryz.underlying127 (by kernel_rfl) _ _ 0 rfl rfl rfl rfl (by omega) (Nat.le_refl _) ?_; intro w2 ho2 hb2 hz2)
    go_wp2_with fail
    go_loopw [6] (fun i wx => i = .int .i64 0 ∧ wx = w2) (fun _ _ => 0)
    case atStart => exact ⟨rfl, rfl⟩
    case round =>
      obtain ⟨rfl, hw⟩ := hrel
      rw [hw]
      go_wp2_with fail
      go_loopw [9] (fun i wx => i = .int .i64 0 ∧ wx = w2) (fun _ _ => 0)
      case atStart => exact ⟨rfl, rfl⟩
      case round =>
        obtain ⟨rfl, hw⟩ := hrel
        rw [hw]
        go_wp2_with fail
        go_loopw [11] (fun i wx => i = .int .i64 0 ∧ wx = w2) (fun _ _ => 0)
        case atStart => exact ⟨rfl, rfl⟩
        case round =>
          obtain ⟨rfl, hw⟩ := hrel
          rw [hw]
          go_wp2_with fail
          go_loopw [14] (fun i wx => i = .int .i64 0 ∧ wx = w2) (fun _ _ => 0)
          case atStart => exact ⟨rfl, rfl⟩
          case round =>
            obtain ⟨rfl, hw⟩ := hrel
            rw [hw]
            go_wp2_with fail
            go_ret
            exact ⟨rfl, hb2⟩

set_option maxRecDepth 100000 in
set_option maxHeartbeats 1000000 in
theorem flatIntsNil (w : World) : Calls Tryz.prog 129 #[.slice none 0 0] w fun e w' => e = .returned (.bool true) ∧ Below w.heap.size w w' := by
  go_enter Tryz.func129, Tryz.ntmps129
  go_wp2_with fail
  go_loopw [3] (fun i wr => i = .int .i64 0 ∧ wr = w) (fun _ _ => 0)
  case atStart => exact ⟨rfl, rfl⟩
  case round =>
    obtain ⟨rfl, rfl⟩ := hrel
    go_wp2_with (at_make; refine wpList_make_nils _ rfl _ _ 104 rfl wr.heap.size 22 Tryz.underlying104 (by kernel_rfl) _ _ 0 rfl rfl rfl rfl (by omega) (Nat.le_refl _) ?_; intro w2 ho2 hb2 hz2)
    go_wp2_with fail
    go_loopw [6] (fun i wx => i = .int .i64 0 ∧ wx = w2) (fun _ _ => 0)
    case atStart => exact ⟨rfl, rfl⟩
    case round =>
      obtain ⟨rfl, hw⟩ := hrel
      rw [hw]
      go_wp2_with fail
      go_loopw [9] (fun i wx => i = .int .i64 0 ∧ wx = w2) (fun _ _ => 0)
      case atStart => exact ⟨rfl, rfl⟩
      case round =>
        obtain ⟨rfl, hw⟩ := hrel
        rw [hw]
        go_wp2_with fail
        go_loopw [11] (fun i wx => i = .int .i64 0 ∧ wx = w2) (fun _ _ => 0)
        case atStart => exact ⟨rfl, rfl⟩
        case round =>
          obtain ⟨rfl, hw⟩ := hrel
          rw [hw]
          go_wp2_with fail
          go_loopw [14] (fun i wx => i = .int .i64 0 ∧ wx = w2) (fun _ _ => 0)
          case atStart => exact ⟨rfl, rfl⟩
          case round =>
            obtain ⟨rfl, hw⟩ := hrel
            rw [hw]
            go_wp2_with fail
            go_ret
            exact ⟨rfl, hb2⟩

set_option maxRecDepth 100000 in
set_option maxHeartbeats 1000000 in
theorem flatLongsNil (w : World) : Calls Tryz.prog 130 #[.slice none 0 0] w fun e w' => e = .returned (.bool true) ∧ Below w.heap.size w w' := by
  go_enter Tryz.func130, Tryz.ntmps130
  go_wp2_with fail
  go_loopw [3] (fun i wr => i = .int .i64 0 ∧ wr = w) (fun _ _ => 0)
  case atStart => exact ⟨rfl, rfl⟩
  case round =>
    obtain ⟨rfl, rfl⟩ := hrel
    go_wp2_with (at_make; refine wpList_make_nils _ rfl _ _ 128 rfl wr.heap.size 229 Tryz.underlying128 (by kernel_rfl) _ _ 0 rfl rfl rfl rfl (by omega) (Nat.le_refl _) ?_; intro w2 ho2 hb2 hz2)
    go_wp2_with fail
    go_loopw [6] (fun i wx => i = .int .i64 0 ∧ wx = w2) (fun _ _ => 0)
    case atStart => exact ⟨rfl, rfl⟩
    case round =>
      obtain ⟨rfl, hw⟩ := hrel
      rw [hw]
      go_wp2_with fail
      go_loopw [9] (fun i wx => i = .int .i64 0 ∧ wx = w2) (fun _ _ => 0)
      case atStart => exact ⟨rfl, rfl⟩
      case round =>
        obtain ⟨rfl, hw⟩ := hrel
        rw [hw]
        go_wp2_with fail
        go_loopw [11] (fun i wx => i = .int .i64 0 ∧ wx = w2) (fun _ _ => 0)
        case atStart => exact ⟨rfl, rfl⟩
        case round =>
          obtain ⟨rfl, hw⟩ := hrel
          rw [hw]
          go_wp2_with fail
          go_loopw [14] (fun i wx => i = .int .i64 0 ∧ wx = w2) (fun _ _ => 0)
          case atStart => exact ⟨rfl, rfl⟩
          case round =>
            obtain ⟨rfl, hw⟩ := hrel
            rw [hw]
            go_wp2_with fail
            go_ret
            exact ⟨rfl, hb2⟩

set_option maxRecDepth 100000 in
set_option maxHeartbeats 1000000 in
theorem flatTextsNil (w : World) : Calls Tryz.prog 131 #[.slice none 0 0] w fun e w' => e = .returned (.bool true) ∧ Below w.heap.size w w' := by
  go_enter Tryz.func131, Tryz.ntmps131
  go_wp2_with fail
  go_loopw [3] (fun i wr => i = .int .i64 0 ∧ wr = w) (fun _ _ => 0)
  case atStart => exact ⟨rfl, rfl⟩
  case round =>
    obtain ⟨rfl, rfl⟩ := hrel
    go_wp2_with (at_make; refine wpList_make_nils _ rfl _ _ 129 rfl wr.heap.size 230 Tryz.underlying129 (by kernel_rfl) _ _ 0 rfl rfl rfl rfl (by omega) (Nat.le_refl _) ?_; intro w2 ho2 hb2 hz2)
    go_wp2_with fail
    go_loopw [6] (fun i wx => i = .int .i64 0 ∧ wx = w2) (fun _ _ => 0)
    case atStart => exact ⟨rfl, rfl⟩
    case round =>
      obtain ⟨rfl, hw⟩ := hrel
      rw [hw]
      go_wp2_with fail
      go_loopw [9] (fun i wx => i = .int .i64 0 ∧ wx = w2) (fun _ _ => 0)
      case atStart => exact ⟨rfl, rfl⟩
      case round =>
        obtain ⟨rfl, hw⟩ := hrel
        rw [hw]
        go_wp2_with fail
        go_loopw [11] (fun i wx => i = .int .i64 0 ∧ wx = w2) (fun _ _ => 0)
        case atStart => exact ⟨rfl, rfl⟩
        case round =>
          obtain ⟨rfl, hw⟩ := hrel
          rw [hw]
          go_wp2_with fail
          go_loopw [14] (fun i wx => i = .int .i64 0 ∧ wx = w2) (fun _ _ => 0)
          case atStart => exact ⟨rfl, rfl⟩
          case round =>
            obtain ⟨rfl, hw⟩ := hrel
            rw [hw]
            go_wp2_with fail
            go_ret
            exact ⟨rfl, hb2⟩

set_option maxRecDepth 100000 in
set_option maxHeartbeats 1000000 in
theorem flatBytesNil (w : World) : Calls Tryz.prog 132 #[.slice none 0 0] w fun e w' => e = .returned (.bool true) ∧ Below w.heap.size w w' := by
  go_enter Tryz.func132, Tryz.ntmps132
  go_wp2_with fail
  go_loopw [3] (fun i wr => i = .int .i64 0 ∧ wr = w) (fun _ _ => 0)
  case atStart => exact ⟨rfl, rfl⟩
  case round =>
    obtain ⟨rfl, rfl⟩ := hrel
    go_wp2_with (at_make; refine wpList_make_nils _ rfl _ _ 102 rfl wr.heap.size 26 Tryz.underlying102 (by kernel_rfl) _ _ 0 rfl rfl rfl rfl (by omega) (Nat.le_refl _) ?_; intro w2 ho2 hb2 hz2)
    go_wp2_with fail
    go_loopw [6] (fun i wx => i = .int .i64 0 ∧ wx = w2) (fun _ _ => 0)
    case atStart => exact ⟨rfl, rfl⟩
    case round =>
      obtain ⟨rfl, hw⟩ := hrel
      rw [hw]
      go_wp2_with fail
      go_loopw [9] (fun i wx => i = .int .i64 0 ∧ wx = w2) (fun _ _ => 0)
      case atStart => exact ⟨rfl, rfl⟩
      case round =>
        obtain ⟨rfl, hw⟩ := hrel
        rw [hw]
        go_wp2_with fail
        go_loopw [11] (fun i wx => i = .int .i64 0 ∧ wx = w2) (fun _ _ => 0)
        case atStart => exact ⟨rfl, rfl⟩
        case round =>
          obtain ⟨rfl, hw⟩ := hrel
          rw [hw]
          go_wp2_with fail
          go_loopw [14] (fun i wx => i = .int .i64 0 ∧ wx = w2) (fun _ _ => 0)
          case atStart => exact ⟨rfl, rfl⟩
          case round =>
            obtain ⟨rfl, hw⟩ := hrel
            rw [hw]
            go_wp2_with fail
            go_ret
            exact ⟨rfl, hb2⟩

set_option maxRecDepth 100000 in
set_option maxHeartbeats 1000000 in
theorem flatTruthsNil (w : World) : Calls Tryz.prog 133 #[.slice none 0 0] w fun e w' => e = .returned (.bool true) ∧ Below w.heap.size w w' := by
  go_enter Tryz.func133, Tryz.ntmps133
  go_wp2_with fail
  go_loopw [3] (fun i wr => i = .int .i64 0 ∧ wr = w) (fun _ _ => 0)
  case atStart => exact ⟨rfl, rfl⟩
  case round =>
    obtain ⟨rfl, rfl⟩ := hrel
    go_wp2_with (at_make; refine wpList_make_nils _ rfl _ _ 130 rfl wr.heap.size 232 Tryz.underlying130 (by kernel_rfl) _ _ 0 rfl rfl rfl rfl (by omega) (Nat.le_refl _) ?_; intro w2 ho2 hb2 hz2)
    go_wp2_with fail
    go_loopw [6] (fun i wx => i = .int .i64 0 ∧ wx = w2) (fun _ _ => 0)
    case atStart => exact ⟨rfl, rfl⟩
    case round =>
      obtain ⟨rfl, hw⟩ := hrel
      rw [hw]
      go_wp2_with fail
      go_loopw [9] (fun i wx => i = .int .i64 0 ∧ wx = w2) (fun _ _ => 0)
      case atStart => exact ⟨rfl, rfl⟩
      case round =>
        obtain ⟨rfl, hw⟩ := hrel
        rw [hw]
        go_wp2_with fail
        go_loopw [11] (fun i wx => i = .int .i64 0 ∧ wx = w2) (fun _ _ => 0)
        case atStart => exact ⟨rfl, rfl⟩
        case round =>
          obtain ⟨rfl, hw⟩ := hrel
          rw [hw]
          go_wp2_with fail
          go_loopw [14] (fun i wx => i = .int .i64 0 ∧ wx = w2) (fun _ _ => 0)
          case atStart => exact ⟨rfl, rfl⟩
          case round =>
            obtain ⟨rfl, hw⟩ := hrel
            rw [hw]
            go_wp2_with fail
            go_ret
            exact ⟨rfl, hb2⟩

set_option maxRecDepth 100000 in
set_option maxHeartbeats 1000000 in
theorem flatUnitsNil (w : World) : Calls Tryz.prog 134 #[.slice none 0 0] w fun e w' => e = .returned (.bool true) ∧ Below w.heap.size w w' := by
  go_enter Tryz.func134, Tryz.ntmps134
  go_wp2_with fail
  go_loopw [3] (fun i wr => i = .int .i64 0 ∧ wr = w) (fun _ _ => 0)
  case atStart => exact ⟨rfl, rfl⟩
  case round =>
    obtain ⟨rfl, rfl⟩ := hrel
    go_wp2_with (at_make; refine wpList_make_nils _ rfl _ _ 131 rfl wr.heap.size 233 Tryz.underlying131 (by kernel_rfl) _ _ 0 rfl rfl rfl rfl (by omega) (Nat.le_refl _) ?_; intro w2 ho2 hb2 hz2)
    go_wp2_with fail
    go_loopw [6] (fun i wx => i = .int .i64 0 ∧ wx = w2) (fun _ _ => 0)
    case atStart => exact ⟨rfl, rfl⟩
    case round =>
      obtain ⟨rfl, hw⟩ := hrel
      rw [hw]
      go_wp2_with fail
      go_loopw [9] (fun i wx => i = .int .i64 0 ∧ wx = w2) (fun _ _ => 0)
      case atStart => exact ⟨rfl, rfl⟩
      case round =>
        obtain ⟨rfl, hw⟩ := hrel
        rw [hw]
        go_wp2_with fail
        go_loopw [11] (fun i wx => i = .int .i64 0 ∧ wx = w2) (fun _ _ => 0)
        case atStart => exact ⟨rfl, rfl⟩
        case round =>
          obtain ⟨rfl, hw⟩ := hrel
          rw [hw]
          go_wp2_with fail
          go_loopw [14] (fun i wx => i = .int .i64 0 ∧ wx = w2) (fun _ _ => 0)
          case atStart => exact ⟨rfl, rfl⟩
          case round =>
            obtain ⟨rfl, hw⟩ := hrel
            rw [hw]
            go_wp2_with fail
            go_ret
            exact ⟨rfl, hb2⟩

set_option maxRecDepth 100000 in
set_option maxHeartbeats 1000000 in
theorem flatEntriesNil (w : World) : Calls Tryz.prog 135 #[.slice none 0 0] w fun e w' => e = .returned (.bool true) ∧ Below w.heap.size w w' := by
  go_enter Tryz.func135, Tryz.ntmps135
  go_wp2_with fail
  go_loopw [3] (fun i wr => i = .int .i64 0 ∧ wr = w) (fun _ _ => 0)
  case atStart => exact ⟨rfl, rfl⟩
  case round =>
    obtain ⟨rfl, rfl⟩ := hrel
    go_wp2_with (at_make; refine wpList_make_nils _ rfl _ _ 61 rfl wr.heap.size 31 Tryz.underlying61 (by kernel_rfl) _ _ 0 rfl rfl rfl rfl (by omega) (Nat.le_refl _) ?_; intro w2 ho2 hb2 hz2)
    go_wp2_with fail
    go_loopw [6] (fun i wx => i = .int .i64 0 ∧ wx = w2) (fun _ _ => 0)
    case atStart => exact ⟨rfl, rfl⟩
    case round =>
      obtain ⟨rfl, hw⟩ := hrel
      rw [hw]
      go_wp2_with fail
      go_loopw [9] (fun i wx => i = .int .i64 0 ∧ wx = w2) (fun _ _ => 0)
      case atStart => exact ⟨rfl, rfl⟩
      case round =>
        obtain ⟨rfl, hw⟩ := hrel
        rw [hw]
        go_wp2_with fail
        go_loopw [11] (fun i wx => i = .int .i64 0 ∧ wx = w2) (fun _ _ => 0)
        case atStart => exact ⟨rfl, rfl⟩
        case round =>
          obtain ⟨rfl, hw⟩ := hrel
          rw [hw]
          go_wp2_with fail
          go_loopw [14] (fun i wx => i = .int .i64 0 ∧ wx = w2) (fun _ _ => 0)
          case atStart => exact ⟨rfl, rfl⟩
          case round =>
            obtain ⟨rfl, hw⟩ := hrel
            rw [hw]
            go_wp2_with fail
            go_ret
            exact ⟨rfl, hb2⟩

set_option maxRecDepth 100000 in
set_option maxHeartbeats 1000000 in
theorem flatIdentsNil (w : World) : Calls Tryz.prog 136 #[.slice none 0 0] w fun e w' => e = .returned (.bool true) ∧ Below w.heap.size w w' := by
  go_enter Tryz.func136, Tryz.ntmps136
  go_wp2_with fail
  go_loopw [3] (fun i wr => i = .int .i64 0 ∧ wr = w) (fun _ _ => 0)
  case atStart => exact ⟨rfl, rfl⟩
  case round =>
    obtain ⟨rfl, rfl⟩ := hrel
    go_wp2_with (at_make; refine wpList_make_nils _ rfl _ _ 80 rfl wr.heap.size 34 Tryz.underlying80 (by kernel_rfl) _ _ 0 rfl rfl rfl rfl (by omega) (Nat.le_refl _) ?_; intro w2 ho2 hb2 hz2)
    go_wp2_with fail
    go_loopw [6] (fun i wx => i = .int .i64 0 ∧ wx = w2) (fun _ _ => 0)
    case atStart => exact ⟨rfl, rfl⟩
    case round =>
      obtain ⟨rfl, hw⟩ := hrel
      rw [hw]
      go_wp2_with fail
      go_loopw [9] (fun i wx => i = .int .i64 0 ∧ wx = w2) (fun _ _ => 0)
      case atStart => exact ⟨rfl, rfl⟩
      case round =>
        obtain ⟨rfl, hw⟩ := hrel
        rw [hw]
        go_wp2_with fail
        go_loopw [11] (fun i wx => i = .int .i64 0 ∧ wx = w2) (fun _ _ => 0)
        case atStart => exact ⟨rfl, rfl⟩
        case round =>
          obtain ⟨rfl, hw⟩ := hrel
          rw [hw]
          go_wp2_with fail
          go_loopw [14] (fun i wx => i = .int .i64 0 ∧ wx = w2) (fun _ _ => 0)
          case atStart => exact ⟨rfl, rfl⟩
          case round =>
            obtain ⟨rfl, hw⟩ := hrel
            rw [hw]
            go_wp2_with fail
            go_ret
            exact ⟨rfl, hb2⟩

set_option maxRecDepth 100000 in
set_option maxHeartbeats 1000000 in
theorem flatMetasNil (w : World) : Calls Tryz.prog 137 #[.slice none 0 0] w fun e w' => e = .returned (.bool true) ∧ Below w.heap.size w w' := by
  go_enter Tryz.func137, Tryz.ntmps137
  go_wp2_with fail
  go_loopw [3] (fun i wr => i = .int .i64 0 ∧ wr = w) (fun _ _ => 0)
  case atStart => exact ⟨rfl, rfl⟩
  case round =>
    obtain ⟨rfl, rfl⟩ := hrel
    go_wp2_with (at_make; refine wpList_make_nils _ rfl _ _ 132 rfl wr.heap.size 239 Tryz.underlying132 (by kernel_rfl) _ _ 0 rfl rfl rfl rfl (by omega) (Nat.le_refl _) ?_; intro w2 ho2 hb2 hz2)
    go_wp2_with fail
    go_loopw [6] (fun i wx => i = .int .i64 0 ∧ wx = w2) (fun _ _ => 0)
    case atStart => exact ⟨rfl, rfl⟩
    case round =>
      obtain ⟨rfl, hw⟩ := hrel
      rw [hw]
      go_wp2_with fail
      go_loopw [9] (fun i wx => i = .int .i64 0 ∧ wx = w2) (fun _ _ => 0)
      case atStart => exact ⟨rfl, rfl⟩
      case round =>
        obtain ⟨rfl, hw⟩ := hrel
        rw [hw]
        go_wp2_with fail
        go_loopw [11] (fun i wx => i = .int .i64 0 ∧ wx = w2) (fun _ _ => 0)
        case atStart => exact ⟨rfl, rfl⟩
        case round =>
          obtain ⟨rfl, hw⟩ := hrel
          rw [hw]
          go_wp2_with fail
          go_loopw [14] (fun i wx => i = .int .i64 0 ∧ wx = w2) (fun _ _ => 0)
          case atStart => exact ⟨rfl, rfl⟩
          case round =>
            obtain ⟨rfl, hw⟩ := hrel
            rw [hw]
            go_wp2_with fail
            go_ret
            exact ⟨rfl, hb2⟩

set_option maxRecDepth 100000 in
set_option maxHeartbeats 1000000 in
theorem flatMarksNil (w : World) : Calls Tryz.prog 138 #[.slice none 0 0] w fun e w' => e = .returned (.bool true) ∧ Below w.heap.size w w' := by
  go_enter Tryz.func138, Tryz.ntmps138
  go_wp2_with fail
  go_loopw [3] (fun i wr => i = .int .i64 0 ∧ wr = w) (fun _ _ => 0)
  case atStart => exact ⟨rfl, rfl⟩
  case round =>
    obtain ⟨rfl, rfl⟩ := hrel
    go_wp2_with (at_make; refine wpList_make_nils _ rfl _ _ 133 rfl wr.heap.size 243 Tryz.underlying133 (by kernel_rfl) _ _ 0 rfl rfl rfl rfl (by omega) (Nat.le_refl _) ?_; intro w2 ho2 hb2 hz2)
    go_wp2_with fail
    go_loopw [6] (fun i wx => i = .int .i64 0 ∧ wx = w2) (fun _ _ => 0)
    case atStart => exact ⟨rfl, rfl⟩
    case round =>
      obtain ⟨rfl, hw⟩ := hrel
      rw [hw]
      go_wp2_with fail
      go_loopw [9] (fun i wx => i = .int .i64 0 ∧ wx = w2) (fun _ _ => 0)
      case atStart => exact ⟨rfl, rfl⟩
      case round =>
        obtain ⟨rfl, hw⟩ := hrel
        rw [hw]
        go_wp2_with fail
        go_loopw [11] (fun i wx => i = .int .i64 0 ∧ wx = w2) (fun _ _ => 0)
        case atStart => exact ⟨rfl, rfl⟩
        case round =>
          obtain ⟨rfl, hw⟩ := hrel
          rw [hw]
          go_wp2_with fail
          go_loopw [14] (fun i wx => i = .int .i64 0 ∧ wx = w2) (fun _ _ => 0)
          case atStart => exact ⟨rfl, rfl⟩
          case round =>
            obtain ⟨rfl, hw⟩ := hrel
            rw [hw]
            go_wp2_with fail
            go_ret
            exact ⟨rfl, hb2⟩

set_option maxRecDepth 100000 in
set_option maxHeartbeats 1000000 in
theorem flatSnapsNil (w : World) : Calls Tryz.prog 139 #[.slice none 0 0] w fun e w' => e = .returned (.bool true) ∧ Below w.heap.size w w' := by
  go_enter Tryz.func139, Tryz.ntmps139
  go_wp2_with fail
  go_loopw [3] (fun i wr => i = .int .i64 0 ∧ wr = w) (fun _ _ => 0)
  case atStart => exact ⟨rfl, rfl⟩
  case round =>
    obtain ⟨rfl, rfl⟩ := hrel
    go_wp2_with (at_make; refine wpList_make_nils _ rfl _ _ 134 rfl wr.heap.size 247 Tryz.underlying134 (by kernel_rfl) _ _ 0 rfl rfl rfl rfl (by omega) (Nat.le_refl _) ?_; intro w2 ho2 hb2 hz2)
    go_wp2_with fail
    go_loopw [6] (fun i wx => i = .int .i64 0 ∧ wx = w2) (fun _ _ => 0)
    case atStart => exact ⟨rfl, rfl⟩
    case round =>
      obtain ⟨rfl, hw⟩ := hrel
      rw [hw]
      go_wp2_with fail
      go_loopw [9] (fun i wx => i = .int .i64 0 ∧ wx = w2) (fun _ _ => 0)
      case atStart => exact ⟨rfl, rfl⟩
      case round =>
        obtain ⟨rfl, hw⟩ := hrel
        rw [hw]
        go_wp2_with fail
        go_loopw [11] (fun i wx => i = .int .i64 0 ∧ wx = w2) (fun _ _ => 0)
        case atStart => exact ⟨rfl, rfl⟩
        case round =>
          obtain ⟨rfl, hw⟩ := hrel
          rw [hw]
          go_wp2_with fail
          go_loopw [14] (fun i wx => i = .int .i64 0 ∧ wx = w2) (fun _ _ => 0)
          case atStart => exact ⟨rfl, rfl⟩
          case round =>
            obtain ⟨rfl, hw⟩ := hrel
            rw [hw]
            go_wp2_with fail
            go_ret
            exact ⟨rfl, hb2⟩

set_option maxRecDepth 100000 in
set_option maxHeartbeats 1000000 in
theorem flatShapesNil (w : World) : Calls Tryz.prog 140 #[.slice none 0 0] w fun e w' => e = .returned (.bool true) ∧ Below w.heap.size w w' := by
  go_enter Tryz.func140, Tryz.ntmps140
  go_wp2_with fail
  go_loopw [3] (fun i wr => i = .int .i64 0 ∧ wr = w) (fun _ _ => 0)
  case atStart => exact ⟨rfl, rfl⟩
  case round =>
    obtain ⟨rfl, rfl⟩ := hrel
    go_wp2_with (at_make; refine wpList_make_nils _ rfl _ _ 135 rfl wr.heap.size 252 Tryz.underlying135 (by kernel_rfl) _ _ 0 rfl rfl rfl rfl (by omega) (Nat.le_refl _) ?_; intro w2 ho2 hb2 hz2)
    go_wp2_with fail
    go_loopw [6] (fun i wx => i = .int .i64 0 ∧ wx = w2) (fun _ _ => 0)
    case atStart => exact ⟨rfl, rfl⟩
    case round =>
      obtain ⟨rfl, hw⟩ := hrel
      rw [hw]
      go_wp2_with fail
      go_loopw [9] (fun i wx => i = .int .i64 0 ∧ wx = w2) (fun _ _ => 0)
      case atStart => exact ⟨rfl, rfl⟩
      case round =>
        obtain ⟨rfl, hw⟩ := hrel
        rw [hw]
        go_wp2_with fail
        go_loopw [11] (fun i wx => i = .int .i64 0 ∧ wx = w2) (fun _ _ => 0)
        case atStart => exact ⟨rfl, rfl⟩
        case round =>
          obtain ⟨rfl, hw⟩ := hrel
          rw [hw]
          go_wp2_with fail
          go_loopw [14] (fun i wx => i = .int .i64 0 ∧ wx = w2) (fun _ _ => 0)
          case atStart => exact ⟨rfl, rfl⟩
          case round =>
            obtain ⟨rfl, hw⟩ := hrel
            rw [hw]
            go_wp2_with fail
            go_ret
            exact ⟨rfl, hb2⟩

set_option maxRecDepth 100000 in
set_option maxHeartbeats 1000000 in
theorem flatLettersNil (w : World) : Calls Tryz.prog 141 #[.slice none 0 0] w fun e w' => e = .returned (.bool true) ∧ Below w.heap.size w w' := by
  go_enter Tryz.func141, Tryz.ntmps141
  go_wp2_with fail
  go_loopw [3] (fun i wr => i = .int .i64 0 ∧ wr = w) (fun _ _ => 0)
  case atStart => exact ⟨rfl, rfl⟩
  case round =>
    obtain ⟨rfl, rfl⟩ := hrel
    go_wp2_with (at_make; refine wpList_make_nils _ rfl _ _ 136 rfl wr.heap.size 256 Tryz.underlying136 (by kernel_rfl) _ _ 0 rfl rfl rfl rfl (by omega) (Nat.le_refl _) ?_; intro w2 ho2 hb2 hz2)
    go_wp2_with fail
    go_loopw [6] (fun i wx => i = .int .i64 0 ∧ wx = w2) (fun _ _ => 0)
    case atStart => exact ⟨rfl, rfl⟩
    case round =>
      obtain ⟨rfl, hw⟩ := hrel
      rw [hw]
      go_wp2_with fail
      go_loopw [9] (fun i wx => i = .int .i64 0 ∧ wx = w2) (fun _ _ => 0)
      case atStart => exact ⟨rfl, rfl⟩
      case round =>
        obtain ⟨rfl, hw⟩ := hrel
        rw [hw]
        go_wp2_with fail
        go_loopw [11] (fun i wx => i = .int .i64 0 ∧ wx = w2) (fun _ _ => 0)
        case atStart => exact ⟨rfl, rfl⟩
        case round =>
          obtain ⟨rfl, hw⟩ := hrel
          rw [hw]
          go_wp2_with fail
          go_loopw [14] (fun i wx => i = .int .i64 0 ∧ wx = w2) (fun _ _ => 0)
          case atStart => exact ⟨rfl, rfl⟩
          case round =>
            obtain ⟨rfl, hw⟩ := hrel
            rw [hw]
            go_wp2_with fail
            go_ret
            exact ⟨rfl, hb2⟩

end Go.Proofs.YtfglkpcboodllaaGreatDoor
