/-
  limpetkit's flats of no lists: contracts.
-/
import Derived.Test.YthadfdpdillemaaGreatDoorKitMark
import Derived.Test.YthadfdpdillemaaGreatDoorApartMath
set_option linter.unusedVariables false
set_option linter.unusedSimpArgs false
namespace Go.Proofs.YthadfdpdillemaaGreatDoor
open Go.RowKit

set_option maxRecDepth 100000 in
set_option maxHeartbeats 1000000 in
theorem flatLimbsNil (w : World) : Calls Tryz.prog 125 #[.slice none 0 0] w fun e w' => e = .returned (.bool true) ∧ Below w.heap.size w w' := by
  go_enter Tryz.func125, Tryz.ntmps125
  go_wp2_with fail
  go_loopw [3] (fun i wr => i = .int .i64 0 ∧ wr = w) (fun _ _ => 0)
  case atStart => exact ⟨rfl, rfl⟩
  case round =>
    obtain ⟨rfl, rfl⟩ := hrel
    go_wp2_with (at_make; refine wpList_make_nils _ rfl _ _ 118 rfl wr.heap.size 239 Tryz.underlying118 (by kernel_rfl) _ _ 0 rfl rfl rfl rfl (by omega) (Nat.le_refl _) ?_; intro w2 ho2 hb2 hz2)
    go_wp2_with fail
    go_loopw [6] (fun i wx => i = .int .i64 0 ∧ wx = w2) (fun _ _ => 0)
    case atStart => exact ⟨rfl, rfl⟩
    case round =>
      obtain ⟨rfl, hw⟩ := hrel
      rw [hw]
      go_wp2_with fail
      go_loopw [9] (fun i wx => i = .int .i64 0 ∧ wx = w2) (fun _ _ => 0)
      case atStart => exact ⟨rfl, rfl⟩
      case round =>
        obtain ⟨rfl, hw⟩ := hrel
        rw [hw]
        go_wp2_with fail
        go_loopw [11] (fun i wx => i = .int .i64 0 ∧ wx = w2) (fun _ _ => 0)
        case atStart => exact ⟨rfl, rfl⟩
        case round =>
          obtain ⟨rfl, hw⟩ := hrel
          rw [hw]
          go_wp2_with fail
          go_loopw [14] (fun i wx => i = .int .i64 0 ∧ wx = w2) (fun _ _ => 0)
          case atStart => exact ⟨rfl, rfl⟩
          case round =>
            obtain ⟨rfl, hw⟩ := hrel
            rw [hw]
            go_wp2_with fail
            go_ret
            exact ⟨rfl, hb2⟩

set_option maxRecDepth 100000 in
set_option maxHeartbeats 1000000 in
theorem flatWordsNil (w : World) : Calls Tryz.prog 126 #[.slice none 0 0] w fun e w' => e = .returned (.bool true) ∧ Below w.heap.size w w' := by
  go_enter Tryz.func126, Tryz.ntmps126
  go_wp2_with fail
  go_loopw [3] (fun i wr => i = .int .i64 0 ∧ wr = w) (fun _ _ => 0)
  case atStart => exact ⟨rfl, rfl⟩
  case round =>
    obtain ⟨rfl, rfl⟩ := hrel
    go_wp2_with (at_make; refine wpList_make_nils _ rfl _ _ 119 rfl wr.heap.size 241 Tryz.underlying119 (by kernel_rfl) _ _ 0 rfl rfl rfl rfl (by omega) (Nat.le_refl _) ?_; intro w2 ho2 hb2 hz2)
    go_wp2_with fail
    go_loopw [6] (fun i wx => i = .int .i64 0 ∧ wx = w2) (fun _ _ => 0)
    case atStart => exact ⟨rfl, rfl⟩
    case round =>
      obtain ⟨rfl, hw⟩ := hrel
      rw [hw]
      go_wp2_with fail
      go_loopw [9] (fun i wx => i = .int .i64 0 ∧ wx = w2) (fun _ _ => 0)
      case atStart => exact ⟨rfl, rfl⟩
      case round =>
        obtain ⟨rfl, hw⟩ := hrel
        rw [hw]
        go_wp2_with fail
        go_loopw [11] (fun i wx => i = .int .i64 0 ∧ wx = w2) (fun _ _ => 0)
        case atStart => exact ⟨rfl, rfl⟩
        case round =>
          obtain ⟨rfl, hw⟩ := hrel
          rw [hw]
          go_wp2_with fail
          go_loopw [14] (fun i wx => i = .int .i64 0 ∧ wx = w2) (fun _ _ => 0)
          case atStart => exact ⟨rfl, rfl⟩
          case round =>
            obtain ⟨rfl, hw⟩ := hrel
            rw [hw]
            go_wp2_with fail
            go_ret
            exact ⟨rfl, hb2⟩

set_option maxRecDepth 100000 in
set_option maxHeartbeats 1000000 in
theorem flatIntsNil (w : World) : Calls Tryz.prog 127 #[.slice none 0 0] w fun e w' => e = .returned (.bool true) ∧ Below w.heap.size w w' := by
  go_enter Tryz.func127, Tryz.ntmps127
  go_wp2_with fail
  go_loopw [3] (fun i wr => i = .int .i64 0 ∧ wr = w) (fun _ _ => 0)
  case atStart => exact ⟨rfl, rfl⟩
  case round =>
    obtain ⟨rfl, rfl⟩ := hrel
    go_wp2_with (at_make; refine wpList_make_nils _ rfl _ _ 89 rfl wr.heap.size 70 Tryz.underlying89 (by kernel_rfl) _ _ 0 rfl rfl rfl rfl (by omega) (Nat.le_refl _) ?_; intro w2 ho2 hb2 hz2)
    go_wp2_with fail
    go_loopw [6] (fun i wx => i = .int .i64 0 ∧ wx = w2) (fun _ _ => 0)
    case atStart => exact ⟨rfl, rfl⟩
    case round =>
      obtain ⟨rfl, hw⟩ := hrel
      rw [hw]
      go_wp2_with fail
      go_loopw [9] (fun i wx => i = .int .i64 0 ∧ wx = w2) (fun _ _ => 0)
      case atStart => exact ⟨rfl, rfl⟩
      case round =>
        obtain ⟨rfl, hw⟩ := hrel
        rw [hw]
        go_wp2_with fail
        go_loopw [11] (fun i wx => i = .int .i64 0 ∧ wx = w2) (fun _ _ => 0)
        case atStart => exact ⟨rfl, rfl⟩
        case round =>
          obtain ⟨rfl, hw⟩ := hrel
          rw [hw]
          go_wp2_with fail
          go_loopw [14] (fun i wx => i = .int .i64 0 ∧ wx = w2) (fun _ _ => 0)
          case atStart => exact ⟨rfl, rfl⟩
          case round =>
            obtain ⟨rfl, hw⟩ := hrel
            rw [hw]
            go_wp2_with fail
            go_ret
            exact ⟨rfl, hb2⟩

set_option maxRecDepth 100000 in
set_option maxHeartbeats 1000000 in
theorem flatLongsNil (w : World) : Calls Tryz.prog 128 #[.slice none 0 0] w fun e w' => e = .returned (.bool true) ∧ Below w.heap.size w w' := by
  go_enter Tryz.func128, Tryz.ntmps128
  go_wp2_with fail
  go_loopw [3] (fun i wr => i = .int .i64 0 ∧ wr = w) (fun _ _ => 0)
  case atStart => exact ⟨rfl, rfl⟩
  case round =>
    obtain ⟨rfl, rfl⟩ := hrel
    go_wp2_with (at_make; refine wpList_make_nils _ rfl _ _ 120 rfl wr.heap.size 243 Tryz.underlying120 (by kernel_rfl) _ _ 0 rfl rfl rfl rfl (by omega) (Nat.le_refl _) ?_; intro w2 ho2 hb2 hz2)
    go_wp2_with fail
    go_loopw [6] (fun i wx => i = .int .i64 0 ∧ wx = w2) (fun _ _ => 0)
    case atStart => exact ⟨rfl, rfl⟩
    case round =>
      obtain ⟨rfl, hw⟩ := hrel
      rw [hw]
      go_wp2_with fail
      go_loopw [9] (fun i wx => i = .int .i64 0 ∧ wx = w2) (fun _ _ => 0)
      case atStart => exact ⟨rfl, rfl⟩
      case round =>
        obtain ⟨rfl, hw⟩ := hrel
        rw [hw]
        go_wp2_with fail
        go_loopw [11] (fun i wx => i = .int .i64 0 ∧ wx = w2) (fun _ _ => 0)
        case atStart => exact ⟨rfl, rfl⟩
        case round =>
          obtain ⟨rfl, hw⟩ := hrel
          rw [hw]
          go_wp2_with fail
          go_loopw [14] (fun i wx => i = .int .i64 0 ∧ wx = w2) (fun _ _ => 0)
          case atStart => exact ⟨rfl, rfl⟩
          case round =>
            obtain ⟨rfl, hw⟩ := hrel
            rw [hw]
            go_wp2_with fail
            go_ret
            exact ⟨rfl, hb2⟩

set_option maxRecDepth 100000 in
set_option maxHeartbeats 1000000 in
theorem flatTextsNil (w : World) : Calls Tryz.prog 129 #[.slice none 0 0] w fun e w' => e = .returned (.bool true) ∧ Below w.heap.size w w' := by
  go_enter Tryz.func129, Tryz.ntmps129
  go_wp2_with fail
  go_loopw [3] (fun i wr => i = .int .i64 0 ∧ wr = w) (fun _ _ => 0)
  case atStart => exact ⟨rfl, rfl⟩
  case round =>
    obtain ⟨rfl, rfl⟩ := hrel
    go_wp2_with (at_make; refine wpList_make_nils _ rfl _ _ 121 rfl wr.heap.size 244 Tryz.underlying121 (by kernel_rfl) _ _ 0 rfl rfl rfl rfl (by omega) (Nat.le_refl _) ?_; intro w2 ho2 hb2 hz2)
    go_wp2_with fail
    go_loopw [6] (fun i wx => i = .int .i64 0 ∧ wx = w2) (fun _ _ => 0)
    case atStart => exact ⟨rfl, rfl⟩
    case round =>
      obtain ⟨rfl, hw⟩ := hrel
      rw [hw]
      go_wp2_with fail
      go_loopw [9] (fun i wx => i = .int .i64 0 ∧ wx = w2) (fun _ _ => 0)
      case atStart => exact ⟨rfl, rfl⟩
      case round =>
        obtain ⟨rfl, hw⟩ := hrel
        rw [hw]
        go_wp2_with fail
        go_loopw [11] (fun i wx => i = .int .i64 0 ∧ wx = w2) (fun _ _ => 0)
        case atStart => exact ⟨rfl, rfl⟩
        case round =>
          obtain ⟨rfl, hw⟩ := hrel
          rw [hw]
          go_wp2_with fail
          go_loopw [14] (fun i wx => i = .int .i64 0 ∧ wx = w2) (fun _ _ => 0)
          case atStart => exact ⟨rfl, rfl⟩
          case round =>
            obtain ⟨rfl, hw⟩ := hrel
            rw [hw]
            go_wp2_with fail
            go_ret
            exact ⟨rfl, hb2⟩

set_option maxRecDepth 100000 in
set_option maxHeartbeats 1000000 in
theorem flatBytesNil (w : World) : Calls Tryz.prog 130 #[.slice none 0 0] w fun e w' => e = .returned (.bool true) ∧ Below w.heap.size w w' := by
  go_enter Tryz.func130, Tryz.ntmps130
  go_wp2_with fail
  go_loopw [3] (fun i wr => i = .int .i64 0 ∧ wr = w) (fun _ _ => 0)
  case atStart => exact ⟨rfl, rfl⟩
  case round =>
    obtain ⟨rfl, rfl⟩ := hrel
    go_wp2_with (at_make; refine wpList_make_nils _ rfl _ _ 95 rfl wr.heap.size 77 Tryz.underlying95 (by kernel_rfl) _ _ 0 rfl rfl rfl rfl (by omega) (Nat.le_refl _) ?_; intro w2 ho2 hb2 hz2)
    go_wp2_with fail
    go_loopw [6] (fun i wx => i = .int .i64 0 ∧ wx = w2) (fun _ _ => 0)
    case atStart => exact ⟨rfl, rfl⟩
    case round =>
      obtain ⟨rfl, hw⟩ := hrel
      rw [hw]
      go_wp2_with fail
      go_loopw [9] (fun i wx => i = .int .i64 0 ∧ wx = w2) (fun _ _ => 0)
      case atStart => exact ⟨rfl, rfl⟩
      case round =>
        obtain ⟨rfl, hw⟩ := hrel
        rw [hw]
        go_wp2_with fail
        go_loopw [11] (fun i wx => i = .int .i64 0 ∧ wx = w2) (fun _ _ => 0)
        case atStart => exact ⟨rfl, rfl⟩
        case round =>
          obtain ⟨rfl, hw⟩ := hrel
          rw [hw]
          go_wp2_with fail
          go_loopw [14] (fun i wx => i = .int .i64 0 ∧ wx = w2) (fun _ _ => 0)
          case atStart => exact ⟨rfl, rfl⟩
          case round =>
            obtain ⟨rfl, hw⟩ := hrel
            rw [hw]
            go_wp2_with fail
            go_ret
            exact ⟨rfl, hb2⟩

set_option maxRecDepth 100000 in
set_option maxHeartbeats 1000000 in
theorem flatTruthsNil (w : World) : Calls Tryz.prog 131 #[.slice none 0 0] w fun e w' => e = .returned (.bool true) ∧ Below w.heap.size w w' := by
  go_enter Tryz.func131, Tryz.ntmps131
  go_wp2_with fail
  go_loopw [3] (fun i wr => i = .int .i64 0 ∧ wr = w) (fun _ _ => 0)
  case atStart => exact ⟨rfl, rfl⟩
  case round =>
    obtain ⟨rfl, rfl⟩ := hrel
    go_wp2_with (at_make; refine wpList_make_nils _ rfl _ _ 122 rfl wr.heap.size 246 Tryz.underlying122 (by kernel_rfl) _ _ 0 rfl rfl rfl rfl (by omega) (Nat.le_refl _) ?_; intro w2 ho2 hb2 hz2)
    go_wp2_with fail
    go_loopw [6] (fun i wx => i = .int .i64 0 ∧ wx = w2) (fun _ _ => 0)
    case atStart => exact ⟨rfl, rfl⟩
    case round =>
      obtain ⟨rfl, hw⟩ := hrel
      rw [hw]
      go_wp2_with fail
      go_loopw [9] (fun i wx => i = .int .i64 0 ∧ wx = w2) (fun _ _ => 0)
      case atStart => exact ⟨rfl, rfl⟩
      case round =>
        obtain ⟨rfl, hw⟩ := hrel
        rw [hw]
        go_wp2_with fail
        go_loopw [11] (fun i wx => i = .int .i64 0 ∧ wx = w2) (fun _ _ => 0)
        case atStart => exact ⟨rfl, rfl⟩
        case round =>
          obtain ⟨rfl, hw⟩ := hrel
          rw [hw]
          go_wp2_with fail
          go_loopw [14] (fun i wx => i = .int .i64 0 ∧ wx = w2) (fun _ _ => 0)
          case atStart => exact ⟨rfl, rfl⟩
          case round =>
            obtain ⟨rfl, hw⟩ := hrel
            rw [hw]
            go_wp2_with fail
            go_ret
            exact ⟨rfl, hb2⟩

set_option maxRecDepth 100000 in
set_option maxHeartbeats 1000000 in
theorem flatUnitsNil (w : World) : Calls Tryz.prog 132 #[.slice none 0 0] w fun e w' => e = .returned (.bool true) ∧ Below w.heap.size w w' := by
  go_enter Tryz.func132, Tryz.ntmps132
  go_wp2_with fail
  go_loopw [3] (fun i wr => i = .int .i64 0 ∧ wr = w) (fun _ _ => 0)
  case atStart => exact ⟨rfl, rfl⟩
  case round =>
    obtain ⟨rfl, rfl⟩ := hrel
    go_wp2_with (at_make; refine wpList_make_nils _ rfl _ _ 123 rfl wr.heap.size 247 Tryz.underlying123 (by kernel_rfl) _ _ 0 rfl rfl rfl rfl (by omega) (Nat.le_refl _) ?_; intro w2 ho2 hb2 hz2)
    go_wp2_with fail
    go_loopw [6] (fun i wx => i = .int .i64 0 ∧ wx = w2) (fun _ _ => 0)
    case atStart => exact ⟨rfl, rfl⟩
    case round =>
      obtain ⟨rfl, hw⟩ := hrel
      rw [hw]
      go_wp2_with fail
      go_loopw [9] (fun i wx => i = .int .i64 0 ∧ wx = w2) (fun _ _ => 0)
      case atStart => exact ⟨rfl, rfl⟩
      case round =>
        obtain ⟨rfl, hw⟩ := hrel
        rw [hw]
        go_wp2_with fail
        go_loopw [11] (fun i wx => i = .int .i64 0 ∧ wx = w2) (fun _ _ => 0)
        case atStart => exact ⟨rfl, rfl⟩
        case round =>
          obtain ⟨rfl, hw⟩ := hrel
          rw [hw]
          go_wp2_with fail
          go_loopw [14] (fun i wx => i = .int .i64 0 ∧ wx = w2) (fun _ _ => 0)
          case atStart => exact ⟨rfl, rfl⟩
          case round =>
            obtain ⟨rfl, hw⟩ := hrel
            rw [hw]
            go_wp2_with fail
            go_ret
            exact ⟨rfl, hb2⟩

set_option maxRecDepth 100000 in
set_option maxHeartbeats 1000000 in
theorem flatEntriesNil (w : World) : Calls Tryz.prog 133 #[.slice none 0 0] w fun e w' => e = .returned (.bool true) ∧ Below w.heap.size w w' := by
  go_enter Tryz.func133, Tryz.ntmps133
  go_wp2_with fail
  go_loopw [3] (fun i wr => i = .int .i64 0 ∧ wr = w) (fun _ _ => 0)
  case atStart => exact ⟨rfl, rfl⟩
  case round =>
    obtain ⟨rfl, rfl⟩ := hrel
    go_wp2_with (at_make; refine wpList_make_nils _ rfl _ _ 54 rfl wr.heap.size 28 Tryz.underlying54 (by kernel_rfl) _ _ 0 rfl rfl rfl rfl (by omega) (Nat.le_refl _) ?_; intro w2 ho2 hb2 hz2)
    go_wp2_with fail
    go_loopw [6] (fun i wx => i = .int .i64 0 ∧ wx = w2) (fun _ _ => 0)
    case atStart => exact ⟨rfl, rfl⟩
    case round =>
      obtain ⟨rfl, hw⟩ := hrel
      rw [hw]
      go_wp2_with fail
      go_loopw [9] (fun i wx => i = .int .i64 0 ∧ wx = w2) (fun _ _ => 0)
      case atStart => exact ⟨rfl, rfl⟩
      case round =>
        obtain ⟨rfl, hw⟩ := hrel
        rw [hw]
        go_wp2_with fail
        go_loopw [11] (fun i wx => i = .int .i64 0 ∧ wx = w2) (fun _ _ => 0)
        case atStart => exact ⟨rfl, rfl⟩
        case round =>
          obtain ⟨rfl, hw⟩ := hrel
          rw [hw]
          go_wp2_with fail
          go_loopw [14] (fun i wx => i = .int .i64 0 ∧ wx = w2) (fun _ _ => 0)
          case atStart => exact ⟨rfl, rfl⟩
          case round =>
            obtain ⟨rfl, hw⟩ := hrel
            rw [hw]
            go_wp2_with fail
            go_ret
            exact ⟨rfl, hb2⟩

set_option maxRecDepth 100000 in
set_option maxHeartbeats 1000000 in
theorem flatIdentsNil (w : World) : Calls Tryz.prog 134 #[.slice none 0 0] w fun e w' => e = .returned (.bool true) ∧ Below w.heap.size w w' := by
  go_enter Tryz.func134, Tryz.ntmps134
  go_wp2_with fail
  go_loopw [3] (fun i wr => i = .int .i64 0 ∧ wr = w) (fun _ _ => 0)
  case atStart => exact ⟨rfl, rfl⟩
  case round =>
    obtain ⟨rfl, rfl⟩ := hrel
    go_wp2_with (at_make; refine wpList_make_nils _ rfl _ _ 74 rfl wr.heap.size 25 Tryz.underlying74 (by kernel_rfl) _ _ 0 rfl rfl rfl rfl (by omega) (Nat.le_refl _) ?_; intro w2 ho2 hb2 hz2)
    go_wp2_with fail
    go_loopw [6] (fun i wx => i = .int .i64 0 ∧ wx = w2) (fun _ _ => 0)
    case atStart => exact ⟨rfl, rfl⟩
    case round =>
      obtain ⟨rfl, hw⟩ := hrel
      rw [hw]
      go_wp2_with fail
      go_loopw [9] (fun i wx => i = .int .i64 0 ∧ wx = w2) (fun _ _ => 0)
      case atStart => exact ⟨rfl, rfl⟩
      case round =>
        obtain ⟨rfl, hw⟩ := hrel
        rw [hw]
        go_wp2_with fail
        go_loopw [11] (fun i wx => i = .int .i64 0 ∧ wx = w2) (fun _ _ => 0)
        case atStart => exact ⟨rfl, rfl⟩
        case round =>
          obtain ⟨rfl, hw⟩ := hrel
          rw [hw]
          go_wp2_with fail
          go_loopw [14] (fun i wx => i = .int .i64 0 ∧ wx = w2) (fun _ _ => 0)
          case atStart => exact ⟨rfl, rfl⟩
          case round =>
            obtain ⟨rfl, hw⟩ := hrel
            rw [hw]
            go_wp2_with fail
            go_ret
            exact ⟨rfl, hb2⟩

set_option maxRecDepth 100000 in
set_option maxHeartbeats 1000000 in
theorem flatMetasNil (w : World) : Calls Tryz.prog 135 #[.slice none 0 0] w fun e w' => e = .returned (.bool true) ∧ Below w.heap.size w w' := by
  go_enter Tryz.func135, Tryz.ntmps135
  go_wp2_with fail
  go_loopw [3] (fun i wr => i = .int .i64 0 ∧ wr = w) (fun _ _ => 0)
  case atStart => exact ⟨rfl, rfl⟩
  case round =>
    obtain ⟨rfl, rfl⟩ := hrel
    go_wp2_with (at_make; refine wpList_make_nils _ rfl _ _ 124 rfl wr.heap.size 253 Tryz.underlying124 (by kernel_rfl) _ _ 0 rfl rfl rfl rfl (by omega) (Nat.le_refl _) ?_; intro w2 ho2 hb2 hz2)
    go_wp2_with fail
    go_loopw [6] (fun i wx => i = .int .i64 0 ∧ wx = w2) (fun _ _ => 0)
    case atStart => exact ⟨rfl, rfl⟩
    case round =>
      obtain ⟨rfl, hw⟩ := hrel
      rw [hw]
      go_wp2_with fail
      go_loopw [9] (fun i wx => i = .int .i64 0 ∧ wx = w2) (fun _ _ => 0)
      case atStart => exact ⟨rfl, rfl⟩
      case round =>
        obtain ⟨rfl, hw⟩ := hrel
        rw [hw]
        go_wp2_with fail
        go_loopw [11] (fun i wx => i = .int .i64 0 ∧ wx = w2) (fun _ _ => 0)
        case atStart => exact ⟨rfl, rfl⟩
        case round =>
          obtain ⟨rfl, hw⟩ := hrel
          rw [hw]
          go_wp2_with fail
          go_loopw [14] (fun i wx => i = .int .i64 0 ∧ wx = w2) (fun _ _ => 0)
          case atStart => exact ⟨rfl, rfl⟩
          case round =>
            obtain ⟨rfl, hw⟩ := hrel
            rw [hw]
            go_wp2_with fail
            go_ret
            exact ⟨rfl, hb2⟩

set_option maxRecDepth 100000 in
set_option maxHeartbeats 1000000 in
theorem flatMarksNil (w : World) : Calls Tryz.prog 136 #[.slice none 0 0] w fun e w' => e = .returned (.bool true) ∧ Below w.heap.size w w' := by
  go_enter Tryz.func136, Tryz.ntmps136
  go_wp2_with fail
  go_loopw [3] (fun i wr => i = .int .i64 0 ∧ wr = w) (fun _ _ => 0)
  case atStart => exact ⟨rfl, rfl⟩
  case round =>
    obtain ⟨rfl, rfl⟩ := hrel
    go_wp2_with (at_make; refine wpList_make_nils _ rfl _ _ 125 rfl wr.heap.size 257 Tryz.underlying125 (by kernel_rfl) _ _ 0 rfl rfl rfl rfl (by omega) (Nat.le_refl _) ?_; intro w2 ho2 hb2 hz2)
    go_wp2_with fail
    go_loopw [6] (fun i wx => i = .int .i64 0 ∧ wx = w2) (fun _ _ => 0)
    case atStart => exact ⟨rfl, rfl⟩
    case round =>
      obtain ⟨rfl, hw⟩ := hrel
      rw [hw]
      go_wp2_with fail
      go_loopw [9] (fun i wx => i = .int .i64 0 ∧ wx = w2) (fun _ _ => 0)
      case atStart => exact ⟨rfl, rfl⟩
      case round =>
        obtain ⟨rfl, hw⟩ := hrel
        rw [hw]
        go_wp2_with fail
        go_loopw [11] (fun i wx => i = .int .i64 0 ∧ wx = w2) (fun _ _ => 0)
        case atStart => exact ⟨rfl, rfl⟩
        case round =>
          obtain ⟨rfl, hw⟩ := hrel
          rw [hw]
          go_wp2_with fail
          go_loopw [14] (fun i wx => i = .int .i64 0 ∧ wx = w2) (fun _ _ => 0)
          case atStart => exact ⟨rfl, rfl⟩
          case round =>
            obtain ⟨rfl, hw⟩ := hrel
            rw [hw]
            go_wp2_with fail
            go_ret
            exact ⟨rfl, hb2⟩

set_option maxRecDepth 100000 in
set_option maxHeartbeats 1000000 in
theorem flatSnapsNil (w : World) : Calls Tryz.prog 137 #[.slice none 0 0] w fun e w' => e = .returned (.bool true) ∧ Below w.heap.size w w' := by
  go_enter Tryz.func137, Tryz.ntmps137
  go_wp2_with fail
  go_loopw [3] (fun i wr => i = .int .i64 0 ∧ wr = w) (fun _ _ => 0)
  case atStart => exact ⟨rfl, rfl⟩
  case round =>
    obtain ⟨rfl, rfl⟩ := hrel
    go_wp2_with (at_make; refine wpList_make_nils _ rfl _ _ 126 rfl wr.heap.size 261 Tryz.underlying126 (by kernel_rfl) _ _ 0 rfl rfl rfl rfl (by omega) (Nat.le_refl _) ?_; intro w2 ho2 hb2 hz2)
    go_wp2_with fail
    go_loopw [6] (fun i wx => i = .int .i64 0 ∧ wx = w2) (fun _ _ => 0)
    case atStart => exact ⟨rfl, rfl⟩
    case round =>
      obtain ⟨rfl, hw⟩ := hrel
      rw [hw]
      go_wp2_with fail
      go_loopw [9] (fun i wx => i = .int .i64 0 ∧ wx = w2) (fun _ _ => 0)
      case atStart => exact ⟨rfl, rfl⟩
      case round =>
        obtain ⟨rfl, hw⟩ := hrel
        rw [hw]
        go_wp2_with fail
        go_loopw [11] (fun i wx => i = .int .i64 0 ∧ wx = w2) (fun _ _ => 0)
        case atStart => exact ⟨rfl, rfl⟩
        case round =>
          obtain ⟨rfl, hw⟩ := hrel
          rw [hw]
          go_wp2_with fail
          go_loopw [14] (fun i wx => i = .int .i64 0 ∧ wx = w2) (fun _ _ => 0)
          case atStart => exact ⟨rfl, rfl⟩
          case round =>
            obtain ⟨rfl, hw⟩ := hrel
            rw [hw]
            go_wp2_with fail
            go_ret
            exact ⟨rfl, hb2⟩

set_option maxRecDepth 100000 in
set_option maxHeartbeats 1000000 in
theorem flatShapesNil (w : World) : Calls Tryz.prog 138 #[.slice none 0 0] w fun e w' => e = .returned (.bool true) ∧ Below w.heap.size w w' := by
  go_enter Tryz.func138, Tryz.ntmps138
  go_wp2_with fail
  go_loopw [3] (fun i wr => i = .int .i64 0 ∧ wr = w) (fun _ _ => 0)
  case atStart => exact ⟨rfl, rfl⟩
  case round =>
    obtain ⟨rfl, rfl⟩ := hrel
    go_wp2_with (at_make; refine wpList_make_nils _ rfl _ _ 127 rfl wr.heap.size 266 Tryz.underlying127 (by kernel_rfl) _ _ 0 rfl rfl rfl rfl (by omega) (Nat.le_refl _) ?_; intro w2 ho2 hb2 hz2)
    go_wp2_with fail
    go_loopw [6] (fun i wx => i = .int .i64 0 ∧ wx = w2) (fun _ _ => 0)
    case atStart => exact ⟨rfl, rfl⟩
    case round =>
      obtain ⟨rfl, hw⟩ := hrel
      rw [hw]
      go_wp2_with fail
      go_loopw [9] (fun i wx => i = .int .i64 0 ∧ wx = w2) (fun _ _ => 0)
      case atStart => exact ⟨rfl, rfl⟩
      case round =>
        obtain ⟨rfl, hw⟩ := hrel
        rw [hw]
        go_wp2_with fail
        go_loopw [11] (fun i wx => i = .int .i64 0 ∧ wx = w2) (fun _ _ => 0)
        case atStart => exact ⟨rfl, rfl⟩
        case round =>
          obtain ⟨rfl, hw⟩ := hrel
          rw [hw]
          go_wp2_with fail
          go_loopw [14] (fun i wx => i = .int .i64 0 ∧ wx = w2) (fun _ _ => 0)
          case atStart => exact ⟨rfl, rfl⟩
          case round =>
            obtain ⟨rfl, hw⟩ := hrel
            rw [hw]
            go_wp2_with fail
            go_ret
            exact ⟨rfl, hb2⟩

set_option maxRecDepth 100000 in
set_option maxHeartbeats 1000000 in
theorem flatLettersNil (w : World) : Calls Tryz.prog 139 #[.slice none 0 0] w fun e w' => e = .returned (.bool true) ∧ Below w.heap.size w w' := by
  go_enter Tryz.func139, Tryz.ntmps139
  go_wp2_with fail
  go_loopw [3] (fun i wr => i = .int .i64 0 ∧ wr = w) (fun _ _ => 0)
  case atStart => exact ⟨rfl, rfl⟩
  case round =>
    obtain ⟨rfl, rfl⟩ := hrel
    go_wp2_with (at_make; refine wpList_make_nils _ rfl _ _ 128 rfl wr.heap.size 270 Tryz.underlying128 (by kernel_rfl) _ _ 0 rfl rfl rfl rfl (by omega) (Nat.le_refl _) ?_; intro w2 ho2 hb2 hz2)
    go_wp2_with fail
    go_loopw [6] (fun i wx => i = .int .i64 0 ∧ wx = w2) (fun _ _ => 0)
    case atStart => exact ⟨rfl, rfl⟩
    case round =>
      obtain ⟨rfl, hw⟩ := hrel
      rw [hw]
      go_wp2_with fail
      go_loopw [9] (fun i wx => i = .int .i64 0 ∧ wx = w2) (fun _ _ => 0)
      case atStart => exact ⟨rfl, rfl⟩
      case round =>
        obtain ⟨rfl, hw⟩ := hrel
        rw [hw]
        go_wp2_with fail
        go_loopw [11] (fun i wx => i = .int .i64 0 ∧ wx = w2) (fun _ _ => 0)
        case atStart => exact ⟨rfl, rfl⟩
        case round =>
          obtain ⟨rfl, hw⟩ := hrel
          rw [hw]
          go_wp2_with fail
          go_loopw [14] (fun i wx => i = .int .i64 0 ∧ wx = w2) (fun _ _ => 0)
          case atStart => exact ⟨rfl, rfl⟩
          case round =>
            obtain ⟨rfl, hw⟩ := hrel
            rw [hw]
            go_wp2_with fail
            go_ret
            exact ⟨rfl, hb2⟩

end Go.Proofs.YthadfdpdillemaaGreatDoor
