/-
  limpetlaw25's LeadSends: true.
-/
import Derived.Test.YteogfcellpdpjaaDoorLeadNextLaw
import Derived.Test.YteogfcellpdpjaaDoorFit0
set_option linter.unusedVariables false
set_option linter.unusedSimpArgs false
namespace Go.Proofs.YteogfcellpdpjaaDoor
open Go.RowKit

set_option maxRecDepth 100000 in
set_option maxHeartbeats 1000000 in
theorem sends_big (who nx mt pc many : Int) (b : Idt) (l : List Idt) (A : Option Addr) (c : Nat) (w : World) (h : Sl 3 idRow w.heap.size w (.slice A l.length c) l) (hb : I64 b.idx) (hin : ∀ p ∈ l, I64 p.idx) (hnx : I64 nx) (hmy : I64 many) (hG : errTypeIs w) (hbig : 300 < l.length) :
    Calls Tryd.prog 10 #[.agg #[.int .i64 who, .int .i64 nx, .int .i64 mt, .int .i64 pc], .agg #[.int .i64 b.idx, .int .i64 b.trm, .int .i64 b.knd, .slice A l.length c], .int .i64 many] w fun e w' => e = .returned (.bool true) ∧ Below w.heap.size w w' := by
  have hg : (300 : Int) < (l.length : Int) := by omega
  have dg : decide ((300 : Int) < (l.length : Int)) = true := decide_eq_true hg
  obtain ⟨W, hW⟩ : ∃ W : World, W = (w.alloc (.cells #[.int .i64 who, .int .i64 nx, .int .i64 mt, .int .i64 pc] 58)).alloc (.cells #[.int .i64 b.idx, .int .i64 b.trm, .int .i64 b.knd, .slice A l.length c] 61) := ⟨_, rfl⟩
  have BW : Below w.heap.size w W := by rw [hW]; exact below_call (below_new _ _) (below_new _ _)
  have X0 : Box W w.heap.size #[.int .i64 who, .int .i64 nx, .int .i64 mt, .int .i64 pc] 58 := by rw [hW]; exact (Box.new _ _ _).alloc _
  have X1 : Box W (w.heap.size + 1) #[.int .i64 b.idx, .int .i64 b.trm, .int .i64 b.knd, .slice A l.length c] 61 := by
    have := Box.new (w.alloc (.cells #[.int .i64 who, .int .i64 nx, .int .i64 mt, .int .i64 pc] 58)) #[.int .i64 b.idx, .int .i64 b.trm, .int .i64 b.knd, .slice A l.length c] 61
    rw [hW]; simpa using this
  have HB0 := Lib.hid BW
  have HX0 := Lib.hid X0
  have HX1 := Lib.hid X1
  have HS := Lib.hid (h.later BW)
  have HG := Lib.hid (errType_later hG BW)
  obtain ⟨hb', hin'⟩ : I64 b.idx ∧ (∀ p ∈ l, I64 p.idx) := ⟨hb, hin⟩
  obtain ⟨hnx', hmy'⟩ : I64 nx ∧ I64 many := ⟨hnx, hmy⟩
  have hlm : l.length ≤ 9223372036854775807 := by obtain ⟨_, _, _, h1, h2, _⟩ := id h; unfold maxLen at h2; omega
  clear h hb hin hG hnx hmy BW X0 X1
  go_enter Tryd.func10, Tryd.ntmps10
  go_wp2_with fail
  rw [← hW]
  clear hW
  go_wp2_with (go_at_call 40; refine (leadAwk _).mono ?_; rintro e w1 ⟨rfl, hb1⟩; obtain ⟨k0, f0, z0⟩ := (HX0.out.later hb1).facts; obtain ⟨k1, f1, z1⟩ := (HX1.out.later hb1).facts)
  go_ret
  exact ⟨rfl, below_call HB0.out hb1⟩

set_option maxRecDepth 100000 in
set_option maxHeartbeats 1000000 in
theorem sends_bad (who nx mt pc many : Int) (b : Idt) (l : List Idt) (A : Option Addr) (c : Nat) (w : World) (h : Sl 3 idRow w.heap.size w (.slice A l.length c) l) (hb : I64 b.idx) (hin : ∀ p ∈ l, I64 p.idx) (hnx : I64 nx) (hmy : I64 many) (hG : errTypeIs w) (hsm : l.length ≤ 300) (hr : rightV b l = false) :
    Calls Tryd.prog 10 #[.agg #[.int .i64 who, .int .i64 nx, .int .i64 mt, .int .i64 pc], .agg #[.int .i64 b.idx, .int .i64 b.trm, .int .i64 b.knd, .slice A l.length c], .int .i64 many] w fun e w' => e = .returned (.bool true) ∧ Below w.heap.size w w' := by
  have hg : (l.length : Int) ≤ 300 := by omega
  have dg : decide ((300 : Int) < (l.length : Int)) = false := decide_eq_false (by omega)
  have HR := Lib.hid hr
  clear hr
  obtain ⟨W, hW⟩ : ∃ W : World, W = (w.alloc (.cells #[.int .i64 who, .int .i64 nx, .int .i64 mt, .int .i64 pc] 58)).alloc (.cells #[.int .i64 b.idx, .int .i64 b.trm, .int .i64 b.knd, .slice A l.length c] 61) := ⟨_, rfl⟩
  have BW : Below w.heap.size w W := by rw [hW]; exact below_call (below_new _ _) (below_new _ _)
  have X0 : Box W w.heap.size #[.int .i64 who, .int .i64 nx, .int .i64 mt, .int .i64 pc] 58 := by rw [hW]; exact (Box.new _ _ _).alloc _
  have X1 : Box W (w.heap.size + 1) #[.int .i64 b.idx, .int .i64 b.trm, .int .i64 b.knd, .slice A l.length c] 61 := by
    have := Box.new (w.alloc (.cells #[.int .i64 who, .int .i64 nx, .int .i64 mt, .int .i64 pc] 58)) #[.int .i64 b.idx, .int .i64 b.trm, .int .i64 b.knd, .slice A l.length c] 61
    rw [hW]; simpa using this
  have HB0 := Lib.hid BW
  have HX0 := Lib.hid X0
  have HX1 := Lib.hid X1
  have HS := Lib.hid (h.later BW)
  have HG := Lib.hid (errType_later hG BW)
  obtain ⟨hb', hin'⟩ : I64 b.idx ∧ (∀ p ∈ l, I64 p.idx) := ⟨hb, hin⟩
  obtain ⟨hnx', hmy'⟩ : I64 nx ∧ I64 many := ⟨hnx, hmy⟩
  have hlm : l.length ≤ 9223372036854775807 := by obtain ⟨_, _, _, h1, h2, _⟩ := id h; unfold maxLen at h2; omega
  clear h hb hin hG hnx hmy BW X0 X1
  go_enter Tryd.func10, Tryd.ntmps10
  go_wp2_with fail
  rw [← hW]
  clear hW
  go_wp2_with (first | (go_at_call 40; refine (leadAwk _).mono ?_; rintro e w1 ⟨rfl, hb1⟩; obtain ⟨k0, f0, z0⟩ := (HX0.out.later hb1).facts; obtain ⟨k1, f1, z1⟩ := (HX1.out.later hb1).facts) | (go_at_call 54; refine (matchRight b l A c _ (HS.out.later hb1) hb' hin').mono ?_; rintro e w2 ⟨rfl, hb2'⟩; rw [HR.out]; have hb2 := below_call hb1 hb2'; clear k0 f0 z0 k1 f1 z1; obtain ⟨k0, f0, z0⟩ := (HX0.out.later hb2).facts; obtain ⟨k1, f1, z1⟩ := (HX1.out.later hb2).facts))
  go_ret
  exact ⟨rfl, below_call HB0.out hb2⟩

set_option maxRecDepth 100000 in
set_option maxHeartbeats 1000000 in
theorem sends_low (who nx mt pc many : Int) (b : Idt) (l : List Idt) (A : Option Addr) (c : Nat) (w : World) (h : Sl 3 idRow w.heap.size w (.slice A l.length c) l) (hb : I64 b.idx) (hin : ∀ p ∈ l, I64 p.idx) (hnx : I64 nx) (hmy : I64 many) (hG : errTypeIs w) (hsm : l.length ≤ 300) (hr : rightV b l = true) (hlo : nx < 1) :
    Calls Tryd.prog 10 #[.agg #[.int .i64 who, .int .i64 nx, .int .i64 mt, .int .i64 pc], .agg #[.int .i64 b.idx, .int .i64 b.trm, .int .i64 b.knd, .slice A l.length c], .int .i64 many] w fun e w' => e = .returned (.bool true) ∧ Below w.heap.size w w' := by
  have hg : (l.length : Int) ≤ 300 := by omega
  have dg : decide ((300 : Int) < (l.length : Int)) = false := decide_eq_false (by omega)
  have dn : decide (nx < 1) = true := decide_eq_true hlo
  have HR := Lib.hid hr
  clear hr
  obtain ⟨W, hW⟩ : ∃ W : World, W = (w.alloc (.cells #[.int .i64 who, .int .i64 nx, .int .i64 mt, .int .i64 pc] 58)).alloc (.cells #[.int .i64 b.idx, .int .i64 b.trm, .int .i64 b.knd, .slice A l.length c] 61) := ⟨_, rfl⟩
  have BW : Below w.heap.size w W := by rw [hW]; exact below_call (below_new _ _) (below_new _ _)
  have X0 : Box W w.heap.size #[.int .i64 who, .int .i64 nx, .int .i64 mt, .int .i64 pc] 58 := by rw [hW]; exact (Box.new _ _ _).alloc _
  have X1 : Box W (w.heap.size + 1) #[.int .i64 b.idx, .int .i64 b.trm, .int .i64 b.knd, .slice A l.length c] 61 := by
    have := Box.new (w.alloc (.cells #[.int .i64 who, .int .i64 nx, .int .i64 mt, .int .i64 pc] 58)) #[.int .i64 b.idx, .int .i64 b.trm, .int .i64 b.knd, .slice A l.length c] 61
    rw [hW]; simpa using this
  have HB0 := Lib.hid BW
  have HX0 := Lib.hid X0
  have HX1 := Lib.hid X1
  have HS := Lib.hid (h.later BW)
  have HG := Lib.hid (errType_later hG BW)
  obtain ⟨hb', hin'⟩ : I64 b.idx ∧ (∀ p ∈ l, I64 p.idx) := ⟨hb, hin⟩
  obtain ⟨hnx', hmy'⟩ : I64 nx ∧ I64 many := ⟨hnx, hmy⟩
  have hlm : l.length ≤ 9223372036854775807 := by obtain ⟨_, _, _, h1, h2, _⟩ := id h; unfold maxLen at h2; omega
  clear h hb hin hG hnx hmy BW X0 X1
  go_enter Tryd.func10, Tryd.ntmps10
  go_wp2_with fail
  rw [← hW]
  clear hW
  go_wp2_with (first | (go_at_call 40; refine (leadAwk _).mono ?_; rintro e w1 ⟨rfl, hb1⟩; obtain ⟨k0, f0, z0⟩ := (HX0.out.later hb1).facts; obtain ⟨k1, f1, z1⟩ := (HX1.out.later hb1).facts) | (go_at_call 54; refine (matchRight b l A c _ (HS.out.later hb1) hb' hin').mono ?_; rintro e w2 ⟨rfl, hb2'⟩; rw [HR.out]; have hb2 := below_call hb1 hb2'; clear k0 f0 z0 k1 f1 z1; obtain ⟨k0, f0, z0⟩ := (HX0.out.later hb2).facts; obtain ⟨k1, f1, z1⟩ := (HX1.out.later hb2).facts))
  go_ret
  exact ⟨rfl, below_call HB0.out hb2⟩

theorem fldIdx (x y z : Int) (w : World) : (Instr.field 42 (.agg #[.int .i64 x, .int .i64 y, .int .i64 z]) 0).run Tryd.prog w = .ok (.int .i64 x) w := by kernel_rfl

set_option maxRecDepth 100000 in
set_option maxHeartbeats 8000000 in
theorem sends_one (who nx mt pc many : Int) (b : Idt) (l : List Idt) (A : Option Addr) (c : Nat) (w : World) (h : Sl 3 idRow w.heap.size w (.slice A l.length c) l) (hb : I64 b.idx) (hin : ∀ p ∈ l, I64 p.idx) (hnx : I64 nx) (hmy : I64 many) (hG : errTypeIs w) (hsm : l.length ≤ 300) (hr : rightV b l = true) (hlo : ¬ nx < 1) :
    Calls Tryd.prog 10 #[.agg #[.int .i64 who, .int .i64 nx, .int .i64 mt, .int .i64 pc], .agg #[.int .i64 b.idx, .int .i64 b.trm, .int .i64 b.knd, .slice A l.length c], .int .i64 many] w fun e w' => e = .returned (.bool true) ∧ Below w.heap.size w w' := by
  have hg : (l.length : Int) ≤ 300 := by omega
  have dg : decide ((300 : Int) < (l.length : Int)) = false := decide_eq_false (by omega)
  have dn : decide (nx < 1) = false := decide_eq_false hlo
  have hh := rightV_head hr
  have hei := endV_idx hr
  have HR := Lib.hid hr
  obtain ⟨n0, n1⟩ := id hnx
  obtain ⟨m0, m1⟩ := id hmy
  obtain ⟨W, hW⟩ : ∃ W : World, W = (w.alloc (.cells #[.int .i64 who, .int .i64 nx, .int .i64 mt, .int .i64 pc] 58)).alloc (.cells #[.int .i64 b.idx, .int .i64 b.trm, .int .i64 b.knd, .slice A l.length c] 61) := ⟨_, rfl⟩
  have BW : Below w.heap.size w W := by rw [hW]; exact below_call (below_new _ _) (below_new _ _)
  have X0 : Box W w.heap.size #[.int .i64 who, .int .i64 nx, .int .i64 mt, .int .i64 pc] 58 := by rw [hW]; exact (Box.new _ _ _).alloc _
  have X1 : Box W (w.heap.size + 1) #[.int .i64 b.idx, .int .i64 b.trm, .int .i64 b.knd, .slice A l.length c] 61 := by
    have := Box.new (w.alloc (.cells #[.int .i64 who, .int .i64 nx, .int .i64 mt, .int .i64 pc] 58)) #[.int .i64 b.idx, .int .i64 b.trm, .int .i64 b.knd, .slice A l.length c] 61
    rw [hW]; simpa using this
  have HB0 := Lib.hid BW
  have HX0 := Lib.hid X0
  have HX1 := Lib.hid X1
  have HS := Lib.hid (h.later BW)
  have HG := Lib.hid (errType_later hG BW)
  obtain ⟨hb', hin'⟩ : I64 b.idx ∧ (∀ p ∈ l, I64 p.idx) := ⟨hb, hin⟩
  obtain ⟨hnx', hmy'⟩ : I64 nx ∧ I64 many := ⟨hnx, hmy⟩
  have hlm : l.length ≤ 9223372036854775807 := by obtain ⟨_, _, _, h1, h2, _⟩ := id h; unfold maxLen at h2; omega
  clear h hb hin hG hnx hmy BW X0 X1
  have hfld := fldIdx
  have HX9 : I64 (nx - 1) := ⟨by omega, by omega⟩
  obtain ⟨q, hq⟩ : ∃ q, endV b l = q := ⟨_, rfl⟩
  rw [hq] at hei
  have HQ := Lib.hid hq
  clear hq
  by_cases h1 : b.idx + (l.length : Int) + 1 < nx
  · have d1 : decide (b.idx + (l.length : Int) + 1 < nx) = true := decide_eq_true h1
    have HF := Lib.hid (show nextN b l nx many = (7, ⟨false, ⟨0, 0, 0⟩, 0, 0⟩) from nextN_far (many := many) hr h1)
    have HA := Lib.hid (atV_out (b := b) (l := l) (i := nx - 1) (by omega))
    clear hr
    as_aux_lemma =>
      go_enter Tryd.func10, Tryd.ntmps10
      go_wp2_with fail
      rw [← hW]
      clear hW
      go_wp2_with (first
        | (go_at_call 40; refine (leadAwk _).mono ?_; rintro e w1 ⟨rfl, hb1⟩; obtain ⟨k0, f0, z0⟩ := (HX0.out.later hb1).facts; obtain ⟨k1, f1, z1⟩ := (HX1.out.later hb1).facts)
        | (go_at_call 54; refine (matchRight b l A c _ (HS.out.later hb1) hb' hin').mono ?_; rintro e w2 ⟨rfl, hb2'⟩; rw [HR.out]; have hb2 := below_call hb1 hb2'; clear k0 f0 z0 k1 f1 z1; obtain ⟨k0, f0, z0⟩ := (HX0.out.later hb2).facts; obtain ⟨k1, f1, z1⟩ := (HX1.out.later hb2).facts)
        | (go_at_call 42; refine (next_at (leadNext who nx mt pc many b l A c _ (HS.out.later hb2) hb' hin' hnx' hmy' (errType_later HG.out hb2)) HF.out).mono ?_; rintro e w3 ⟨rfl, hb3'⟩; have hb3 := below_call hb2 hb3'; clear k0 f0 z0 k1 f1 z1; obtain ⟨k0, f0, z0⟩ := (HX0.out.later hb3).facts; obtain ⟨k1, f1, z1⟩ := (HX1.out.later hb3).facts; have HY := Lib.hid (Box.new w3 #[.bool false, .int .i64 0, .int .i64 0, .int .i64 0, .int .i64 0, .int .i64 0] 64))
        | (go_at_call 55; refine (matchEnd b l A c _ ((HS.out.later hb3).alloc _)).mono ?_; rw [HQ.out]; rintro e w4 ⟨rfl, hb4'⟩; have hb4 := below_call (below_call hb3 (below_new _ _)) hb4'; clear k0 f0 z0 k1 f1 z1; obtain ⟨k0, f0, z0⟩ := (HX0.out.later hb4).facts; obtain ⟨k1, f1, z1⟩ := (HX1.out.later hb4).facts; have HY4 := Lib.hid (HY.out.later hb4'); obtain ⟨k7, f7, z7⟩ := HY4.out.facts)
        | (go_at_call 50; refine (at_none (matchAt b l A c (nx - 1) _ (HS.out.later hb4) hb' HX9) HA.out).mono ?_; rintro e w5 ⟨rfl, hb5'⟩; have hb5 := below_call hb4 hb5'; clear k0 f0 z0 k1 f1 z1 k7 f7 z7; obtain ⟨k0, f0, z0⟩ := (HX0.out.later hb5).facts; obtain ⟨k1, f1, z1⟩ := (HX1.out.later hb5).facts; have HY5 := Lib.hid (HY4.out.later hb5'); obtain ⟨k7, f7, z7⟩ := HY5.out.facts))
      all_goals go_ret
      all_goals exact ⟨rfl, below_call HB0.out (below_call hb5 (below_new _ _))⟩
  have d1 : decide (b.idx + (l.length : Int) + 1 < nx) = false := decide_eq_false h1
  by_cases h2 : nx ≤ b.idx
  · have d2 : decide (nx ≤ b.idx) = true := decide_eq_true h2
    have d2' : decide (b.idx < nx) = false := decide_eq_false (by omega)
    have HF := Lib.hid (show nextN b l nx many = (0, ⟨true, ⟨0, 0, 0⟩, 0, 0⟩) from nextN_piece (many := many) hr h1 h2)
    clear hr
    as_aux_lemma =>
      go_enter Tryd.func10, Tryd.ntmps10
      go_wp2_with fail
      rw [← hW]
      clear hW
      go_wp2_with (first
        | (go_at_call 40; refine (leadAwk _).mono ?_; rintro e w1 ⟨rfl, hb1⟩; obtain ⟨k0, f0, z0⟩ := (HX0.out.later hb1).facts; obtain ⟨k1, f1, z1⟩ := (HX1.out.later hb1).facts)
        | (go_at_call 54; refine (matchRight b l A c _ (HS.out.later hb1) hb' hin').mono ?_; rintro e w2 ⟨rfl, hb2'⟩; rw [HR.out]; have hb2 := below_call hb1 hb2'; clear k0 f0 z0 k1 f1 z1; obtain ⟨k0, f0, z0⟩ := (HX0.out.later hb2).facts; obtain ⟨k1, f1, z1⟩ := (HX1.out.later hb2).facts)
        | (go_at_call 42; refine (next_at (leadNext who nx mt pc many b l A c _ (HS.out.later hb2) hb' hin' hnx' hmy' (errType_later HG.out hb2)) HF.out).mono ?_; rintro e w3 ⟨rfl, hb3'⟩; have hb3 := below_call hb2 hb3'; clear k0 f0 z0 k1 f1 z1; obtain ⟨k0, f0, z0⟩ := (HX0.out.later hb3).facts; obtain ⟨k1, f1, z1⟩ := (HX1.out.later hb3).facts; have HY := Lib.hid (Box.new w3 #[.bool true, .int .i64 0, .int .i64 0, .int .i64 0, .int .i64 0, .int .i64 0] 64))
        | (go_at_call 55; refine (matchEnd b l A c _ ((HS.out.later hb3).alloc _)).mono ?_; rw [HQ.out]; rintro e w4 ⟨rfl, hb4'⟩; have hb4 := below_call (below_call hb3 (below_new _ _)) hb4'; clear k0 f0 z0 k1 f1 z1; obtain ⟨k0, f0, z0⟩ := (HX0.out.later hb4).facts; obtain ⟨k1, f1, z1⟩ := (HX1.out.later hb4).facts; have HY4 := Lib.hid (HY.out.later hb4'); obtain ⟨k7, f7, z7⟩ := HY4.out.facts))
      all_goals go_ret
      all_goals exact ⟨rfl, below_call HB0.out hb4⟩
  have d2 : decide (nx ≤ b.idx) = false := decide_eq_false h2
  have d2' : decide (b.idx < nx) = true := decide_eq_true (by omega)
  cases ha : atV b l (nx - 1) with
  | none =>
    have HA := Lib.hid ha
    have HF := Lib.hid (show nextN b l nx many = (9, ⟨false, ⟨0, 0, 0⟩, 0, 0⟩) from nextN_rot (many := many) hr h1 h2 ha)
    clear hr ha
    as_aux_lemma =>
      go_enter Tryd.func10, Tryd.ntmps10
      go_wp2_with fail
      rw [← hW]
      clear hW
      go_wp2_with (first
        | (go_at_call 40; refine (leadAwk _).mono ?_; rintro e w1 ⟨rfl, hb1⟩; obtain ⟨k0, f0, z0⟩ := (HX0.out.later hb1).facts; obtain ⟨k1, f1, z1⟩ := (HX1.out.later hb1).facts)
        | (go_at_call 54; refine (matchRight b l A c _ (HS.out.later hb1) hb' hin').mono ?_; rintro e w2 ⟨rfl, hb2'⟩; rw [HR.out]; have hb2 := below_call hb1 hb2'; clear k0 f0 z0 k1 f1 z1; obtain ⟨k0, f0, z0⟩ := (HX0.out.later hb2).facts; obtain ⟨k1, f1, z1⟩ := (HX1.out.later hb2).facts)
        | (go_at_call 42; refine (next_at (leadNext who nx mt pc many b l A c _ (HS.out.later hb2) hb' hin' hnx' hmy' (errType_later HG.out hb2)) HF.out).mono ?_; rintro e w3 ⟨rfl, hb3'⟩; have hb3 := below_call hb2 hb3'; clear k0 f0 z0 k1 f1 z1; obtain ⟨k0, f0, z0⟩ := (HX0.out.later hb3).facts; obtain ⟨k1, f1, z1⟩ := (HX1.out.later hb3).facts; have HY := Lib.hid (Box.new w3 #[.bool false, .int .i64 0, .int .i64 0, .int .i64 0, .int .i64 0, .int .i64 0] 64))
        | (go_at_call 55; refine (matchEnd b l A c _ ((HS.out.later hb3).alloc _)).mono ?_; rw [HQ.out]; rintro e w4 ⟨rfl, hb4'⟩; have hb4 := below_call (below_call hb3 (below_new _ _)) hb4'; clear k0 f0 z0 k1 f1 z1; obtain ⟨k0, f0, z0⟩ := (HX0.out.later hb4).facts; obtain ⟨k1, f1, z1⟩ := (HX1.out.later hb4).facts; have HY4 := Lib.hid (HY.out.later hb4'); obtain ⟨k7, f7, z7⟩ := HY4.out.facts)
        | (go_at_call 50; refine (at_none (matchAt b l A c (nx - 1) _ (HS.out.later hb4) hb' HX9) HA.out).mono ?_; rintro e w5 ⟨rfl, hb5'⟩; have hb5 := below_call hb4 hb5'; clear k0 f0 z0 k1 f1 z1 k7 f7 z7; obtain ⟨k0, f0, z0⟩ := (HX0.out.later hb5).facts; obtain ⟨k1, f1, z1⟩ := (HX1.out.later hb5).facts; have HY5 := Lib.hid (HY4.out.later hb5'); obtain ⟨k7, f7, z7⟩ := HY5.out.facts))
      all_goals go_ret
      all_goals exact ⟨rfl, below_call HB0.out (below_call hb5 (below_new _ _))⟩
  | some p =>
    have hpi := atV_idx hr ha
    have HPI : I64 p.idx := ⟨by omega, by omega⟩
    have HA := Lib.hid ha
    have HA2 := Lib.hid (show atV b l p.idx = some p by rw [hpi]; exact ha)
    have hs0 := nextN_send (many := many) hr h1 h2 ha
    clear hr ha hpi
    by_cases g1 : many < 1
    · have e0 : decide (many < 1) = true := decide_eq_true g1
      have HF := Lib.hid (show nextN b l nx many = (0, ⟨false, p, nx, nx - 1⟩) by rw [hs0]; unfold toN; rw [if_pos g1])
      clear hs0
      as_aux_lemma =>
        go_enter Tryd.func10, Tryd.ntmps10
        go_wp2_with fail
        rw [← hW]
        clear hW
        go_wp2_with (first
          | (go_at_call 40; refine (leadAwk _).mono ?_; rintro e w1 ⟨rfl, hb1⟩; obtain ⟨k0, f0, z0⟩ := (HX0.out.later hb1).facts; obtain ⟨k1, f1, z1⟩ := (HX1.out.later hb1).facts)
          | (go_at_call 54; refine (matchRight b l A c _ (HS.out.later hb1) hb' hin').mono ?_; rintro e w2 ⟨rfl, hb2'⟩; rw [HR.out]; have hb2 := below_call hb1 hb2'; clear k0 f0 z0 k1 f1 z1; obtain ⟨k0, f0, z0⟩ := (HX0.out.later hb2).facts; obtain ⟨k1, f1, z1⟩ := (HX1.out.later hb2).facts)
          | (go_at_call 42; refine (next_at (leadNext who nx mt pc many b l A c _ (HS.out.later hb2) hb' hin' hnx' hmy' (errType_later HG.out hb2)) HF.out).mono ?_; rintro e w3 ⟨rfl, hb3'⟩; have hb3 := below_call hb2 hb3'; clear k0 f0 z0 k1 f1 z1; obtain ⟨k0, f0, z0⟩ := (HX0.out.later hb3).facts; obtain ⟨k1, f1, z1⟩ := (HX1.out.later hb3).facts; have HY := Lib.hid (Box.new w3 #[.bool false, .int .i64 p.idx, .int .i64 p.trm, .int .i64 p.knd, .int .i64 nx, .int .i64 (nx - 1)] 64))
          | (go_at_call 55; refine (matchEnd b l A c _ ((HS.out.later hb3).alloc _)).mono ?_; rw [HQ.out]; rintro e w4 ⟨rfl, hb4'⟩; have hb4 := below_call (below_call hb3 (below_new _ _)) hb4'; clear k0 f0 z0 k1 f1 z1; obtain ⟨k0, f0, z0⟩ := (HX0.out.later hb4).facts; obtain ⟨k1, f1, z1⟩ := (HX1.out.later hb4).facts; have HY4 := Lib.hid (HY.out.later hb4'); obtain ⟨k7, f7, z7⟩ := HY4.out.facts)
          | (go_at_call 50; refine (at_some (matchAt b l A c (nx - 1) _ (HS.out.later hb4) hb' HX9) HA.out).mono ?_; rintro e w5 ⟨rfl, hb5'⟩; have hb5 := below_call hb4 hb5'; clear k0 f0 z0 k1 f1 z1 k7 f7 z7; obtain ⟨k0, f0, z0⟩ := (HX0.out.later hb5).facts; obtain ⟨k1, f1, z1⟩ := (HX1.out.later hb5).facts; have HY5 := Lib.hid (HY4.out.later hb5'); obtain ⟨k7, f7, z7⟩ := HY5.out.facts)
          | (go_at_call 49; refine (fitNil b l A c p _ ((HS.out.later hb5).alloc _) hb' hin' HPI HR.out HA2.out (errType_later HG.out (below_call hb5 (below_new _ _)))).mono ?_; rintro e w6 ⟨rfl, hb6'⟩; have hb6 := below_call (below_call hb5 (below_new _ _)) hb6'; clear k0 f0 z0 k1 f1 z1 k7 f7 z7; obtain ⟨k0, f0, z0⟩ := (HX0.out.later hb6).facts; obtain ⟨k1, f1, z1⟩ := (HX1.out.later hb6).facts; obtain ⟨k7, f7, z7⟩ := ((HY5.out.alloc _).later hb6').facts))
        all_goals go_ret
        all_goals exact ⟨rfl, below_call HB0.out (below_call hb6 (below_new _ _))⟩
    have e0 : decide (many < 1) = false := decide_eq_false g1
    by_cases g2 : many ≤ b.idx + (l.length : Int) - nx
    · have HF := Lib.hid (show nextN b l nx many = (0, ⟨false, p, nx, nx + many - 1⟩) by rw [hs0]; unfold toN; rw [if_neg g1, if_pos g2])
      clear hs0
      as_aux_lemma =>
        go_enter Tryd.func10, Tryd.ntmps10
        go_wp2_with fail
        rw [← hW]
        clear hW
        go_wp2_with (first
          | (go_at_call 40; refine (leadAwk _).mono ?_; rintro e w1 ⟨rfl, hb1⟩; obtain ⟨k0, f0, z0⟩ := (HX0.out.later hb1).facts; obtain ⟨k1, f1, z1⟩ := (HX1.out.later hb1).facts)
          | (go_at_call 54; refine (matchRight b l A c _ (HS.out.later hb1) hb' hin').mono ?_; rintro e w2 ⟨rfl, hb2'⟩; rw [HR.out]; have hb2 := below_call hb1 hb2'; clear k0 f0 z0 k1 f1 z1; obtain ⟨k0, f0, z0⟩ := (HX0.out.later hb2).facts; obtain ⟨k1, f1, z1⟩ := (HX1.out.later hb2).facts)
          | (go_at_call 42; refine (next_at (leadNext who nx mt pc many b l A c _ (HS.out.later hb2) hb' hin' hnx' hmy' (errType_later HG.out hb2)) HF.out).mono ?_; rintro e w3 ⟨rfl, hb3'⟩; have hb3 := below_call hb2 hb3'; clear k0 f0 z0 k1 f1 z1; obtain ⟨k0, f0, z0⟩ := (HX0.out.later hb3).facts; obtain ⟨k1, f1, z1⟩ := (HX1.out.later hb3).facts; have HY := Lib.hid (Box.new w3 #[.bool false, .int .i64 p.idx, .int .i64 p.trm, .int .i64 p.knd, .int .i64 nx, .int .i64 (nx + many - 1)] 64))
          | (go_at_call 55; refine (matchEnd b l A c _ ((HS.out.later hb3).alloc _)).mono ?_; rw [HQ.out]; rintro e w4 ⟨rfl, hb4'⟩; have hb4 := below_call (below_call hb3 (below_new _ _)) hb4'; clear k0 f0 z0 k1 f1 z1; obtain ⟨k0, f0, z0⟩ := (HX0.out.later hb4).facts; obtain ⟨k1, f1, z1⟩ := (HX1.out.later hb4).facts; have HY4 := Lib.hid (HY.out.later hb4'); obtain ⟨k7, f7, z7⟩ := HY4.out.facts)
          | (go_at_call 50; refine (at_some (matchAt b l A c (nx - 1) _ (HS.out.later hb4) hb' HX9) HA.out).mono ?_; rintro e w5 ⟨rfl, hb5'⟩; have hb5 := below_call hb4 hb5'; clear k0 f0 z0 k1 f1 z1 k7 f7 z7; obtain ⟨k0, f0, z0⟩ := (HX0.out.later hb5).facts; obtain ⟨k1, f1, z1⟩ := (HX1.out.later hb5).facts; have HY5 := Lib.hid (HY4.out.later hb5'); obtain ⟨k7, f7, z7⟩ := HY5.out.facts)
          | (go_at_call 49; refine (fitNil b l A c p _ ((HS.out.later hb5).alloc _) hb' hin' HPI HR.out HA2.out (errType_later HG.out (below_call hb5 (below_new _ _)))).mono ?_; rintro e w6 ⟨rfl, hb6'⟩; have hb6 := below_call (below_call hb5 (below_new _ _)) hb6'; clear k0 f0 z0 k1 f1 z1 k7 f7 z7; obtain ⟨k0, f0, z0⟩ := (HX0.out.later hb6).facts; obtain ⟨k1, f1, z1⟩ := (HX1.out.later hb6).facts; obtain ⟨k7, f7, z7⟩ := ((HY5.out.alloc _).later hb6').facts))
        all_goals go_ret
        all_goals exact ⟨rfl, below_call HB0.out (below_call hb6 (below_new _ _))⟩
    have HF := Lib.hid (show nextN b l nx many = (0, ⟨false, p, nx, b.idx + (l.length : Int)⟩) by rw [hs0]; unfold toN; rw [if_neg g1, if_neg g2])
    clear hs0
    by_cases g3 : nx + many ≤ 9223372036854775807
    · by_cases g5 : b.idx + (l.length : Int) < nx + many - 1
      · have hx5 : b.idx + (l.length : Int) < nx + many - 1 := g5
        as_aux_lemma =>
          go_enter Tryd.func10, Tryd.ntmps10
          go_wp2_with fail
          rw [← hW]
          clear hW
          go_wp2_with (first
            | (go_at_call 40; refine (leadAwk _).mono ?_; rintro e w1 ⟨rfl, hb1⟩; obtain ⟨k0, f0, z0⟩ := (HX0.out.later hb1).facts; obtain ⟨k1, f1, z1⟩ := (HX1.out.later hb1).facts)
            | (go_at_call 54; refine (matchRight b l A c _ (HS.out.later hb1) hb' hin').mono ?_; rintro e w2 ⟨rfl, hb2'⟩; rw [HR.out]; have hb2 := below_call hb1 hb2'; clear k0 f0 z0 k1 f1 z1; obtain ⟨k0, f0, z0⟩ := (HX0.out.later hb2).facts; obtain ⟨k1, f1, z1⟩ := (HX1.out.later hb2).facts)
            | (go_at_call 42; refine (next_at (leadNext who nx mt pc many b l A c _ (HS.out.later hb2) hb' hin' hnx' hmy' (errType_later HG.out hb2)) HF.out).mono ?_; rintro e w3 ⟨rfl, hb3'⟩; have hb3 := below_call hb2 hb3'; clear k0 f0 z0 k1 f1 z1; obtain ⟨k0, f0, z0⟩ := (HX0.out.later hb3).facts; obtain ⟨k1, f1, z1⟩ := (HX1.out.later hb3).facts; have HY := Lib.hid (Box.new w3 #[.bool false, .int .i64 p.idx, .int .i64 p.trm, .int .i64 p.knd, .int .i64 nx, .int .i64 (b.idx + (l.length : Int))] 64))
            | (go_at_call 55; refine (matchEnd b l A c _ ((HS.out.later hb3).alloc _)).mono ?_; rw [HQ.out]; rintro e w4 ⟨rfl, hb4'⟩; have hb4 := below_call (below_call hb3 (below_new _ _)) hb4'; clear k0 f0 z0 k1 f1 z1; obtain ⟨k0, f0, z0⟩ := (HX0.out.later hb4).facts; obtain ⟨k1, f1, z1⟩ := (HX1.out.later hb4).facts; have HY4 := Lib.hid (HY.out.later hb4'); obtain ⟨k7, f7, z7⟩ := HY4.out.facts)
            | (go_at_call 50; refine (at_some (matchAt b l A c (nx - 1) _ (HS.out.later hb4) hb' HX9) HA.out).mono ?_; rintro e w5 ⟨rfl, hb5'⟩; have hb5 := below_call hb4 hb5'; clear k0 f0 z0 k1 f1 z1 k7 f7 z7; obtain ⟨k0, f0, z0⟩ := (HX0.out.later hb5).facts; obtain ⟨k1, f1, z1⟩ := (HX1.out.later hb5).facts; have HY5 := Lib.hid (HY4.out.later hb5'); obtain ⟨k7, f7, z7⟩ := HY5.out.facts)
            | (go_at_call 49; refine (fitNil b l A c p _ ((HS.out.later hb5).alloc _) hb' hin' HPI HR.out HA2.out (errType_later HG.out (below_call hb5 (below_new _ _)))).mono ?_; rintro e w6 ⟨rfl, hb6'⟩; have hb6 := below_call (below_call hb5 (below_new _ _)) hb6'; clear k0 f0 z0 k1 f1 z1 k7 f7 z7; obtain ⟨k0, f0, z0⟩ := (HX0.out.later hb6).facts; obtain ⟨k1, f1, z1⟩ := (HX1.out.later hb6).facts; obtain ⟨k7, f7, z7⟩ := ((HY5.out.alloc _).later hb6').facts))
          all_goals go_ret
          all_goals exact ⟨rfl, below_call HB0.out (below_call hb6 (below_new _ _))⟩
      have hx5 : nx + many - 1 = b.idx + (l.length : Int) := by omega
      clear g2 g5
      as_aux_lemma =>
        go_enter Tryd.func10, Tryd.ntmps10
        go_wp2_with fail
        rw [← hW]
        clear hW
        go_wp2_with (first
          | (go_at_call 40; refine (leadAwk _).mono ?_; rintro e w1 ⟨rfl, hb1⟩; obtain ⟨k0, f0, z0⟩ := (HX0.out.later hb1).facts; obtain ⟨k1, f1, z1⟩ := (HX1.out.later hb1).facts)
          | (go_at_call 54; refine (matchRight b l A c _ (HS.out.later hb1) hb' hin').mono ?_; rintro e w2 ⟨rfl, hb2'⟩; rw [HR.out]; have hb2 := below_call hb1 hb2'; clear k0 f0 z0 k1 f1 z1; obtain ⟨k0, f0, z0⟩ := (HX0.out.later hb2).facts; obtain ⟨k1, f1, z1⟩ := (HX1.out.later hb2).facts)
          | (go_at_call 42; refine (next_at (leadNext who nx mt pc many b l A c _ (HS.out.later hb2) hb' hin' hnx' hmy' (errType_later HG.out hb2)) HF.out).mono ?_; rintro e w3 ⟨rfl, hb3'⟩; have hb3 := below_call hb2 hb3'; clear k0 f0 z0 k1 f1 z1; obtain ⟨k0, f0, z0⟩ := (HX0.out.later hb3).facts; obtain ⟨k1, f1, z1⟩ := (HX1.out.later hb3).facts; have HY := Lib.hid (Box.new w3 #[.bool false, .int .i64 p.idx, .int .i64 p.trm, .int .i64 p.knd, .int .i64 nx, .int .i64 (b.idx + (l.length : Int))] 64))
          | (go_at_call 55; refine (matchEnd b l A c _ ((HS.out.later hb3).alloc _)).mono ?_; rw [HQ.out]; rintro e w4 ⟨rfl, hb4'⟩; have hb4 := below_call (below_call hb3 (below_new _ _)) hb4'; clear k0 f0 z0 k1 f1 z1; obtain ⟨k0, f0, z0⟩ := (HX0.out.later hb4).facts; obtain ⟨k1, f1, z1⟩ := (HX1.out.later hb4).facts; have HY4 := Lib.hid (HY.out.later hb4'); obtain ⟨k7, f7, z7⟩ := HY4.out.facts)
          | (go_at_call 50; refine (at_some (matchAt b l A c (nx - 1) _ (HS.out.later hb4) hb' HX9) HA.out).mono ?_; rintro e w5 ⟨rfl, hb5'⟩; have hb5 := below_call hb4 hb5'; clear k0 f0 z0 k1 f1 z1 k7 f7 z7; obtain ⟨k0, f0, z0⟩ := (HX0.out.later hb5).facts; obtain ⟨k1, f1, z1⟩ := (HX1.out.later hb5).facts; have HY5 := Lib.hid (HY4.out.later hb5'); obtain ⟨k7, f7, z7⟩ := HY5.out.facts)
          | (go_at_call 49; refine (fitNil b l A c p _ ((HS.out.later hb5).alloc _) hb' hin' HPI HR.out HA2.out (errType_later HG.out (below_call hb5 (below_new _ _)))).mono ?_; rintro e w6 ⟨rfl, hb6'⟩; have hb6 := below_call (below_call hb5 (below_new _ _)) hb6'; clear k0 f0 z0 k1 f1 z1 k7 f7 z7; obtain ⟨k0, f0, z0⟩ := (HX0.out.later hb6).facts; obtain ⟨k1, f1, z1⟩ := (HX1.out.later hb6).facts; obtain ⟨k7, f7, z7⟩ := ((HY5.out.alloc _).later hb6').facts))
        all_goals go_ret
        all_goals exact ⟨rfl, below_call HB0.out (below_call hb6 (below_new _ _))⟩
    by_cases g4 : nx + many = 9223372036854775808
    · have ew : wrap64 (wrap64 (nx + many) - 1) = 9223372036854775807 := by unfold wrap64; omega
      clear g3 g4
      as_aux_lemma =>
        go_enter Tryd.func10, Tryd.ntmps10
        go_wp2_with fail
        rw [← hW]
        clear hW
        go_wp2_with (first
          | (go_at_call 40; refine (leadAwk _).mono ?_; rintro e w1 ⟨rfl, hb1⟩; obtain ⟨k0, f0, z0⟩ := (HX0.out.later hb1).facts; obtain ⟨k1, f1, z1⟩ := (HX1.out.later hb1).facts)
          | (go_at_call 54; refine (matchRight b l A c _ (HS.out.later hb1) hb' hin').mono ?_; rintro e w2 ⟨rfl, hb2'⟩; rw [HR.out]; have hb2 := below_call hb1 hb2'; clear k0 f0 z0 k1 f1 z1; obtain ⟨k0, f0, z0⟩ := (HX0.out.later hb2).facts; obtain ⟨k1, f1, z1⟩ := (HX1.out.later hb2).facts)
          | (go_at_call 42; refine (next_at (leadNext who nx mt pc many b l A c _ (HS.out.later hb2) hb' hin' hnx' hmy' (errType_later HG.out hb2)) HF.out).mono ?_; rintro e w3 ⟨rfl, hb3'⟩; have hb3 := below_call hb2 hb3'; clear k0 f0 z0 k1 f1 z1; obtain ⟨k0, f0, z0⟩ := (HX0.out.later hb3).facts; obtain ⟨k1, f1, z1⟩ := (HX1.out.later hb3).facts; have HY := Lib.hid (Box.new w3 #[.bool false, .int .i64 p.idx, .int .i64 p.trm, .int .i64 p.knd, .int .i64 nx, .int .i64 (b.idx + (l.length : Int))] 64))
          | (go_at_call 55; refine (matchEnd b l A c _ ((HS.out.later hb3).alloc _)).mono ?_; rw [HQ.out]; rintro e w4 ⟨rfl, hb4'⟩; have hb4 := below_call (below_call hb3 (below_new _ _)) hb4'; clear k0 f0 z0 k1 f1 z1; obtain ⟨k0, f0, z0⟩ := (HX0.out.later hb4).facts; obtain ⟨k1, f1, z1⟩ := (HX1.out.later hb4).facts; have HY4 := Lib.hid (HY.out.later hb4'); obtain ⟨k7, f7, z7⟩ := HY4.out.facts)
          | (go_at_call 50; refine (at_some (matchAt b l A c (nx - 1) _ (HS.out.later hb4) hb' HX9) HA.out).mono ?_; rintro e w5 ⟨rfl, hb5'⟩; have hb5 := below_call hb4 hb5'; clear k0 f0 z0 k1 f1 z1 k7 f7 z7; obtain ⟨k0, f0, z0⟩ := (HX0.out.later hb5).facts; obtain ⟨k1, f1, z1⟩ := (HX1.out.later hb5).facts; have HY5 := Lib.hid (HY4.out.later hb5'); obtain ⟨k7, f7, z7⟩ := HY5.out.facts)
          | (go_at_call 49; refine (fitNil b l A c p _ ((HS.out.later hb5).alloc _) hb' hin' HPI HR.out HA2.out (errType_later HG.out (below_call hb5 (below_new _ _)))).mono ?_; rintro e w6 ⟨rfl, hb6'⟩; have hb6 := below_call (below_call hb5 (below_new _ _)) hb6'; clear k0 f0 z0 k1 f1 z1 k7 f7 z7; obtain ⟨k0, f0, z0⟩ := (HX0.out.later hb6).facts; obtain ⟨k1, f1, z1⟩ := (HX1.out.later hb6).facts; obtain ⟨k7, f7, z7⟩ := ((HY5.out.alloc _).later hb6').facts))
        all_goals go_ret
        all_goals exact ⟨rfl, below_call HB0.out (below_call hb6 (below_new _ _))⟩
    have ew : wrap64 (wrap64 (nx + many) - 1) = nx + many - 1 - 18446744073709551616 := by unfold wrap64; omega
    have hneg : nx + many - 1 - 18446744073709551616 < 0 := by omega
    as_aux_lemma =>
      go_enter Tryd.func10, Tryd.ntmps10
      go_wp2_with fail
      rw [← hW]
      clear hW
      go_wp2_with (first
        | (go_at_call 40; refine (leadAwk _).mono ?_; rintro e w1 ⟨rfl, hb1⟩; obtain ⟨k0, f0, z0⟩ := (HX0.out.later hb1).facts; obtain ⟨k1, f1, z1⟩ := (HX1.out.later hb1).facts)
        | (go_at_call 54; refine (matchRight b l A c _ (HS.out.later hb1) hb' hin').mono ?_; rintro e w2 ⟨rfl, hb2'⟩; rw [HR.out]; have hb2 := below_call hb1 hb2'; clear k0 f0 z0 k1 f1 z1; obtain ⟨k0, f0, z0⟩ := (HX0.out.later hb2).facts; obtain ⟨k1, f1, z1⟩ := (HX1.out.later hb2).facts)
        | (go_at_call 42; refine (next_at (leadNext who nx mt pc many b l A c _ (HS.out.later hb2) hb' hin' hnx' hmy' (errType_later HG.out hb2)) HF.out).mono ?_; rintro e w3 ⟨rfl, hb3'⟩; have hb3 := below_call hb2 hb3'; clear k0 f0 z0 k1 f1 z1; obtain ⟨k0, f0, z0⟩ := (HX0.out.later hb3).facts; obtain ⟨k1, f1, z1⟩ := (HX1.out.later hb3).facts; have HY := Lib.hid (Box.new w3 #[.bool false, .int .i64 p.idx, .int .i64 p.trm, .int .i64 p.knd, .int .i64 nx, .int .i64 (b.idx + (l.length : Int))] 64))
        | (go_at_call 55; refine (matchEnd b l A c _ ((HS.out.later hb3).alloc _)).mono ?_; rw [HQ.out]; rintro e w4 ⟨rfl, hb4'⟩; have hb4 := below_call (below_call hb3 (below_new _ _)) hb4'; clear k0 f0 z0 k1 f1 z1; obtain ⟨k0, f0, z0⟩ := (HX0.out.later hb4).facts; obtain ⟨k1, f1, z1⟩ := (HX1.out.later hb4).facts; have HY4 := Lib.hid (HY.out.later hb4'); obtain ⟨k7, f7, z7⟩ := HY4.out.facts)
        | (go_at_call 50; refine (at_some (matchAt b l A c (nx - 1) _ (HS.out.later hb4) hb' HX9) HA.out).mono ?_; rintro e w5 ⟨rfl, hb5'⟩; have hb5 := below_call hb4 hb5'; clear k0 f0 z0 k1 f1 z1 k7 f7 z7; obtain ⟨k0, f0, z0⟩ := (HX0.out.later hb5).facts; obtain ⟨k1, f1, z1⟩ := (HX1.out.later hb5).facts; have HY5 := Lib.hid (HY4.out.later hb5'); obtain ⟨k7, f7, z7⟩ := HY5.out.facts)
        | (go_at_call 49; refine (fitNil b l A c p _ ((HS.out.later hb5).alloc _) hb' hin' HPI HR.out HA2.out (errType_later HG.out (below_call hb5 (below_new _ _)))).mono ?_; rintro e w6 ⟨rfl, hb6'⟩; have hb6 := below_call (below_call hb5 (below_new _ _)) hb6'; clear k0 f0 z0 k1 f1 z1 k7 f7 z7; obtain ⟨k0, f0, z0⟩ := (HX0.out.later hb6).facts; obtain ⟨k1, f1, z1⟩ := (HX1.out.later hb6).facts; obtain ⟨k7, f7, z7⟩ := ((HY5.out.alloc _).later hb6').facts))
      all_goals go_ret
      all_goals exact ⟨rfl, below_call HB0.out (below_call hb6 (below_new _ _))⟩

end Go.Proofs.YteogfcellpdpjaaDoor
