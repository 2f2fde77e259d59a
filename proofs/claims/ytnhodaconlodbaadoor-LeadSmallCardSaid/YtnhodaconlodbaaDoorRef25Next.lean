/-
  limpetref25's Next: contract.
-/
import Derived.Test.YtnhodaconlodbaaDoorLeadNext
import Derived.Test.YtnhodaconlodbaaDoorRef20
import Derived.Test.YtnhodaconlodbaaDoorRef20At
import Derived.Deep.RegionHeld3
import Derived.Deep.DeepCutAuto
import Derived.StillTailTactics
set_option linter.unusedVariables false
set_option linter.unusedSimpArgs false
namespace Go.Proofs.YtnhodaconlodbaaDoor
open Go.RowKit

set_option maxRecDepth 100000 in
set_option maxHeartbeats 4000000 in
theorem ref25Next (who nx mt pc many : Int) (b : Idt) (l : List Idt) (A : Option Addr) (c : Nat) (w : World) (h : Sl 3 idRow w.heap.size w (.slice A l.length c) l) (hb : I64 b.idx) (hin : ∀ p ∈ l, I64 p.idx) (hnx : I64 nx) (hmy : I64 many) :
    Calls Tryd.prog 52 #[.agg #[.int .i64 who, .int .i64 nx, .int .i64 mt, .int .i64 pc], .agg #[.int .i64 b.idx, .int .i64 b.trm, .int .i64 b.knd, .slice A l.length c], .int .i64 many] w (NextPost nx many b l w) := by
  have HS := Lib.hid (((h.later (below_new w (.cells #[.int .i64 who, .int .i64 nx, .int .i64 mt, .int .i64 pc] 67))).later (below_new _ (.cells #[.int .i64 b.idx, .int .i64 b.trm, .int .i64 b.knd, .slice A l.length c] 91))).later (below_new _ (.cells #[.bool false, .int .i64 0, .int .i64 0, .int .i64 0, .int .i64 0, .int .i64 0] 88)))
  obtain ⟨hb', hin'⟩ : I64 b.idx ∧ (∀ p ∈ l, I64 p.idx) := ⟨hb, hin⟩
  clear h hb hin
  obtain ⟨n0, n1⟩ := hnx
  obtain ⟨m0, m1⟩ := hmy
  cases hr : rightV b l with
  | false =>
    have HR := Lib.hid hr
    have HF := Lib.hid (nextN_bad (nx := nx) (many := many) hr)
    clear hr
    go_enter Tryd.func52, Tryd.ntmps52
    go_wp2_with (go_at_call 80; refine (ref20Right b l A c _ (HS.out) hb' hin').mono ?_; rintro e w1 ⟨rfl, hb1⟩; rw [HR.out]; obtain ⟨pa, pb, pc', P⟩ := boxes3 #[.int .i64 who, .int .i64 nx, .int .i64 mt, .int .i64 pc] #[.int .i64 b.idx, .int .i64 b.trm, .int .i64 b.knd, .slice A l.length c] #[.bool false, .int .i64 0, .int .i64 0, .int .i64 0, .int .i64 0, .int .i64 0] 67 91 88 hb1; obtain ⟨ka, fa, za⟩ := pa.facts; obtain ⟨kb, fb, zb⟩ := pb.facts; obtain ⟨kc, fc, zc⟩ := pc'.facts)
    refine bodyPost_box (pc'.set6 _ _ _ _ _ _) (below_set6 P (by omega) _ _ _ _ _ _) ?_
    intro wz hz1 hz2
    obtain ⟨kz, -, -⟩ := hz1.facts
    refine bodyPost_ret (v := .tuple #[.agg #[.bool false, .int .i64 0, .int .i64 0, .int .i64 0, .int .i64 0, .int .i64 0], .int .i64 2]) (by simp [results, Tryd.results52, go_sem, kz]) rfl (next_mk HF.out rfl hz2)
  | true =>
    obtain ⟨r0, r1, r2⟩ := rightV_head hr
    have HR := Lib.hid hr
    by_cases h1 : b.idx + (l.length : Int) + 1 < nx
    · have d1 : decide (b.idx + (l.length : Int) + 1 < nx) = true := decide_eq_true h1
      have HF := Lib.hid (nextN_far (many := many) hr h1)
      clear hr
      go_enter Tryd.func52, Tryd.ntmps52
      go_wp2_with (go_at_call 80; refine (ref20Right b l A c _ (HS.out) hb' hin').mono ?_; rintro e w1 ⟨rfl, hb1⟩; rw [HR.out]; obtain ⟨pa, pb, pc', P⟩ := boxes3 #[.int .i64 who, .int .i64 nx, .int .i64 mt, .int .i64 pc] #[.int .i64 b.idx, .int .i64 b.trm, .int .i64 b.knd, .slice A l.length c] #[.bool false, .int .i64 0, .int .i64 0, .int .i64 0, .int .i64 0, .int .i64 0] 67 91 88 hb1; obtain ⟨ka, fa, za⟩ := pa.facts; obtain ⟨kb, fb, zb⟩ := pb.facts; obtain ⟨kc, fc, zc⟩ := pc'.facts)
      refine bodyPost_box (pc'.set6 _ _ _ _ _ _) (below_set6 P (by omega) _ _ _ _ _ _) ?_
      intro wz hz1 hz2
      obtain ⟨kz, -, -⟩ := hz1.facts
      refine bodyPost_ret (v := .tuple #[.agg #[.bool false, .int .i64 0, .int .i64 0, .int .i64 0, .int .i64 0, .int .i64 0], .int .i64 7]) (by simp [results, Tryd.results52, go_sem, kz]) rfl (next_mk HF.out rfl hz2)
    have d1 : decide (b.idx + (l.length : Int) + 1 < nx) = false := decide_eq_false h1
    by_cases h2 : nx ≤ b.idx
    · have d2 : decide (nx ≤ b.idx) = true := decide_eq_true h2
      have HF := Lib.hid (nextN_piece (many := many) hr h1 h2)
      clear hr
      go_enter Tryd.func52, Tryd.ntmps52
      go_wp2_with (go_at_call 80; refine (ref20Right b l A c _ (HS.out) hb' hin').mono ?_; rintro e w1 ⟨rfl, hb1⟩; rw [HR.out]; obtain ⟨pa, pb, pc', P⟩ := boxes3 #[.int .i64 who, .int .i64 nx, .int .i64 mt, .int .i64 pc] #[.int .i64 b.idx, .int .i64 b.trm, .int .i64 b.knd, .slice A l.length c] #[.bool false, .int .i64 0, .int .i64 0, .int .i64 0, .int .i64 0, .int .i64 0] 67 91 88 hb1; obtain ⟨ka, fa, za⟩ := pa.facts; obtain ⟨kb, fb, zb⟩ := pb.facts; obtain ⟨kc, fc, zc⟩ := pc'.facts)
      refine bodyPost_box (pc'.set6 _ _ _ _ _ _) (below_set6 P (by omega) _ _ _ _ _ _) ?_
      intro wz hz1 hz2
      obtain ⟨kz, -, -⟩ := hz1.facts
      refine bodyPost_ret (v := .tuple #[.agg #[.bool true, .int .i64 0, .int .i64 0, .int .i64 0, .int .i64 0, .int .i64 0], .int .i64 0]) (by simp [results, Tryd.results52, go_sem, kz]) rfl (next_mk HF.out rfl hz2)
    have d2 : decide (nx ≤ b.idx) = false := decide_eq_false h2
    have hx1 : I64 (nx - 1) := ⟨by omega, by omega⟩
    have HX1 := Lib.hid hx1
    cases ha : atV b l (nx - 1) with
    | none =>
      have HA := Lib.hid ha
      have HF := Lib.hid (nextN_rot (many := many) hr h1 h2 ha)
      clear hr ha hx1
      go_enter Tryd.func52, Tryd.ntmps52
      go_wp2_with (first | (go_at_call 80; refine (ref20Right b l A c _ (HS.out) hb' hin').mono ?_; rintro e w1 ⟨rfl, hb1⟩; rw [HR.out]; obtain ⟨pa, pb, pc', P⟩ := boxes3 #[.int .i64 who, .int .i64 nx, .int .i64 mt, .int .i64 pc] #[.int .i64 b.idx, .int .i64 b.trm, .int .i64 b.knd, .slice A l.length c] #[.bool false, .int .i64 0, .int .i64 0, .int .i64 0, .int .i64 0, .int .i64 0] 67 91 88 hb1; obtain ⟨ka, fa, za⟩ := pa.facts; obtain ⟨kb, fb, zb⟩ := pb.facts; obtain ⟨kc, fc, zc⟩ := pc'.facts) | (go_at_call 81; refine (at_none (ref20At b l A c (nx - 1) _ ((HS.out).later hb1) hb' HX1.out) HA.out).mono ?_; rintro e w2 ⟨rfl, hb2⟩; have Q6 := pc'.later hb2; have Q3 := pa.later hb2; have Q4 := pb.later hb2; have QP := below_call P hb2; obtain ⟨qa, ga, ya⟩ := Q3.facts; obtain ⟨qc, gc, yc⟩ := Q6.facts; obtain ⟨qb, gb, yb⟩ := Q4.facts; clear ka fa za kb fb zb kc fc zc))
      refine bodyPost_box ((Q6.set6 _ _ _ _ _ _).alloc _) ((below_set6 QP (n := w.heap.size + 1 + 1) (by omega) _ _ _ _ _ _).alloc (by simp only [World.size_setCell]; exact QP.size) _) ?_
      intro wz hz1 hz2
      obtain ⟨kz, -, -⟩ := hz1.facts
      refine bodyPost_ret (v := .tuple #[.agg #[.bool false, .int .i64 0, .int .i64 0, .int .i64 0, .int .i64 0, .int .i64 0], .int .i64 9]) (by simp [results, Tryd.results52, go_sem, kz]) rfl (next_mk HF.out rfl hz2)
    | some p =>
      have HA := Lib.hid ha
      have HF := Lib.hid (nextN_send (many := many) hr h1 h2 ha)
      clear hr ha hx1
      by_cases g1 : many < 1
      · have dg : decide (many < 1) = true := decide_eq_true g1
        have HT := Lib.hid (show toN b l nx many = nx - 1 by unfold toN; rw [if_pos g1])
        go_enter Tryd.func52, Tryd.ntmps52
        go_wp2_with (first | (go_at_call 80; refine (ref20Right b l A c _ (HS.out) hb' hin').mono ?_; rintro e w1 ⟨rfl, hb1⟩; rw [HR.out]; obtain ⟨pa, pb, pc', P⟩ := boxes3 #[.int .i64 who, .int .i64 nx, .int .i64 mt, .int .i64 pc] #[.int .i64 b.idx, .int .i64 b.trm, .int .i64 b.knd, .slice A l.length c] #[.bool false, .int .i64 0, .int .i64 0, .int .i64 0, .int .i64 0, .int .i64 0] 67 91 88 hb1; obtain ⟨ka, fa, za⟩ := pa.facts; obtain ⟨kb, fb, zb⟩ := pb.facts; obtain ⟨kc, fc, zc⟩ := pc'.facts) | (go_at_call 81; refine (at_some (ref20At b l A c (nx - 1) _ ((HS.out).later hb1) hb' HX1.out) HA.out).mono ?_; rintro e w2 ⟨rfl, hb2⟩; have Q6 := pc'.later hb2; have Q3 := pa.later hb2; have Q4 := pb.later hb2; have QP := below_call P hb2; obtain ⟨qa, ga, ya⟩ := Q3.facts; obtain ⟨qc, gc, yc⟩ := Q6.facts; obtain ⟨qb, gb, yb⟩ := Q4.facts; clear ka fa za kb fb zb kc fc zc))
        all_goals
          refine bodyPost_box ((Q6.set6 _ _ _ _ _ _).alloc _) ((below_set6 QP (n := w.heap.size + 1 + 1) (by omega) _ _ _ _ _ _).alloc (by simp only [World.size_setCell]; exact QP.size) _) ?_
          intro wz hz1 hz2
          obtain ⟨kz, -, -⟩ := hz1.facts
          refine bodyPost_ret (v := .tuple #[.agg #[.bool false, .int .i64 p.idx, .int .i64 p.trm, .int .i64 p.knd, .int .i64 nx, .int .i64 (toN b l nx many)], .int .i64 0]) ?_ rfl (next_mk HF.out rfl hz2)
          first | (simp [results, Tryd.results52, go_sem, kz]; done) | (simp [results, Tryd.results52, go_sem, kz]; (rw [HT.out] <;> omega))
      have dg : decide (many < 1) = false := decide_eq_false g1
      by_cases g2 : many ≤ b.idx + (l.length : Int) - nx
      · have dh : decide (many ≤ b.idx + (l.length : Int) - nx) = true := decide_eq_true g2
        have HT := Lib.hid (show toN b l nx many = nx + many - 1 by unfold toN; rw [if_neg g1, if_pos g2])
        go_enter Tryd.func52, Tryd.ntmps52
        go_wp2_with (first | (go_at_call 80; refine (ref20Right b l A c _ (HS.out) hb' hin').mono ?_; rintro e w1 ⟨rfl, hb1⟩; rw [HR.out]; obtain ⟨pa, pb, pc', P⟩ := boxes3 #[.int .i64 who, .int .i64 nx, .int .i64 mt, .int .i64 pc] #[.int .i64 b.idx, .int .i64 b.trm, .int .i64 b.knd, .slice A l.length c] #[.bool false, .int .i64 0, .int .i64 0, .int .i64 0, .int .i64 0, .int .i64 0] 67 91 88 hb1; obtain ⟨ka, fa, za⟩ := pa.facts; obtain ⟨kb, fb, zb⟩ := pb.facts; obtain ⟨kc, fc, zc⟩ := pc'.facts) | (go_at_call 81; refine (at_some (ref20At b l A c (nx - 1) _ ((HS.out).later hb1) hb' HX1.out) HA.out).mono ?_; rintro e w2 ⟨rfl, hb2⟩; have Q6 := pc'.later hb2; have Q3 := pa.later hb2; have Q4 := pb.later hb2; have QP := below_call P hb2; obtain ⟨qa, ga, ya⟩ := Q3.facts; obtain ⟨qc, gc, yc⟩ := Q6.facts; obtain ⟨qb, gb, yb⟩ := Q4.facts; clear ka fa za kb fb zb kc fc zc))
        all_goals
          refine bodyPost_box ((Q6.set6 _ _ _ _ _ _).alloc _) ((below_set6 QP (n := w.heap.size + 1 + 1) (by omega) _ _ _ _ _ _).alloc (by simp only [World.size_setCell]; exact QP.size) _) ?_
          intro wz hz1 hz2
          obtain ⟨kz, -, -⟩ := hz1.facts
          refine bodyPost_ret (v := .tuple #[.agg #[.bool false, .int .i64 p.idx, .int .i64 p.trm, .int .i64 p.knd, .int .i64 nx, .int .i64 (toN b l nx many)], .int .i64 0]) ?_ rfl (next_mk HF.out rfl hz2)
          first | (simp [results, Tryd.results52, go_sem, kz]; done) | (simp [results, Tryd.results52, go_sem, kz]; (rw [HT.out] <;> omega))
      have dh : decide (many ≤ b.idx + (l.length : Int) - nx) = false := decide_eq_false g2
      have HT := Lib.hid (show toN b l nx many = b.idx + (l.length : Int) by unfold toN; rw [if_neg g1, if_neg g2])
      go_enter Tryd.func52, Tryd.ntmps52
      go_wp2_with (first | (go_at_call 80; refine (ref20Right b l A c _ (HS.out) hb' hin').mono ?_; rintro e w1 ⟨rfl, hb1⟩; rw [HR.out]; obtain ⟨pa, pb, pc', P⟩ := boxes3 #[.int .i64 who, .int .i64 nx, .int .i64 mt, .int .i64 pc] #[.int .i64 b.idx, .int .i64 b.trm, .int .i64 b.knd, .slice A l.length c] #[.bool false, .int .i64 0, .int .i64 0, .int .i64 0, .int .i64 0, .int .i64 0] 67 91 88 hb1; obtain ⟨ka, fa, za⟩ := pa.facts; obtain ⟨kb, fb, zb⟩ := pb.facts; obtain ⟨kc, fc, zc⟩ := pc'.facts) | (go_at_call 81; refine (at_some (ref20At b l A c (nx - 1) _ ((HS.out).later hb1) hb' HX1.out) HA.out).mono ?_; rintro e w2 ⟨rfl, hb2⟩; have Q6 := pc'.later hb2; have Q3 := pa.later hb2; have Q4 := pb.later hb2; have QP := below_call P hb2; obtain ⟨qa, ga, ya⟩ := Q3.facts; obtain ⟨qc, gc, yc⟩ := Q6.facts; obtain ⟨qb, gb, yb⟩ := Q4.facts; clear ka fa za kb fb zb kc fc zc))
      all_goals
        refine bodyPost_box ((Q6.set6 _ _ _ _ _ _).alloc _) ((below_set6 QP (n := w.heap.size + 1 + 1) (by omega) _ _ _ _ _ _).alloc (by simp only [World.size_setCell]; exact QP.size) _) ?_
        intro wz hz1 hz2
        obtain ⟨kz, -, -⟩ := hz1.facts
        refine bodyPost_ret (v := .tuple #[.agg #[.bool false, .int .i64 p.idx, .int .i64 p.trm, .int .i64 p.knd, .int .i64 nx, .int .i64 (toN b l nx many)], .int .i64 0]) ?_ rfl (next_mk HF.out rfl hz2)
        first | (simp [results, Tryd.results52, go_sem, kz]; done) | (simp [results, Tryd.results52, go_sem, kz]; (rw [HT.out] <;> omega))
end Go.Proofs.YtnhodaconlodbaaDoor
