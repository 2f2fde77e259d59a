/-
  slices.Sorted(slices.Values(l)) at []int: contracts.
-/
import Derived.RangeFuncBox
import Derived.RangeFuncLeaves
import Derived.RangeFuncWrites
import Derived.Shelf.Abstract
import Derived.WalkKit
import Derived.OwnWalkIn
import Derived.TacticsInMore
import Derived.LoopNIn
import Derived.LoopIn
import Derived.Sort.OwnSorted
import Derived.Lib.SlKeysI
import Derived.Shelf.SlIter.Collect
import Derived.Test.YtclphcbjdcdkfaaDoorSortLay
import Derived.Test.YtclphcbjdcdkfaaDoorKitInts
set_option linter.unusedVariables false
set_option linter.unusedSimpArgs false
namespace Go.Proofs.YtclphcbjdcdkfaaDoor
open Go.RowKit Go.Maps Go.Sort Go.Shelf

/-- What has come when k rounds are over. -/
def upto (f : Nat → Int) (k : Nat) : List Int := (List.range k).map f
theorem upto_succ (f : Nat → Int) (k : Nat) : upto f (k + 1) = upto f k ++ [f k] := by simp [upto, List.range_succ]
theorem upto_length (f : Nat → Int) (k : Nat) : (upto f k).length = k := by simp [upto]
theorem upto_all (zs : List Int) : upto (fun j => zs[j]?.getD 0) zs.length = zs := by
  apply List.ext_getElem
  · simp [upto]
  · intro i h1 h2
    simp [upto, h2]

set_option maxRecDepth 100000 in
set_option maxHeartbeats 2000000 in
theorem values1 (F : Fence) (n : Nat) (h7 : F.fn 77) (hro : F.round = none) (hn : 1 ≤ n) (l Bs n₀ b off len cap : Nat) (zs : List Int) (hreach : len * 8 ≤ 140737488351232) (hb : b < n₀) (J Jx : List Int → World → Prop)
    (hY : ∀ pre x W, J pre W → pre.length < len → YieldAt F (n - 1) Tryd.prog l #[.int .i64 x] W fun e W' =>
      (e = .returned (.bool true) ∧ J (pre ++ [x]) W' ∧ Below n₀ W W') ∨ (e = .returned (.bool false) ∧ Jx (pre ++ [x]) W'))
    (W : World) (hBs : W.cell? ⟨Bs, 0, none⟩ = some (.slice (some ⟨b, off, none⟩) len cap)) (hc : ∀ j, j < len → W.cell? ⟨b, off + j, none⟩ = some (.int .i64 (zs[j]?.getD 0))) (h0 : J [] W) :
    CallsIn F n Tryd.prog 77 #[.func (.yield l) #[] #[], .pointer (some ⟨Bs, 0, none⟩)] W fun e W' => (∃ v, e = .returned v) ∧
      ((∃ ys, ys = upto (fun j => zs[j]?.getD 0) len ∧ J ys W') ∨ (∃ pre, True ∧ Jx pre W')) := by
  refine callsIn_of_wp Tryd.func77 rfl h7 ?_ hro
  simp only [Tryd.ntmps77, List.size_toArray, List.length_cons, List.length_nil, Nat.reduceAdd, Nat.reduceSub, Array.replicate_succ, Array.replicate_zero, List.push_toArray, List.append_toArray, List.nil_append, List.cons_append]
  gi_wp2
  gi_loopw [7] (fun i wr => ∃ k : Nat, k ≤ len ∧ i = .int .i64 k ∧ J (upto (fun j => zs[j]?.getD 0) k) wr ∧ Below n₀ W wr)
    (fun i _ => len - (intOf i).toNat)
  case atStart => exact ⟨0, Nat.zero_le _, rfl, h0, Below.refl _ _⟩
  case round =>
    obtain ⟨k, hk, rfl, hJs, hnx⟩ := hrel
    have hcx : k < len → wr.cell? ⟨b, off + k, none⟩ = some (.int .i64 (zs[k]?.getD 0)) := fun h => (hnx.cell (p := ⟨b, off + k, none⟩) hb).trans (hc k h)
    by_cases hlt : k < len
    · obtain ⟨fn, tmps, assign, body, hy, hR⟩ := hY _ (zs[k]?.getD 0) wr hJs (by rw [upto_length]; exact hlt)
      have hcx' := hcx hlt
      gi_wp2
      refine hR.mono ?_
      rintro e W3 (⟨rfl, hJ3, hk3⟩ | ⟨rfl, hJx3⟩)
      · gi_wp2
        go_roundw
        case rel => exact ⟨k + 1, by omega, by simp, by rw [upto_succ]; exact hJ3, hnx.trans hk3⟩
        case measure => simp [intOf]; omega
      · gi_wp2
        refine bodyPost_ret (results_none rfl _ _ _) rfl ?_
        exact ⟨⟨_, rfl⟩, .inr ⟨_, trivial, hJx3⟩⟩
    · obtain rfl : k = len := by omega
      gi_wp2
      go_end0
      exact ⟨⟨_, rfl⟩, .inl ⟨_, rfl, hJs⟩⟩

set_option maxRecDepth 100000 in
set_option maxHeartbeats 1000000 in
theorem values1_none (F : Fence) (n : Nat) (h7 : F.fn 77) (hro : F.round = none) (l Bs cap : Nat) (A : Option Addr) (J : List Int → World → Prop) (W : World) (hBs : W.cell? ⟨Bs, 0, none⟩ = some (.slice A 0 cap)) (h0 : J [] W) :
    CallsIn F n Tryd.prog 77 #[.func (.yield l) #[] #[], .pointer (some ⟨Bs, 0, none⟩)] W fun e W' => (∃ v, e = .returned v) ∧ J [] W' := by
  refine callsIn_of_wp Tryd.func77 rfl h7 ?_ hro
  simp only [Tryd.ntmps77, List.size_toArray, List.length_cons, List.length_nil, Nat.reduceAdd, Nat.reduceSub, Array.replicate_succ, Array.replicate_zero, List.push_toArray, List.append_toArray, List.nil_append, List.cons_append]
  gi_wp2
  gi_loopw [7] (fun i wr => i = .int .i64 0 ∧ J [] wr) (fun _ _ => 0)
  case atStart => exact ⟨rfl, h0⟩
  case round =>
    obtain ⟨rfl, hJs⟩ := hrel
    gi_wp2
    go_end0
    exact ⟨⟨_, rfl⟩, hJs⟩

theorem values_stops (F : Fence) (n : Nat) (h7 : F.fn 77) (hro : F.round = none) (hn : 1 ≤ n) (Bs n₀ : Nat) (sv : Value) (zs : List Int) (hreach : zs.length ≤ 1000000) (w : World) (hBs : Bs < w.heap.size) (hn₀ : n₀ ≤ w.heap.size)
    (hc : w.cell? ⟨Bs, 0, none⟩ = some sv) (hI : Sl 1 i64Row n₀ w sv zs) :
    SeqStopsK F n Tryd.prog 77 #[.pointer (some ⟨Bs, 0, none⟩)] (fun x : Int => #[Value.int .i64 x]) (Below n₀) (fun ys => ys = zs) (fun pre => True) zs.length w := fun l J Jx W hW _ _ hY h0 => by
  have hc' := (hW.cell (p := ⟨Bs, 0, none⟩) hBs).trans hc
  have hI' := hI.below (hW.mono hn₀)
  by_cases hz : zs = []
  · subst hz
    obtain ⟨A, cap, rfl, -⟩ := hI'
    exact (values1_none F n h7 hro l Bs _ _ J W hc' h0).mono fun e W' ⟨he, hj⟩ => ⟨he, .inl ⟨_, rfl, hj⟩⟩
  · obtain ⟨b, off, cap, rfl, -, -, hb, hcs⟩ := hI'.cellAt hz
    refine (values1 F n h7 hro hn l Bs n₀ b off zs.length cap zs (by omega) hb J Jx hY W hc' (fun j hj => ?_) h0).mono ?_
    · have := hcs j zs[j] (List.getElem?_eq_getElem hj) 0 (.int .i64 zs[j]) rfl
      rw [List.getElem?_eq_getElem hj]
      simpa using this
    · rintro e W' ⟨he, ⟨ys, rfl, hj⟩ | ⟨pre, -, hj⟩⟩
      · exact ⟨he, .inl ⟨_, upto_all zs, hj⟩⟩
      · exact ⟨he, .inr ⟨_, trivial, hj⟩⟩

set_option maxHeartbeats 1000000 in
theorem valuesC (A : Option Addr) (len cap : Nat) (w : World) :
    Calls Tryd.prog 66 #[.slice A len cap] w fun e w' => e = .returned (.func (.func 77) #[] #[.pointer (some ⟨w.heap.size, 0, none⟩)]) ∧ w' = w.alloc (.cells #[.slice A len cap] 45) := by
  go_enter Tryd.func66, Tryd.ntmps66
  go_wp2
  go_ret
  exact ⟨rfl, rfl⟩

/-- Between two rounds of slices.AppendSeq. -/
def ApI (w : World) (pre : List Int) (W : World) : Prop :=
  (∃ v, Box W w.heap.size #[v] 45 ∧ W.ownsRow w.heap.size 3 1 v pre.length (pre.map encZ)) ∧ Below w.heap.size w W
theorem apI_from (w : World) {B : Nat} (hB : w.heap.size ≤ B) : OwnFrom B (ApI w) := fun s W W' row h hg hr => by
  obtain ⟨⟨v, hv, hrow⟩, hb⟩ := h
  refine ⟨⟨v, ?_, ?_⟩, hb.grown hg hb.size (fun k e => Nat.le_trans hB (hr k e).1)⟩
  · refine (hg.block _ hv.lt (fun e => ?_)).trans hv
    obtain ⟨-, o, ho, hc⟩ := hr _ e.symm
    unfold Box at hv
    rw [hv] at ho; cases ho; simp [Obj.isCells] at hc
  · refine hrow.kept hg ?_
    rcases hrow.2 with ⟨rfl, _⟩ | ⟨g, cap, cur, rfl, _, hgb, _⟩
    · exact .inl rfl
    · refine .inr fun e' => ?_
      obtain ⟨-, o, ho, hc⟩ := hr g (by simpa [Value.ownBlock] using e'.symm)
      rw [hgb] at ho; cases ho; simp [Obj.isCells] at hc

set_option maxRecDepth 100000 in
set_option maxHeartbeats 2000000 in
theorem appendSeqV (n : Nat) (hn : 3 ≤ n) (Bs : Nat) (sv : Value) (zs : List Int) (hl : zs.length ≤ 1000000) (w : World) (hB : w.cell? ⟨Bs, 0, none⟩ = some sv) (hS : Sl 1 i64Row w.heap.size w sv zs) :
    CallsIn Fence.wide n Tryd.prog 84 #[.slice none 0 0, .func (.func 77) #[] #[.pointer (some ⟨Bs, 0, none⟩)]] w fun e w' =>
      ∃ u, e = .returned u ∧ w'.ownsRow w.heap.size 3 1 u zs.length (zs.map encZ) ∧ Below w.heap.size w w' := by
  have h1 : 1 ≤ n := by omega
  have hBs := World.block_lt_of_cell? _ _ hB
  refine callsIn_of_wp_marks Tryd.func84 rfl trivial ?_ rfl
  simp only [Tryd.ntmps84, List.size_toArray, List.length_cons, List.length_nil, Nat.reduceAdd, Nat.reduceSub, Array.replicate_succ, Array.replicate_zero, List.push_toArray, List.append_toArray, List.nil_append, List.cons_append]
  gi_wp2
  have hb0 : Below w.heap.size w (w.alloc (.cells #[.slice none 0 0] 45)) := below_new _ _
  refine wpIn_rangeFunc_ownG rfl h1 (gf := 77) (lb := #[.pointer (some ⟨Bs, 0, none⟩)]) rfl trivial (enters_of Tryd.func77 (by kernel_rfl) rfl)
    (values_stops Fence.wide (n - 1) trivial rfl (by omega) Bs w.heap.size sv zs hl w hBs (Nat.le_refl _) hB hS) belowK_t (belowK_b (by simp)) hb0 (fun _ => rfl)
    (ApI w) (fun _ _ _ => False) (apI_from w (by simp)) (fun _ _ _ _ _ hs _ _ => hs)
    ⟨⟨_, Box.new _ _ _, ⟨rfl, .inl ⟨rfl, rfl⟩⟩⟩, hb0⟩
    (fun x => { tmps := #[.slice none 0 0, .func (.func 77) #[] #[.pointer (some ⟨Bs, 0, none⟩)], .pointer (some ⟨w.heap.size, 0, none⟩), undef, .slice none 0 0, .int .i64 x, .func (.func 77) #[] #[.pointer (some ⟨Bs, 0, none⟩)], .int .i64 x, undef, undef, undef, undef, undef], defers := [] }) ?assign ?body ?done ?stop
  case assign =>
    intro l x W K hK
    gi_wp2_with gi_round_op_a
    exact hK
  case body =>
    rintro l pre x W ⟨⟨v, hv, hrow⟩, hb⟩ hlt
    obtain ⟨kv, fv, zv⟩ := hv.facts
    have c0 := kv 0
    have f0 := fv 0
    have hbz := hb.size
    simp only [List.getElem?_toArray, List.getElem?_cons_zero] at c0
    obtain ⟨i0, hi, hz0, hz1, hz2⟩ := info_parts intInfo
    have hvw : W.heap[w.heap.size]? = some (.cells #[v] 45 (0, 0)) := hv
    have hne : some w.heap.size ≠ v.ownBlock := fun e => by
      rcases ownsRow_ne_a hrow hvw (fun cur e => by cases e) with h | h
      · rw [h] at e; cases e
      · exact h e.symm
    have HG := Lib.hid hvw
    have HN := Lib.hid hne
    have HR := Lib.hid hrow
    have HB := Lib.hid hb
    have HZ0 := Lib.hid hz0
    have HZ1 := Lib.hid hz1
    have HZ2 := Lib.hid hz2
    have HI := Lib.hid hi
    have HV := Lib.hid hv
    clear hrow hb hz0 hz1 hz2 hi hvw hne hv
    gi_wp2_with (first
      | (gi_at_builtin; refine wpListIn_append_own _ rfl _ _ 45 rfl w.heap.size 3 i0 (.int .i64 0) 1 8 Tryd.underlying45 HI.out HZ0.out HZ1.out HZ2.out rfl (by decide) _ _ _ rfl (HR.out.alloc _) ⟨W.heap.size, 0, none⟩ 1 1 [encZ x] rfl rfl (cell_one_new _ _ _) (by simp [Value.oneCell', encZ]) (by unfold maxLen; omega) (by omega) (by simp; omega) ?_; intro v' w3 hown' hg3 hnil3
         have hv3 : Box w3 w.heap.size #[v] 45 := (hg3.block _ (by simp; omega) HN.out).trans (HV.out.alloc _)
         obtain ⟨kv3, fv3, zv3⟩ := hv3.facts
         have c3 := kv3 0
         have f3 := fv3 0
         obtain ⟨g', cap', cur', rfl, hbase', hgb', hr1, hr2, hr3, hr4⟩ : ∃ g' cap' cur', v' = .slice (some ⟨g', 0, none⟩) (pre.length + 1) cap' ∧ w.heap.size ≤ g' ∧ w3.heap[g']? = some (.cells cur' 3 (0, 0)) ∧ pre.length + 1 ≤ cap' ∧ cap' ≤ maxLen ∧ cur'.size = cap' * 1 ∧ cur'.toList.take ((pre.length + 1) * 1) = pre.map encZ ++ [encZ x] := by
           rcases hown'.2 with ⟨_, h0⟩ | h'
           · exact absurd h0 (by omega)
           · exact h'
         go_frame)
      | gi_round_op_a)
    have hg3' : (W.alloc (.cells #[encZ x] 3)).grownBy w3 v.ownBlock := hg3
    obtain ⟨w4, hw4⟩ : ∃ w4, w3.setCell ⟨w.heap.size, 0, none⟩ (.slice (some ⟨g', 0, none⟩) (pre.length + 1) cap') = w4 := ⟨_, rfl⟩
    rw [hw4]
    have hg4 : w3.grownBy w4 (some w.heap.size) := by rw [← hw4]; exact grownBy_setCell0_a _ _ _
    have hv4 : Box w4 w.heap.size #[.slice (some ⟨g', 0, none⟩) (pre.length + 1) cap'] 45 := by rw [← hw4]; exact hv3.set_ 0 _
    have hrow4 := hown'.kept hg4 (ownsRow_ne_a hown' hv3 (fun cur e => by cases e))
    have hB1 : Below w.heap.size W (W.alloc (.cells #[encZ x] 3)) := (Below.refl _ W).alloc hbz _
    have hB3 : Below w.heap.size W w3 := hB1.grown hg3' (Nat.le_trans hbz hB1.size) (fun k e => (HR.out.lt k e).1)
    have hB4 : Below w.heap.size W w4 := hB3.grown hg4 (Nat.le_trans hbz hB3.size) (fun k e => by cases e; exact Nat.le_refl _)
    refine ⟨⟨hB4.size, fun k o hk ho hc => ?_⟩, hB4, ⟨_, hv4, ?_⟩, HB.out.trans hB4⟩
    · have hkl := (Array.getElem?_eq_some_iff.1 ho).1
      have hk1 : some k ≠ some w.heap.size := fun e => by
        cases e
        have := HG.out; rw [ho] at this; cases this; cases hc
      have hk2 : some k ≠ v.ownBlock := fun e => by
        rcases HR.out.2 with ⟨rfl, _⟩ | ⟨g, cap, cur, rfl, _, hgb, _⟩
        · cases e
        · have : k = g := by simpa [Value.ownBlock] using e
          subst this; rw [ho] at hgb; cases hgb; cases hc
      refine (hg4.block k (by have := hB3.size; omega) hk1).trans ((hg3'.block k (by simp; omega) hk2).trans ((Below.heap_alloc _ _ k hkl).trans ho))
    · simpa using hrow4
  case done =>
    rintro D ys W hD rfl ⟨⟨v, hv, hrow⟩, hb⟩ hK
    obtain ⟨kv, fv, zv⟩ := hv.facts
    have c0 := kv 0
    simp only [List.getElem?_toArray, List.getElem?_cons_zero] at c0
    have HR := Lib.hid hrow
    have HB := Lib.hid hb
    clear hrow hb
    gi_wp2
    refine ⟨by simp, .inl ⟨_, _, rfl, run_takeDeferred hK, ?_⟩⟩
    refine ⟨_, results_tmp rfl _ _ _, v, rfl, HR.out.kept (grownBy_putObj' W D (.deferred none)) ?_, HB.out.trans (belowK_b (w := w) (Nat.le_refl _) W D _ _ (by simp at hD; omega) hK rfl rfl)⟩
    exact ownsRow_ne_a HR.out hK (fun cur e => by cases e)
  case stop =>
    rintro D c pre W _ _ h _
    exact h.elim

set_option maxRecDepth 100000 in
set_option maxHeartbeats 2000000 in
theorem collectV (n : Nat) (hn : 4 ≤ n) (Bs : Nat) (sv : Value) (zs : List Int) (hl : zs.length ≤ 1000000) (w : World) (hB : w.cell? ⟨Bs, 0, none⟩ = some sv) (hS : Sl 1 i64Row w.heap.size w sv zs) :
    CallsIn Fence.wide n Tryd.prog 75 #[.func (.func 77) #[] #[.pointer (some ⟨Bs, 0, none⟩)]] w fun e w' =>
      ∃ u, e = .returned u ∧ w'.ownsRow w.heap.size 3 1 u zs.length (zs.map encZ) ∧ Below w.heap.size w w' := by
  have hfA : Fence.wide.fn 84 := trivial
  have h1 : 1 ≤ n := by omega
  refine callsIn_of_wp Tryd.func75 rfl trivial ?_ rfl
  simp only [Tryd.ntmps75, List.size_toArray, List.length_cons, List.length_nil, Nat.reduceAdd, Nat.reduceSub, Array.replicate_succ, Array.replicate_zero, List.push_toArray, List.append_toArray, List.nil_append, List.cons_append]
  gi_wp2_with (gi_at_call 84; refine (appendSeqV (n - 1) (by omega) Bs sv zs hl _ hB hS).mono ?_; rintro e W ⟨u, rfl, hrow, hb⟩)
  go_ret
  exact ⟨u, rfl, hrow, hb⟩

set_option maxRecDepth 100000 in
set_option maxHeartbeats 2000000 in
theorem sortedV (Bs : Nat) (sv : Value) (zs : List Int) (hl : zs.length ≤ 1000000) (w : World) (hB : w.cell? ⟨Bs, 0, none⟩ = some sv) (hS : Sl 1 i64Row w.heap.size w sv zs) :
    Calls Tryd.prog 65 #[.func (.func 77) #[] #[.pointer (some ⟨Bs, 0, none⟩)]] w fun e w' =>
      ∃ u, e = .returned u ∧ w'.ownsRow w.heap.size 3 1 u zs.length ((zs.mergeSort fun x y => decide (x ≤ y)).map encZ) ∧ Below w.heap.size w w' := by
  have cC : Calls Tryd.prog 75 #[.func (.func 77) #[] #[.pointer (some ⟨Bs, 0, none⟩)]] w fun e w' =>
      ∃ u, e = .returned u ∧ w'.ownsRow w.heap.size 3 1 u zs.length (zs.map encZ) ∧ Below w.heap.size w w' := (callsIn_wide (n := 4)).1 (collectV 4 (Nat.le_refl _) Bs sv zs hl w hB hS)
  have CC := Lib.hid cC
  clear cC
  go_enter Tryd.func65, Tryd.ntmps65
  by_cases hz : zs = []
  · subst hz
    go_wp2_with (first
      | (go_at_call 75; refine CC.out.mono ?_; rintro e W ⟨u, rfl, hrow, hb⟩; obtain ⟨A, cp, rfl⟩ : ∃ A cp, u = .slice A 0 cp := (by rcases hrow.2 with ⟨rfl, _⟩ | ⟨g, cap, cur, rfl, _⟩ <;> exact ⟨_, _, rfl⟩))
      | (go_at_call 76; refine (sortNone _ _ _).mono ?_; rintro e w2 ⟨rfl, rfl⟩))
    go_ret
    exact ⟨_, rfl, by simpa using hrow, hb⟩
  · go_wp2_with (first
      | (go_at_call 75; refine CC.out.mono ?_; rintro e W ⟨u, rfl, hrow, hb⟩; obtain ⟨g, cap, cur, rfl, hbase, hgb, r1, r2, r3, r4⟩ : ∃ g cap cur, u = .slice (some ⟨g, 0, none⟩) zs.length cap ∧ w.heap.size ≤ g ∧ W.heap[g]? = some (.cells cur 3 (0, 0)) ∧ zs.length ≤ cap ∧ cap ≤ maxLen ∧ cur.size = cap * 1 ∧ cur.toList.take (zs.length * 1) = zs.map encZ := (by
           rcases hrow.2 with ⟨_, h0⟩ | h'
           · exact absurd (List.eq_nil_of_length_eq_zero h0) hz
           · exact h'))
      | (go_at_call 76; refine (sortInts g 0 cap zs W (holds_of_block_i hgb (by simpa using r4)) (Array.getElem?_eq_some_iff.1 hgb).1 (by omega)).mono ?_; rintro e w2 ⟨rfl, nn, os, rfl⟩))
    go_ret
    exact ⟨_, rfl, ownsRow_sorted_i (by simp) hbase hgb r1 r2 r3, hb.grown (grownBy_sorted_i _) hb.size (fun j hj => by cases hj; exact hbase)⟩
end Go.Proofs.YtclphcbjdcdkfaaDoor
