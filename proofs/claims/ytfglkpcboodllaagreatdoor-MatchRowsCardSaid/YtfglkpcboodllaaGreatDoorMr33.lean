/-
  Merged: PlanView, PlanEnts.
-/
import Derived.Test.YtfglkpcboodllaaGreatDoorMr32
import Derived.Test.YtfglkpcboodllaaGreatDoorMr19
import Derived.Test.YtfglkpcboodllaaGreatDoorMr15
import Derived.Test.YtfglkpcboodllaaGreatDoorMr30
import Derived.Deep.RegionHeld3
/-
  limpetlaw20's view: contract.
-/
set_option linter.unusedVariables false
set_option linter.unusedSimpArgs false
namespace Go.Proofs.YtfglkpcboodllaaGreatDoor
open Go.RowKit

theorem setCell_cell_far {w : World} {n i : Nat} {u : Value} {a : Addr} (h : a.block ≠ n) : (w.setCell ⟨n, i, none⟩ u).cell? a = w.cell? a :=
  World.cell?_of_block (Below.heap_setCell w ⟨n, i, none⟩ u a.block (fun e => h e))
set_option maxRecDepth 100000 in
set_option maxHeartbeats 4000000 in
theorem lawView (ts : List Int) (v : Value) (w : World) (h : Sl 1 i64Row w.heap.size w v ts) (hn : ts.length ≤ 1000) :
    Calls Tryz.prog 75 #[v] w fun e w' => ∃ A c, e = .returned (.agg #[.int .i64 0, .int .i64 0, .int .i64 0, .slice A ts.length c]) ∧ Own 3 idRow 25 w.heap.size w' (.slice A ts.length c) (viewL 0 ts) ∧ Below w.heap.size w w' := by
  obtain ⟨Av, cv, rfl, -⟩ := id h
  have HL := Lib.hid h
  clear h
  obtain ⟨W, hW⟩ : ∃ W : World, W = (w.alloc (.cells #[.int .i64 0, .int .i64 0, .int .i64 0, .slice none 0 0] 36)).alloc (.cells #[.int .i64 0, .int .i64 0, .int .i64 0, .slice none 0 0] 36) := ⟨_, rfl⟩
  have BW : Below w.heap.size w W := by rw [hW]; exact below_call (below_new _ _) (below_new _ _)
  have X0 : Box W w.heap.size #[.int .i64 0, .int .i64 0, .int .i64 0, .slice none 0 0] 36 := by rw [hW]; exact (Box.new _ _ _).alloc _
  have X1 : Box W (w.heap.size + 1) #[.int .i64 0, .int .i64 0, .int .i64 0, .slice none 0 0] 36 := by
    have := Box.new (w.alloc (.cells #[.int .i64 0, .int .i64 0, .int .i64 0, .slice none 0 0] 36)) #[.int .i64 0, .int .i64 0, .int .i64 0, .slice none 0 0] 36
    rw [hW]; simpa using this
  go_enter Tryz.func75, Tryz.ntmps75
  go_wp2_with fail
  rw [← hW]
  clear hW
  obtain ⟨gr, hgr⟩ : ∃ g, g = w.heap.size := ⟨_, rfl⟩
  obtain ⟨gv, hgv⟩ : ∃ g, g = w.heap.size + 1 := ⟨_, rfl⟩
  rw [← hgr] at X0
  rw [← hgv] at X1
  rw [← hgv, ← hgr]
  have hgz : gr < gv := by omega
  have hgw : w.heap.size ≤ gr := by omega
  have hgx : gr ≤ w.heap.size := by omega
  clear hgr hgv
  go_loopw [4] (fun i wx => ∃ (k : Nat) (A : Option Addr) (c : Nat), k ≤ ts.length ∧ i = .int .i64 k ∧ Own 3 idRow 25 (gv + 1) wx (.slice A k c) (viewL 0 (ts.take k)) ∧ Box wx gv #[.int .i64 0, .int .i64 0, .int .i64 0, .slice A k c] 36 ∧ Box wx gr #[.int .i64 0, .int .i64 0, .int .i64 0, .slice none 0 0] 36 ∧ Below w.heap.size w wx) (fun i _ => ts.length - (intOf i).toNat)
  case atStart => exact ⟨0, none, 0, by omega, rfl, Own.nil_ _ _ _ _ _, X1, X0, BW⟩
  case round =>
    clear X0 X1 BW
    obtain ⟨k, A, c, hk, rfl, hown, hbx, hbr, hB⟩ := hrel
    have HB := Lib.hid hB
    have HO := Lib.hid hown
    have HX := Lib.hid hbx
    have HR := Lib.hid hbr
    have hzr := hB.size
    have hbl := hbx.lt
    clear hB hown hbx hbr
    by_cases hlt : k < ts.length
    · obtain ⟨b, off, cap3, e3, hlc3, hcm3, hb3, hcell⟩ := HL.out.cellAt (by intro h; subst h; simp at hlt)
      simp only [Value.slice.injEq] at e3
      obtain ⟨rfl, -, rfl⟩ := e3
      obtain ⟨x, hx⟩ : ∃ x, ts[k]? = some x := ⟨_, List.getElem?_eq_getElem hlt⟩
      have d0 : decide ((k : Int) < (ts.length : Int)) = true := decide_eq_true (by omega)
      have d0' : decide (k < ts.length) = true := decide_eq_true hlt
      have i0 : (0 : Int) ≤ (k : Int) := by omega
      have i1 : (k : Int) < (ts.length : Int) := by omega
      have w5 : IntKind.i64.wrap ((k : Int) + 1) = (k : Int) + 1 := IntWalk.i64_in _ (by omega)
      have hk0 : wr.cell? ⟨b, off + k, none⟩ = some (.int .i64 x) := (HB.out.cell (p := ⟨b, off + k, none⟩) hb3).trans (by simpa using hcell k x hx 0 _ rfl)
      have HC : Hid (∀ w', Below wr.heap.size wr w' → w'.cell? ⟨b, off + k, none⟩ = some (.int .i64 x)) := fun w' q => (q.cell (p := ⟨b, off + k, none⟩) (show b < wr.heap.size by omega)).trans hk0
      have HXx := Lib.hid hx
      clear hcell hx hk0
      have HPA := Lib.hid (show Below wr.heap.size wr ((wr.alloc (.cells #[.int .i64 ((k : Int) + 1), .int .i64 x, .int .i64 2] 25)).drew) from (below_new _ _).drew)
      have HOO := Lib.hid (show Own 3 idRow 25 (gv + 1) ((wr.alloc (.cells #[.int .i64 ((k : Int) + 1), .int .i64 x, .int .i64 2] 25)).drew) (.slice A k c) (viewL 0 (ts.take k)) from (HO.out.alloc _).drew)
      have HBB := Lib.hid (show Box ((wr.alloc (.cells #[.int .i64 ((k : Int) + 1), .int .i64 x, .int .i64 2] 25)).drew) wr.heap.size #[.int .i64 ((k : Int) + 1), .int .i64 x, .int .i64 2] 25 from Box.drew_ (Box.new _ _ _))
      have HLL := Lib.hid (show (viewL 0 (ts.take k)).length + 1 ≤ 4294967296 by rw [viewL_length, List.length_take]; omega)
      have HSS := Lib.hid (show gv + 1 ≤ ((wr.alloc (.cells #[.int .i64 ((k : Int) + 1), .int .i64 x, .int .i64 2] 25)).drew).heap.size by simp; omega)
      obtain ⟨kx, fx, zx⟩ := HX.out.facts
      go_upto_region 5 with fail
      refine wp_region_held_drew (S := fun w' => w'.cell? ⟨b, off + k, none⟩ = some (.int .i64 x)) (by kernel_rfl) (HC.out _ (Below.refl _ _).drew) (fun hHeld => ?_)
      first
        | (refine wpAnyH_take (i := 0) (v := ?_) rfl (by kernel_rfl) (by kernel_rfl) (by kernel_rfl) (fun _ _ _ h => h) (Or.inl ⟨?_, ?_⟩) (by assumption) ?_; rotate_left; (focus rfl); (focus (intro w hSw; go_split_ands; go_simp; try with_reducible rfl)); skip)
        | (refine wpAnyH_take (i := 0) (v := undef) rfl (by kernel_rfl) (by kernel_rfl) (by kernel_rfl) (fun _ _ _ h => h) (Or.inr ⟨?_, rfl⟩) (by assumption) ?_; (focus rfl))
      try simp only [Act.put, List.setIfInBounds_toArray, List.set_cons_zero, List.set_cons_succ, List.getElem_toArray, List.getElem_cons_zero, List.getElem_cons_succ]
      first
        | (refine wpAnyH_take (i := 2) (v := ?_) rfl (by kernel_rfl) (by kernel_rfl) (by kernel_rfl) (fun _ _ _ h => h) (Or.inl ⟨?_, ?_⟩) (by assumption) ?_; rotate_left; (focus rfl); (focus (intro w hSw; go_split_ands; go_simp; try with_reducible rfl)); skip)
        | (refine wpAnyH_take (i := 2) (v := undef) rfl (by kernel_rfl) (by kernel_rfl) (by kernel_rfl) (fun _ _ _ h => h) (Or.inr ⟨?_, rfl⟩) (by assumption) ?_; (focus rfl))
      try simp only [Act.put, List.setIfInBounds_toArray, List.set_cons_zero, List.set_cons_succ, List.getElem_toArray, List.getElem_cons_zero, List.getElem_cons_succ]
      first
        | (refine wpAnyH_take (i := 3) (v := ?_) rfl (by kernel_rfl) (by kernel_rfl) (by kernel_rfl) (fun _ _ _ h => h) (Or.inl ⟨?_, ?_⟩) (by assumption) ?_; rotate_left; (focus rfl); (focus (intro w hSw; go_split_ands; go_simp; try with_reducible rfl)); skip)
        | (refine wpAnyH_take (i := 3) (v := undef) rfl (by kernel_rfl) (by kernel_rfl) (by kernel_rfl) (fun _ _ _ h => h) (Or.inr ⟨?_, rfl⟩) (by assumption) ?_; (focus rfl))
      try simp only [Act.put, List.setIfInBounds_toArray, List.set_cons_zero, List.set_cons_succ, List.getElem_toArray, List.getElem_cons_zero, List.getElem_cons_succ]
      first
        | (refine wpAnyH_take (i := 4) (v := ?_) rfl (by kernel_rfl) (by kernel_rfl) (by kernel_rfl) (fun _ _ _ h => h) (Or.inl ⟨?_, ?_⟩) (by assumption) ?_; rotate_left; (focus rfl); (focus (intro w hSw; go_split_ands; go_simp; try with_reducible rfl)); skip)
        | (refine wpAnyH_take (i := 4) (v := undef) rfl (by kernel_rfl) (by kernel_rfl) (by kernel_rfl) (fun _ _ _ h => h) (Or.inr ⟨?_, rfl⟩) (by assumption) ?_; (focus rfl))
      try simp only [Act.put, List.setIfInBounds_toArray, List.set_cons_zero, List.set_cons_succ, List.getElem_toArray, List.getElem_cons_zero, List.getElem_cons_succ]
      first
        | (refine wpAnyH_take (i := 5) (v := ?_) rfl (by kernel_rfl) (by kernel_rfl) (by kernel_rfl) (fun _ _ _ h => h) (Or.inl ⟨?_, ?_⟩) (by assumption) ?_; rotate_left; (focus rfl); (focus (intro w hSw; go_split_ands; go_simp; try with_reducible rfl)); skip)
        | (refine wpAnyH_take (i := 5) (v := undef) rfl (by kernel_rfl) (by kernel_rfl) (by kernel_rfl) (fun _ _ _ h => h) (Or.inr ⟨?_, rfl⟩) (by assumption) ?_; (focus rfl))
      try simp only [Act.put, List.setIfInBounds_toArray, List.set_cons_zero, List.set_cons_succ, List.getElem_toArray, List.getElem_cons_zero, List.getElem_cons_succ]
      first
        | (refine wpAnyH_take (i := 6) (v := ?_) rfl (by kernel_rfl) (by kernel_rfl) (by kernel_rfl) (fun _ _ _ h => h) (Or.inl ⟨?_, ?_⟩) (by assumption) ?_; rotate_left; (focus rfl); (focus (intro w hSw; go_split_ands; go_simp; try with_reducible rfl)); skip)
        | (refine wpAnyH_take (i := 6) (v := undef) rfl (by kernel_rfl) (by kernel_rfl) (by kernel_rfl) (fun _ _ _ h => h) (Or.inr ⟨?_, rfl⟩) (by assumption) ?_; (focus rfl))
      try simp only [Act.put, List.setIfInBounds_toArray, List.set_cons_zero, List.set_cons_succ, List.getElem_toArray, List.getElem_cons_zero, List.getElem_cons_succ]
      first
        | (refine wpAnyH_take (i := 7) (v := ?_) rfl (by kernel_rfl) (by kernel_rfl) (by kernel_rfl) (fun _ _ _ h => h) (Or.inl ⟨?_, ?_⟩) (by assumption) ?_; rotate_left; (focus rfl); (focus (intro w hSw; go_split_ands; go_simp; try with_reducible rfl)); skip)
        | (refine wpAnyH_take (i := 7) (v := undef) rfl (by kernel_rfl) (by kernel_rfl) (by kernel_rfl) (fun _ _ _ h => h) (Or.inr ⟨?_, rfl⟩) (by assumption) ?_; (focus rfl))
      try simp only [Act.put, List.setIfInBounds_toArray, List.set_cons_zero, List.set_cons_succ, List.getElem_toArray, List.getElem_cons_zero, List.getElem_cons_succ]
      first
        | (refine wpAnyH_take (i := 8) (v := ?_) rfl (by kernel_rfl) (by kernel_rfl) (by kernel_rfl) (fun _ _ _ h => h) (Or.inl ⟨?_, ?_⟩) (by assumption) ?_; rotate_left; (focus rfl); (focus (intro w hSw; go_split_ands; go_simp; try with_reducible rfl)); skip)
        | (refine wpAnyH_take (i := 8) (v := undef) rfl (by kernel_rfl) (by kernel_rfl) (by kernel_rfl) (fun _ _ _ h => h) (Or.inr ⟨?_, rfl⟩) (by assumption) ?_; (focus rfl))
      try simp only [Act.put, List.setIfInBounds_toArray, List.set_cons_zero, List.set_cons_succ, List.getElem_toArray, List.getElem_cons_zero, List.getElem_cons_succ]
      refine wpAnyH_ready (rs := [1, 9]) (by kernel_rfl) (by simp) ?_
      refine AllReadyH.cons rfl (fun K hK => ?_) (AllReadyH.cons rfl (fun K hK => ?_) AllReadyH.nil)
      · go_simp
        refine hK.out _ _ (HC.out _ (Below.refl _ _).drew) (fun hH => ?_)
        clear hK K
        try simp only [Act.put, List.setIfInBounds_toArray, List.set_cons_zero, List.set_cons_succ, List.getElem_toArray, List.getElem_cons_zero, List.getElem_cons_succ]
        refine wpAnyH_ready (rs := [9]) (by kernel_rfl) (by simp) ?_
        refine AllReadyH.cons rfl (fun K hK => ?_) AllReadyH.nil
        go_simp
        refine hK.out _ _ (HC.out _ HPA.out) (fun hH => ?_)
        clear hK K
        try simp only [Act.put, List.setIfInBounds_toArray, List.set_cons_zero, List.set_cons_succ, List.getElem_toArray, List.getElem_cons_zero, List.getElem_cons_succ]
        refine wpAnyH_ready (rs := [10]) (by kernel_rfl) (by simp) ?_
        refine AllReadyH.cons rfl (fun K hK => ?_) AllReadyH.nil
        refine step_append_row rfl (.tmp 12) (.tmp 20) 34 rfl (gv + 1) 25 _ 3 24 Tryz.underlying34 identInfo rfl (Nat.succ_pos 2) idRow idRow_length idRow_one (viewL 0 (ts.take k)) _ rfl HOO.out ⟨(k : Int) + 1, x, 2⟩ #[.int .i64 ((k : Int) + 1), .int .i64 x, .int .i64 2] rfl 25 _ rfl HBB.out HLL.out (by omega) HSS.out ?_
        intro g7 c7 w7 p1 p2 p3
        have HX7 := Lib.hid ((HX.out.later HPA.out).below p2 (Nat.lt_succ_self gv))
        have HR7 := Lib.hid ((HR.out.later HPA.out).below p2 (show gr < gv + 1 by omega))
        have HO7 := Lib.hid p1
        have HB7 := Lib.hid ((below_call HB.out HPA.out).trans (p2.mono (show w.heap.size ≤ gv + 1 by omega)))
        have HC7 := Lib.hid ((p2.cell (p := ⟨b, off + k, none⟩) (show b < gv + 1 by omega)).trans (HC.out _ HPA.out))
        obtain ⟨kb, fb, zb⟩ := HX7.out.facts
        clear p1 p2 p3
        refine hK.out _ _ (HC7.out) (fun hH => ?_)
        clear hK K
        try simp only [Act.put, List.setIfInBounds_toArray, List.set_cons_zero, List.set_cons_succ, List.getElem_toArray, List.getElem_cons_zero, List.getElem_cons_succ]
        have hHeld2 := hH
        first
          | (refine wpAnyH_take (i := 11) (v := ?_) rfl (by kernel_rfl) (by kernel_rfl) (by kernel_rfl) (fun _ _ _ h => h) (Or.inl ⟨?_, ?_⟩) (by assumption) ?_; rotate_left; (focus rfl); (focus (intro w hSw; go_split_ands; go_simp; try with_reducible rfl)); skip)
          | (refine wpAnyH_take (i := 11) (v := undef) rfl (by kernel_rfl) (by kernel_rfl) (by kernel_rfl) (fun _ _ _ h => h) (Or.inr ⟨?_, rfl⟩) (by assumption) ?_; (focus rfl))
        try simp only [Act.put, List.setIfInBounds_toArray, List.set_cons_zero, List.set_cons_succ, List.getElem_toArray, List.getElem_cons_zero, List.getElem_cons_succ]
        refine wpAnyH_ready (rs := [12]) (by kernel_rfl) (by simp) ?_
        refine AllReadyH.cons rfl (fun K hK => ?_) AllReadyH.nil
        go_simp
        refine hK.out _ _ ((setCell_cell_far (show b ≠ gv by omega)).trans HC7.out) (fun hH => ?_)
        clear hK K
        try simp only [Act.put, List.setIfInBounds_toArray, List.set_cons_zero, List.set_cons_succ, List.getElem_toArray, List.getElem_cons_zero, List.getElem_cons_succ]
        refine wpAnyH_done (by kernel_rfl) ?_ _
        clear kb fb zb
        go_wp2_with fail
        go_roundw
        case rel =>
          have e := viewL_snoc (ts.take k) x 0
          rw [← take_at HXx.out, List.length_take, Nat.min_eq_left hk, show (0 : Int) + 1 + (k : Int) = (k : Int) + 1 by omega] at e
          have hl7 : (viewL 0 (ts.take k) ++ [(⟨(k : Int) + 1, x, 2⟩ : Idt)]).length = k + 1 := by rw [List.length_append, viewL_length, List.length_take, Nat.min_eq_left hk]; rfl
          refine ⟨k + 1, some ⟨g7, 0, none⟩, c7, by omega, by go_num, ?_, ?_, ?_, ?_⟩
          · rw [e]; have h := HO7.out; rw [hl7] at h; exact h.set_below (Nat.lt_succ_self gv)
          · have h := HX7.out.set_ 3 (.slice (some ⟨g7, 0, none⟩) (k + 1) c7); have hlv : (viewL 0 (ts.take k)).length = k := by rw [viewL_length, List.length_take, Nat.min_eq_left hk]
            rw [hlv]; exact h
          · exact Box.far HR7.out (show gr ≠ gv by omega) _
          · exact below_set HB7.out (show w.heap.size ≤ gv by omega)
        case measure => simp [intOf]; omega
      · go_simp
        refine hK.out _ _ (HC.out _ HPA.out) (fun hH => ?_)
        clear hK K
        try simp only [Act.put, List.setIfInBounds_toArray, List.set_cons_zero, List.set_cons_succ, List.getElem_toArray, List.getElem_cons_zero, List.getElem_cons_succ]
        refine wpAnyH_ready (rs := [1]) (by kernel_rfl) (by simp) ?_
        refine AllReadyH.cons rfl (fun K hK => ?_) AllReadyH.nil
        go_simp
        refine hK.out _ _ (HC.out _ HPA.out) (fun hH => ?_)
        clear hK K
        try simp only [Act.put, List.setIfInBounds_toArray, List.set_cons_zero, List.set_cons_succ, List.getElem_toArray, List.getElem_cons_zero, List.getElem_cons_succ]
        refine wpAnyH_ready (rs := [10]) (by kernel_rfl) (by simp) ?_
        refine AllReadyH.cons rfl (fun K hK => ?_) AllReadyH.nil
        refine step_append_row rfl (.tmp 12) (.tmp 20) 34 rfl (gv + 1) 25 _ 3 24 Tryz.underlying34 identInfo rfl (Nat.succ_pos 2) idRow idRow_length idRow_one (viewL 0 (ts.take k)) _ rfl HOO.out ⟨(k : Int) + 1, x, 2⟩ #[.int .i64 ((k : Int) + 1), .int .i64 x, .int .i64 2] rfl 25 _ rfl HBB.out HLL.out (by omega) HSS.out ?_
        intro g7 c7 w7 p1 p2 p3
        have HX7 := Lib.hid ((HX.out.later HPA.out).below p2 (Nat.lt_succ_self gv))
        have HR7 := Lib.hid ((HR.out.later HPA.out).below p2 (show gr < gv + 1 by omega))
        have HO7 := Lib.hid p1
        have HB7 := Lib.hid ((below_call HB.out HPA.out).trans (p2.mono (show w.heap.size ≤ gv + 1 by omega)))
        have HC7 := Lib.hid ((p2.cell (p := ⟨b, off + k, none⟩) (show b < gv + 1 by omega)).trans (HC.out _ HPA.out))
        obtain ⟨kb, fb, zb⟩ := HX7.out.facts
        clear p1 p2 p3
        refine hK.out _ _ (HC7.out) (fun hH => ?_)
        clear hK K
        try simp only [Act.put, List.setIfInBounds_toArray, List.set_cons_zero, List.set_cons_succ, List.getElem_toArray, List.getElem_cons_zero, List.getElem_cons_succ]
        have hHeld2 := hH
        first
          | (refine wpAnyH_take (i := 11) (v := ?_) rfl (by kernel_rfl) (by kernel_rfl) (by kernel_rfl) (fun _ _ _ h => h) (Or.inl ⟨?_, ?_⟩) (by assumption) ?_; rotate_left; (focus rfl); (focus (intro w hSw; go_split_ands; go_simp; try with_reducible rfl)); skip)
          | (refine wpAnyH_take (i := 11) (v := undef) rfl (by kernel_rfl) (by kernel_rfl) (by kernel_rfl) (fun _ _ _ h => h) (Or.inr ⟨?_, rfl⟩) (by assumption) ?_; (focus rfl))
        try simp only [Act.put, List.setIfInBounds_toArray, List.set_cons_zero, List.set_cons_succ, List.getElem_toArray, List.getElem_cons_zero, List.getElem_cons_succ]
        refine wpAnyH_ready (rs := [12]) (by kernel_rfl) (by simp) ?_
        refine AllReadyH.cons rfl (fun K hK => ?_) AllReadyH.nil
        go_simp
        refine hK.out _ _ ((setCell_cell_far (show b ≠ gv by omega)).trans HC7.out) (fun hH => ?_)
        clear hK K
        try simp only [Act.put, List.setIfInBounds_toArray, List.set_cons_zero, List.set_cons_succ, List.getElem_toArray, List.getElem_cons_zero, List.getElem_cons_succ]
        refine wpAnyH_done (by kernel_rfl) ?_ _
        clear kb fb zb
        go_wp2_with fail
        go_roundw
        case rel =>
          have e := viewL_snoc (ts.take k) x 0
          rw [← take_at HXx.out, List.length_take, Nat.min_eq_left hk, show (0 : Int) + 1 + (k : Int) = (k : Int) + 1 by omega] at e
          have hl7 : (viewL 0 (ts.take k) ++ [(⟨(k : Int) + 1, x, 2⟩ : Idt)]).length = k + 1 := by rw [List.length_append, viewL_length, List.length_take, Nat.min_eq_left hk]; rfl
          refine ⟨k + 1, some ⟨g7, 0, none⟩, c7, by omega, by go_num, ?_, ?_, ?_, ?_⟩
          · rw [e]; have h := HO7.out; rw [hl7] at h; exact h.set_below (Nat.lt_succ_self gv)
          · have h := HX7.out.set_ 3 (.slice (some ⟨g7, 0, none⟩) (k + 1) c7); have hlv : (viewL 0 (ts.take k)).length = k := by rw [viewL_length, List.length_take, Nat.min_eq_left hk]
            rw [hlv]; exact h
          · exact Box.far HR7.out (show gr ≠ gv by omega) _
          · exact below_set HB7.out (show w.heap.size ≤ gv by omega)
        case measure => simp [intOf]; omega
    · have d0 : decide ((k : Int) < (ts.length : Int)) = false := decide_eq_false (by omega)
      have d0' : decide (k < ts.length) = false := decide_eq_false hlt
      have hkl : k = ts.length := by omega
      have HOs := Lib.hid (show Own 3 idRow 25 (gv + 1) wr (.slice A k c) (viewL 0 ts) by have h := HO.out; rw [hkl, List.take_length] at h; rwa [hkl])
      subst hkl
      obtain ⟨kx, fx, zx⟩ := HX.out.facts
      obtain ⟨kr, fr, zr⟩ := HR.out.facts
      clear HO
      go_wp2_with fail
      refine bodyPost_with (fun W => Box W gr #[.int .i64 0, .int .i64 0, .int .i64 0, .slice A ts.length c] 36 ∧ Own 3 idRow 25 (gv + 1) W (.slice A ts.length c) (viewL 0 ts) ∧ Below w.heap.size w W) ⟨HR.out.set4 _ _ _ _, (((HOs.out.set_below (by omega)).set_below (by omega)).set_below (by omega)).set_below (by omega), below_set (below_set (below_set (below_set HB.out hgw) hgw) hgw) hgw⟩ ?_
      rintro wz ⟨hz1, hz2, hz3⟩
      obtain ⟨kz, -, -⟩ := hz1.facts
      exact bodyPost_ret (v := .agg #[.int .i64 0, .int .i64 0, .int .i64 0, .slice A ts.length c]) (by simp [results, Tryz.results75, go_sem, kz]) rfl ⟨A, c, rfl, hz2.less (by omega), hz3⟩
end Go.Proofs.YtfglkpcboodllaaGreatDoor
/-
  limpetlaw20's entries: contract.
-/
set_option linter.unusedVariables false
set_option linter.unusedSimpArgs false
namespace Go.Proofs.YtfglkpcboodllaaGreatDoor
open Go.RowKit

/-- A block made of one cell is owned. -/
theorem own_one (u : Int) (w : World) : Own 1 u8Row 5 w.heap.size (w.alloc (.cells #[.int .u8 u] 5)) (.slice (some ⟨w.heap.size, 0, none⟩) 1 1) [u] :=
  ⟨rfl, .inr ⟨w.heap.size, 1, #[.int .u8 u], rfl, Nat.le_refl _, heap_alloc_new w _, Nat.le_refl _, by unfold maxLen; omega, rfl, rfl⟩⟩
set_option maxRecDepth 100000 in
set_option maxHeartbeats 4000000 in
theorem lawEnts (a : Int) (ts : List Int) (v : Value) (w : World) (h : Sl 1 i64Row w.heap.size w v ts) (hn : ts.length ≤ 1000) (ha0 : 0 ≤ a) (ha1 : a ≤ 1099511627776) :
    Calls Tryz.prog 29 #[.int .i64 a, v] w fun e w' => ∃ A c m, e = .returned (.slice A ts.length c) ∧ m.map keyE = entsK a 0 ts ∧ Own 4 entRow 28 w.heap.size w' (.slice A ts.length c) m ∧ BodFam w.heap.size w' (blkH (.slice A ts.length c)) m ∧ Below w.heap.size w w' := by
  obtain ⟨Av, cv, rfl, -⟩ := id h
  have HL := Lib.hid h
  clear h
  go_enter Tryz.func29, Tryz.ntmps29
  go_wp2_with fail
  go_loopw [5, 6] (fun v i wr => ∃ (k : Nat) (m : List Ent) (A : Option Addr) (c : Nat), k ≤ ts.length ∧ i = .int .i64 k ∧ v = .slice A k c ∧ m.map keyE = entsK a 0 (ts.take k) ∧ Own 4 entRow 28 w.heap.size wr (.slice A k c) m ∧ BodFam w.heap.size wr (blkH (.slice A k c)) m ∧ Below w.heap.size w wr) (fun _ i _ => ts.length - (intOf i).toNat)
  case atStart => exact ⟨0, [], none, 0, by omega, rfl, rfl, rfl, Own.nil_ _ _ _ _ _, BodFam.nil_ _ _ _, Below.refl _ _⟩
  case round =>
    obtain ⟨k, m, A, c, hk, rfl, rfl, hkey, hown, hbf, hB⟩ := hrel
    have HB := Lib.hid hB
    have HO := Lib.hid hown
    have HF := Lib.hid hbf
    have HK := Lib.hid hkey
    have hml := Lib.hid (show m.length = k by have := congrArg List.length hkey; simpa [Nat.min_eq_left hk, entsK_length] using this)
    have hzr := hB.size
    clear hB hown hbf hkey
    by_cases hlt : k < ts.length
    · obtain ⟨b, off, cap3, e3, hlc3, hcm3, hb3, hcell⟩ := HL.out.cellAt (by intro h; subst h; simp at hlt)
      simp only [Value.slice.injEq] at e3
      obtain ⟨rfl, -, rfl⟩ := e3
      obtain ⟨x, hx⟩ : ∃ x, ts[k]? = some x := ⟨_, List.getElem?_eq_getElem hlt⟩
      have d0 : decide ((k : Int) < (ts.length : Int)) = true := decide_eq_true (by omega)
      have d0' : decide (k < ts.length) = true := decide_eq_true hlt
      have i0 : (0 : Int) ≤ (k : Int) := by omega
      have i1 : (k : Int) < (ts.length : Int) := by omega
      have w5 : wrap64 (a + 1) = a + 1 := by unfold wrap64; omega
      have w6 : wrap64 (a + 1 + (k : Int)) = a + 1 + (k : Int) := by unfold wrap64; omega
      have e8 : (((k % 256 : Nat)) : Int) = (k : Int) % 256 := by omega
      have k0 : wr.cell? ⟨b, off + k, none⟩ = some (.int .i64 x) := (HB.out.cell (p := ⟨b, off + k, none⟩) hb3).trans (by simpa using hcell k x hx 0 _ rfl)
      have HXx := Lib.hid hx
      have HBY := Lib.hid (own_one ((k : Int) % 256) wr)
      have HBA := Lib.hid (below_new wr (.cells #[.int .u8 ((k : Int) % 256)] 5))
      have HOr := Lib.hid (HO.out.alloc (.cells #[.int .u8 ((k : Int) % 256)] 5))
      have HHZ := Lib.hid (show (wr.alloc (.cells #[.int .u8 ((k : Int) % 256)] 5)).heap.size = wr.heap.size + 1 by simp)
      have hbz : w.heap.size ≤ (wr.alloc (.cells #[.int .u8 ((k : Int) % 256)] 5)).heap.size := by have := HHZ.out; omega
      clear hcell hx
      go_wp2_with (at_builtin; refine wpList_append_keepH1 _ rfl (.tmp 13) (.tmp 26) 31 rfl w.heap.size 28 _ 4 48 Tryz.underlying31 entInfo rfl (Nat.succ_pos 3) entRow entRow_length entRow_one m _ rfl HOr.out.h ⟨a + 1 + (k : Int), x, 2, some ⟨wr.heap.size, 0, none⟩, 1, [(k : Int) % 256]⟩ _ rfl 28 _ rfl HHZ.out.symm (by rw [hml.out]; omega) (by omega) hbz ?_; intro g7 c7 w7 p1 p2 p3 p4 p5 p6 p7; rw [hml.out] at p1; rw [hml.out]; have HP1 := Lib.hid p1; have HP3 := Lib.hid p3; have HP4 := Lib.hid p4; have HP5 := Lib.hid p5; have HP7 := Lib.hid p7; clear p1 p2 p3 p4 p5 p6 p7)
      go_roundw
      case rel =>
        have hz1 := HHZ.out
        have hold : ∀ (i : Nat) (y : Ent), m[i]? = some y → ∀ q, y.bv.ownBlock = some q → w7.heap[q]? = wr.heap[q]? := fun i y hy q hq => by
          have hb := (HF.out.own i y hy).block hq
          have hne : some q ≠ blkH (.slice A k c) := fun he => by
            by_cases hbq : blkH y.bv = some q
            · exact HF.out.out i y hy q hbq he.symm
            · have hol := HO.out
              rcases (HF.out.own i y hy).2 with ⟨hv, _⟩ | ⟨gq, cq, cur, hv, _, hh, _, _, hs, _⟩
              · rw [hv] at hq; simp [Value.ownBlock] at hq
              · rcases hol.2 with ⟨hv2, _⟩ | ⟨g2, c2', cur2, hv2, _, hh2, _⟩
                · rw [hv2] at he; simp [blkH] at he
                · have e1 : gq = q := by rw [hv] at hq; simpa [Value.ownBlock] using hq
                  have e2 : g2 = q := by
                    have h9 := blkH_own he.symm
                    rw [hv2] at h9; simpa [Value.ownBlock] using h9
                  subst e1; subst e2
                  rw [hh] at hh2
                  simp only [Option.some.injEq, Obj.cells.injEq] at hh2
                  exact absurd hh2.2.1 (by decide)
          exact (HP4.out q (by omega) hne).trans (HBA.out.block q hb.2)
        have hbody : Own 1 u8Row 5 w.heap.size w7 (.slice (some ⟨wr.heap.size, 0, none⟩) 1 1) [(k : Int) % 256] := (HBY.out.less hzr).stay fun q hq => HP4.out q (HBY.out.block hq).2 (fun he => by
          have h1 := HBY.out.block hq
          have h2 := HO.out.block (blkH_own he.symm)
          omega)
        have hnew : ∀ q, blkH (.slice (some ⟨wr.heap.size, 0, none⟩) 1 1) = some q → wr.heap.size = q := fun q hq => by
          have := blkH_own hq; simpa [Value.ownBlock] using this
        have hlist : ∀ q, blkH (.slice (some ⟨g7, 0, none⟩) (k + 1) c7) = some q → blkH (.slice A k c) = some q ∨ wr.heap.size + 1 < q := fun q hq => by
          have e1 : g7 = q := by have := blkH_own hq; simpa [Value.ownBlock] using this
          subst e1; have h5 := HP5.out; rw [hz1] at h5; exact h5
        refine ⟨k + 1, m ++ [⟨a + 1 + (k : Int), x, 2, some ⟨wr.heap.size, 0, none⟩, 1, [(k : Int) % 256]⟩], some ⟨g7, 0, none⟩, c7, by omega, by go_num, rfl, ?_, HP1.out, ?_, ?_⟩
        · rw [List.map_append, HK.out, take_at HXx.out, entsK_snoc, List.length_take, Nat.min_eq_left hk, Nat.zero_add, e8]; rfl
        · refine BodFam.snoc (HF.out.stay hold (fun i y hy q hq he => ?_)) hbody (fun i y hy q hq he => ?_) (fun q hq he => ?_)
          · have h1 := HF.out.lt hy hq
            rcases hlist q he with h2 | h2
            · exact HF.out.out i y hy q hq h2
            · omega
          · have h1 := HF.out.lt hy hq
            have h2 := hnew q he; omega
          · have h1 := hnew q hq
            rcases hlist q he with h2 | h2
            · have h3 := HO.out.block (blkH_own h2); omega
            · omega
        · exact HB.out.trans ((HBA.out.mono hzr).trans HP3.out)
      case measure => simp [intOf]; omega
    · have d0 : decide ((k : Int) < (ts.length : Int)) = false := decide_eq_false (by omega)
      have d0' : decide (k < ts.length) = false := decide_eq_false hlt
      have hkl : k = ts.length := by omega
      have HKK := Lib.hid (show m.map keyE = entsK a 0 ts by have := HK.out; rw [hkl, List.take_length] at this; exact this)
      subst hkl
      go_wp2_with fail
      go_ret
      exact ⟨A, c, m, rfl, HKK.out, HO.out, HF.out, HB.out⟩
theorem ents_in {a : Int} {ts : List Int} {m : List Ent} {B : Nat} {w : World} {blk : Option Nat} (hk : m.map keyE = entsK a 0 ts) (hf : BodFam B w blk m) : ∀ x ∈ m, EntIn w.heap.size w x ∧ x.bd.length ≤ 100000 := by
  intro x hx
  obtain ⟨i, hi⟩ := List.getElem?_of_mem hx
  have e : (m.map keyE)[i]? = some (keyE x) := by rw [List.getElem?_map, hi]; rfl
  rw [hk, entsK_at] at e
  cases ho : ts[i]? with
  | none => rw [ho] at e; simp at e
  | some t =>
    rw [ho] at e
    simp only [Option.map_some, Option.some.injEq, keyE, Prod.mk.injEq] at e
    obtain ⟨-, -, -, h4⟩ := e
    have ho := (hf.own i x hi).sl u8Row_length
    refine ⟨⟨?_, fun y hy => ?_⟩, by rw [← h4]; simp⟩
    · exact ho
    · rw [← h4] at hy; simp only [List.mem_singleton] at hy; subst hy; omega
end Go.Proofs.YtfglkpcboodllaaGreatDoor
