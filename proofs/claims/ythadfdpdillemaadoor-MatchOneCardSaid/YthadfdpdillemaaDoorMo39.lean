/-
  limpetlaw20's view: contract.
-/
import Derived.Test.YthadfdpdillemaaDoorMo26
import Derived.Test.YthadfdpdillemaaDoorMo37
import Derived.Test.YthadfdpdillemaaDoorMo33
import Derived.Test.YthadfdpdillemaaDoorMo38
import Derived.Deep.RegionHeld3
set_option linter.unusedVariables false
set_option linter.unusedSimpArgs false
namespace Go.Proofs.YthadfdpdillemaaDoor
open Go.RowKit

theorem setCell_cell_far {w : World} {n i : Nat} {u : Value} {a : Addr} (h : a.block ≠ n) : (w.setCell ⟨n, i, none⟩ u).cell? a = w.cell? a :=
  World.cell?_of_block (Below.heap_setCell w ⟨n, i, none⟩ u a.block (fun e => h e))
set_option maxRecDepth 100000 in
set_option maxHeartbeats 4000000 in
theorem lawView (ts : List Int) (v : Value) (w : World) (h : Sl 1 i64Row w.heap.size w v ts) (hn : ts.length ≤ 1000) :
    Calls Tryd.prog 9 #[v] w fun e w' => ∃ A c, e = .returned (.agg #[.int .i64 0, .int .i64 0, .int .i64 0, .slice A ts.length c]) ∧ Own 3 idRow 26 w.heap.size w' (.slice A ts.length c) (viewL 0 ts) ∧ Below w.heap.size w w' := by
  obtain ⟨Av, cv, rfl, -⟩ := id h
  have HL := Lib.hid h
  clear h
  obtain ⟨W, hW⟩ : ∃ W : World, W = (w.alloc (.cells #[.int .i64 0, .int .i64 0, .int .i64 0, .slice none 0 0] 29)).alloc (.cells #[.int .i64 0, .int .i64 0, .int .i64 0, .slice none 0 0] 29) := ⟨_, rfl⟩
  have BW : Below w.heap.size w W := by rw [hW]; exact below_call (below_new _ _) (below_new _ _)
  have X0 : Box W w.heap.size #[.int .i64 0, .int .i64 0, .int .i64 0, .slice none 0 0] 29 := by rw [hW]; exact (Box.new _ _ _).alloc _
  have X1 : Box W (w.heap.size + 1) #[.int .i64 0, .int .i64 0, .int .i64 0, .slice none 0 0] 29 := by
    have := Box.new (w.alloc (.cells #[.int .i64 0, .int .i64 0, .int .i64 0, .slice none 0 0] 29)) #[.int .i64 0, .int .i64 0, .int .i64 0, .slice none 0 0] 29
    rw [hW]; simpa using this
  go_enter Tryd.func9, Tryd.ntmps9
  go_wp2_with fail
  rw [← hW]
  clear hW
  obtain ⟨gr, hgr⟩ : ∃ g, g = w.heap.size := ⟨_, rfl⟩
  obtain ⟨gv, hgv⟩ : ∃ g, g = w.heap.size + 1 := ⟨_, rfl⟩
  rw [← hgr] at X0
  rw [← hgv] at X1
  rw [← hgv, ← hgr]
  have hgz : gr < gv := by omega
  have hgw : w.heap.size ≤ gr := by omega
  have hgx : gr ≤ w.heap.size := by omega
  clear hgr hgv
  go_loopw [4] (fun i wx => ∃ (k : Nat) (A : Option Addr) (c : Nat), k ≤ ts.length ∧ i = .int .i64 k ∧ Own 3 idRow 26 (gv + 1) wx (.slice A k c) (viewL 0 (ts.take k)) ∧ Box wx gv #[.int .i64 0, .int .i64 0, .int .i64 0, .slice A k c] 29 ∧ Box wx gr #[.int .i64 0, .int .i64 0, .int .i64 0, .slice none 0 0] 29 ∧ Below w.heap.size w wx) (fun i _ => ts.length - (intOf i).toNat)
  case atStart => exact ⟨0, none, 0, by omega, rfl, Own.nil_ _ _ _ _ _, X1, X0, BW⟩
  case round =>
    clear X0 X1 BW
    obtain ⟨k, A, c, hk, rfl, hown, hbx, hbr, hB⟩ := hrel
    have HB := Lib.hid hB
    have HO := Lib.hid hown
    have HX := Lib.hid hbx
    have HR := Lib.hid hbr
    have hzr := hB.size
    have hbl := hbx.lt
    clear hB hown hbx hbr
    by_cases hlt : k < ts.length
    · obtain ⟨b, off, cap3, e3, hlc3, hcm3, hb3, hcell⟩ := HL.out.cellAt (by intro h; subst h; simp at hlt)
      simp only [Value.slice.injEq] at e3
      obtain ⟨rfl, -, rfl⟩ := e3
      obtain ⟨x, hx⟩ : ∃ x, ts[k]? = some x := ⟨_, List.getElem?_eq_getElem hlt⟩
      have d0 : decide ((k : Int) < (ts.length : Int)) = true := decide_eq_true (by omega)
      have d0' : decide (k < ts.length) = true := decide_eq_true hlt
      have i0 : (0 : Int) ≤ (k : Int) := by omega
      have i1 : (k : Int) < (ts.length : Int) := by omega
      have w5 : IntKind.i64.wrap ((k : Int) + 1) = (k : Int) + 1 := IntWalk.i64_in _ (by omega)
      have hk0 : wr.cell? ⟨b, off + k, none⟩ = some (.int .i64 x) := (HB.out.cell (p := ⟨b, off + k, none⟩) hb3).trans (by simpa using hcell k x hx 0 _ rfl)
      have HC : Hid (∀ w', Below wr.heap.size wr w' → w'.cell? ⟨b, off + k, none⟩ = some (.int .i64 x)) := fun w' q => (q.cell (p := ⟨b, off + k, none⟩) (show b < wr.heap.size by omega)).trans hk0
      have HXx := Lib.hid hx
      clear hcell hx hk0
      have HPA := Lib.hid (show Below wr.heap.size wr ((wr.alloc (.cells #[.int .i64 ((k : Int) + 1), .int .i64 x, .int .i64 2] 26)).drew) from (below_new _ _).drew)
      have HOO := Lib.hid (show Own 3 idRow 26 (gv + 1) ((wr.alloc (.cells #[.int .i64 ((k : Int) + 1), .int .i64 x, .int .i64 2] 26)).drew) (.slice A k c) (viewL 0 (ts.take k)) from (HO.out.alloc _).drew)
      have HBB := Lib.hid (show Box ((wr.alloc (.cells #[.int .i64 ((k : Int) + 1), .int .i64 x, .int .i64 2] 26)).drew) wr.heap.size #[.int .i64 ((k : Int) + 1), .int .i64 x, .int .i64 2] 26 from Box.drew_ (Box.new _ _ _))
      have HLL := Lib.hid (show (viewL 0 (ts.take k)).length + 1 ≤ 4294967296 by rw [viewL_length, List.length_take]; omega)
      have HSS := Lib.hid (show gv + 1 ≤ ((wr.alloc (.cells #[.int .i64 ((k : Int) + 1), .int .i64 x, .int .i64 2] 26)).drew).heap.size by simp; omega)
      obtain ⟨kx, fx, zx⟩ := HX.out.facts
      go_upto_region 5 with fail
      refine wp_region_held_drew (S := fun w' => w'.cell? ⟨b, off + k, none⟩ = some (.int .i64 x)) (by kernel_rfl) (HC.out _ (Below.refl _ _).drew) (fun hHeld => ?_)
      first
        | (refine wpAnyH_take (i := 0) (v := ?_) rfl (by kernel_rfl) (by kernel_rfl) (by kernel_rfl) (fun _ _ _ h => h) (Or.inl ⟨?_, ?_⟩) (by assumption) ?_; rotate_left; (focus rfl); (focus (intro w hSw; go_split_ands; go_simp; try with_reducible rfl)); skip)
        | (refine wpAnyH_take (i := 0) (v := undef) rfl (by kernel_rfl) (by kernel_rfl) (by kernel_rfl) (fun _ _ _ h => h) (Or.inr ⟨?_, rfl⟩) (by assumption) ?_; (focus rfl))
      try simp only [Act.put, List.setIfInBounds_toArray, List.set_cons_zero, List.set_cons_succ, List.getElem_toArray, List.getElem_cons_zero, List.getElem_cons_succ]
      first
        | (refine wpAnyH_take (i := 2) (v := ?_) rfl (by kernel_rfl) (by kernel_rfl) (by kernel_rfl) (fun _ _ _ h => h) (Or.inl ⟨?_, ?_⟩) (by assumption) ?_; rotate_left; (focus rfl); (focus (intro w hSw; go_split_ands; go_simp; try with_reducible rfl)); skip)
        | (refine wpAnyH_take (i := 2) (v := undef) rfl (by kernel_rfl) (by kernel_rfl) (by kernel_rfl) (fun _ _ _ h => h) (Or.inr ⟨?_, rfl⟩) (by assumption) ?_; (focus rfl))
      try simp only [Act.put, List.setIfInBounds_toArray, List.set_cons_zero, List.set_cons_succ, List.getElem_toArray, List.getElem_cons_zero, List.getElem_cons_succ]
      first
        | (refine wpAnyH_take (i := 3) (v := ?_) rfl (by kernel_rfl) (by kernel_rfl) (by kernel_rfl) (fun _ _ _ h => h) (Or.inl ⟨?_, ?_⟩) (by assumption) ?_; rotate_left; (focus rfl); (focus (intro w hSw; go_split_ands; go_simp; try with_reducible rfl)); skip)
        | (refine wpAnyH_take (i := 3) (v := undef) rfl (by kernel_rfl) (by kernel_rfl) (by kernel_rfl) (fun _ _ _ h => h) (Or.inr ⟨?_, rfl⟩) (by assumption) ?_; (focus rfl))
      try simp only [Act.put, List.setIfInBounds_toArray, List.set_cons_zero, List.set_cons_succ, List.getElem_toArray, List.getElem_cons_zero, List.getElem_cons_succ]
      first
        | (refine wpAnyH_take (i := 4) (v := ?_) rfl (by kernel_rfl) (by kernel_rfl) (by kernel_rfl) (fun _ _ _ h => h) (Or.inl ⟨?_, ?_⟩) (by assumption) ?_; rotate_left; (focus rfl); (focus (intro w hSw; go_split_ands; go_simp; try with_reducible rfl)); skip)
        | (refine wpAnyH_take (i := 4) (v := undef) rfl (by kernel_rfl) (by kernel_rfl) (by kernel_rfl) (fun _ _ _ h => h) (Or.inr ⟨?_, rfl⟩) (by assumption) ?_; (focus rfl))
      try simp only [Act.put, List.setIfInBounds_toArray, List.set_cons_zero, List.set_cons_succ, List.getElem_toArray, List.getElem_cons_zero, List.getElem_cons_succ]
      first
        | (refine wpAnyH_take (i := 5) (v := ?_) rfl (by kernel_rfl) (by kernel_rfl) (by kernel_rfl) (fun _ _ _ h => h) (Or.inl ⟨?_, ?_⟩) (by assumption) ?_; rotate_left; (focus rfl); (focus (intro w hSw; go_split_ands; go_simp; try with_reducible rfl)); skip)
        | (refine wpAnyH_take (i := 5) (v := undef) rfl (by kernel_rfl) (by kernel_rfl) (by kernel_rfl) (fun _ _ _ h => h) (Or.inr ⟨?_, rfl⟩) (by assumption) ?_; (focus rfl))
      try simp only [Act.put, List.setIfInBounds_toArray, List.set_cons_zero, List.set_cons_succ, List.getElem_toArray, List.getElem_cons_zero, List.getElem_cons_succ]
      first
        | (refine wpAnyH_take (i := 6) (v := ?_) rfl (by kernel_rfl) (by kernel_rfl) (by kernel_rfl) (fun _ _ _ h => h) (Or.inl ⟨?_, ?_⟩) (by assumption) ?_; rotate_left; (focus rfl); (focus (intro w hSw; go_split_ands; go_simp; try with_reducible rfl)); skip)
        | (refine wpAnyH_take (i := 6) (v := undef) rfl (by kernel_rfl) (by kernel_rfl) (by kernel_rfl) (fun _ _ _ h => h) (Or.inr ⟨?_, rfl⟩) (by assumption) ?_; (focus rfl))
      try simp only [Act.put, List.setIfInBounds_toArray, List.set_cons_zero, List.set_cons_succ, List.getElem_toArray, List.getElem_cons_zero, List.getElem_cons_succ]
      first
        | (refine wpAnyH_take (i := 7) (v := ?_) rfl (by kernel_rfl) (by kernel_rfl) (by kernel_rfl) (fun _ _ _ h => h) (Or.inl ⟨?_, ?_⟩) (by assumption) ?_; rotate_left; (focus rfl); (focus (intro w hSw; go_split_ands; go_simp; try with_reducible rfl)); skip)
        | (refine wpAnyH_take (i := 7) (v := undef) rfl (by kernel_rfl) (by kernel_rfl) (by kernel_rfl) (fun _ _ _ h => h) (Or.inr ⟨?_, rfl⟩) (by assumption) ?_; (focus rfl))
      try simp only [Act.put, List.setIfInBounds_toArray, List.set_cons_zero, List.set_cons_succ, List.getElem_toArray, List.getElem_cons_zero, List.getElem_cons_succ]
      first
        | (refine wpAnyH_take (i := 8) (v := ?_) rfl (by kernel_rfl) (by kernel_rfl) (by kernel_rfl) (fun _ _ _ h => h) (Or.inl ⟨?_, ?_⟩) (by assumption) ?_; rotate_left; (focus rfl); (focus (intro w hSw; go_split_ands; go_simp; try with_reducible rfl)); skip)
        | (refine wpAnyH_take (i := 8) (v := undef) rfl (by kernel_rfl) (by kernel_rfl) (by kernel_rfl) (fun _ _ _ h => h) (Or.inr ⟨?_, rfl⟩) (by assumption) ?_; (focus rfl))
      try simp only [Act.put, List.setIfInBounds_toArray, List.set_cons_zero, List.set_cons_succ, List.getElem_toArray, List.getElem_cons_zero, List.getElem_cons_succ]
      refine wpAnyH_ready (rs := [1, 9]) (by kernel_rfl) (by simp) ?_
      refine AllReadyH.cons rfl (fun K hK => ?_) (AllReadyH.cons rfl (fun K hK => ?_) AllReadyH.nil)
      · go_simp
        refine hK.out _ _ (HC.out _ (Below.refl _ _).drew) (fun hH => ?_)
        clear hK K
        try simp only [Act.put, List.setIfInBounds_toArray, List.set_cons_zero, List.set_cons_succ, List.getElem_toArray, List.getElem_cons_zero, List.getElem_cons_succ]
        refine wpAnyH_ready (rs := [9]) (by kernel_rfl) (by simp) ?_
        refine AllReadyH.cons rfl (fun K hK => ?_) AllReadyH.nil
        go_simp
        refine hK.out _ _ (HC.out _ HPA.out) (fun hH => ?_)
        clear hK K
        try simp only [Act.put, List.setIfInBounds_toArray, List.set_cons_zero, List.set_cons_succ, List.getElem_toArray, List.getElem_cons_zero, List.getElem_cons_succ]
        refine wpAnyH_ready (rs := [10]) (by kernel_rfl) (by simp) ?_
        refine AllReadyH.cons rfl (fun K hK => ?_) AllReadyH.nil
        refine step_append_row rfl (.tmp 12) (.tmp 20) 27 rfl (gv + 1) 26 _ 3 24 Tryd.underlying27 identInfo rfl (Nat.succ_pos 2) idRow idRow_length idRow_one (viewL 0 (ts.take k)) _ rfl HOO.out ⟨(k : Int) + 1, x, 2⟩ #[.int .i64 ((k : Int) + 1), .int .i64 x, .int .i64 2] rfl 26 _ rfl HBB.out HLL.out (by omega) HSS.out ?_
        intro g7 c7 w7 p1 p2 p3
        have HX7 := Lib.hid ((HX.out.later HPA.out).below p2 (Nat.lt_succ_self gv))
        have HR7 := Lib.hid ((HR.out.later HPA.out).below p2 (show gr < gv + 1 by omega))
        have HO7 := Lib.hid p1
        have HB7 := Lib.hid ((below_call HB.out HPA.out).trans (p2.mono (show w.heap.size ≤ gv + 1 by omega)))
        have HC7 := Lib.hid ((p2.cell (p := ⟨b, off + k, none⟩) (show b < gv + 1 by omega)).trans (HC.out _ HPA.out))
        obtain ⟨kb, fb, zb⟩ := HX7.out.facts
        clear p1 p2 p3
        refine hK.out _ _ (HC7.out) (fun hH => ?_)
        clear hK K
        try simp only [Act.put, List.setIfInBounds_toArray, List.set_cons_zero, List.set_cons_succ, List.getElem_toArray, List.getElem_cons_zero, List.getElem_cons_succ]
        have hHeld2 := hH
        first
          | (refine wpAnyH_take (i := 11) (v := ?_) rfl (by kernel_rfl) (by kernel_rfl) (by kernel_rfl) (fun _ _ _ h => h) (Or.inl ⟨?_, ?_⟩) (by assumption) ?_; rotate_left; (focus rfl); (focus (intro w hSw; go_split_ands; go_simp; try with_reducible rfl)); skip)
          | (refine wpAnyH_take (i := 11) (v := undef) rfl (by kernel_rfl) (by kernel_rfl) (by kernel_rfl) (fun _ _ _ h => h) (Or.inr ⟨?_, rfl⟩) (by assumption) ?_; (focus rfl))
        try simp only [Act.put, List.setIfInBounds_toArray, List.set_cons_zero, List.set_cons_succ, List.getElem_toArray, List.getElem_cons_zero, List.getElem_cons_succ]
        refine wpAnyH_ready (rs := [12]) (by kernel_rfl) (by simp) ?_
        refine AllReadyH.cons rfl (fun K hK => ?_) AllReadyH.nil
        go_simp
        refine hK.out _ _ ((setCell_cell_far (show b ≠ gv by omega)).trans HC7.out) (fun hH => ?_)
        clear hK K
        try simp only [Act.put, List.setIfInBounds_toArray, List.set_cons_zero, List.set_cons_succ, List.getElem_toArray, List.getElem_cons_zero, List.getElem_cons_succ]
        refine wpAnyH_done (by kernel_rfl) ?_ _
        clear kb fb zb
        go_wp2_with fail
        go_roundw
        case rel =>
          have e := viewL_snoc (ts.take k) x 0
          rw [← take_at HXx.out, List.length_take, Nat.min_eq_left hk, show (0 : Int) + 1 + (k : Int) = (k : Int) + 1 by omega] at e
          have hl7 : (viewL 0 (ts.take k) ++ [(⟨(k : Int) + 1, x, 2⟩ : Idt)]).length = k + 1 := by rw [List.length_append, viewL_length, List.length_take, Nat.min_eq_left hk]; rfl
          refine ⟨k + 1, some ⟨g7, 0, none⟩, c7, by omega, by go_num, ?_, ?_, ?_, ?_⟩
          · rw [e]; have h := HO7.out; rw [hl7] at h; exact h.set_below (Nat.lt_succ_self gv)
          · have h := HX7.out.set_ 3 (.slice (some ⟨g7, 0, none⟩) (k + 1) c7); have hlv : (viewL 0 (ts.take k)).length = k := by rw [viewL_length, List.length_take, Nat.min_eq_left hk]
            rw [hlv]; exact h
          · exact Box.far HR7.out (show gr ≠ gv by omega) _
          · exact below_set HB7.out (show w.heap.size ≤ gv by omega)
        case measure => simp [intOf]; omega
      · go_simp
        refine hK.out _ _ (HC.out _ HPA.out) (fun hH => ?_)
        clear hK K
        try simp only [Act.put, List.setIfInBounds_toArray, List.set_cons_zero, List.set_cons_succ, List.getElem_toArray, List.getElem_cons_zero, List.getElem_cons_succ]
        refine wpAnyH_ready (rs := [1]) (by kernel_rfl) (by simp) ?_
        refine AllReadyH.cons rfl (fun K hK => ?_) AllReadyH.nil
        go_simp
        refine hK.out _ _ (HC.out _ HPA.out) (fun hH => ?_)
        clear hK K
        try simp only [Act.put, List.setIfInBounds_toArray, List.set_cons_zero, List.set_cons_succ, List.getElem_toArray, List.getElem_cons_zero, List.getElem_cons_succ]
        refine wpAnyH_ready (rs := [10]) (by kernel_rfl) (by simp) ?_
        refine AllReadyH.cons rfl (fun K hK => ?_) AllReadyH.nil
        refine step_append_row rfl (.tmp 12) (.tmp 20) 27 rfl (gv + 1) 26 _ 3 24 Tryd.underlying27 identInfo rfl (Nat.succ_pos 2) idRow idRow_length idRow_one (viewL 0 (ts.take k)) _ rfl HOO.out ⟨(k : Int) + 1, x, 2⟩ #[.int .i64 ((k : Int) + 1), .int .i64 x, .int .i64 2] rfl 26 _ rfl HBB.out HLL.out (by omega) HSS.out ?_
        intro g7 c7 w7 p1 p2 p3
        have HX7 := Lib.hid ((HX.out.later HPA.out).below p2 (Nat.lt_succ_self gv))
        have HR7 := Lib.hid ((HR.out.later HPA.out).below p2 (show gr < gv + 1 by omega))
        have HO7 := Lib.hid p1
        have HB7 := Lib.hid ((below_call HB.out HPA.out).trans (p2.mono (show w.heap.size ≤ gv + 1 by omega)))
        have HC7 := Lib.hid ((p2.cell (p := ⟨b, off + k, none⟩) (show b < gv + 1 by omega)).trans (HC.out _ HPA.out))
        obtain ⟨kb, fb, zb⟩ := HX7.out.facts
        clear p1 p2 p3
        refine hK.out _ _ (HC7.out) (fun hH => ?_)
        clear hK K
        try simp only [Act.put, List.setIfInBounds_toArray, List.set_cons_zero, List.set_cons_succ, List.getElem_toArray, List.getElem_cons_zero, List.getElem_cons_succ]
        have hHeld2 := hH
        first
          | (refine wpAnyH_take (i := 11) (v := ?_) rfl (by kernel_rfl) (by kernel_rfl) (by kernel_rfl) (fun _ _ _ h => h) (Or.inl ⟨?_, ?_⟩) (by assumption) ?_; rotate_left; (focus rfl); (focus (intro w hSw; go_split_ands; go_simp; try with_reducible rfl)); skip)
          | (refine wpAnyH_take (i := 11) (v := undef) rfl (by kernel_rfl) (by kernel_rfl) (by kernel_rfl) (fun _ _ _ h => h) (Or.inr ⟨?_, rfl⟩) (by assumption) ?_; (focus rfl))
        try simp only [Act.put, List.setIfInBounds_toArray, List.set_cons_zero, List.set_cons_succ, List.getElem_toArray, List.getElem_cons_zero, List.getElem_cons_succ]
        refine wpAnyH_ready (rs := [12]) (by kernel_rfl) (by simp) ?_
        refine AllReadyH.cons rfl (fun K hK => ?_) AllReadyH.nil
        go_simp
        refine hK.out _ _ ((setCell_cell_far (show b ≠ gv by omega)).trans HC7.out) (fun hH => ?_)
        clear hK K
        try simp only [Act.put, List.setIfInBounds_toArray, List.set_cons_zero, List.set_cons_succ, List.getElem_toArray, List.getElem_cons_zero, List.getElem_cons_succ]
        refine wpAnyH_done (by kernel_rfl) ?_ _
        clear kb fb zb
        go_wp2_with fail
        go_roundw
        case rel =>
          have e := viewL_snoc (ts.take k) x 0
          rw [← take_at HXx.out, List.length_take, Nat.min_eq_left hk, show (0 : Int) + 1 + (k : Int) = (k : Int) + 1 by omega] at e
          have hl7 : (viewL 0 (ts.take k) ++ [(⟨(k : Int) + 1, x, 2⟩ : Idt)]).length = k + 1 := by rw [List.length_append, viewL_length, List.length_take, Nat.min_eq_left hk]; rfl
          refine ⟨k + 1, some ⟨g7, 0, none⟩, c7, by omega, by go_num, ?_, ?_, ?_, ?_⟩
          · rw [e]; have h := HO7.out; rw [hl7] at h; exact h.set_below (Nat.lt_succ_self gv)
          · have h := HX7.out.set_ 3 (.slice (some ⟨g7, 0, none⟩) (k + 1) c7); have hlv : (viewL 0 (ts.take k)).length = k := by rw [viewL_length, List.length_take, Nat.min_eq_left hk]
            rw [hlv]; exact h
          · exact Box.far HR7.out (show gr ≠ gv by omega) _
          · exact below_set HB7.out (show w.heap.size ≤ gv by omega)
        case measure => simp [intOf]; omega
    · have d0 : decide ((k : Int) < (ts.length : Int)) = false := decide_eq_false (by omega)
      have d0' : decide (k < ts.length) = false := decide_eq_false hlt
      have hkl : k = ts.length := by omega
      have HOs := Lib.hid (show Own 3 idRow 26 (gv + 1) wr (.slice A k c) (viewL 0 ts) by have h := HO.out; rw [hkl, List.take_length] at h; rwa [hkl])
      subst hkl
      obtain ⟨kx, fx, zx⟩ := HX.out.facts
      obtain ⟨kr, fr, zr⟩ := HR.out.facts
      clear HO
      go_wp2_with fail
      refine bodyPost_with (fun W => Box W gr #[.int .i64 0, .int .i64 0, .int .i64 0, .slice A ts.length c] 29 ∧ Own 3 idRow 26 (gv + 1) W (.slice A ts.length c) (viewL 0 ts) ∧ Below w.heap.size w W) ⟨HR.out.set4 _ _ _ _, (((HOs.out.set_below (by omega)).set_below (by omega)).set_below (by omega)).set_below (by omega), below_set (below_set (below_set (below_set HB.out hgw) hgw) hgw) hgw⟩ ?_
      rintro wz ⟨hz1, hz2, hz3⟩
      obtain ⟨kz, -, -⟩ := hz1.facts
      exact bodyPost_ret (v := .agg #[.int .i64 0, .int .i64 0, .int .i64 0, .slice A ts.length c]) (by simp [results, Tryd.results9, go_sem, kz]) rfl ⟨A, c, rfl, hz2.less (by omega), hz3⟩
end Go.Proofs.YthadfdpdillemaaDoor
