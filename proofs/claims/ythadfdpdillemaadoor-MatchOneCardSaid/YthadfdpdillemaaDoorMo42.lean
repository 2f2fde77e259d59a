/-
  limpetlaw20's behind: contract.
-/
import Derived.Test.YthadfdpdillemaaDoorMo40
import Derived.Test.YthadfdpdillemaaDoorMo41
set_option linter.unusedVariables false
set_option linter.unusedSimpArgs false
namespace Go.Proofs.YthadfdpdillemaaDoor
open Go.RowKit

theorem setCell3_far {w : World} {n i j k : Nat} {u v t : Value} {a : Addr} (h : a.block ≠ n) : (((w.setCell ⟨n, i, none⟩ u).setCell ⟨n, j, none⟩ v).setCell ⟨n, k, none⟩ t).cell? a = w.cell? a :=
  (setCell_cell_far h).trans ((setCell_cell_far h).trans (setCell_cell_far h))
theorem own_ne {α : Type} {k : Nat} {row : α → List Value} {e t : TypeId} {base q n c g : Nat} {w : World} {l : List α} {cs : Array Value} (h : Own k row e base w (.slice (some ⟨q, 0, none⟩) n c) l) (hx : Box w g cs t) (he : e ≠ t) : q ≠ g := by
  rintro rfl
  rcases h.2 with ⟨hv, _⟩ | ⟨g', cap, cur, hv, _, hh, _⟩
  · simp at hv
  · simp only [Value.slice.injEq, Option.some.injEq, Addr.mk.injEq, and_true] at hv
    obtain ⟨rfl, -, -⟩ := hv
    unfold Box at hx
    rw [hx] at hh
    simp only [Option.some.injEq, Obj.cells.injEq] at hh
    exact he hh.2.1.symm
theorem Own.spot_ne {α : Type} {k : Nat} {row : α → List Value} {e t : TypeId} {base g : Nat} {w : World} {v : Value} {l : List α} {cs : Array Value} (h : Own k row e base w v l) (hx : Box w g cs t) (he : e ≠ t) : ∀ q, v.ownBlock = some q → q ≠ g := fun q hq => by
  obtain ⟨c, hv⟩ := h.spot hq
  rw [hv] at h
  exact own_ne h hx he
theorem Own.set4x {α : Type} {k : Nat} {row : α → List Value} {e t : TypeId} {base g : Nat} {w : World} {v : Value} {l : List α} {cs : Array Value} (h : Own k row e base w v l) (hx : Box w g cs t) (he : e ≠ t) (x y z u : Value) :
    Own k row e base ((((w.setCell ⟨g, 0, none⟩ x).setCell ⟨g, 1, none⟩ y).setCell ⟨g, 2, none⟩ z).setCell ⟨g, 3, none⟩ u) v l := h.stay fun q hq => by
  have hn := h.spot_ne hx he q hq
  exact (Below.heap_setCell _ ⟨g, 3, none⟩ u q hn).trans ((Below.heap_setCell _ ⟨g, 2, none⟩ z q hn).trans ((Below.heap_setCell _ ⟨g, 1, none⟩ y q hn).trans (Below.heap_setCell _ ⟨g, 0, none⟩ x q hn)))
theorem Own.set1x {α : Type} {k : Nat} {row : α → List Value} {e t : TypeId} {base g : Nat} {w : World} {v : Value} {l : List α} {cs : Array Value} (h : Own k row e base w v l) (hx : Box w g cs t) (he : e ≠ t) (i : Nat) (x : Value) : Own k row e base (w.setCell ⟨g, i, none⟩ x) v l := h.stay fun q hq => Below.heap_setCell _ ⟨g, i, none⟩ x q (h.spot_ne hx he q hq)
theorem Own.writeId {e : TypeId} {base g cap n k : Nat} {w : World} {l : List Idt} {x y : Idt} (h : Own 3 idRow e base w (.slice (some ⟨g, 0, none⟩) n cap) l) (hx : l[k]? = some x) :
    Own 3 idRow e base (((w.setCell ⟨g, k * 3, none⟩ (.int .i64 y.idx)).setCell ⟨g, k * 3 + 1, none⟩ (.int .i64 y.trm)).setCell ⟨g, k * 3 + 2, none⟩ (.int .i64 y.knd)) (.slice (some ⟨g, 0, none⟩) n cap) (l.set k y) := by
  have hk := (List.getElem?_eq_some_iff.1 hx).1
  have h1 := h.write idRow_length (i := k) (j := 0) (y := ⟨y.idx, x.trm, x.knd⟩) (u := .int .i64 y.idx) hx rfl (by omega)
  have h2 := h1.write idRow_length (i := k) (j := 1) (y := ⟨y.idx, y.trm, x.knd⟩) (u := .int .i64 y.trm) (x := ⟨y.idx, x.trm, x.knd⟩) (by simp [hk]) rfl (by omega)
  rw [List.set_set] at h2
  have h3 := h2.write idRow_length (i := k) (j := 2) (y := y) (u := .int .i64 y.knd) (x := ⟨y.idx, y.trm, x.knd⟩) (by simp [hk]) rfl (by omega)
  rw [List.set_set] at h3
  exact h3
theorem setsV_take {b : Idt} {l : List Idt} {s : List Ent} {k : Nat} {x : Ent} (hx : s[k]? = some x) : setsV b l (s.take (k + 1)) = (setsV b l (s.take k)).set (x.idx - b.idx - 1).toNat (ofE x) := by
  rw [take_at hx, setsV_append]; rfl
theorem setsV_one (b : Idt) (l : List Idt) : setsV b l [] = l := rfl

set_option maxRecDepth 100000 in
set_option maxHeartbeats 8000000 in
theorem lawBeh (b : Idt) (l : List Idt) (A : Option Addr) (c : Nat) (yes : Bool) (ix cut : Int) (A1 : Option Addr) (c1 : Nat) (m1 : List Ent) (A2 : Option Addr) (c2 : Nat) (m2 : List Ent) (w : World) (h : Sl 3 idRow w.heap.size w (.slice A l.length c) l) (h1 : Sl 4 entRow w.heap.size w (.slice A1 m1.length c1) m1) (h2 : Sl 4 entRow w.heap.size w (.slice A2 m2.length c2) m2)
    (hl : l.length ≤ 100000) (hn1 : m1.length ≤ 100000) (hn2 : m2.length ≤ 100000) (hc0 : 0 ≤ cut) (hcl : 0 < cut → b.idx < cut ∧ cut ≤ b.idx + (l.length : Int)) (hb0 : 0 ≤ b.idx) (hb1 : b.idx ≤ 1099511627776)
    (hpl : ∀ e ∈ m1, b.idx < e.idx ∧ e.idx ≤ b.idx + ((cutV b l ⟨ix, cut, m1, m2⟩).length : Int)) :
    Calls Tryd.prog 13 #[.agg #[.int .i64 b.idx, .int .i64 b.trm, .int .i64 b.knd, .slice A l.length c], .agg #[.bool yes, .int .i64 ix, .int .i64 cut, .slice A1 m1.length c1, .slice A2 m2.length c2]] w fun e w' => ∃ A' c', e = .returned (.agg #[.int .i64 b.idx, .int .i64 b.trm, .int .i64 b.knd, .slice A' (behV b l ⟨ix, cut, m1, m2⟩).length c']) ∧ Own 3 idRow 26 w.heap.size w' (.slice A' (behV b l ⟨ix, cut, m1, m2⟩).length c') (behV b l ⟨ix, cut, m1, m2⟩) ∧ Below w.heap.size w w' := by
  have HL := Lib.hid h
  have HM1 := Lib.hid h1
  have HM2 := Lib.hid h2
  have HPL := Lib.hid hpl
  clear h h1 h2 hpl
  obtain ⟨W, hW⟩ : ∃ W : World, W = ((w.alloc (.cells #[.int .i64 b.idx, .int .i64 b.trm, .int .i64 b.knd, .slice A l.length c] 29)).alloc (.cells #[.bool yes, .int .i64 ix, .int .i64 cut, .slice A1 m1.length c1, .slice A2 m2.length c2] 35)).alloc (.cells #[.int .i64 0, .int .i64 0, .int .i64 0, .slice none 0 0] 29) := ⟨_, rfl⟩
  have BW : Below w.heap.size w W := by rw [hW]; exact below_call (below_call (below_new _ _) (below_new _ _)) (below_new _ _)
  have X0 : Box W w.heap.size #[.int .i64 b.idx, .int .i64 b.trm, .int .i64 b.knd, .slice A l.length c] 29 := by rw [hW]; exact ((Box.new _ _ _).alloc _).alloc _
  have X1 : Box W (w.heap.size + 1) #[.bool yes, .int .i64 ix, .int .i64 cut, .slice A1 m1.length c1, .slice A2 m2.length c2] 35 := by
    have := (Box.new (w.alloc (.cells #[.int .i64 b.idx, .int .i64 b.trm, .int .i64 b.knd, .slice A l.length c] 29)) #[.bool yes, .int .i64 ix, .int .i64 cut, .slice A1 m1.length c1, .slice A2 m2.length c2] 35).alloc (.cells #[.int .i64 0, .int .i64 0, .int .i64 0, .slice none 0 0] 29)
    rw [hW]; simpa using this
  have X2 : Box W (w.heap.size + 1 + 1) #[.int .i64 0, .int .i64 0, .int .i64 0, .slice none 0 0] 29 := by
    have := Box.new ((w.alloc (.cells #[.int .i64 b.idx, .int .i64 b.trm, .int .i64 b.knd, .slice A l.length c] 29)).alloc (.cells #[.bool yes, .int .i64 ix, .int .i64 cut, .slice A1 m1.length c1, .slice A2 m2.length c2] 35)) #[.int .i64 0, .int .i64 0, .int .i64 0, .slice none 0 0] 29
    rw [hW]; simpa using this
  go_enter Tryd.func13, Tryd.ntmps13
  go_upto_region 1 with fail
  rw [← hW]
  have hWz : w.heap.size + 3 ≤ W.heap.size := by rw [hW]; simp
  clear hW
  obtain ⟨g0, hg0⟩ : ∃ g, g = w.heap.size := ⟨_, rfl⟩
  obtain ⟨g1, hg1⟩ : ∃ g, g = w.heap.size + 1 := ⟨_, rfl⟩
  obtain ⟨g2, hg2⟩ : ∃ g, g = w.heap.size + 1 + 1 := ⟨_, rfl⟩
  rw [← hg0] at X0
  rw [← hg1] at X1
  rw [← hg2] at X2
  rw [← hg2, ← hg1, ← hg0]
  have zl := X0.lt
  have zl1 := X1.lt
  have zl2 := X2.lt
  have zw : w.heap.size ≤ W.heap.size := by omega
  have hg01 : g0 < g1 := by omega
  have hg12 : g1 < g2 := by omega
  have hgw : w.heap.size ≤ g0 := by omega
  have X0 := Lib.hid X0
  have X1 := Lib.hid X1
  have X2 := Lib.hid X2
  have BW := Lib.hid BW
  clear hg0 hg1 hg2
  have HF0 : Hid (∀ w', Below W.heap.size W w' → w'.cell? ⟨g0, 0, none⟩ = some (Value.int .i64 b.idx) ∧ w'.cell? ⟨g0, 1, none⟩ = some (.int .i64 b.trm) ∧ w'.cell? ⟨g0, 2, none⟩ = some (.int .i64 b.knd) ∧ w'.cell? ⟨g0, 3, none⟩ = some (.slice A l.length c)) := fun w' q => ⟨cell_later q (X0.out.cell 0), cell_later q (X0.out.cell 1), cell_later q (X0.out.cell 2), cell_later q (X0.out.cell 3)⟩
  have HLW := Lib.hid (HL.out.later BW.out)
  go_cut [5] (fun p wx => ∃ g A' c', p = .pointer (some ⟨g, 0, none⟩) ∧ Box wx g #[.int .i64 b.idx, .int .i64 b.trm, .int .i64 b.knd, .slice A' l.length c'] 29 ∧ Own 3 idRow 26 W.heap.size wx (.slice A' l.length c') l ∧ W.heap.size ≤ g ∧ Below W.heap.size W wx)
  case first =>
    refine wp_region_held_drew (S := fun w' => w'.cell? ⟨g0, 0, none⟩ = some (Value.int .i64 b.idx) ∧ w'.cell? ⟨g0, 1, none⟩ = some (.int .i64 b.trm) ∧ w'.cell? ⟨g0, 2, none⟩ = some (.int .i64 b.knd) ∧ w'.cell? ⟨g0, 3, none⟩ = some (.slice A l.length c)) (by kernel_rfl) (HF0.out _ (Below.refl _ _).drew) (fun hHeld => ?_)
    first
      | (refine wpAnyH_take (i := 0) (v := ?_) rfl (by kernel_rfl) (by kernel_rfl) (by kernel_rfl) (fun _ _ _ h => h) (Or.inl ⟨?_, ?_⟩) (by assumption) ?_; rotate_left; (focus rfl); (focus (intro w hSw; go_split_ands; go_simp; try with_reducible rfl)); skip)
      | (refine wpAnyH_take (i := 0) (v := undef) rfl (by kernel_rfl) (by kernel_rfl) (by kernel_rfl) (fun _ _ _ h => h) (Or.inr ⟨?_, rfl⟩) (by assumption) ?_; (focus rfl))
    try simp only [Act.put, List.setIfInBounds_toArray, List.set_cons_zero, List.set_cons_succ, List.getElem_toArray, List.getElem_cons_zero, List.getElem_cons_succ]
    first
      | (refine wpAnyH_take (i := 1) (v := ?_) rfl (by kernel_rfl) (by kernel_rfl) (by kernel_rfl) (fun _ _ _ h => h) (Or.inl ⟨?_, ?_⟩) (by assumption) ?_; rotate_left; (focus rfl); (focus (intro w hSw; go_split_ands; go_simp; try with_reducible rfl)); skip)
      | (refine wpAnyH_take (i := 1) (v := undef) rfl (by kernel_rfl) (by kernel_rfl) (by kernel_rfl) (fun _ _ _ h => h) (Or.inr ⟨?_, rfl⟩) (by assumption) ?_; (focus rfl))
    try simp only [Act.put, List.setIfInBounds_toArray, List.set_cons_zero, List.set_cons_succ, List.getElem_toArray, List.getElem_cons_zero, List.getElem_cons_succ]
    first
      | (refine wpAnyH_take (i := 3) (v := ?_) rfl (by kernel_rfl) (by kernel_rfl) (by kernel_rfl) (fun _ _ _ h => h) (Or.inl ⟨?_, ?_⟩) (by assumption) ?_; rotate_left; (focus rfl); (focus (intro w hSw; go_split_ands; go_simp; try with_reducible rfl)); skip)
      | (refine wpAnyH_take (i := 3) (v := undef) rfl (by kernel_rfl) (by kernel_rfl) (by kernel_rfl) (fun _ _ _ h => h) (Or.inr ⟨?_, rfl⟩) (by assumption) ?_; (focus rfl))
    try simp only [Act.put, List.setIfInBounds_toArray, List.set_cons_zero, List.set_cons_succ, List.getElem_toArray, List.getElem_cons_zero, List.getElem_cons_succ]
    first
      | (refine wpAnyH_take (i := 4) (v := ?_) rfl (by kernel_rfl) (by kernel_rfl) (by kernel_rfl) (fun _ _ _ h => h) (Or.inl ⟨?_, ?_⟩) (by assumption) ?_; rotate_left; (focus rfl); (focus (intro w hSw; go_split_ands; go_simp; try with_reducible rfl)); skip)
      | (refine wpAnyH_take (i := 4) (v := undef) rfl (by kernel_rfl) (by kernel_rfl) (by kernel_rfl) (fun _ _ _ h => h) (Or.inr ⟨?_, rfl⟩) (by assumption) ?_; (focus rfl))
    try simp only [Act.put, List.setIfInBounds_toArray, List.set_cons_zero, List.set_cons_succ, List.getElem_toArray, List.getElem_cons_zero, List.getElem_cons_succ]
    refine wpAnyH_ready (rs := [2, 7]) (by kernel_rfl) (by simp) ?_
    refine AllReadyH.cons rfl (fun K hK => ?_) (AllReadyH.cons rfl (fun K hK => ?_) AllReadyH.nil)
    · go_simp
      refine hK.out _ _ (HF0.out _ (show Below W.heap.size W ((W.alloc (.cells #[] 26)).drew) from ((below_new _ _).drew))) (fun hH => ?_)
      clear hK K
      try simp only [Act.put, List.setIfInBounds_toArray, List.set_cons_zero, List.set_cons_succ, List.getElem_toArray, List.getElem_cons_zero, List.getElem_cons_succ]
      refine wpAnyH_ready (rs := [5, 7]) (by kernel_rfl) (by simp) ?_
      refine AllReadyH.cons rfl (fun K hK => ?_) (AllReadyH.cons rfl (fun K hK => ?_) AllReadyH.nil)
      · refine step_append_all rfl (.tmp 10) (.tmp 12) _ rfl W.heap.size 26 _ 3 24 Tryd.underlying27 identInfo rfl (Nat.succ_pos 2) idRow idRow_length idRow_one [] _ rfl (show Own 3 idRow 26 W.heap.size ((W.alloc (.cells #[] 26)).drew) (.slice (some ⟨W.heap.size, 0, none⟩) 0 0) [] from (Own.made 3 idRow 26 W).drew) l W.heap.size _ (HLW.out.below (show Below W.heap.size W ((W.alloc (.cells #[] 26)).drew) from ((below_new _ _).drew))) rfl (by simp; omega) (by omega) (by simp; try omega) ?_
        intro v5 w5 p1 p2 p3 p4 p5
        obtain ⟨A5, c5, rfl⟩ : ∃ A5 c5, v5 = .slice A5 l.length c5 := by obtain ⟨A6, c6, h6⟩ := p1.len; exact ⟨A6, c6, by simpa using h6⟩
        have HO5 := Lib.hid (show Own 3 idRow 26 W.heap.size w5 (.slice A5 l.length c5) l from by simpa using p1)
        have HP5 := Lib.hid (Below.trans (show Below W.heap.size W ((W.alloc (.cells #[] 26)).drew) from ((below_new _ _).drew)) p2)
        clear p1 p2 p3 p4 p5
        refine hK.out _ _ (HF0.out _ HP5.out) (fun hH => ?_)
        clear hK K
        try simp only [Act.put, List.setIfInBounds_toArray, List.set_cons_zero, List.set_cons_succ, List.getElem_toArray, List.getElem_cons_zero, List.getElem_cons_succ]
        have hHeld2 := hH
        first
          | (refine wpAnyH_take (i := 6) (v := ?_) rfl (by kernel_rfl) (by kernel_rfl) (by kernel_rfl) (fun _ _ _ h => h) (Or.inl ⟨?_, ?_⟩) (by assumption) ?_; rotate_left; (focus rfl); (focus (intro w hSw; go_split_ands; go_simp; try with_reducible rfl)); skip)
          | (refine wpAnyH_take (i := 6) (v := undef) rfl (by kernel_rfl) (by kernel_rfl) (by kernel_rfl) (fun _ _ _ h => h) (Or.inr ⟨?_, rfl⟩) (by assumption) ?_; (focus rfl))
        try simp only [Act.put, List.setIfInBounds_toArray, List.set_cons_zero, List.set_cons_succ, List.getElem_toArray, List.getElem_cons_zero, List.getElem_cons_succ]
        refine wpAnyH_ready (rs := [7]) (by kernel_rfl) (by simp) ?_
        refine AllReadyH.cons rfl (fun K hK => ?_) AllReadyH.nil
        go_simp
        refine hK.out _ _ (HF0.out _ (HP5.out.alloc HP5.out.size _)) (fun hH => ?_)
        clear hK K
        try simp only [Act.put, List.setIfInBounds_toArray, List.set_cons_zero, List.set_cons_succ, List.getElem_toArray, List.getElem_cons_zero, List.getElem_cons_succ]
        refine wpAnyH_ready (rs := [8]) (by kernel_rfl) (by simp) ?_
        refine AllReadyH.cons rfl (fun K hK => ?_) AllReadyH.nil
        go_simp
        refine hK.out _ _ (HF0.out _ (HP5.out.alloc HP5.out.size _)) (fun hH => ?_)
        clear hK K
        try simp only [Act.put, List.setIfInBounds_toArray, List.set_cons_zero, List.set_cons_succ, List.getElem_toArray, List.getElem_cons_zero, List.getElem_cons_succ]
        refine wpAnyH_done (by kernel_rfl) ?_ _
        go_wp2_with fail
        go_meet
        exact ⟨w5.heap.size, A5, c5, rfl, Box.new _ _ _, HO5.out.alloc _, HP5.out.size, HP5.out.alloc HP5.out.size _⟩
      · go_simp
        refine hK.out _ _ (HF0.out _ (show Below W.heap.size W (((W.alloc (.cells #[] 26)).alloc (.cells #[.int .i64 0, .int .i64 0, .int .i64 0, .slice none 0 0] 29)).drew) from ((below_call (below_new _ _) (below_new _ _)).drew))) (fun hH => ?_)
        clear hK K
        try simp only [Act.put, List.setIfInBounds_toArray, List.set_cons_zero, List.set_cons_succ, List.getElem_toArray, List.getElem_cons_zero, List.getElem_cons_succ]
        refine wpAnyH_ready (rs := [5]) (by kernel_rfl) (by simp) ?_
        refine AllReadyH.cons rfl (fun K hK => ?_) AllReadyH.nil
        refine step_append_all rfl (.tmp 10) (.tmp 12) _ rfl W.heap.size 26 _ 3 24 Tryd.underlying27 identInfo rfl (Nat.succ_pos 2) idRow idRow_length idRow_one [] _ rfl (show Own 3 idRow 26 W.heap.size (((W.alloc (.cells #[] 26)).alloc (.cells #[.int .i64 0, .int .i64 0, .int .i64 0, .slice none 0 0] 29)).drew) (.slice (some ⟨W.heap.size, 0, none⟩) 0 0) [] from ((Own.made 3 idRow 26 W).alloc _).drew) l W.heap.size _ (HLW.out.below (show Below W.heap.size W (((W.alloc (.cells #[] 26)).alloc (.cells #[.int .i64 0, .int .i64 0, .int .i64 0, .slice none 0 0] 29)).drew) from ((below_call (below_new _ _) (below_new _ _)).drew))) rfl (by simp; omega) (by omega) (by simp; try omega) ?_
        intro v5 w5 p1 p2 p3 p4 p5
        obtain ⟨A5, c5, rfl⟩ : ∃ A5 c5, v5 = .slice A5 l.length c5 := by obtain ⟨A6, c6, h6⟩ := p1.len; exact ⟨A6, c6, by simpa using h6⟩
        have HO5 := Lib.hid (show Own 3 idRow 26 W.heap.size w5 (.slice A5 l.length c5) l from by simpa using p1)
        have HP5 := Lib.hid (Below.trans (show Below W.heap.size W (((W.alloc (.cells #[] 26)).alloc (.cells #[.int .i64 0, .int .i64 0, .int .i64 0, .slice none 0 0] 29)).drew) from ((below_call (below_new _ _) (below_new _ _)).drew)) p2)
        have HX5 := Lib.hid (show Box w5 (W.heap.size + 1) #[.int .i64 0, .int .i64 0, .int .i64 0, .slice none 0 0] 29 from (p4 (W.heap.size + 1) (by simp) (fun he => by have he' : some (W.heap.size + 1) = some W.heap.size := he; simp at he')).trans (show Box (((W.alloc (.cells #[] 26)).alloc (.cells #[.int .i64 0, .int .i64 0, .int .i64 0, .slice none 0 0] 29)).drew) (W.heap.size + 1) #[.int .i64 0, .int .i64 0, .int .i64 0, .slice none 0 0] 29 from by have h9 := Box.new (W.alloc (.cells #[] 26)) #[.int .i64 0, .int .i64 0, .int .i64 0, .slice none 0 0] 29; rw [World.size_alloc] at h9; exact h9))
        clear p1 p2 p3 p4 p5
        refine hK.out _ _ (HF0.out _ HP5.out) (fun hH => ?_)
        clear hK K
        try simp only [Act.put, List.setIfInBounds_toArray, List.set_cons_zero, List.set_cons_succ, List.getElem_toArray, List.getElem_cons_zero, List.getElem_cons_succ]
        have hHeld2 := hH
        first
          | (refine wpAnyH_take (i := 6) (v := ?_) rfl (by kernel_rfl) (by kernel_rfl) (by kernel_rfl) (fun _ _ _ h => h) (Or.inl ⟨?_, ?_⟩) (by assumption) ?_; rotate_left; (focus rfl); (focus (intro w hSw; go_split_ands; go_simp; try with_reducible rfl)); skip)
          | (refine wpAnyH_take (i := 6) (v := undef) rfl (by kernel_rfl) (by kernel_rfl) (by kernel_rfl) (fun _ _ _ h => h) (Or.inr ⟨?_, rfl⟩) (by assumption) ?_; (focus rfl))
        try simp only [Act.put, List.setIfInBounds_toArray, List.set_cons_zero, List.set_cons_succ, List.getElem_toArray, List.getElem_cons_zero, List.getElem_cons_succ]
        obtain ⟨kx5, fx5, zx5⟩ := HX5.out.facts
        refine wpAnyH_ready (rs := [8]) (by kernel_rfl) (by simp) ?_
        refine AllReadyH.cons rfl (fun K hK => ?_) AllReadyH.nil
        go_simp
        refine hK.out _ _ (HF0.out _ (below_set (below_set (below_set (below_set (HP5.out) (show W.heap.size ≤ W.heap.size + 1 from Nat.le_succ _)) (show W.heap.size ≤ W.heap.size + 1 from Nat.le_succ _)) (show W.heap.size ≤ W.heap.size + 1 from Nat.le_succ _)) (show W.heap.size ≤ W.heap.size + 1 from Nat.le_succ _))) (fun hH => ?_)
        clear hK K
        try simp only [Act.put, List.setIfInBounds_toArray, List.set_cons_zero, List.set_cons_succ, List.getElem_toArray, List.getElem_cons_zero, List.getElem_cons_succ]
        refine wpAnyH_done (by kernel_rfl) ?_ _
        go_wp2_with fail
        go_meet
        exact ⟨W.heap.size + 1, A5, c5, rfl, Box.set4 (HX5.out) _ _ _ _, Own.set4x (HO5.out) (HX5.out) (by decide) _ _ _ _, (show W.heap.size ≤ W.heap.size + 1 from Nat.le_succ _), below_set (below_set (below_set (below_set (HP5.out) (show W.heap.size ≤ W.heap.size + 1 from Nat.le_succ _)) (show W.heap.size ≤ W.heap.size + 1 from Nat.le_succ _)) (show W.heap.size ≤ W.heap.size + 1 from Nat.le_succ _)) (show W.heap.size ≤ W.heap.size + 1 from Nat.le_succ _)⟩
    · go_simp
      refine hK.out _ _ (HF0.out _ (show Below W.heap.size W ((W.alloc (.cells #[.int .i64 0, .int .i64 0, .int .i64 0, .slice none 0 0] 29)).drew) from ((below_new _ _).drew))) (fun hH => ?_)
      clear hK K
      try simp only [Act.put, List.setIfInBounds_toArray, List.set_cons_zero, List.set_cons_succ, List.getElem_toArray, List.getElem_cons_zero, List.getElem_cons_succ]
      refine wpAnyH_ready (rs := [2]) (by kernel_rfl) (by simp) ?_
      refine AllReadyH.cons rfl (fun K hK => ?_) AllReadyH.nil
      go_simp
      refine hK.out _ _ (HF0.out _ (show Below W.heap.size W (((W.alloc (.cells #[.int .i64 0, .int .i64 0, .int .i64 0, .slice none 0 0] 29)).alloc (.cells #[] 26)).drew) from ((below_call (below_new _ _) (below_new _ _)).drew))) (fun hH => ?_)
      clear hK K
      try simp only [Act.put, List.setIfInBounds_toArray, List.set_cons_zero, List.set_cons_succ, List.getElem_toArray, List.getElem_cons_zero, List.getElem_cons_succ]
      refine wpAnyH_ready (rs := [5]) (by kernel_rfl) (by simp) ?_
      refine AllReadyH.cons rfl (fun K hK => ?_) AllReadyH.nil
      refine step_append_all rfl (.tmp 10) (.tmp 12) _ rfl W.heap.size 26 _ 3 24 Tryd.underlying27 identInfo rfl (Nat.succ_pos 2) idRow idRow_length idRow_one [] _ rfl (show Own 3 idRow 26 W.heap.size (((W.alloc (.cells #[.int .i64 0, .int .i64 0, .int .i64 0, .slice none 0 0] 29)).alloc (.cells #[] 26)).drew) (.slice (some ⟨W.heap.size + 1, 0, none⟩) 0 0) [] from by have h9 := (Own.made 3 idRow 26 (W.alloc (.cells #[.int .i64 0, .int .i64 0, .int .i64 0, .slice none 0 0] 29))).less (base' := W.heap.size) (by simp); rw [World.size_alloc] at h9; exact h9) l W.heap.size _ (HLW.out.below (show Below W.heap.size W (((W.alloc (.cells #[.int .i64 0, .int .i64 0, .int .i64 0, .slice none 0 0] 29)).alloc (.cells #[] 26)).drew) from ((below_call (below_new _ _) (below_new _ _)).drew))) rfl (by simp; omega) (by omega) (by simp; try omega) ?_
      intro v5 w5 p1 p2 p3 p4 p5
      obtain ⟨A5, c5, rfl⟩ : ∃ A5 c5, v5 = .slice A5 l.length c5 := by obtain ⟨A6, c6, h6⟩ := p1.len; exact ⟨A6, c6, by simpa using h6⟩
      have HO5 := Lib.hid (show Own 3 idRow 26 W.heap.size w5 (.slice A5 l.length c5) l from by simpa using p1)
      have HP5 := Lib.hid (Below.trans (show Below W.heap.size W (((W.alloc (.cells #[.int .i64 0, .int .i64 0, .int .i64 0, .slice none 0 0] 29)).alloc (.cells #[] 26)).drew) from ((below_call (below_new _ _) (below_new _ _)).drew)) p2)
      have HX5 := Lib.hid (show Box w5 W.heap.size #[.int .i64 0, .int .i64 0, .int .i64 0, .slice none 0 0] 29 from (p4 W.heap.size (by simp; omega) (fun he => by have he' : some W.heap.size = some (W.heap.size + 1) := he; simp at he')).trans (show Box (((W.alloc (.cells #[.int .i64 0, .int .i64 0, .int .i64 0, .slice none 0 0] 29)).alloc (.cells #[] 26)).drew) W.heap.size #[.int .i64 0, .int .i64 0, .int .i64 0, .slice none 0 0] 29 from (Box.new W #[.int .i64 0, .int .i64 0, .int .i64 0, .slice none 0 0] 29).alloc _))
      clear p1 p2 p3 p4 p5
      refine hK.out _ _ (HF0.out _ HP5.out) (fun hH => ?_)
      clear hK K
      try simp only [Act.put, List.setIfInBounds_toArray, List.set_cons_zero, List.set_cons_succ, List.getElem_toArray, List.getElem_cons_zero, List.getElem_cons_succ]
      have hHeld2 := hH
      first
        | (refine wpAnyH_take (i := 6) (v := ?_) rfl (by kernel_rfl) (by kernel_rfl) (by kernel_rfl) (fun _ _ _ h => h) (Or.inl ⟨?_, ?_⟩) (by assumption) ?_; rotate_left; (focus rfl); (focus (intro w hSw; go_split_ands; go_simp; try with_reducible rfl)); skip)
        | (refine wpAnyH_take (i := 6) (v := undef) rfl (by kernel_rfl) (by kernel_rfl) (by kernel_rfl) (fun _ _ _ h => h) (Or.inr ⟨?_, rfl⟩) (by assumption) ?_; (focus rfl))
      try simp only [Act.put, List.setIfInBounds_toArray, List.set_cons_zero, List.set_cons_succ, List.getElem_toArray, List.getElem_cons_zero, List.getElem_cons_succ]
      obtain ⟨kx5, fx5, zx5⟩ := HX5.out.facts
      refine wpAnyH_ready (rs := [8]) (by kernel_rfl) (by simp) ?_
      refine AllReadyH.cons rfl (fun K hK => ?_) AllReadyH.nil
      go_simp
      refine hK.out _ _ (HF0.out _ (below_set (below_set (below_set (below_set (HP5.out) (Nat.le_refl _)) (Nat.le_refl _)) (Nat.le_refl _)) (Nat.le_refl _))) (fun hH => ?_)
      clear hK K
      try simp only [Act.put, List.setIfInBounds_toArray, List.set_cons_zero, List.set_cons_succ, List.getElem_toArray, List.getElem_cons_zero, List.getElem_cons_succ]
      refine wpAnyH_done (by kernel_rfl) ?_ _
      go_wp2_with fail
      go_meet
      exact ⟨W.heap.size, A5, c5, rfl, Box.set4 (HX5.out) _ _ _ _, Own.set4x (HO5.out) (HX5.out) (by decide) _ _ _ _, (Nat.le_refl _), below_set (below_set (below_set (below_set (HP5.out) (Nat.le_refl _)) (Nat.le_refl _)) (Nat.le_refl _)) (Nat.le_refl _)⟩
  case rest =>
    obtain ⟨g, A5, c5, rfl, hbx, hown, hgW, hB⟩ := hcut
    obtain ⟨w5, hw5⟩ : ∃ x, x = wc := ⟨_, rfl⟩
    rw [← hw5] at hbx hown hB
    rw [← hw5]
    clear hw5 HF0
    have HX := Lib.hid hbx
    have HO := Lib.hid hown
    have HB := Lib.hid hB
    clear hbx hown hB
    by_cases hcut0 : 0 < cut
    · obtain ⟨hcA, hcB⟩ := hcl hcut0
      have HCV := Lib.hid (show cutV b l ⟨ix, cut, m1, m2⟩ = l.take (cut - b.idx - 1).toNat from if_pos hcut0)
      obtain ⟨j, hj⟩ : ∃ j : Nat, cut - b.idx - 1 = (j : Int) := ⟨(cut - b.idx - 1).toNat, by omega⟩
      rw [hj, Int.toNat_natCast] at HCV
      have hjl : j < l.length := by omega
      obtain ⟨q5, c6, e5, hq5, hq6, -⟩ := HO.out.place (by rintro rfl; simp at hjl)
      simp only [Value.slice.injEq] at e5
      obtain ⟨rfl, -, rfl⟩ := e5
      have HC := Lib.hid (HO.out.sl idRow_length)
      have HO6 := Lib.hid (show Own 3 idRow 26 W.heap.size w5 (.slice (some ⟨q5, 0, none⟩) j c5) (l.take j) from Own.begin_ idRow_length (r := l.drop j) (by rw [List.take_append_drop]; exact HO.out) (by rw [List.length_take]; omega))
      have hjc : l.length ≤ c5 := by obtain ⟨A9, c9, h9, h8, -⟩ := HC.out; simp only [Value.slice.injEq] at h9; omega
      have e1 : decide (0 < cut) = true := decide_eq_true hcut0
      have w1 : wrap64 (cut - b.idx) = cut - b.idx := by unfold wrap64; omega
      have w2 : wrap64 (cut - b.idx - 1) = (j : Int) := by unfold wrap64; omega
      have i0 : (0 : Int) ≤ (j : Int) := by omega
      have i1 : (j : Int) ≤ (c5 : Int) := by omega
      obtain ⟨kx, fx, zx⟩ := HX.out.facts
      obtain ⟨k0, f0, z0⟩ := (X0.out.below HB.out zl).facts
      obtain ⟨k1, f1, z1⟩ := (X1.out.below HB.out zl1).facts
      have HL0 := Lib.hid (show (l.take j).length = j by rw [List.length_take]; omega)
      clear hj HO hcl hcA hcB
      go_upto_region 4 with fail
      have HXq := Lib.hid (HX.out.set_ 3 (.slice (some ⟨q5, 0, none⟩) j c5))
      have HOq := Lib.hid (HO6.out.set1x HX.out (by decide) 3 (.slice (some ⟨q5, 0, none⟩) j c5))
      have HBq := Lib.hid (below_set (i := 3) (u := .slice (some ⟨q5, 0, none⟩) j c5) HB.out hgW)
      clear kx fx zx k0 f0 z0 k1 f1 z1 HX HB HC HO6 w1 w2 e1 i0 i1
      go_wp2_with fail
      go_loopw [6] (fun i wx => ∃ k : Nat, k ≤ m1.length ∧ i = .int .i64 k ∧ Box wx g #[.int .i64 b.idx, .int .i64 b.trm, .int .i64 b.knd, .slice (some ⟨q5, 0, none⟩) j c5] 29 ∧ Own 3 idRow 26 W.heap.size wx (.slice (some ⟨q5, 0, none⟩) j c5) (setsV b (l.take j) (m1.take k)) ∧ Below W.heap.size W wx) (fun i _ => m1.length - (intOf i).toNat)
      case atStart => exact ⟨0, by omega, rfl, HXq.out, HOq.out, HBq.out⟩
      case round =>
        clear HXq HOq HBq
        obtain ⟨k, hk, rfl, hbx, hown, hB⟩ := hrel
        have HXk := Lib.hid hbx
        have HOk := Lib.hid hown
        have HBk := Lib.hid hB
        have hzr := hB.size
        have hgr := hbx.lt
        have HM := Lib.hid (HM1.out.later (below_call BW.out (hB.mono (Nat.le_refl _))))
        obtain ⟨k1, f1, z1⟩ := (X1.out.below hB zl1).facts
        obtain ⟨k0, f0, z0⟩ := (X0.out.below hB zl).facts
        clear hbx hown hB
        by_cases hlt : k < m1.length
        · obtain ⟨b3, off, cap3, e3, hlc3, hcm3, hb3, hcell⟩ := HM.out.cellAt (by intro h; subst h; simp at hlt)
          have hb3w : b3 < w.heap.size := by
            obtain ⟨b9, off9, cap9, e9, -, -, h9, -⟩ := HM1.out.cellAt (by intro h; subst h; simp at hlt)
            simp only [Value.slice.injEq] at e3 e9
            have := e3.1.symm.trans e9.1
            simp only [Option.some.injEq, Addr.mk.injEq] at this
            omega
          simp only [Value.slice.injEq] at e3
          obtain ⟨rfl, -, rfl⟩ := e3
          obtain ⟨x, hx⟩ : ∃ x, m1[k]? = some x := ⟨_, List.getElem?_eq_getElem hlt⟩
          obtain ⟨hp1, hp2⟩ := HPL.out x (List.mem_of_getElem? hx)
          rw [HCV.out] at hp2
          obtain ⟨j3, hj3⟩ : ∃ j : Nat, x.idx - b.idx - 1 = (j : Int) := ⟨(x.idx - b.idx - 1).toNat, by omega⟩
          have hj3n : j3 < j := by have := HL0.out; omega
          have j0 : (0 : Int) ≤ (j3 : Int) := by omega
          have j1 : (j3 : Int) < (j : Int) := by omega
          have d0 : decide ((k : Int) < (m1.length : Int)) = true := decide_eq_true (by omega)
          have d0' : decide (k < m1.length) = true := decide_eq_true hlt
          have i0' : (0 : Int) ≤ (k : Int) := by omega
          have i1' : (k : Int) < (m1.length : Int) := by omega
          have w5 : IntKind.i64.wrap (x.idx - b.idx) = x.idx - b.idx := IntWalk.i64_in _ (by omega)
          have w6 : IntKind.i64.wrap (x.idx - b.idx - 1) = (j3 : Int) := (IntWalk.i64_in (x.idx - b.idx - 1) (by omega)).trans hj3
          obtain ⟨q3, c9, e9, hq3, hq3l, hfr⟩ := HOk.out.place (by intro h9; have h8 := congrArg List.length h9; rw [setsV_length, List.length_nil] at h8; have h7 := HL0.out; omega)
          simp only [Value.slice.injEq] at e9
          obtain ⟨e91, -, -⟩ := e9
          simp only [Option.some.injEq, Addr.mk.injEq, and_true] at e91
          subst e91
          have hne : q5 ≠ g := own_ne HOk.out HXk.out (by decide)
          have hk00 := hcell k x hx 0 _ rfl
          have hk01 := hcell k x hx 1 _ rfl
          have hk02 := hcell k x hx 2 _ rfl
          have hk03 := hcell k x hx 3 _ rfl
          have HF7 : Hid (∀ w', Below wr.heap.size wr w' → w'.cell? ⟨g, 3, none⟩ = some (.slice (some ⟨q5, 0, none⟩) j c5) ∧ w'.cell? ⟨g1, 3, none⟩ = some (.slice (some ⟨b3, off, none⟩) m1.length c1) ∧ w'.cell? ⟨g0, 0, none⟩ = some (.int .i64 b.idx) ∧ w'.cell? ⟨b3, off + k * 4, none⟩ = some (.int .i64 x.idx) ∧ w'.cell? ⟨b3, off + k * 4 + 1, none⟩ = some (.int .i64 x.trm) ∧ w'.cell? ⟨b3, off + k * 4 + 2, none⟩ = some (.int .i64 x.knd) ∧ w'.cell? ⟨b3, off + k * 4 + 3, none⟩ = some (.slice x.ba x.bd.length x.bc)) := fun w' p => ⟨cell_later p (HXk.out.cell 3), cell_later p (k1 3), cell_later p (k0 0), cell_later p hk00, cell_later p hk01, cell_later p hk02, cell_later p hk03⟩
          have HPK := Lib.hid hx
          have HJ3 := Lib.hid hj3
          clear hcell hx hk00 hk01 hk02 hk03 hj3 hp1 hp2
          go_upto_region 7 with fail
          refine wp_region_held_drew (S := fun w' => w'.cell? ⟨g, 3, none⟩ = some (.slice (some ⟨q5, 0, none⟩) j c5) ∧ w'.cell? ⟨g1, 3, none⟩ = some (.slice (some ⟨b3, off, none⟩) m1.length c1) ∧ w'.cell? ⟨g0, 0, none⟩ = some (.int .i64 b.idx) ∧ w'.cell? ⟨b3, off + k * 4, none⟩ = some (.int .i64 x.idx) ∧ w'.cell? ⟨b3, off + k * 4 + 1, none⟩ = some (.int .i64 x.trm) ∧ w'.cell? ⟨b3, off + k * 4 + 2, none⟩ = some (.int .i64 x.knd) ∧ w'.cell? ⟨b3, off + k * 4 + 3, none⟩ = some (.slice x.ba x.bd.length x.bc)) (by kernel_rfl) (HF7.out _ (Below.refl _ _).drew) (fun hHeld => ?_)
          first
            | (refine wpAnyH_take (i := 0) (v := ?_) rfl (by kernel_rfl) (by kernel_rfl) (by kernel_rfl) (fun _ _ _ h => h) (Or.inl ⟨?_, ?_⟩) (by assumption) ?_; rotate_left; (focus rfl); (focus (intro w hSw; go_split_ands; go_simp; try with_reducible rfl)); skip)
            | (refine wpAnyH_take (i := 0) (v := undef) rfl (by kernel_rfl) (by kernel_rfl) (by kernel_rfl) (fun _ _ _ h => h) (Or.inr ⟨?_, rfl⟩) (by assumption) ?_; (focus rfl))
          try simp only [Act.put, List.setIfInBounds_toArray, List.set_cons_zero, List.set_cons_succ, List.getElem_toArray, List.getElem_cons_zero, List.getElem_cons_succ]
          first
            | (refine wpAnyH_take (i := 1) (v := ?_) rfl (by kernel_rfl) (by kernel_rfl) (by kernel_rfl) (fun _ _ _ h => h) (Or.inl ⟨?_, ?_⟩) (by assumption) ?_; rotate_left; (focus rfl); (focus (intro w hSw; go_split_ands; go_simp; try with_reducible rfl)); skip)
            | (refine wpAnyH_take (i := 1) (v := undef) rfl (by kernel_rfl) (by kernel_rfl) (by kernel_rfl) (fun _ _ _ h => h) (Or.inr ⟨?_, rfl⟩) (by assumption) ?_; (focus rfl))
          try simp only [Act.put, List.setIfInBounds_toArray, List.set_cons_zero, List.set_cons_succ, List.getElem_toArray, List.getElem_cons_zero, List.getElem_cons_succ]
          first
            | (refine wpAnyH_take (i := 2) (v := ?_) rfl (by kernel_rfl) (by kernel_rfl) (by kernel_rfl) (fun _ _ _ h => h) (Or.inl ⟨?_, ?_⟩) (by assumption) ?_; rotate_left; (focus rfl); (focus (intro w hSw; go_split_ands; go_simp; try with_reducible rfl)); skip)
            | (refine wpAnyH_take (i := 2) (v := undef) rfl (by kernel_rfl) (by kernel_rfl) (by kernel_rfl) (fun _ _ _ h => h) (Or.inr ⟨?_, rfl⟩) (by assumption) ?_; (focus rfl))
          try simp only [Act.put, List.setIfInBounds_toArray, List.set_cons_zero, List.set_cons_succ, List.getElem_toArray, List.getElem_cons_zero, List.getElem_cons_succ]
          first
            | (refine wpAnyH_take (i := 3) (v := ?_) rfl (by kernel_rfl) (by kernel_rfl) (by kernel_rfl) (fun _ _ _ h => h) (Or.inl ⟨?_, ?_⟩) (by assumption) ?_; rotate_left; (focus rfl); (focus (intro w hSw; go_split_ands; go_simp; try with_reducible rfl)); skip)
            | (refine wpAnyH_take (i := 3) (v := undef) rfl (by kernel_rfl) (by kernel_rfl) (by kernel_rfl) (fun _ _ _ h => h) (Or.inr ⟨?_, rfl⟩) (by assumption) ?_; (focus rfl))
          try simp only [Act.put, List.setIfInBounds_toArray, List.set_cons_zero, List.set_cons_succ, List.getElem_toArray, List.getElem_cons_zero, List.getElem_cons_succ]
          first
            | (refine wpAnyH_take (i := 4) (v := ?_) rfl (by kernel_rfl) (by kernel_rfl) (by kernel_rfl) (fun _ _ _ h => h) (Or.inl ⟨?_, ?_⟩) (by assumption) ?_; rotate_left; (focus rfl); (focus (intro w hSw; go_split_ands; go_simp; try with_reducible rfl)); skip)
            | (refine wpAnyH_take (i := 4) (v := undef) rfl (by kernel_rfl) (by kernel_rfl) (by kernel_rfl) (fun _ _ _ h => h) (Or.inr ⟨?_, rfl⟩) (by assumption) ?_; (focus rfl))
          try simp only [Act.put, List.setIfInBounds_toArray, List.set_cons_zero, List.set_cons_succ, List.getElem_toArray, List.getElem_cons_zero, List.getElem_cons_succ]
          first
            | (refine wpAnyH_take (i := 5) (v := ?_) rfl (by kernel_rfl) (by kernel_rfl) (by kernel_rfl) (fun _ _ _ h => h) (Or.inl ⟨?_, ?_⟩) (by assumption) ?_; rotate_left; (focus rfl); (focus (intro w hSw; go_split_ands; go_simp; try with_reducible rfl)); skip)
            | (refine wpAnyH_take (i := 5) (v := undef) rfl (by kernel_rfl) (by kernel_rfl) (by kernel_rfl) (fun _ _ _ h => h) (Or.inr ⟨?_, rfl⟩) (by assumption) ?_; (focus rfl))
          try simp only [Act.put, List.setIfInBounds_toArray, List.set_cons_zero, List.set_cons_succ, List.getElem_toArray, List.getElem_cons_zero, List.getElem_cons_succ]
          first
            | (refine wpAnyH_take (i := 6) (v := ?_) rfl (by kernel_rfl) (by kernel_rfl) (by kernel_rfl) (fun _ _ _ h => h) (Or.inl ⟨?_, ?_⟩) (by assumption) ?_; rotate_left; (focus rfl); (focus (intro w hSw; go_split_ands; go_simp; try with_reducible rfl)); skip)
            | (refine wpAnyH_take (i := 6) (v := undef) rfl (by kernel_rfl) (by kernel_rfl) (by kernel_rfl) (fun _ _ _ h => h) (Or.inr ⟨?_, rfl⟩) (by assumption) ?_; (focus rfl))
          try simp only [Act.put, List.setIfInBounds_toArray, List.set_cons_zero, List.set_cons_succ, List.getElem_toArray, List.getElem_cons_zero, List.getElem_cons_succ]
          first
            | (refine wpAnyH_take (i := 7) (v := ?_) rfl (by kernel_rfl) (by kernel_rfl) (by kernel_rfl) (fun _ _ _ h => h) (Or.inl ⟨?_, ?_⟩) (by assumption) ?_; rotate_left; (focus rfl); (focus (intro w hSw; go_split_ands; go_simp; try with_reducible rfl)); skip)
            | (refine wpAnyH_take (i := 7) (v := undef) rfl (by kernel_rfl) (by kernel_rfl) (by kernel_rfl) (fun _ _ _ h => h) (Or.inr ⟨?_, rfl⟩) (by assumption) ?_; (focus rfl))
          try simp only [Act.put, List.setIfInBounds_toArray, List.set_cons_zero, List.set_cons_succ, List.getElem_toArray, List.getElem_cons_zero, List.getElem_cons_succ]
          first
            | (refine wpAnyH_take (i := 8) (v := ?_) rfl (by kernel_rfl) (by kernel_rfl) (by kernel_rfl) (fun _ _ _ h => h) (Or.inl ⟨?_, ?_⟩) (by assumption) ?_; rotate_left; (focus rfl); (focus (intro w hSw; go_split_ands; go_simp; try with_reducible rfl)); skip)
            | (refine wpAnyH_take (i := 8) (v := undef) rfl (by kernel_rfl) (by kernel_rfl) (by kernel_rfl) (fun _ _ _ h => h) (Or.inr ⟨?_, rfl⟩) (by assumption) ?_; (focus rfl))
          try simp only [Act.put, List.setIfInBounds_toArray, List.set_cons_zero, List.set_cons_succ, List.getElem_toArray, List.getElem_cons_zero, List.getElem_cons_succ]
          first
            | (refine wpAnyH_take (i := 9) (v := ?_) rfl (by kernel_rfl) (by kernel_rfl) (by kernel_rfl) (fun _ _ _ h => h) (Or.inl ⟨?_, ?_⟩) (by assumption) ?_; rotate_left; (focus rfl); (focus (intro w hSw; go_split_ands; go_simp; try with_reducible rfl)); skip)
            | (refine wpAnyH_take (i := 9) (v := undef) rfl (by kernel_rfl) (by kernel_rfl) (by kernel_rfl) (fun _ _ _ h => h) (Or.inr ⟨?_, rfl⟩) (by assumption) ?_; (focus rfl))
          try simp only [Act.put, List.setIfInBounds_toArray, List.set_cons_zero, List.set_cons_succ, List.getElem_toArray, List.getElem_cons_zero, List.getElem_cons_succ]
          first
            | (refine wpAnyH_take (i := 10) (v := ?_) rfl (by kernel_rfl) (by kernel_rfl) (by kernel_rfl) (fun _ _ _ h => h) (Or.inl ⟨?_, ?_⟩) (by assumption) ?_; rotate_left; (focus rfl); (focus (intro w hSw; go_split_ands; go_simp; try with_reducible rfl)); skip)
            | (refine wpAnyH_take (i := 10) (v := undef) rfl (by kernel_rfl) (by kernel_rfl) (by kernel_rfl) (fun _ _ _ h => h) (Or.inr ⟨?_, rfl⟩) (by assumption) ?_; (focus rfl))
          try simp only [Act.put, List.setIfInBounds_toArray, List.set_cons_zero, List.set_cons_succ, List.getElem_toArray, List.getElem_cons_zero, List.getElem_cons_succ]
          first
            | (refine wpAnyH_take (i := 11) (v := ?_) rfl (by kernel_rfl) (by kernel_rfl) (by kernel_rfl) (fun _ _ _ h => h) (Or.inl ⟨?_, ?_⟩) (by assumption) ?_; rotate_left; (focus rfl); (focus (intro w hSw; go_split_ands; go_simp; try with_reducible rfl)); skip)
            | (refine wpAnyH_take (i := 11) (v := undef) rfl (by kernel_rfl) (by kernel_rfl) (by kernel_rfl) (fun _ _ _ h => h) (Or.inr ⟨?_, rfl⟩) (by assumption) ?_; (focus rfl))
          try simp only [Act.put, List.setIfInBounds_toArray, List.set_cons_zero, List.set_cons_succ, List.getElem_toArray, List.getElem_cons_zero, List.getElem_cons_succ]
          first
            | (refine wpAnyH_take (i := 12) (v := ?_) rfl (by kernel_rfl) (by kernel_rfl) (by kernel_rfl) (fun _ _ _ h => h) (Or.inl ⟨?_, ?_⟩) (by assumption) ?_; rotate_left; (focus rfl); (focus (intro w hSw; go_split_ands; go_simp; try with_reducible rfl)); skip)
            | (refine wpAnyH_take (i := 12) (v := undef) rfl (by kernel_rfl) (by kernel_rfl) (by kernel_rfl) (fun _ _ _ h => h) (Or.inr ⟨?_, rfl⟩) (by assumption) ?_; (focus rfl))
          try simp only [Act.put, List.setIfInBounds_toArray, List.set_cons_zero, List.set_cons_succ, List.getElem_toArray, List.getElem_cons_zero, List.getElem_cons_succ]
          first
            | (refine wpAnyH_take (i := 13) (v := ?_) rfl (by kernel_rfl) (by kernel_rfl) (by kernel_rfl) (fun _ _ _ h => h) (Or.inl ⟨?_, ?_⟩) (by assumption) ?_; rotate_left; (focus rfl); (focus (intro w hSw; go_split_ands; go_simp; try with_reducible rfl)); skip)
            | (refine wpAnyH_take (i := 13) (v := undef) rfl (by kernel_rfl) (by kernel_rfl) (by kernel_rfl) (fun _ _ _ h => h) (Or.inr ⟨?_, rfl⟩) (by assumption) ?_; (focus rfl))
          try simp only [Act.put, List.setIfInBounds_toArray, List.set_cons_zero, List.set_cons_succ, List.getElem_toArray, List.getElem_cons_zero, List.getElem_cons_succ]
          first
            | (refine wpAnyH_take (i := 14) (v := ?_) rfl (by kernel_rfl) (by kernel_rfl) (by kernel_rfl) (fun _ _ _ h => h) (Or.inl ⟨?_, ?_⟩) (by assumption) ?_; rotate_left; (focus rfl); (focus (intro w hSw; go_split_ands; go_simp; try with_reducible rfl)); skip)
            | (refine wpAnyH_take (i := 14) (v := undef) rfl (by kernel_rfl) (by kernel_rfl) (by kernel_rfl) (fun _ _ _ h => h) (Or.inr ⟨?_, rfl⟩) (by assumption) ?_; (focus rfl))
          try simp only [Act.put, List.setIfInBounds_toArray, List.set_cons_zero, List.set_cons_succ, List.getElem_toArray, List.getElem_cons_zero, List.getElem_cons_succ]
          first
            | (refine wpAnyH_take (i := 15) (v := ?_) rfl (by kernel_rfl) (by kernel_rfl) (by kernel_rfl) (fun _ _ _ h => h) (Or.inl ⟨?_, ?_⟩) (by assumption) ?_; rotate_left; (focus rfl); (focus (intro w hSw; go_split_ands; go_simp; try with_reducible rfl)); skip)
            | (refine wpAnyH_take (i := 15) (v := undef) rfl (by kernel_rfl) (by kernel_rfl) (by kernel_rfl) (fun _ _ _ h => h) (Or.inr ⟨?_, rfl⟩) (by assumption) ?_; (focus rfl))
          try simp only [Act.put, List.setIfInBounds_toArray, List.set_cons_zero, List.set_cons_succ, List.getElem_toArray, List.getElem_cons_zero, List.getElem_cons_succ]
          first
            | (refine wpAnyH_take (i := 16) (v := ?_) rfl (by kernel_rfl) (by kernel_rfl) (by kernel_rfl) (fun _ _ _ h => h) (Or.inl ⟨?_, ?_⟩) (by assumption) ?_; rotate_left; (focus rfl); (focus (intro w hSw; go_split_ands; go_simp; try with_reducible rfl)); skip)
            | (refine wpAnyH_take (i := 16) (v := undef) rfl (by kernel_rfl) (by kernel_rfl) (by kernel_rfl) (fun _ _ _ h => h) (Or.inr ⟨?_, rfl⟩) (by assumption) ?_; (focus rfl))
          try simp only [Act.put, List.setIfInBounds_toArray, List.set_cons_zero, List.set_cons_succ, List.getElem_toArray, List.getElem_cons_zero, List.getElem_cons_succ]
          first
            | (refine wpAnyH_take (i := 17) (v := ?_) rfl (by kernel_rfl) (by kernel_rfl) (by kernel_rfl) (fun _ _ _ h => h) (Or.inl ⟨?_, ?_⟩) (by assumption) ?_; rotate_left; (focus rfl); (focus (intro w hSw; go_split_ands; go_simp; try with_reducible rfl)); skip)
            | (refine wpAnyH_take (i := 17) (v := undef) rfl (by kernel_rfl) (by kernel_rfl) (by kernel_rfl) (fun _ _ _ h => h) (Or.inr ⟨?_, rfl⟩) (by assumption) ?_; (focus rfl))
          try simp only [Act.put, List.setIfInBounds_toArray, List.set_cons_zero, List.set_cons_succ, List.getElem_toArray, List.getElem_cons_zero, List.getElem_cons_succ]
          refine wpAnyH_ready (rs := [18]) (by kernel_rfl) (by simp) ?_
          refine AllReadyH.cons rfl (fun K hK => ?_) AllReadyH.nil
          go_simp
          go_at_call 20
          refine (entOf x _).mono ?_
          rintro e w8 ⟨rfl, hb8⟩
          have P8 := Lib.hid (show Below wr.heap.size wr w8 from (Below.refl _ _).drew.trans (hb8.mono (Nat.le_refl _)))
          clear hb8
          refine hK.out _ _ (HF7.out _ P8.out) (fun hH => ?_)
          clear hK K
          try simp only [Act.put, List.setIfInBounds_toArray, List.set_cons_zero, List.set_cons_succ, List.getElem_toArray, List.getElem_cons_zero, List.getElem_cons_succ]
          have hHeld2 := hH
          first
            | (refine wpAnyH_take (i := 19) (v := ?_) rfl (by kernel_rfl) (by kernel_rfl) (by kernel_rfl) (fun _ _ _ h => h) (Or.inl ⟨?_, ?_⟩) (by assumption) ?_; rotate_left; (focus rfl); (focus (intro w hSw; go_split_ands; go_simp; try with_reducible rfl)); skip)
            | (refine wpAnyH_take (i := 19) (v := undef) rfl (by kernel_rfl) (by kernel_rfl) (by kernel_rfl) (fun _ _ _ h => h) (Or.inr ⟨?_, rfl⟩) (by assumption) ?_; (focus rfl))
          try simp only [Act.put, List.setIfInBounds_toArray, List.set_cons_zero, List.set_cons_succ, List.getElem_toArray, List.getElem_cons_zero, List.getElem_cons_succ]
          obtain ⟨q8, c8, e8, -, -, hfr8⟩ := (HOk.out.later P8.out).place (by intro h9; have h8 := congrArg List.length h9; rw [setsV_length, List.length_nil] at h8; have h7 := HL0.out; omega)
          simp only [Value.slice.injEq, Option.some.injEq, Addr.mk.injEq, and_true] at e8
          obtain ⟨rfl, -, -⟩ := e8
          obtain ⟨y0, hy0⟩ : ∃ y0, (setsV b (l.take j) (m1.take k))[j3]? = some y0 := ⟨_, List.getElem?_eq_getElem (by rw [setsV_length]; have := HL0.out; omega)⟩
          have hgq : g ≠ q5 := fun he => hne he.symm
          have hqm : W.heap.size ≤ q5 := hq5
          have HY0 := Lib.hid hy0
          clear hy0
          have hz8 : q5 < w8.heap.size := by have := P8.out.size; omega
          have HC := Lib.hid (HOk.out.later P8.out)
          obtain ⟨A10, cap10, e10, -, -, -, hA10⟩ := HC.out.sl idRow_length
          obtain ⟨b10, off10, e11, -, hcell10⟩ := hA10 (by intro h9; have h8 := congrArg List.length h9; rw [setsV_length, List.length_nil] at h8; have h7 := HL0.out; omega)
          have hy10 := hcell10 j3 y0 HY0.out 0 _ rfl
          have hy11 := hcell10 j3 y0 HY0.out 1 _ rfl
          have hy12 := hcell10 j3 y0 HY0.out 2 _ rfl
          simp only [Value.slice.injEq] at e10
          have e12 := e10.1.trans e11
          simp only [Option.some.injEq, Addr.mk.injEq, and_true] at e12
          obtain ⟨rfl, rfl⟩ := e12
          clear hcell10 hA10 e10 e11
          simp only [Nat.zero_add, Nat.add_zero] at hy10 hy11 hy12
          refine wpAnyH_ready (rs := [20]) (by kernel_rfl) (by simp) ?_
          refine AllReadyH.cons rfl (fun K hK => ?_) AllReadyH.nil
          go_simp
          have C8 := HF7.out _ P8.out
          refine hK.out _ _ ⟨(setCell3_far hgq).trans C8.1, (setCell3_far (show g1 ≠ q5 by omega)).trans C8.2.1, (setCell3_far (show g0 ≠ q5 by omega)).trans C8.2.2.1, (setCell3_far (show b3 ≠ q5 by omega)).trans C8.2.2.2.1, (setCell3_far (show b3 ≠ q5 by omega)).trans C8.2.2.2.2.1, (setCell3_far (show b3 ≠ q5 by omega)).trans C8.2.2.2.2.2.1, (setCell3_far (show b3 ≠ q5 by omega)).trans C8.2.2.2.2.2.2⟩ (fun hH => ?_)
          clear hK K C8
          try simp only [Act.put, List.setIfInBounds_toArray, List.set_cons_zero, List.set_cons_succ, List.getElem_toArray, List.getElem_cons_zero, List.getElem_cons_succ]
          refine wpAnyH_done (by kernel_rfl) ?_ _
          clear hfr hfr8 hy10 hy11 hy12
          have HX8 := Lib.hid (HXk.out.later P8.out)
          have HB8 := Lib.hid (HBk.out.trans (P8.out.mono hzr))
          have HW8 := Lib.hid (HC.out.writeId (y := ofE x) HY0.out)
          go_wp2_with fail
          go_roundw
          case rel =>
            refine ⟨k + 1, by omega, by go_num, ?_, ?_, ?_⟩
            · exact ((HX8.out.far (p := ⟨q5, j3 * 3, none⟩) hgq _).far (p := ⟨q5, j3 * 3 + 1, none⟩) hgq _).far (p := ⟨q5, j3 * 3 + 2, none⟩) hgq _
            · rw [setsV_take HPK.out, HJ3.out, Int.toNat_natCast]; exact HW8.out
            · exact below_set (below_set (below_set HB8.out hqm) hqm) hqm
          case measure => simp [intOf]; omega
        · have d0 : decide ((k : Int) < (m1.length : Int)) = false := decide_eq_false (by omega)
          have d0' : decide (k < m1.length) = false := decide_eq_false hlt
          have hkl : k = m1.length := by omega
          have HOa := Lib.hid (show Own 3 idRow 26 W.heap.size wr (.slice (some ⟨q5, 0, none⟩) j c5) (setsV b (l.take j) m1) from by have h := HOk.out; rw [hkl, List.take_length] at h; exact h)
          have HBV := Lib.hid (show behV b l ⟨ix, cut, m1, m2⟩ = setsV b (l.take j) m1 ++ m2.map ofE by show setsV b (cutV b l ⟨ix, cut, m1, m2⟩) m1 ++ _ = _; rw [HCV.out])
          have HLN := Lib.hid (show (setsV b (l.take j) m1).length = j from (setsV_length _ _ _).trans HL0.out)
          obtain ⟨L1, hL1⟩ : ∃ x, x = setsV b (l.take j) m1 := ⟨_, rfl⟩
          rw [← hL1] at HOa HBV HLN
          obtain ⟨n9, hn9⟩ : ∃ x, x = j := ⟨_, rfl⟩
          have hn9l : n9 ≤ 100000 := by omega
          rw [← hn9] at HOa HXk HLN
          clear hL1 HOk hn9
          obtain ⟨wv, hwv⟩ : ∃ x, x = wr := ⟨_, rfl⟩
          rw [← hwv] at HXk HOa HBk
          rw [← hwv] at k1
          rw [← hwv]
          clear hwv
          go_wp2_with fail
          subst hkl
          clear d0 d0' hlt hk f1 z1 k0 f0 z0 hzr hgr
          go_loopw [7] (fun i wx => ∃ (k : Nat) (A' : Option Addr) (c' : Nat), k ≤ m2.length ∧ i = .int .i64 k ∧ Box wx g #[.int .i64 b.idx, .int .i64 b.trm, .int .i64 b.knd, .slice A' (n9 + k) c'] 29 ∧ Own 3 idRow 26 W.heap.size wx (.slice A' (n9 + k) c') (L1 ++ (m2.take k).map ofE) ∧ Below W.heap.size W wx) (fun i _ => m2.length - (intOf i).toNat)
          case atStart => exact ⟨0, (some ⟨q5, 0, none⟩), c5, by omega, rfl, HXk.out, by simpa using HOa.out, HBk.out⟩
          case round =>
            clear HXk HOa HBk k1
            obtain ⟨k, A', c', hk, rfl, hbx, hown, hB⟩ := hrel
            have HXk := Lib.hid hbx
            have HOk := Lib.hid hown
            have HBk := Lib.hid hB
            have hzr := hB.size
            have hgr := hbx.lt
            have HM := Lib.hid (HM2.out.later (below_call BW.out (hB.mono (Nat.le_refl _))))
            obtain ⟨k1, f1, z1⟩ := (X1.out.below hB zl1).facts
            obtain ⟨kx, fx, zx⟩ := hbx.facts
            clear hbx hown hB
            by_cases hlt : k < m2.length
            · obtain ⟨b3, off, cap3, e3, hlc3, hcm3, hb3, hcell⟩ := HM.out.cellAt (by intro h; subst h; simp at hlt)
              have hb3w : b3 < w.heap.size := by
                obtain ⟨b9, off9, cap9, e9, -, -, h9, -⟩ := HM2.out.cellAt (by intro h; subst h; simp at hlt)
                simp only [Value.slice.injEq] at e3 e9
                have := e3.1.symm.trans e9.1
                simp only [Option.some.injEq, Addr.mk.injEq] at this
                omega
              simp only [Value.slice.injEq] at e3
              obtain ⟨rfl, -, rfl⟩ := e3
              obtain ⟨x, hx⟩ : ∃ x, m2[k]? = some x := ⟨_, List.getElem?_eq_getElem hlt⟩
              have d0 : decide ((k : Int) < (m2.length : Int)) = true := decide_eq_true (by omega)
              have d0' : decide (k < m2.length) = true := decide_eq_true hlt
              have i0' : (0 : Int) ≤ (k : Int) := by omega
              have i1' : (k : Int) < (m2.length : Int) := by omega
              have hk00 := hcell k x hx 0 _ rfl
              have hk01 := hcell k x hx 1 _ rfl
              have hk02 := hcell k x hx 2 _ rfl
              have hk03 := hcell k x hx 3 _ rfl
              have HF8 : Hid (∀ w', Below W.heap.size wr w' → w'.cell? ⟨g1, 4, none⟩ = some (.slice (some ⟨b3, off, none⟩) m2.length c2) ∧ w'.cell? ⟨b3, off + k * 4, none⟩ = some (.int .i64 x.idx) ∧ w'.cell? ⟨b3, off + k * 4 + 1, none⟩ = some (.int .i64 x.trm) ∧ w'.cell? ⟨b3, off + k * 4 + 2, none⟩ = some (.int .i64 x.knd) ∧ w'.cell? ⟨b3, off + k * 4 + 3, none⟩ = some (.slice x.ba x.bd.length x.bc)) := fun w' p => ⟨(p.cell (p := ⟨g1, 4, none⟩) zl1).trans (k1 4), (p.cell (p := ⟨b3, off + k * 4, none⟩) (show b3 < W.heap.size by omega)).trans hk00, (p.cell (p := ⟨b3, off + k * 4 + 1, none⟩) (show b3 < W.heap.size by omega)).trans hk01, (p.cell (p := ⟨b3, off + k * 4 + 2, none⟩) (show b3 < W.heap.size by omega)).trans hk02, (p.cell (p := ⟨b3, off + k * 4 + 3, none⟩) (show b3 < W.heap.size by omega)).trans hk03⟩
              have HPK := Lib.hid hx
              clear hcell hx hk00 hk01 hk02 hk03
              go_upto_region 11 with fail
              refine wp_region_held_drew (S := fun w' => w'.cell? ⟨g1, 4, none⟩ = some (.slice (some ⟨b3, off, none⟩) m2.length c2) ∧ w'.cell? ⟨b3, off + k * 4, none⟩ = some (.int .i64 x.idx) ∧ w'.cell? ⟨b3, off + k * 4 + 1, none⟩ = some (.int .i64 x.trm) ∧ w'.cell? ⟨b3, off + k * 4 + 2, none⟩ = some (.int .i64 x.knd) ∧ w'.cell? ⟨b3, off + k * 4 + 3, none⟩ = some (.slice x.ba x.bd.length x.bc)) (by kernel_rfl) (HF8.out _ (Below.refl _ _).drew) (fun hHeld => ?_)
              first
                | (refine wpAnyH_take (i := 0) (v := ?_) rfl (by kernel_rfl) (by kernel_rfl) (by kernel_rfl) (fun _ _ _ h => h) (Or.inl ⟨?_, ?_⟩) (by assumption) ?_; rotate_left; (focus rfl); (focus (intro w hSw; go_split_ands; go_simp; try with_reducible rfl)); skip)
                | (refine wpAnyH_take (i := 0) (v := undef) rfl (by kernel_rfl) (by kernel_rfl) (by kernel_rfl) (fun _ _ _ h => h) (Or.inr ⟨?_, rfl⟩) (by assumption) ?_; (focus rfl))
              try simp only [Act.put, List.setIfInBounds_toArray, List.set_cons_zero, List.set_cons_succ, List.getElem_toArray, List.getElem_cons_zero, List.getElem_cons_succ]
              first
                | (refine wpAnyH_take (i := 2) (v := ?_) rfl (by kernel_rfl) (by kernel_rfl) (by kernel_rfl) (fun _ _ _ h => h) (Or.inl ⟨?_, ?_⟩) (by assumption) ?_; rotate_left; (focus rfl); (focus (intro w hSw; go_split_ands; go_simp; try with_reducible rfl)); skip)
                | (refine wpAnyH_take (i := 2) (v := undef) rfl (by kernel_rfl) (by kernel_rfl) (by kernel_rfl) (fun _ _ _ h => h) (Or.inr ⟨?_, rfl⟩) (by assumption) ?_; (focus rfl))
              try simp only [Act.put, List.setIfInBounds_toArray, List.set_cons_zero, List.set_cons_succ, List.getElem_toArray, List.getElem_cons_zero, List.getElem_cons_succ]
              first
                | (refine wpAnyH_take (i := 3) (v := ?_) rfl (by kernel_rfl) (by kernel_rfl) (by kernel_rfl) (fun _ _ _ h => h) (Or.inl ⟨?_, ?_⟩) (by assumption) ?_; rotate_left; (focus rfl); (focus (intro w hSw; go_split_ands; go_simp; try with_reducible rfl)); skip)
                | (refine wpAnyH_take (i := 3) (v := undef) rfl (by kernel_rfl) (by kernel_rfl) (by kernel_rfl) (fun _ _ _ h => h) (Or.inr ⟨?_, rfl⟩) (by assumption) ?_; (focus rfl))
              try simp only [Act.put, List.setIfInBounds_toArray, List.set_cons_zero, List.set_cons_succ, List.getElem_toArray, List.getElem_cons_zero, List.getElem_cons_succ]
              first
                | (refine wpAnyH_take (i := 4) (v := ?_) rfl (by kernel_rfl) (by kernel_rfl) (by kernel_rfl) (fun _ _ _ h => h) (Or.inl ⟨?_, ?_⟩) (by assumption) ?_; rotate_left; (focus rfl); (focus (intro w hSw; go_split_ands; go_simp; try with_reducible rfl)); skip)
                | (refine wpAnyH_take (i := 4) (v := undef) rfl (by kernel_rfl) (by kernel_rfl) (by kernel_rfl) (fun _ _ _ h => h) (Or.inr ⟨?_, rfl⟩) (by assumption) ?_; (focus rfl))
              try simp only [Act.put, List.setIfInBounds_toArray, List.set_cons_zero, List.set_cons_succ, List.getElem_toArray, List.getElem_cons_zero, List.getElem_cons_succ]
              first
                | (refine wpAnyH_take (i := 5) (v := ?_) rfl (by kernel_rfl) (by kernel_rfl) (by kernel_rfl) (fun _ _ _ h => h) (Or.inl ⟨?_, ?_⟩) (by assumption) ?_; rotate_left; (focus rfl); (focus (intro w hSw; go_split_ands; go_simp; try with_reducible rfl)); skip)
                | (refine wpAnyH_take (i := 5) (v := undef) rfl (by kernel_rfl) (by kernel_rfl) (by kernel_rfl) (fun _ _ _ h => h) (Or.inr ⟨?_, rfl⟩) (by assumption) ?_; (focus rfl))
              try simp only [Act.put, List.setIfInBounds_toArray, List.set_cons_zero, List.set_cons_succ, List.getElem_toArray, List.getElem_cons_zero, List.getElem_cons_succ]
              first
                | (refine wpAnyH_take (i := 6) (v := ?_) rfl (by kernel_rfl) (by kernel_rfl) (by kernel_rfl) (fun _ _ _ h => h) (Or.inl ⟨?_, ?_⟩) (by assumption) ?_; rotate_left; (focus rfl); (focus (intro w hSw; go_split_ands; go_simp; try with_reducible rfl)); skip)
                | (refine wpAnyH_take (i := 6) (v := undef) rfl (by kernel_rfl) (by kernel_rfl) (by kernel_rfl) (fun _ _ _ h => h) (Or.inr ⟨?_, rfl⟩) (by assumption) ?_; (focus rfl))
              try simp only [Act.put, List.setIfInBounds_toArray, List.set_cons_zero, List.set_cons_succ, List.getElem_toArray, List.getElem_cons_zero, List.getElem_cons_succ]
              refine wpAnyH_ready (rs := [1, 7]) (by kernel_rfl) (by simp) ?_
              refine AllReadyH.cons rfl (fun K hK => ?_) (AllReadyH.cons rfl (fun K hK => ?_) AllReadyH.nil)
              · go_simp
                refine hK.out _ _ (HF8.out _ ((Below.refl _ _).drew)) (fun hH => ?_)
                clear hK K
                try simp only [Act.put, List.setIfInBounds_toArray, List.set_cons_zero, List.set_cons_succ, List.getElem_toArray, List.getElem_cons_zero, List.getElem_cons_succ]
                refine wpAnyH_ready (rs := [7]) (by kernel_rfl) (by simp) ?_
                refine AllReadyH.cons rfl (fun K hK => ?_) AllReadyH.nil
                go_simp
                go_at_call 20
                refine (entOf x _).mono ?_
                rintro e w8 ⟨rfl, hb8⟩
                have P8 := Lib.hid (show Below wr.heap.size wr w8 from (Below.refl _ _).drew.trans (hb8.mono (Nat.le_refl _)))
                have P9 := Lib.hid (show Below W.heap.size wr (w8.alloc (.cells #[.int .i64 x.idx, .int .i64 x.trm, .int .i64 x.knd] 26)) from (P8.out.mono hzr).alloc (Nat.le_trans hzr P8.out.size) _)
                have HX8 := Lib.hid (HXk.out.later P8.out)
                obtain ⟨ky, fy, zy⟩ := HX8.out.facts
                clear hb8
                refine hK.out _ _ (HF8.out _ (P8.out.mono hzr)) (fun hH => ?_)
                clear hK K
                try simp only [Act.put, List.setIfInBounds_toArray, List.set_cons_zero, List.set_cons_succ, List.getElem_toArray, List.getElem_cons_zero, List.getElem_cons_succ]
                have HOO := Lib.hid (show Own 3 idRow 26 W.heap.size (w8.alloc (.cells #[.int .i64 x.idx, .int .i64 x.trm, .int .i64 x.knd] 26)) (.slice A' (n9 + k) c') (L1 ++ (m2.take k).map ofE) from (HOk.out.later P8.out).alloc _)
                have HBX9 := Lib.hid (show Box (w8.alloc (.cells #[.int .i64 x.idx, .int .i64 x.trm, .int .i64 x.knd] 26)) w8.heap.size #[.int .i64 x.idx, .int .i64 x.trm, .int .i64 x.knd] 26 from Box.new _ _ _)
                have HXA := Lib.hid (show Box (w8.alloc (.cells #[.int .i64 x.idx, .int .i64 x.trm, .int .i64 x.knd] 26)) g #[.int .i64 b.idx, .int .i64 b.trm, .int .i64 b.knd, .slice A' (n9 + k) c'] 29 from HX8.out.alloc _)
                have HLE := Lib.hid (show (L1 ++ (m2.take k).map ofE).length = n9 + k by rw [List.length_append, HLN.out, List.length_map, List.length_take, Nat.min_eq_left hk])
                have HLL := Lib.hid (show (L1 ++ (m2.take k).map ofE).length + 1 ≤ 4294967296 by have := HLE.out; omega)
                have HSS := Lib.hid (show W.heap.size ≤ (w8.alloc (.cells #[.int .i64 x.idx, .int .i64 x.trm, .int .i64 x.knd] 26)).heap.size from Nat.le_trans hzr P9.out.size)
                refine wpAnyH_ready (rs := [8]) (by kernel_rfl) (by simp) ?_
                refine AllReadyH.cons rfl (fun K hK => ?_) AllReadyH.nil
                go_simp
                refine hK.out _ _ (HF8.out _ P9.out) (fun hH => ?_)
                clear hK K
                try simp only [Act.put, List.setIfInBounds_toArray, List.set_cons_zero, List.set_cons_succ, List.getElem_toArray, List.getElem_cons_zero, List.getElem_cons_succ]
                refine wpAnyH_ready (rs := [9]) (by kernel_rfl) (by simp) ?_
                refine AllReadyH.cons rfl (fun K hK => ?_) AllReadyH.nil
                refine step_append_keep rfl (.tmp 64) (.tmp 71) 27 rfl W.heap.size 26 _ 3 24 Tryd.underlying27 identInfo rfl (Nat.succ_pos 2) idRow idRow_length idRow_one (L1 ++ (m2.take k).map ofE) _ rfl HOO.out (ofE x) #[.int .i64 x.idx, .int .i64 x.trm, .int .i64 x.knd] rfl 26 _ rfl HBX9.out HLL.out (by omega) HSS.out ?_
                intro g7 c7 w7 p1 p2 p3 p4
                have HX7 := Lib.hid (show Box w7 g #[.int .i64 b.idx, .int .i64 b.trm, .int .i64 b.knd, .slice A' (n9 + k) c'] 29 from (p4 g HXA.out.lt (fun he => HOO.out.spot_ne HXA.out (by decide) g he.symm rfl)).trans HXA.out)
                have hle : ((L1 ++ (m2.take k).map ofE) ++ [ofE x]).length = n9 + (k + 1) := by rw [List.length_append, HLE.out]; rfl
                rw [hle] at p1
                rw [hle]
                have HO7 := Lib.hid p1
                have HB7 := Lib.hid (P9.out.trans p2)
                obtain ⟨kz, fz, zz⟩ := HX7.out.facts
                clear p1 p2 p3 p4 hle ky fy zy kx fx zx
                refine hK.out _ _ (HF8.out _ HB7.out) (fun hH => ?_)
                clear hK K
                try simp only [Act.put, List.setIfInBounds_toArray, List.set_cons_zero, List.set_cons_succ, List.getElem_toArray, List.getElem_cons_zero, List.getElem_cons_succ]
                have hHeld2 := hH
                first
                  | (refine wpAnyH_take (i := 10) (v := ?_) rfl (by kernel_rfl) (by kernel_rfl) (by kernel_rfl) (fun _ _ _ h => h) (Or.inl ⟨?_, ?_⟩) (by assumption) ?_; rotate_left; (focus rfl); (focus (intro w hSw; go_split_ands; go_simp; try with_reducible rfl)); skip)
                  | (refine wpAnyH_take (i := 10) (v := undef) rfl (by kernel_rfl) (by kernel_rfl) (by kernel_rfl) (fun _ _ _ h => h) (Or.inr ⟨?_, rfl⟩) (by assumption) ?_; (focus rfl))
                try simp only [Act.put, List.setIfInBounds_toArray, List.set_cons_zero, List.set_cons_succ, List.getElem_toArray, List.getElem_cons_zero, List.getElem_cons_succ]
                refine wpAnyH_ready (rs := [11]) (by kernel_rfl) (by simp) ?_
                refine AllReadyH.cons rfl (fun K hK => ?_) AllReadyH.nil
                go_simp
                refine hK.out _ _ (HF8.out _ (below_set HB7.out hgW)) (fun hH => ?_)
                clear hK K
                try simp only [Act.put, List.setIfInBounds_toArray, List.set_cons_zero, List.set_cons_succ, List.getElem_toArray, List.getElem_cons_zero, List.getElem_cons_succ]
                refine wpAnyH_done (by kernel_rfl) ?_ _
                clear kz fz zz k1 f1 z1
                go_wp2_with fail
                go_roundw
                case rel =>
                  have e9 : L1 ++ (m2.take (k + 1)).map ofE = (L1 ++ (m2.take k).map ofE) ++ [ofE x] := by rw [take_at HPK.out, List.map_append, List.append_assoc]; rfl
                  refine ⟨k + 1, some ⟨g7, 0, none⟩, c7, by omega, by go_num, ?_, ?_, ?_⟩
                  · exact HX7.out.set_ 3 (.slice (some ⟨g7, 0, none⟩) (n9 + (k + 1)) c7)
                  · rw [e9]; exact HO7.out.set1x HX7.out (by decide) 3 _
                  · exact below_set (HBk.out.trans HB7.out) hgW
                case measure => simp [intOf]; omega
              · go_simp
                go_at_call 20
                refine (entOf x _).mono ?_
                rintro e w8 ⟨rfl, hb8⟩
                have P8 := Lib.hid (show Below wr.heap.size wr w8 from (Below.refl _ _).drew.trans (hb8.mono (Nat.le_refl _)))
                have P9 := Lib.hid (show Below W.heap.size wr (w8.alloc (.cells #[.int .i64 x.idx, .int .i64 x.trm, .int .i64 x.knd] 26)) from (P8.out.mono hzr).alloc (Nat.le_trans hzr P8.out.size) _)
                have HX8 := Lib.hid (HXk.out.later P8.out)
                obtain ⟨ky, fy, zy⟩ := HX8.out.facts
                clear hb8
                refine hK.out _ _ (HF8.out _ (P8.out.mono hzr)) (fun hH => ?_)
                clear hK K
                try simp only [Act.put, List.setIfInBounds_toArray, List.set_cons_zero, List.set_cons_succ, List.getElem_toArray, List.getElem_cons_zero, List.getElem_cons_succ]
                have HOO := Lib.hid (show Own 3 idRow 26 W.heap.size (w8.alloc (.cells #[.int .i64 x.idx, .int .i64 x.trm, .int .i64 x.knd] 26)) (.slice A' (n9 + k) c') (L1 ++ (m2.take k).map ofE) from (HOk.out.later P8.out).alloc _)
                have HBX9 := Lib.hid (show Box (w8.alloc (.cells #[.int .i64 x.idx, .int .i64 x.trm, .int .i64 x.knd] 26)) w8.heap.size #[.int .i64 x.idx, .int .i64 x.trm, .int .i64 x.knd] 26 from Box.new _ _ _)
                have HXA := Lib.hid (show Box (w8.alloc (.cells #[.int .i64 x.idx, .int .i64 x.trm, .int .i64 x.knd] 26)) g #[.int .i64 b.idx, .int .i64 b.trm, .int .i64 b.knd, .slice A' (n9 + k) c'] 29 from HX8.out.alloc _)
                have HLE := Lib.hid (show (L1 ++ (m2.take k).map ofE).length = n9 + k by rw [List.length_append, HLN.out, List.length_map, List.length_take, Nat.min_eq_left hk])
                have HLL := Lib.hid (show (L1 ++ (m2.take k).map ofE).length + 1 ≤ 4294967296 by have := HLE.out; omega)
                have HSS := Lib.hid (show W.heap.size ≤ (w8.alloc (.cells #[.int .i64 x.idx, .int .i64 x.trm, .int .i64 x.knd] 26)).heap.size from Nat.le_trans hzr P9.out.size)
                refine wpAnyH_ready (rs := [1, 8]) (by kernel_rfl) (by simp) ?_
                refine AllReadyH.cons rfl (fun K hK => ?_) (AllReadyH.cons rfl (fun K hK => ?_) AllReadyH.nil)
                · go_simp
                  refine hK.out _ _ (HF8.out _ ((P8.out.mono hzr))) (fun hH => ?_)
                  clear hK K
                  try simp only [Act.put, List.setIfInBounds_toArray, List.set_cons_zero, List.set_cons_succ, List.getElem_toArray, List.getElem_cons_zero, List.getElem_cons_succ]
                  refine wpAnyH_ready (rs := [8]) (by kernel_rfl) (by simp) ?_
                  refine AllReadyH.cons rfl (fun K hK => ?_) AllReadyH.nil
                  go_simp
                  refine hK.out _ _ (HF8.out _ P9.out) (fun hH => ?_)
                  clear hK K
                  try simp only [Act.put, List.setIfInBounds_toArray, List.set_cons_zero, List.set_cons_succ, List.getElem_toArray, List.getElem_cons_zero, List.getElem_cons_succ]
                  refine wpAnyH_ready (rs := [9]) (by kernel_rfl) (by simp) ?_
                  refine AllReadyH.cons rfl (fun K hK => ?_) AllReadyH.nil
                  refine step_append_keep rfl (.tmp 64) (.tmp 71) 27 rfl W.heap.size 26 _ 3 24 Tryd.underlying27 identInfo rfl (Nat.succ_pos 2) idRow idRow_length idRow_one (L1 ++ (m2.take k).map ofE) _ rfl HOO.out (ofE x) #[.int .i64 x.idx, .int .i64 x.trm, .int .i64 x.knd] rfl 26 _ rfl HBX9.out HLL.out (by omega) HSS.out ?_
                  intro g7 c7 w7 p1 p2 p3 p4
                  have HX7 := Lib.hid (show Box w7 g #[.int .i64 b.idx, .int .i64 b.trm, .int .i64 b.knd, .slice A' (n9 + k) c'] 29 from (p4 g HXA.out.lt (fun he => HOO.out.spot_ne HXA.out (by decide) g he.symm rfl)).trans HXA.out)
                  have hle : ((L1 ++ (m2.take k).map ofE) ++ [ofE x]).length = n9 + (k + 1) := by rw [List.length_append, HLE.out]; rfl
                  rw [hle] at p1
                  rw [hle]
                  have HO7 := Lib.hid p1
                  have HB7 := Lib.hid (P9.out.trans p2)
                  obtain ⟨kz, fz, zz⟩ := HX7.out.facts
                  clear p1 p2 p3 p4 hle ky fy zy kx fx zx
                  refine hK.out _ _ (HF8.out _ HB7.out) (fun hH => ?_)
                  clear hK K
                  try simp only [Act.put, List.setIfInBounds_toArray, List.set_cons_zero, List.set_cons_succ, List.getElem_toArray, List.getElem_cons_zero, List.getElem_cons_succ]
                  have hHeld2 := hH
                  first
                    | (refine wpAnyH_take (i := 10) (v := ?_) rfl (by kernel_rfl) (by kernel_rfl) (by kernel_rfl) (fun _ _ _ h => h) (Or.inl ⟨?_, ?_⟩) (by assumption) ?_; rotate_left; (focus rfl); (focus (intro w hSw; go_split_ands; go_simp; try with_reducible rfl)); skip)
                    | (refine wpAnyH_take (i := 10) (v := undef) rfl (by kernel_rfl) (by kernel_rfl) (by kernel_rfl) (fun _ _ _ h => h) (Or.inr ⟨?_, rfl⟩) (by assumption) ?_; (focus rfl))
                  try simp only [Act.put, List.setIfInBounds_toArray, List.set_cons_zero, List.set_cons_succ, List.getElem_toArray, List.getElem_cons_zero, List.getElem_cons_succ]
                  refine wpAnyH_ready (rs := [11]) (by kernel_rfl) (by simp) ?_
                  refine AllReadyH.cons rfl (fun K hK => ?_) AllReadyH.nil
                  go_simp
                  refine hK.out _ _ (HF8.out _ (below_set HB7.out hgW)) (fun hH => ?_)
                  clear hK K
                  try simp only [Act.put, List.setIfInBounds_toArray, List.set_cons_zero, List.set_cons_succ, List.getElem_toArray, List.getElem_cons_zero, List.getElem_cons_succ]
                  refine wpAnyH_done (by kernel_rfl) ?_ _
                  clear kz fz zz k1 f1 z1
                  go_wp2_with fail
                  go_roundw
                  case rel =>
                    have e9 : L1 ++ (m2.take (k + 1)).map ofE = (L1 ++ (m2.take k).map ofE) ++ [ofE x] := by rw [take_at HPK.out, List.map_append, List.append_assoc]; rfl
                    refine ⟨k + 1, some ⟨g7, 0, none⟩, c7, by omega, by go_num, ?_, ?_, ?_⟩
                    · exact HX7.out.set_ 3 (.slice (some ⟨g7, 0, none⟩) (n9 + (k + 1)) c7)
                    · rw [e9]; exact HO7.out.set1x HX7.out (by decide) 3 _
                    · exact below_set (HBk.out.trans HB7.out) hgW
                  case measure => simp [intOf]; omega
                · go_simp
                  refine hK.out _ _ (HF8.out _ P9.out) (fun hH => ?_)
                  clear hK K
                  try simp only [Act.put, List.setIfInBounds_toArray, List.set_cons_zero, List.set_cons_succ, List.getElem_toArray, List.getElem_cons_zero, List.getElem_cons_succ]
                  refine wpAnyH_ready (rs := [1]) (by kernel_rfl) (by simp) ?_
                  refine AllReadyH.cons rfl (fun K hK => ?_) AllReadyH.nil
                  go_simp
                  refine hK.out _ _ (HF8.out _ (P9.out)) (fun hH => ?_)
                  clear hK K
                  try simp only [Act.put, List.setIfInBounds_toArray, List.set_cons_zero, List.set_cons_succ, List.getElem_toArray, List.getElem_cons_zero, List.getElem_cons_succ]
                  refine wpAnyH_ready (rs := [9]) (by kernel_rfl) (by simp) ?_
                  refine AllReadyH.cons rfl (fun K hK => ?_) AllReadyH.nil
                  refine step_append_keep rfl (.tmp 64) (.tmp 71) 27 rfl W.heap.size 26 _ 3 24 Tryd.underlying27 identInfo rfl (Nat.succ_pos 2) idRow idRow_length idRow_one (L1 ++ (m2.take k).map ofE) _ rfl HOO.out (ofE x) #[.int .i64 x.idx, .int .i64 x.trm, .int .i64 x.knd] rfl 26 _ rfl HBX9.out HLL.out (by omega) HSS.out ?_
                  intro g7 c7 w7 p1 p2 p3 p4
                  have HX7 := Lib.hid (show Box w7 g #[.int .i64 b.idx, .int .i64 b.trm, .int .i64 b.knd, .slice A' (n9 + k) c'] 29 from (p4 g HXA.out.lt (fun he => HOO.out.spot_ne HXA.out (by decide) g he.symm rfl)).trans HXA.out)
                  have hle : ((L1 ++ (m2.take k).map ofE) ++ [ofE x]).length = n9 + (k + 1) := by rw [List.length_append, HLE.out]; rfl
                  rw [hle] at p1
                  rw [hle]
                  have HO7 := Lib.hid p1
                  have HB7 := Lib.hid (P9.out.trans p2)
                  obtain ⟨kz, fz, zz⟩ := HX7.out.facts
                  clear p1 p2 p3 p4 hle ky fy zy kx fx zx
                  refine hK.out _ _ (HF8.out _ HB7.out) (fun hH => ?_)
                  clear hK K
                  try simp only [Act.put, List.setIfInBounds_toArray, List.set_cons_zero, List.set_cons_succ, List.getElem_toArray, List.getElem_cons_zero, List.getElem_cons_succ]
                  have hHeld2 := hH
                  first
                    | (refine wpAnyH_take (i := 10) (v := ?_) rfl (by kernel_rfl) (by kernel_rfl) (by kernel_rfl) (fun _ _ _ h => h) (Or.inl ⟨?_, ?_⟩) (by assumption) ?_; rotate_left; (focus rfl); (focus (intro w hSw; go_split_ands; go_simp; try with_reducible rfl)); skip)
                    | (refine wpAnyH_take (i := 10) (v := undef) rfl (by kernel_rfl) (by kernel_rfl) (by kernel_rfl) (fun _ _ _ h => h) (Or.inr ⟨?_, rfl⟩) (by assumption) ?_; (focus rfl))
                  try simp only [Act.put, List.setIfInBounds_toArray, List.set_cons_zero, List.set_cons_succ, List.getElem_toArray, List.getElem_cons_zero, List.getElem_cons_succ]
                  refine wpAnyH_ready (rs := [11]) (by kernel_rfl) (by simp) ?_
                  refine AllReadyH.cons rfl (fun K hK => ?_) AllReadyH.nil
                  go_simp
                  refine hK.out _ _ (HF8.out _ (below_set HB7.out hgW)) (fun hH => ?_)
                  clear hK K
                  try simp only [Act.put, List.setIfInBounds_toArray, List.set_cons_zero, List.set_cons_succ, List.getElem_toArray, List.getElem_cons_zero, List.getElem_cons_succ]
                  refine wpAnyH_done (by kernel_rfl) ?_ _
                  clear kz fz zz k1 f1 z1
                  go_wp2_with fail
                  go_roundw
                  case rel =>
                    have e9 : L1 ++ (m2.take (k + 1)).map ofE = (L1 ++ (m2.take k).map ofE) ++ [ofE x] := by rw [take_at HPK.out, List.map_append, List.append_assoc]; rfl
                    refine ⟨k + 1, some ⟨g7, 0, none⟩, c7, by omega, by go_num, ?_, ?_, ?_⟩
                    · exact HX7.out.set_ 3 (.slice (some ⟨g7, 0, none⟩) (n9 + (k + 1)) c7)
                    · rw [e9]; exact HO7.out.set1x HX7.out (by decide) 3 _
                    · exact below_set (HBk.out.trans HB7.out) hgW
                  case measure => simp [intOf]; omega
            · have d0 : decide ((k : Int) < (m2.length : Int)) = false := decide_eq_false (by omega)
              have d0' : decide (k < m2.length) = false := decide_eq_false hlt
              have hkl : k = m2.length := by omega
              have HBL := Lib.hid (show (behV b l ⟨ix, cut, m1, m2⟩).length = n9 + k by rw [HBV.out, List.length_append, HLN.out, List.length_map, hkl])
              have HOf := Lib.hid (show Own 3 idRow 26 W.heap.size wr (.slice A' (n9 + k) c') (behV b l ⟨ix, cut, m1, m2⟩) from by have h := HOk.out; rw [hkl, List.take_length] at h; rw [HBV.out, hkl]; exact h)
              obtain ⟨kr, fr, zr⟩ := (X2.out.below HBk.out zl2).facts
              have HR := Lib.hid (X2.out.below HBk.out zl2)
              have hgw2 : w.heap.size ≤ g2 := by omega
              clear hkl HOk
              go_wp2_with fail
              refine bodyPost_with (fun V => Box V g2 #[.int .i64 b.idx, .int .i64 b.trm, .int .i64 b.knd, .slice A' (n9 + k) c'] 29 ∧ Own 3 idRow 26 W.heap.size V (.slice A' (n9 + k) c') (behV b l ⟨ix, cut, m1, m2⟩) ∧ Below w.heap.size w V) ⟨HR.out.set4 _ _ _ _, (((HOf.out.set_below zl2).set_below zl2).set_below zl2).set_below zl2, below_set (below_set (below_set (below_set (BW.out.trans (HBk.out.mono zw)) hgw2) hgw2) hgw2) hgw2⟩ ?_
              rintro wz ⟨hz1, hz2, hz3⟩
              obtain ⟨kz, -, -⟩ := hz1.facts
              rw [HBL.out]
              exact bodyPost_ret (v := .agg #[.int .i64 b.idx, .int .i64 b.trm, .int .i64 b.knd, .slice A' (n9 + k) c']) (by simp [results, Tryd.results13, go_sem, kz]) rfl ⟨A', c', rfl, hz2.less zw, hz3⟩
    · have HCV := Lib.hid (show cutV b l ⟨ix, cut, m1, m2⟩ = l from if_neg hcut0)
      have e1 : decide (0 < cut) = false := decide_eq_false hcut0
      obtain ⟨kx, fx, zx⟩ := HX.out.facts
      obtain ⟨k1, f1, z1⟩ := (X1.out.below HB.out zl1).facts
      have HL0 := Lib.hid (show l.length = l.length from rfl)
      have HXq := Lib.hid HX.out
      have HOq := Lib.hid HO.out
      have HBq := Lib.hid HB.out
      go_upto_region 4 with fail
      clear kx fx zx k1 f1 z1 HX HB HO e1
      go_wp2_with fail
      go_loopw [6] (fun i wx => ∃ k : Nat, k ≤ m1.length ∧ i = .int .i64 k ∧ Box wx g #[.int .i64 b.idx, .int .i64 b.trm, .int .i64 b.knd, .slice A5 l.length c5] 29 ∧ Own 3 idRow 26 W.heap.size wx (.slice A5 l.length c5) (setsV b l (m1.take k)) ∧ Below W.heap.size W wx) (fun i _ => m1.length - (intOf i).toNat)
      case atStart => exact ⟨0, by omega, rfl, HXq.out, HOq.out, HBq.out⟩
      case round =>
        clear HXq HOq HBq
        obtain ⟨k, hk, rfl, hbx, hown, hB⟩ := hrel
        have HXk := Lib.hid hbx
        have HOk := Lib.hid hown
        have HBk := Lib.hid hB
        have hzr := hB.size
        have hgr := hbx.lt
        have HM := Lib.hid (HM1.out.later (below_call BW.out (hB.mono (Nat.le_refl _))))
        obtain ⟨k1, f1, z1⟩ := (X1.out.below hB zl1).facts
        obtain ⟨k0, f0, z0⟩ := (X0.out.below hB zl).facts
        clear hbx hown hB
        by_cases hlt : k < m1.length
        · obtain ⟨b3, off, cap3, e3, hlc3, hcm3, hb3, hcell⟩ := HM.out.cellAt (by intro h; subst h; simp at hlt)
          have hb3w : b3 < w.heap.size := by
            obtain ⟨b9, off9, cap9, e9, -, -, h9, -⟩ := HM1.out.cellAt (by intro h; subst h; simp at hlt)
            simp only [Value.slice.injEq] at e3 e9
            have := e3.1.symm.trans e9.1
            simp only [Option.some.injEq, Addr.mk.injEq] at this
            omega
          simp only [Value.slice.injEq] at e3
          obtain ⟨rfl, -, rfl⟩ := e3
          obtain ⟨x, hx⟩ : ∃ x, m1[k]? = some x := ⟨_, List.getElem?_eq_getElem hlt⟩
          obtain ⟨hp1, hp2⟩ := HPL.out x (List.mem_of_getElem? hx)
          rw [HCV.out] at hp2
          obtain ⟨j3, hj3⟩ : ∃ j : Nat, x.idx - b.idx - 1 = (j : Int) := ⟨(x.idx - b.idx - 1).toNat, by omega⟩
          have hj3n : j3 < l.length := by have := HL0.out; omega
          have j0 : (0 : Int) ≤ (j3 : Int) := by omega
          have j1 : (j3 : Int) < (l.length : Int) := by omega
          have d0 : decide ((k : Int) < (m1.length : Int)) = true := decide_eq_true (by omega)
          have d0' : decide (k < m1.length) = true := decide_eq_true hlt
          have i0' : (0 : Int) ≤ (k : Int) := by omega
          have i1' : (k : Int) < (m1.length : Int) := by omega
          have w5 : IntKind.i64.wrap (x.idx - b.idx) = x.idx - b.idx := IntWalk.i64_in _ (by omega)
          have w6 : IntKind.i64.wrap (x.idx - b.idx - 1) = (j3 : Int) := (IntWalk.i64_in (x.idx - b.idx - 1) (by omega)).trans hj3
          obtain ⟨q3, c9, e9, hq3, hq3l, hfr⟩ := HOk.out.place (by intro h9; have h8 := congrArg List.length h9; rw [setsV_length, List.length_nil] at h8; have h7 := HL0.out; omega)
          simp only [Value.slice.injEq] at e9
          obtain ⟨rfl, -, -⟩ := e9
          have hne : q3 ≠ g := own_ne HOk.out HXk.out (by decide)
          have hk00 := hcell k x hx 0 _ rfl
          have hk01 := hcell k x hx 1 _ rfl
          have hk02 := hcell k x hx 2 _ rfl
          have hk03 := hcell k x hx 3 _ rfl
          have HF7 : Hid (∀ w', Below wr.heap.size wr w' → w'.cell? ⟨g, 3, none⟩ = some (.slice (some ⟨q3, 0, none⟩) l.length c5) ∧ w'.cell? ⟨g1, 3, none⟩ = some (.slice (some ⟨b3, off, none⟩) m1.length c1) ∧ w'.cell? ⟨g0, 0, none⟩ = some (.int .i64 b.idx) ∧ w'.cell? ⟨b3, off + k * 4, none⟩ = some (.int .i64 x.idx) ∧ w'.cell? ⟨b3, off + k * 4 + 1, none⟩ = some (.int .i64 x.trm) ∧ w'.cell? ⟨b3, off + k * 4 + 2, none⟩ = some (.int .i64 x.knd) ∧ w'.cell? ⟨b3, off + k * 4 + 3, none⟩ = some (.slice x.ba x.bd.length x.bc)) := fun w' p => ⟨cell_later p (HXk.out.cell 3), cell_later p (k1 3), cell_later p (k0 0), cell_later p hk00, cell_later p hk01, cell_later p hk02, cell_later p hk03⟩
          have HPK := Lib.hid hx
          have HJ3 := Lib.hid hj3
          clear hcell hx hk00 hk01 hk02 hk03 hj3 hp1 hp2
          go_upto_region 7 with fail
          refine wp_region_held_drew (S := fun w' => w'.cell? ⟨g, 3, none⟩ = some (.slice (some ⟨q3, 0, none⟩) l.length c5) ∧ w'.cell? ⟨g1, 3, none⟩ = some (.slice (some ⟨b3, off, none⟩) m1.length c1) ∧ w'.cell? ⟨g0, 0, none⟩ = some (.int .i64 b.idx) ∧ w'.cell? ⟨b3, off + k * 4, none⟩ = some (.int .i64 x.idx) ∧ w'.cell? ⟨b3, off + k * 4 + 1, none⟩ = some (.int .i64 x.trm) ∧ w'.cell? ⟨b3, off + k * 4 + 2, none⟩ = some (.int .i64 x.knd) ∧ w'.cell? ⟨b3, off + k * 4 + 3, none⟩ = some (.slice x.ba x.bd.length x.bc)) (by kernel_rfl) (HF7.out _ (Below.refl _ _).drew) (fun hHeld => ?_)
          first
            | (refine wpAnyH_take (i := 0) (v := ?_) rfl (by kernel_rfl) (by kernel_rfl) (by kernel_rfl) (fun _ _ _ h => h) (Or.inl ⟨?_, ?_⟩) (by assumption) ?_; rotate_left; (focus rfl); (focus (intro w hSw; go_split_ands; go_simp; try with_reducible rfl)); skip)
            | (refine wpAnyH_take (i := 0) (v := undef) rfl (by kernel_rfl) (by kernel_rfl) (by kernel_rfl) (fun _ _ _ h => h) (Or.inr ⟨?_, rfl⟩) (by assumption) ?_; (focus rfl))
          try simp only [Act.put, List.setIfInBounds_toArray, List.set_cons_zero, List.set_cons_succ, List.getElem_toArray, List.getElem_cons_zero, List.getElem_cons_succ]
          first
            | (refine wpAnyH_take (i := 1) (v := ?_) rfl (by kernel_rfl) (by kernel_rfl) (by kernel_rfl) (fun _ _ _ h => h) (Or.inl ⟨?_, ?_⟩) (by assumption) ?_; rotate_left; (focus rfl); (focus (intro w hSw; go_split_ands; go_simp; try with_reducible rfl)); skip)
            | (refine wpAnyH_take (i := 1) (v := undef) rfl (by kernel_rfl) (by kernel_rfl) (by kernel_rfl) (fun _ _ _ h => h) (Or.inr ⟨?_, rfl⟩) (by assumption) ?_; (focus rfl))
          try simp only [Act.put, List.setIfInBounds_toArray, List.set_cons_zero, List.set_cons_succ, List.getElem_toArray, List.getElem_cons_zero, List.getElem_cons_succ]
          first
            | (refine wpAnyH_take (i := 2) (v := ?_) rfl (by kernel_rfl) (by kernel_rfl) (by kernel_rfl) (fun _ _ _ h => h) (Or.inl ⟨?_, ?_⟩) (by assumption) ?_; rotate_left; (focus rfl); (focus (intro w hSw; go_split_ands; go_simp; try with_reducible rfl)); skip)
            | (refine wpAnyH_take (i := 2) (v := undef) rfl (by kernel_rfl) (by kernel_rfl) (by kernel_rfl) (fun _ _ _ h => h) (Or.inr ⟨?_, rfl⟩) (by assumption) ?_; (focus rfl))
          try simp only [Act.put, List.setIfInBounds_toArray, List.set_cons_zero, List.set_cons_succ, List.getElem_toArray, List.getElem_cons_zero, List.getElem_cons_succ]
          first
            | (refine wpAnyH_take (i := 3) (v := ?_) rfl (by kernel_rfl) (by kernel_rfl) (by kernel_rfl) (fun _ _ _ h => h) (Or.inl ⟨?_, ?_⟩) (by assumption) ?_; rotate_left; (focus rfl); (focus (intro w hSw; go_split_ands; go_simp; try with_reducible rfl)); skip)
            | (refine wpAnyH_take (i := 3) (v := undef) rfl (by kernel_rfl) (by kernel_rfl) (by kernel_rfl) (fun _ _ _ h => h) (Or.inr ⟨?_, rfl⟩) (by assumption) ?_; (focus rfl))
          try simp only [Act.put, List.setIfInBounds_toArray, List.set_cons_zero, List.set_cons_succ, List.getElem_toArray, List.getElem_cons_zero, List.getElem_cons_succ]
          first
            | (refine wpAnyH_take (i := 4) (v := ?_) rfl (by kernel_rfl) (by kernel_rfl) (by kernel_rfl) (fun _ _ _ h => h) (Or.inl ⟨?_, ?_⟩) (by assumption) ?_; rotate_left; (focus rfl); (focus (intro w hSw; go_split_ands; go_simp; try with_reducible rfl)); skip)
            | (refine wpAnyH_take (i := 4) (v := undef) rfl (by kernel_rfl) (by kernel_rfl) (by kernel_rfl) (fun _ _ _ h => h) (Or.inr ⟨?_, rfl⟩) (by assumption) ?_; (focus rfl))
          try simp only [Act.put, List.setIfInBounds_toArray, List.set_cons_zero, List.set_cons_succ, List.getElem_toArray, List.getElem_cons_zero, List.getElem_cons_succ]
          first
            | (refine wpAnyH_take (i := 5) (v := ?_) rfl (by kernel_rfl) (by kernel_rfl) (by kernel_rfl) (fun _ _ _ h => h) (Or.inl ⟨?_, ?_⟩) (by assumption) ?_; rotate_left; (focus rfl); (focus (intro w hSw; go_split_ands; go_simp; try with_reducible rfl)); skip)
            | (refine wpAnyH_take (i := 5) (v := undef) rfl (by kernel_rfl) (by kernel_rfl) (by kernel_rfl) (fun _ _ _ h => h) (Or.inr ⟨?_, rfl⟩) (by assumption) ?_; (focus rfl))
          try simp only [Act.put, List.setIfInBounds_toArray, List.set_cons_zero, List.set_cons_succ, List.getElem_toArray, List.getElem_cons_zero, List.getElem_cons_succ]
          first
            | (refine wpAnyH_take (i := 6) (v := ?_) rfl (by kernel_rfl) (by kernel_rfl) (by kernel_rfl) (fun _ _ _ h => h) (Or.inl ⟨?_, ?_⟩) (by assumption) ?_; rotate_left; (focus rfl); (focus (intro w hSw; go_split_ands; go_simp; try with_reducible rfl)); skip)
            | (refine wpAnyH_take (i := 6) (v := undef) rfl (by kernel_rfl) (by kernel_rfl) (by kernel_rfl) (fun _ _ _ h => h) (Or.inr ⟨?_, rfl⟩) (by assumption) ?_; (focus rfl))
          try simp only [Act.put, List.setIfInBounds_toArray, List.set_cons_zero, List.set_cons_succ, List.getElem_toArray, List.getElem_cons_zero, List.getElem_cons_succ]
          first
            | (refine wpAnyH_take (i := 7) (v := ?_) rfl (by kernel_rfl) (by kernel_rfl) (by kernel_rfl) (fun _ _ _ h => h) (Or.inl ⟨?_, ?_⟩) (by assumption) ?_; rotate_left; (focus rfl); (focus (intro w hSw; go_split_ands; go_simp; try with_reducible rfl)); skip)
            | (refine wpAnyH_take (i := 7) (v := undef) rfl (by kernel_rfl) (by kernel_rfl) (by kernel_rfl) (fun _ _ _ h => h) (Or.inr ⟨?_, rfl⟩) (by assumption) ?_; (focus rfl))
          try simp only [Act.put, List.setIfInBounds_toArray, List.set_cons_zero, List.set_cons_succ, List.getElem_toArray, List.getElem_cons_zero, List.getElem_cons_succ]
          first
            | (refine wpAnyH_take (i := 8) (v := ?_) rfl (by kernel_rfl) (by kernel_rfl) (by kernel_rfl) (fun _ _ _ h => h) (Or.inl ⟨?_, ?_⟩) (by assumption) ?_; rotate_left; (focus rfl); (focus (intro w hSw; go_split_ands; go_simp; try with_reducible rfl)); skip)
            | (refine wpAnyH_take (i := 8) (v := undef) rfl (by kernel_rfl) (by kernel_rfl) (by kernel_rfl) (fun _ _ _ h => h) (Or.inr ⟨?_, rfl⟩) (by assumption) ?_; (focus rfl))
          try simp only [Act.put, List.setIfInBounds_toArray, List.set_cons_zero, List.set_cons_succ, List.getElem_toArray, List.getElem_cons_zero, List.getElem_cons_succ]
          first
            | (refine wpAnyH_take (i := 9) (v := ?_) rfl (by kernel_rfl) (by kernel_rfl) (by kernel_rfl) (fun _ _ _ h => h) (Or.inl ⟨?_, ?_⟩) (by assumption) ?_; rotate_left; (focus rfl); (focus (intro w hSw; go_split_ands; go_simp; try with_reducible rfl)); skip)
            | (refine wpAnyH_take (i := 9) (v := undef) rfl (by kernel_rfl) (by kernel_rfl) (by kernel_rfl) (fun _ _ _ h => h) (Or.inr ⟨?_, rfl⟩) (by assumption) ?_; (focus rfl))
          try simp only [Act.put, List.setIfInBounds_toArray, List.set_cons_zero, List.set_cons_succ, List.getElem_toArray, List.getElem_cons_zero, List.getElem_cons_succ]
          first
            | (refine wpAnyH_take (i := 10) (v := ?_) rfl (by kernel_rfl) (by kernel_rfl) (by kernel_rfl) (fun _ _ _ h => h) (Or.inl ⟨?_, ?_⟩) (by assumption) ?_; rotate_left; (focus rfl); (focus (intro w hSw; go_split_ands; go_simp; try with_reducible rfl)); skip)
            | (refine wpAnyH_take (i := 10) (v := undef) rfl (by kernel_rfl) (by kernel_rfl) (by kernel_rfl) (fun _ _ _ h => h) (Or.inr ⟨?_, rfl⟩) (by assumption) ?_; (focus rfl))
          try simp only [Act.put, List.setIfInBounds_toArray, List.set_cons_zero, List.set_cons_succ, List.getElem_toArray, List.getElem_cons_zero, List.getElem_cons_succ]
          first
            | (refine wpAnyH_take (i := 11) (v := ?_) rfl (by kernel_rfl) (by kernel_rfl) (by kernel_rfl) (fun _ _ _ h => h) (Or.inl ⟨?_, ?_⟩) (by assumption) ?_; rotate_left; (focus rfl); (focus (intro w hSw; go_split_ands; go_simp; try with_reducible rfl)); skip)
            | (refine wpAnyH_take (i := 11) (v := undef) rfl (by kernel_rfl) (by kernel_rfl) (by kernel_rfl) (fun _ _ _ h => h) (Or.inr ⟨?_, rfl⟩) (by assumption) ?_; (focus rfl))
          try simp only [Act.put, List.setIfInBounds_toArray, List.set_cons_zero, List.set_cons_succ, List.getElem_toArray, List.getElem_cons_zero, List.getElem_cons_succ]
          first
            | (refine wpAnyH_take (i := 12) (v := ?_) rfl (by kernel_rfl) (by kernel_rfl) (by kernel_rfl) (fun _ _ _ h => h) (Or.inl ⟨?_, ?_⟩) (by assumption) ?_; rotate_left; (focus rfl); (focus (intro w hSw; go_split_ands; go_simp; try with_reducible rfl)); skip)
            | (refine wpAnyH_take (i := 12) (v := undef) rfl (by kernel_rfl) (by kernel_rfl) (by kernel_rfl) (fun _ _ _ h => h) (Or.inr ⟨?_, rfl⟩) (by assumption) ?_; (focus rfl))
          try simp only [Act.put, List.setIfInBounds_toArray, List.set_cons_zero, List.set_cons_succ, List.getElem_toArray, List.getElem_cons_zero, List.getElem_cons_succ]
          first
            | (refine wpAnyH_take (i := 13) (v := ?_) rfl (by kernel_rfl) (by kernel_rfl) (by kernel_rfl) (fun _ _ _ h => h) (Or.inl ⟨?_, ?_⟩) (by assumption) ?_; rotate_left; (focus rfl); (focus (intro w hSw; go_split_ands; go_simp; try with_reducible rfl)); skip)
            | (refine wpAnyH_take (i := 13) (v := undef) rfl (by kernel_rfl) (by kernel_rfl) (by kernel_rfl) (fun _ _ _ h => h) (Or.inr ⟨?_, rfl⟩) (by assumption) ?_; (focus rfl))
          try simp only [Act.put, List.setIfInBounds_toArray, List.set_cons_zero, List.set_cons_succ, List.getElem_toArray, List.getElem_cons_zero, List.getElem_cons_succ]
          first
            | (refine wpAnyH_take (i := 14) (v := ?_) rfl (by kernel_rfl) (by kernel_rfl) (by kernel_rfl) (fun _ _ _ h => h) (Or.inl ⟨?_, ?_⟩) (by assumption) ?_; rotate_left; (focus rfl); (focus (intro w hSw; go_split_ands; go_simp; try with_reducible rfl)); skip)
            | (refine wpAnyH_take (i := 14) (v := undef) rfl (by kernel_rfl) (by kernel_rfl) (by kernel_rfl) (fun _ _ _ h => h) (Or.inr ⟨?_, rfl⟩) (by assumption) ?_; (focus rfl))
          try simp only [Act.put, List.setIfInBounds_toArray, List.set_cons_zero, List.set_cons_succ, List.getElem_toArray, List.getElem_cons_zero, List.getElem_cons_succ]
          first
            | (refine wpAnyH_take (i := 15) (v := ?_) rfl (by kernel_rfl) (by kernel_rfl) (by kernel_rfl) (fun _ _ _ h => h) (Or.inl ⟨?_, ?_⟩) (by assumption) ?_; rotate_left; (focus rfl); (focus (intro w hSw; go_split_ands; go_simp; try with_reducible rfl)); skip)
            | (refine wpAnyH_take (i := 15) (v := undef) rfl (by kernel_rfl) (by kernel_rfl) (by kernel_rfl) (fun _ _ _ h => h) (Or.inr ⟨?_, rfl⟩) (by assumption) ?_; (focus rfl))
          try simp only [Act.put, List.setIfInBounds_toArray, List.set_cons_zero, List.set_cons_succ, List.getElem_toArray, List.getElem_cons_zero, List.getElem_cons_succ]
          first
            | (refine wpAnyH_take (i := 16) (v := ?_) rfl (by kernel_rfl) (by kernel_rfl) (by kernel_rfl) (fun _ _ _ h => h) (Or.inl ⟨?_, ?_⟩) (by assumption) ?_; rotate_left; (focus rfl); (focus (intro w hSw; go_split_ands; go_simp; try with_reducible rfl)); skip)
            | (refine wpAnyH_take (i := 16) (v := undef) rfl (by kernel_rfl) (by kernel_rfl) (by kernel_rfl) (fun _ _ _ h => h) (Or.inr ⟨?_, rfl⟩) (by assumption) ?_; (focus rfl))
          try simp only [Act.put, List.setIfInBounds_toArray, List.set_cons_zero, List.set_cons_succ, List.getElem_toArray, List.getElem_cons_zero, List.getElem_cons_succ]
          first
            | (refine wpAnyH_take (i := 17) (v := ?_) rfl (by kernel_rfl) (by kernel_rfl) (by kernel_rfl) (fun _ _ _ h => h) (Or.inl ⟨?_, ?_⟩) (by assumption) ?_; rotate_left; (focus rfl); (focus (intro w hSw; go_split_ands; go_simp; try with_reducible rfl)); skip)
            | (refine wpAnyH_take (i := 17) (v := undef) rfl (by kernel_rfl) (by kernel_rfl) (by kernel_rfl) (fun _ _ _ h => h) (Or.inr ⟨?_, rfl⟩) (by assumption) ?_; (focus rfl))
          try simp only [Act.put, List.setIfInBounds_toArray, List.set_cons_zero, List.set_cons_succ, List.getElem_toArray, List.getElem_cons_zero, List.getElem_cons_succ]
          refine wpAnyH_ready (rs := [18]) (by kernel_rfl) (by simp) ?_
          refine AllReadyH.cons rfl (fun K hK => ?_) AllReadyH.nil
          go_simp
          go_at_call 20
          refine (entOf x _).mono ?_
          rintro e w8 ⟨rfl, hb8⟩
          have P8 := Lib.hid (show Below wr.heap.size wr w8 from (Below.refl _ _).drew.trans (hb8.mono (Nat.le_refl _)))
          clear hb8
          refine hK.out _ _ (HF7.out _ P8.out) (fun hH => ?_)
          clear hK K
          try simp only [Act.put, List.setIfInBounds_toArray, List.set_cons_zero, List.set_cons_succ, List.getElem_toArray, List.getElem_cons_zero, List.getElem_cons_succ]
          have hHeld2 := hH
          first
            | (refine wpAnyH_take (i := 19) (v := ?_) rfl (by kernel_rfl) (by kernel_rfl) (by kernel_rfl) (fun _ _ _ h => h) (Or.inl ⟨?_, ?_⟩) (by assumption) ?_; rotate_left; (focus rfl); (focus (intro w hSw; go_split_ands; go_simp; try with_reducible rfl)); skip)
            | (refine wpAnyH_take (i := 19) (v := undef) rfl (by kernel_rfl) (by kernel_rfl) (by kernel_rfl) (fun _ _ _ h => h) (Or.inr ⟨?_, rfl⟩) (by assumption) ?_; (focus rfl))
          try simp only [Act.put, List.setIfInBounds_toArray, List.set_cons_zero, List.set_cons_succ, List.getElem_toArray, List.getElem_cons_zero, List.getElem_cons_succ]
          obtain ⟨q8, c8, e8, -, -, hfr8⟩ := (HOk.out.later P8.out).place (by intro h9; have h8 := congrArg List.length h9; rw [setsV_length, List.length_nil] at h8; have h7 := HL0.out; omega)
          simp only [Value.slice.injEq, Option.some.injEq, Addr.mk.injEq, and_true] at e8
          obtain ⟨rfl, -, -⟩ := e8
          obtain ⟨y0, hy0⟩ : ∃ y0, (setsV b l (m1.take k))[j3]? = some y0 := ⟨_, List.getElem?_eq_getElem (by rw [setsV_length]; have := HL0.out; omega)⟩
          have hgq : g ≠ q3 := fun he => hne he.symm
          have hqm : W.heap.size ≤ q3 := hq3
          have HY0 := Lib.hid hy0
          clear hy0
          have hz8 : q3 < w8.heap.size := by have := P8.out.size; omega
          have HC := Lib.hid (HOk.out.later P8.out)
          obtain ⟨A10, cap10, e10, -, -, -, hA10⟩ := HC.out.sl idRow_length
          obtain ⟨b10, off10, e11, -, hcell10⟩ := hA10 (by intro h9; have h8 := congrArg List.length h9; rw [setsV_length, List.length_nil] at h8; have h7 := HL0.out; omega)
          have hy10 := hcell10 j3 y0 HY0.out 0 _ rfl
          have hy11 := hcell10 j3 y0 HY0.out 1 _ rfl
          have hy12 := hcell10 j3 y0 HY0.out 2 _ rfl
          simp only [Value.slice.injEq] at e10
          have e12 := e10.1.trans e11
          simp only [Option.some.injEq, Addr.mk.injEq, and_true] at e12
          obtain ⟨rfl, rfl⟩ := e12
          clear hcell10 hA10 e10 e11
          simp only [Nat.zero_add, Nat.add_zero] at hy10 hy11 hy12
          refine wpAnyH_ready (rs := [20]) (by kernel_rfl) (by simp) ?_
          refine AllReadyH.cons rfl (fun K hK => ?_) AllReadyH.nil
          go_simp
          have C8 := HF7.out _ P8.out
          refine hK.out _ _ ⟨(setCell3_far hgq).trans C8.1, (setCell3_far (show g1 ≠ q3 by omega)).trans C8.2.1, (setCell3_far (show g0 ≠ q3 by omega)).trans C8.2.2.1, (setCell3_far (show b3 ≠ q3 by omega)).trans C8.2.2.2.1, (setCell3_far (show b3 ≠ q3 by omega)).trans C8.2.2.2.2.1, (setCell3_far (show b3 ≠ q3 by omega)).trans C8.2.2.2.2.2.1, (setCell3_far (show b3 ≠ q3 by omega)).trans C8.2.2.2.2.2.2⟩ (fun hH => ?_)
          clear hK K C8
          try simp only [Act.put, List.setIfInBounds_toArray, List.set_cons_zero, List.set_cons_succ, List.getElem_toArray, List.getElem_cons_zero, List.getElem_cons_succ]
          refine wpAnyH_done (by kernel_rfl) ?_ _
          clear hfr hfr8 hy10 hy11 hy12
          have HX8 := Lib.hid (HXk.out.later P8.out)
          have HB8 := Lib.hid (HBk.out.trans (P8.out.mono hzr))
          have HW8 := Lib.hid (HC.out.writeId (y := ofE x) HY0.out)
          go_wp2_with fail
          go_roundw
          case rel =>
            refine ⟨k + 1, by omega, by go_num, ?_, ?_, ?_⟩
            · exact ((HX8.out.far (p := ⟨q3, j3 * 3, none⟩) hgq _).far (p := ⟨q3, j3 * 3 + 1, none⟩) hgq _).far (p := ⟨q3, j3 * 3 + 2, none⟩) hgq _
            · rw [setsV_take HPK.out, HJ3.out, Int.toNat_natCast]; exact HW8.out
            · exact below_set (below_set (below_set HB8.out hqm) hqm) hqm
          case measure => simp [intOf]; omega
        · have d0 : decide ((k : Int) < (m1.length : Int)) = false := decide_eq_false (by omega)
          have d0' : decide (k < m1.length) = false := decide_eq_false hlt
          have hkl : k = m1.length := by omega
          have HOa := Lib.hid (show Own 3 idRow 26 W.heap.size wr (.slice A5 l.length c5) (setsV b l m1) from by have h := HOk.out; rw [hkl, List.take_length] at h; exact h)
          have HBV := Lib.hid (show behV b l ⟨ix, cut, m1, m2⟩ = setsV b l m1 ++ m2.map ofE by show setsV b (cutV b l ⟨ix, cut, m1, m2⟩) m1 ++ _ = _; rw [HCV.out])
          have HLN := Lib.hid (show (setsV b l m1).length = l.length from setsV_length _ _ _)
          obtain ⟨L1, hL1⟩ : ∃ x, x = setsV b l m1 := ⟨_, rfl⟩
          rw [← hL1] at HOa HBV HLN
          obtain ⟨n9, hn9⟩ : ∃ x, x = l.length := ⟨_, rfl⟩
          have hn9l : n9 ≤ 100000 := by omega
          rw [← hn9] at HOa HXk HLN
          clear hL1 HOk hn9
          obtain ⟨wv, hwv⟩ : ∃ x, x = wr := ⟨_, rfl⟩
          rw [← hwv] at HXk HOa HBk
          rw [← hwv] at k1
          rw [← hwv]
          clear hwv
          go_wp2_with fail
          subst hkl
          clear d0 d0' hlt hk f1 z1 k0 f0 z0 hzr hgr
          go_loopw [7] (fun i wx => ∃ (k : Nat) (A' : Option Addr) (c' : Nat), k ≤ m2.length ∧ i = .int .i64 k ∧ Box wx g #[.int .i64 b.idx, .int .i64 b.trm, .int .i64 b.knd, .slice A' (n9 + k) c'] 29 ∧ Own 3 idRow 26 W.heap.size wx (.slice A' (n9 + k) c') (L1 ++ (m2.take k).map ofE) ∧ Below W.heap.size W wx) (fun i _ => m2.length - (intOf i).toNat)
          case atStart => exact ⟨0, A5, c5, by omega, rfl, HXk.out, by simpa using HOa.out, HBk.out⟩
          case round =>
            clear HXk HOa HBk k1
            obtain ⟨k, A', c', hk, rfl, hbx, hown, hB⟩ := hrel
            have HXk := Lib.hid hbx
            have HOk := Lib.hid hown
            have HBk := Lib.hid hB
            have hzr := hB.size
            have hgr := hbx.lt
            have HM := Lib.hid (HM2.out.later (below_call BW.out (hB.mono (Nat.le_refl _))))
            obtain ⟨k1, f1, z1⟩ := (X1.out.below hB zl1).facts
            obtain ⟨kx, fx, zx⟩ := hbx.facts
            clear hbx hown hB
            by_cases hlt : k < m2.length
            · obtain ⟨b3, off, cap3, e3, hlc3, hcm3, hb3, hcell⟩ := HM.out.cellAt (by intro h; subst h; simp at hlt)
              have hb3w : b3 < w.heap.size := by
                obtain ⟨b9, off9, cap9, e9, -, -, h9, -⟩ := HM2.out.cellAt (by intro h; subst h; simp at hlt)
                simp only [Value.slice.injEq] at e3 e9
                have := e3.1.symm.trans e9.1
                simp only [Option.some.injEq, Addr.mk.injEq] at this
                omega
              simp only [Value.slice.injEq] at e3
              obtain ⟨rfl, -, rfl⟩ := e3
              obtain ⟨x, hx⟩ : ∃ x, m2[k]? = some x := ⟨_, List.getElem?_eq_getElem hlt⟩
              have d0 : decide ((k : Int) < (m2.length : Int)) = true := decide_eq_true (by omega)
              have d0' : decide (k < m2.length) = true := decide_eq_true hlt
              have i0' : (0 : Int) ≤ (k : Int) := by omega
              have i1' : (k : Int) < (m2.length : Int) := by omega
              have hk00 := hcell k x hx 0 _ rfl
              have hk01 := hcell k x hx 1 _ rfl
              have hk02 := hcell k x hx 2 _ rfl
              have hk03 := hcell k x hx 3 _ rfl
              have HF8 : Hid (∀ w', Below W.heap.size wr w' → w'.cell? ⟨g1, 4, none⟩ = some (.slice (some ⟨b3, off, none⟩) m2.length c2) ∧ w'.cell? ⟨b3, off + k * 4, none⟩ = some (.int .i64 x.idx) ∧ w'.cell? ⟨b3, off + k * 4 + 1, none⟩ = some (.int .i64 x.trm) ∧ w'.cell? ⟨b3, off + k * 4 + 2, none⟩ = some (.int .i64 x.knd) ∧ w'.cell? ⟨b3, off + k * 4 + 3, none⟩ = some (.slice x.ba x.bd.length x.bc)) := fun w' p => ⟨(p.cell (p := ⟨g1, 4, none⟩) zl1).trans (k1 4), (p.cell (p := ⟨b3, off + k * 4, none⟩) (show b3 < W.heap.size by omega)).trans hk00, (p.cell (p := ⟨b3, off + k * 4 + 1, none⟩) (show b3 < W.heap.size by omega)).trans hk01, (p.cell (p := ⟨b3, off + k * 4 + 2, none⟩) (show b3 < W.heap.size by omega)).trans hk02, (p.cell (p := ⟨b3, off + k * 4 + 3, none⟩) (show b3 < W.heap.size by omega)).trans hk03⟩
              have HPK := Lib.hid hx
              clear hcell hx hk00 hk01 hk02 hk03
              go_upto_region 11 with fail
              refine wp_region_held_drew (S := fun w' => w'.cell? ⟨g1, 4, none⟩ = some (.slice (some ⟨b3, off, none⟩) m2.length c2) ∧ w'.cell? ⟨b3, off + k * 4, none⟩ = some (.int .i64 x.idx) ∧ w'.cell? ⟨b3, off + k * 4 + 1, none⟩ = some (.int .i64 x.trm) ∧ w'.cell? ⟨b3, off + k * 4 + 2, none⟩ = some (.int .i64 x.knd) ∧ w'.cell? ⟨b3, off + k * 4 + 3, none⟩ = some (.slice x.ba x.bd.length x.bc)) (by kernel_rfl) (HF8.out _ (Below.refl _ _).drew) (fun hHeld => ?_)
              first
                | (refine wpAnyH_take (i := 0) (v := ?_) rfl (by kernel_rfl) (by kernel_rfl) (by kernel_rfl) (fun _ _ _ h => h) (Or.inl ⟨?_, ?_⟩) (by assumption) ?_; rotate_left; (focus rfl); (focus (intro w hSw; go_split_ands; go_simp; try with_reducible rfl)); skip)
                | (refine wpAnyH_take (i := 0) (v := undef) rfl (by kernel_rfl) (by kernel_rfl) (by kernel_rfl) (fun _ _ _ h => h) (Or.inr ⟨?_, rfl⟩) (by assumption) ?_; (focus rfl))
              try simp only [Act.put, List.setIfInBounds_toArray, List.set_cons_zero, List.set_cons_succ, List.getElem_toArray, List.getElem_cons_zero, List.getElem_cons_succ]
              first
                | (refine wpAnyH_take (i := 2) (v := ?_) rfl (by kernel_rfl) (by kernel_rfl) (by kernel_rfl) (fun _ _ _ h => h) (Or.inl ⟨?_, ?_⟩) (by assumption) ?_; rotate_left; (focus rfl); (focus (intro w hSw; go_split_ands; go_simp; try with_reducible rfl)); skip)
                | (refine wpAnyH_take (i := 2) (v := undef) rfl (by kernel_rfl) (by kernel_rfl) (by kernel_rfl) (fun _ _ _ h => h) (Or.inr ⟨?_, rfl⟩) (by assumption) ?_; (focus rfl))
              try simp only [Act.put, List.setIfInBounds_toArray, List.set_cons_zero, List.set_cons_succ, List.getElem_toArray, List.getElem_cons_zero, List.getElem_cons_succ]
              first
                | (refine wpAnyH_take (i := 3) (v := ?_) rfl (by kernel_rfl) (by kernel_rfl) (by kernel_rfl) (fun _ _ _ h => h) (Or.inl ⟨?_, ?_⟩) (by assumption) ?_; rotate_left; (focus rfl); (focus (intro w hSw; go_split_ands; go_simp; try with_reducible rfl)); skip)
                | (refine wpAnyH_take (i := 3) (v := undef) rfl (by kernel_rfl) (by kernel_rfl) (by kernel_rfl) (fun _ _ _ h => h) (Or.inr ⟨?_, rfl⟩) (by assumption) ?_; (focus rfl))
              try simp only [Act.put, List.setIfInBounds_toArray, List.set_cons_zero, List.set_cons_succ, List.getElem_toArray, List.getElem_cons_zero, List.getElem_cons_succ]
              first
                | (refine wpAnyH_take (i := 4) (v := ?_) rfl (by kernel_rfl) (by kernel_rfl) (by kernel_rfl) (fun _ _ _ h => h) (Or.inl ⟨?_, ?_⟩) (by assumption) ?_; rotate_left; (focus rfl); (focus (intro w hSw; go_split_ands; go_simp; try with_reducible rfl)); skip)
                | (refine wpAnyH_take (i := 4) (v := undef) rfl (by kernel_rfl) (by kernel_rfl) (by kernel_rfl) (fun _ _ _ h => h) (Or.inr ⟨?_, rfl⟩) (by assumption) ?_; (focus rfl))
              try simp only [Act.put, List.setIfInBounds_toArray, List.set_cons_zero, List.set_cons_succ, List.getElem_toArray, List.getElem_cons_zero, List.getElem_cons_succ]
              first
                | (refine wpAnyH_take (i := 5) (v := ?_) rfl (by kernel_rfl) (by kernel_rfl) (by kernel_rfl) (fun _ _ _ h => h) (Or.inl ⟨?_, ?_⟩) (by assumption) ?_; rotate_left; (focus rfl); (focus (intro w hSw; go_split_ands; go_simp; try with_reducible rfl)); skip)
                | (refine wpAnyH_take (i := 5) (v := undef) rfl (by kernel_rfl) (by kernel_rfl) (by kernel_rfl) (fun _ _ _ h => h) (Or.inr ⟨?_, rfl⟩) (by assumption) ?_; (focus rfl))
              try simp only [Act.put, List.setIfInBounds_toArray, List.set_cons_zero, List.set_cons_succ, List.getElem_toArray, List.getElem_cons_zero, List.getElem_cons_succ]
              first
                | (refine wpAnyH_take (i := 6) (v := ?_) rfl (by kernel_rfl) (by kernel_rfl) (by kernel_rfl) (fun _ _ _ h => h) (Or.inl ⟨?_, ?_⟩) (by assumption) ?_; rotate_left; (focus rfl); (focus (intro w hSw; go_split_ands; go_simp; try with_reducible rfl)); skip)
                | (refine wpAnyH_take (i := 6) (v := undef) rfl (by kernel_rfl) (by kernel_rfl) (by kernel_rfl) (fun _ _ _ h => h) (Or.inr ⟨?_, rfl⟩) (by assumption) ?_; (focus rfl))
              try simp only [Act.put, List.setIfInBounds_toArray, List.set_cons_zero, List.set_cons_succ, List.getElem_toArray, List.getElem_cons_zero, List.getElem_cons_succ]
              refine wpAnyH_ready (rs := [1, 7]) (by kernel_rfl) (by simp) ?_
              refine AllReadyH.cons rfl (fun K hK => ?_) (AllReadyH.cons rfl (fun K hK => ?_) AllReadyH.nil)
              · go_simp
                refine hK.out _ _ (HF8.out _ ((Below.refl _ _).drew)) (fun hH => ?_)
                clear hK K
                try simp only [Act.put, List.setIfInBounds_toArray, List.set_cons_zero, List.set_cons_succ, List.getElem_toArray, List.getElem_cons_zero, List.getElem_cons_succ]
                refine wpAnyH_ready (rs := [7]) (by kernel_rfl) (by simp) ?_
                refine AllReadyH.cons rfl (fun K hK => ?_) AllReadyH.nil
                go_simp
                go_at_call 20
                refine (entOf x _).mono ?_
                rintro e w8 ⟨rfl, hb8⟩
                have P8 := Lib.hid (show Below wr.heap.size wr w8 from (Below.refl _ _).drew.trans (hb8.mono (Nat.le_refl _)))
                have P9 := Lib.hid (show Below W.heap.size wr (w8.alloc (.cells #[.int .i64 x.idx, .int .i64 x.trm, .int .i64 x.knd] 26)) from (P8.out.mono hzr).alloc (Nat.le_trans hzr P8.out.size) _)
                have HX8 := Lib.hid (HXk.out.later P8.out)
                obtain ⟨ky, fy, zy⟩ := HX8.out.facts
                clear hb8
                refine hK.out _ _ (HF8.out _ (P8.out.mono hzr)) (fun hH => ?_)
                clear hK K
                try simp only [Act.put, List.setIfInBounds_toArray, List.set_cons_zero, List.set_cons_succ, List.getElem_toArray, List.getElem_cons_zero, List.getElem_cons_succ]
                have HOO := Lib.hid (show Own 3 idRow 26 W.heap.size (w8.alloc (.cells #[.int .i64 x.idx, .int .i64 x.trm, .int .i64 x.knd] 26)) (.slice A' (n9 + k) c') (L1 ++ (m2.take k).map ofE) from (HOk.out.later P8.out).alloc _)
                have HBX9 := Lib.hid (show Box (w8.alloc (.cells #[.int .i64 x.idx, .int .i64 x.trm, .int .i64 x.knd] 26)) w8.heap.size #[.int .i64 x.idx, .int .i64 x.trm, .int .i64 x.knd] 26 from Box.new _ _ _)
                have HXA := Lib.hid (show Box (w8.alloc (.cells #[.int .i64 x.idx, .int .i64 x.trm, .int .i64 x.knd] 26)) g #[.int .i64 b.idx, .int .i64 b.trm, .int .i64 b.knd, .slice A' (n9 + k) c'] 29 from HX8.out.alloc _)
                have HLE := Lib.hid (show (L1 ++ (m2.take k).map ofE).length = n9 + k by rw [List.length_append, HLN.out, List.length_map, List.length_take, Nat.min_eq_left hk])
                have HLL := Lib.hid (show (L1 ++ (m2.take k).map ofE).length + 1 ≤ 4294967296 by have := HLE.out; omega)
                have HSS := Lib.hid (show W.heap.size ≤ (w8.alloc (.cells #[.int .i64 x.idx, .int .i64 x.trm, .int .i64 x.knd] 26)).heap.size from Nat.le_trans hzr P9.out.size)
                refine wpAnyH_ready (rs := [8]) (by kernel_rfl) (by simp) ?_
                refine AllReadyH.cons rfl (fun K hK => ?_) AllReadyH.nil
                go_simp
                refine hK.out _ _ (HF8.out _ P9.out) (fun hH => ?_)
                clear hK K
                try simp only [Act.put, List.setIfInBounds_toArray, List.set_cons_zero, List.set_cons_succ, List.getElem_toArray, List.getElem_cons_zero, List.getElem_cons_succ]
                refine wpAnyH_ready (rs := [9]) (by kernel_rfl) (by simp) ?_
                refine AllReadyH.cons rfl (fun K hK => ?_) AllReadyH.nil
                refine step_append_keep rfl (.tmp 64) (.tmp 71) 27 rfl W.heap.size 26 _ 3 24 Tryd.underlying27 identInfo rfl (Nat.succ_pos 2) idRow idRow_length idRow_one (L1 ++ (m2.take k).map ofE) _ rfl HOO.out (ofE x) #[.int .i64 x.idx, .int .i64 x.trm, .int .i64 x.knd] rfl 26 _ rfl HBX9.out HLL.out (by omega) HSS.out ?_
                intro g7 c7 w7 p1 p2 p3 p4
                have HX7 := Lib.hid (show Box w7 g #[.int .i64 b.idx, .int .i64 b.trm, .int .i64 b.knd, .slice A' (n9 + k) c'] 29 from (p4 g HXA.out.lt (fun he => HOO.out.spot_ne HXA.out (by decide) g he.symm rfl)).trans HXA.out)
                have hle : ((L1 ++ (m2.take k).map ofE) ++ [ofE x]).length = n9 + (k + 1) := by rw [List.length_append, HLE.out]; rfl
                rw [hle] at p1
                rw [hle]
                have HO7 := Lib.hid p1
                have HB7 := Lib.hid (P9.out.trans p2)
                obtain ⟨kz, fz, zz⟩ := HX7.out.facts
                clear p1 p2 p3 p4 hle ky fy zy kx fx zx
                refine hK.out _ _ (HF8.out _ HB7.out) (fun hH => ?_)
                clear hK K
                try simp only [Act.put, List.setIfInBounds_toArray, List.set_cons_zero, List.set_cons_succ, List.getElem_toArray, List.getElem_cons_zero, List.getElem_cons_succ]
                have hHeld2 := hH
                first
                  | (refine wpAnyH_take (i := 10) (v := ?_) rfl (by kernel_rfl) (by kernel_rfl) (by kernel_rfl) (fun _ _ _ h => h) (Or.inl ⟨?_, ?_⟩) (by assumption) ?_; rotate_left; (focus rfl); (focus (intro w hSw; go_split_ands; go_simp; try with_reducible rfl)); skip)
                  | (refine wpAnyH_take (i := 10) (v := undef) rfl (by kernel_rfl) (by kernel_rfl) (by kernel_rfl) (fun _ _ _ h => h) (Or.inr ⟨?_, rfl⟩) (by assumption) ?_; (focus rfl))
                try simp only [Act.put, List.setIfInBounds_toArray, List.set_cons_zero, List.set_cons_succ, List.getElem_toArray, List.getElem_cons_zero, List.getElem_cons_succ]
                refine wpAnyH_ready (rs := [11]) (by kernel_rfl) (by simp) ?_
                refine AllReadyH.cons rfl (fun K hK => ?_) AllReadyH.nil
                go_simp
                refine hK.out _ _ (HF8.out _ (below_set HB7.out hgW)) (fun hH => ?_)
                clear hK K
                try simp only [Act.put, List.setIfInBounds_toArray, List.set_cons_zero, List.set_cons_succ, List.getElem_toArray, List.getElem_cons_zero, List.getElem_cons_succ]
                refine wpAnyH_done (by kernel_rfl) ?_ _
                clear kz fz zz k1 f1 z1
                go_wp2_with fail
                go_roundw
                case rel =>
                  have e9 : L1 ++ (m2.take (k + 1)).map ofE = (L1 ++ (m2.take k).map ofE) ++ [ofE x] := by rw [take_at HPK.out, List.map_append, List.append_assoc]; rfl
                  refine ⟨k + 1, some ⟨g7, 0, none⟩, c7, by omega, by go_num, ?_, ?_, ?_⟩
                  · exact HX7.out.set_ 3 (.slice (some ⟨g7, 0, none⟩) (n9 + (k + 1)) c7)
                  · rw [e9]; exact HO7.out.set1x HX7.out (by decide) 3 _
                  · exact below_set (HBk.out.trans HB7.out) hgW
                case measure => simp [intOf]; omega
              · go_simp
                go_at_call 20
                refine (entOf x _).mono ?_
                rintro e w8 ⟨rfl, hb8⟩
                have P8 := Lib.hid (show Below wr.heap.size wr w8 from (Below.refl _ _).drew.trans (hb8.mono (Nat.le_refl _)))
                have P9 := Lib.hid (show Below W.heap.size wr (w8.alloc (.cells #[.int .i64 x.idx, .int .i64 x.trm, .int .i64 x.knd] 26)) from (P8.out.mono hzr).alloc (Nat.le_trans hzr P8.out.size) _)
                have HX8 := Lib.hid (HXk.out.later P8.out)
                obtain ⟨ky, fy, zy⟩ := HX8.out.facts
                clear hb8
                refine hK.out _ _ (HF8.out _ (P8.out.mono hzr)) (fun hH => ?_)
                clear hK K
                try simp only [Act.put, List.setIfInBounds_toArray, List.set_cons_zero, List.set_cons_succ, List.getElem_toArray, List.getElem_cons_zero, List.getElem_cons_succ]
                have HOO := Lib.hid (show Own 3 idRow 26 W.heap.size (w8.alloc (.cells #[.int .i64 x.idx, .int .i64 x.trm, .int .i64 x.knd] 26)) (.slice A' (n9 + k) c') (L1 ++ (m2.take k).map ofE) from (HOk.out.later P8.out).alloc _)
                have HBX9 := Lib.hid (show Box (w8.alloc (.cells #[.int .i64 x.idx, .int .i64 x.trm, .int .i64 x.knd] 26)) w8.heap.size #[.int .i64 x.idx, .int .i64 x.trm, .int .i64 x.knd] 26 from Box.new _ _ _)
                have HXA := Lib.hid (show Box (w8.alloc (.cells #[.int .i64 x.idx, .int .i64 x.trm, .int .i64 x.knd] 26)) g #[.int .i64 b.idx, .int .i64 b.trm, .int .i64 b.knd, .slice A' (n9 + k) c'] 29 from HX8.out.alloc _)
                have HLE := Lib.hid (show (L1 ++ (m2.take k).map ofE).length = n9 + k by rw [List.length_append, HLN.out, List.length_map, List.length_take, Nat.min_eq_left hk])
                have HLL := Lib.hid (show (L1 ++ (m2.take k).map ofE).length + 1 ≤ 4294967296 by have := HLE.out; omega)
                have HSS := Lib.hid (show W.heap.size ≤ (w8.alloc (.cells #[.int .i64 x.idx, .int .i64 x.trm, .int .i64 x.knd] 26)).heap.size from Nat.le_trans hzr P9.out.size)
                refine wpAnyH_ready (rs := [1, 8]) (by kernel_rfl) (by simp) ?_
                refine AllReadyH.cons rfl (fun K hK => ?_) (AllReadyH.cons rfl (fun K hK => ?_) AllReadyH.nil)
                · go_simp
                  refine hK.out _ _ (HF8.out _ ((P8.out.mono hzr))) (fun hH => ?_)
                  clear hK K
                  try simp only [Act.put, List.setIfInBounds_toArray, List.set_cons_zero, List.set_cons_succ, List.getElem_toArray, List.getElem_cons_zero, List.getElem_cons_succ]
                  refine wpAnyH_ready (rs := [8]) (by kernel_rfl) (by simp) ?_
                  refine AllReadyH.cons rfl (fun K hK => ?_) AllReadyH.nil
                  go_simp
                  refine hK.out _ _ (HF8.out _ P9.out) (fun hH => ?_)
                  clear hK K
                  try simp only [Act.put, List.setIfInBounds_toArray, List.set_cons_zero, List.set_cons_succ, List.getElem_toArray, List.getElem_cons_zero, List.getElem_cons_succ]
                  refine wpAnyH_ready (rs := [9]) (by kernel_rfl) (by simp) ?_
                  refine AllReadyH.cons rfl (fun K hK => ?_) AllReadyH.nil
                  refine step_append_keep rfl (.tmp 64) (.tmp 71) 27 rfl W.heap.size 26 _ 3 24 Tryd.underlying27 identInfo rfl (Nat.succ_pos 2) idRow idRow_length idRow_one (L1 ++ (m2.take k).map ofE) _ rfl HOO.out (ofE x) #[.int .i64 x.idx, .int .i64 x.trm, .int .i64 x.knd] rfl 26 _ rfl HBX9.out HLL.out (by omega) HSS.out ?_
                  intro g7 c7 w7 p1 p2 p3 p4
                  have HX7 := Lib.hid (show Box w7 g #[.int .i64 b.idx, .int .i64 b.trm, .int .i64 b.knd, .slice A' (n9 + k) c'] 29 from (p4 g HXA.out.lt (fun he => HOO.out.spot_ne HXA.out (by decide) g he.symm rfl)).trans HXA.out)
                  have hle : ((L1 ++ (m2.take k).map ofE) ++ [ofE x]).length = n9 + (k + 1) := by rw [List.length_append, HLE.out]; rfl
                  rw [hle] at p1
                  rw [hle]
                  have HO7 := Lib.hid p1
                  have HB7 := Lib.hid (P9.out.trans p2)
                  obtain ⟨kz, fz, zz⟩ := HX7.out.facts
                  clear p1 p2 p3 p4 hle ky fy zy kx fx zx
                  refine hK.out _ _ (HF8.out _ HB7.out) (fun hH => ?_)
                  clear hK K
                  try simp only [Act.put, List.setIfInBounds_toArray, List.set_cons_zero, List.set_cons_succ, List.getElem_toArray, List.getElem_cons_zero, List.getElem_cons_succ]
                  have hHeld2 := hH
                  first
                    | (refine wpAnyH_take (i := 10) (v := ?_) rfl (by kernel_rfl) (by kernel_rfl) (by kernel_rfl) (fun _ _ _ h => h) (Or.inl ⟨?_, ?_⟩) (by assumption) ?_; rotate_left; (focus rfl); (focus (intro w hSw; go_split_ands; go_simp; try with_reducible rfl)); skip)
                    | (refine wpAnyH_take (i := 10) (v := undef) rfl (by kernel_rfl) (by kernel_rfl) (by kernel_rfl) (fun _ _ _ h => h) (Or.inr ⟨?_, rfl⟩) (by assumption) ?_; (focus rfl))
                  try simp only [Act.put, List.setIfInBounds_toArray, List.set_cons_zero, List.set_cons_succ, List.getElem_toArray, List.getElem_cons_zero, List.getElem_cons_succ]
                  refine wpAnyH_ready (rs := [11]) (by kernel_rfl) (by simp) ?_
                  refine AllReadyH.cons rfl (fun K hK => ?_) AllReadyH.nil
                  go_simp
                  refine hK.out _ _ (HF8.out _ (below_set HB7.out hgW)) (fun hH => ?_)
                  clear hK K
                  try simp only [Act.put, List.setIfInBounds_toArray, List.set_cons_zero, List.set_cons_succ, List.getElem_toArray, List.getElem_cons_zero, List.getElem_cons_succ]
                  refine wpAnyH_done (by kernel_rfl) ?_ _
                  clear kz fz zz k1 f1 z1
                  go_wp2_with fail
                  go_roundw
                  case rel =>
                    have e9 : L1 ++ (m2.take (k + 1)).map ofE = (L1 ++ (m2.take k).map ofE) ++ [ofE x] := by rw [take_at HPK.out, List.map_append, List.append_assoc]; rfl
                    refine ⟨k + 1, some ⟨g7, 0, none⟩, c7, by omega, by go_num, ?_, ?_, ?_⟩
                    · exact HX7.out.set_ 3 (.slice (some ⟨g7, 0, none⟩) (n9 + (k + 1)) c7)
                    · rw [e9]; exact HO7.out.set1x HX7.out (by decide) 3 _
                    · exact below_set (HBk.out.trans HB7.out) hgW
                  case measure => simp [intOf]; omega
                · go_simp
                  refine hK.out _ _ (HF8.out _ P9.out) (fun hH => ?_)
                  clear hK K
                  try simp only [Act.put, List.setIfInBounds_toArray, List.set_cons_zero, List.set_cons_succ, List.getElem_toArray, List.getElem_cons_zero, List.getElem_cons_succ]
                  refine wpAnyH_ready (rs := [1]) (by kernel_rfl) (by simp) ?_
                  refine AllReadyH.cons rfl (fun K hK => ?_) AllReadyH.nil
                  go_simp
                  refine hK.out _ _ (HF8.out _ (P9.out)) (fun hH => ?_)
                  clear hK K
                  try simp only [Act.put, List.setIfInBounds_toArray, List.set_cons_zero, List.set_cons_succ, List.getElem_toArray, List.getElem_cons_zero, List.getElem_cons_succ]
                  refine wpAnyH_ready (rs := [9]) (by kernel_rfl) (by simp) ?_
                  refine AllReadyH.cons rfl (fun K hK => ?_) AllReadyH.nil
                  refine step_append_keep rfl (.tmp 64) (.tmp 71) 27 rfl W.heap.size 26 _ 3 24 Tryd.underlying27 identInfo rfl (Nat.succ_pos 2) idRow idRow_length idRow_one (L1 ++ (m2.take k).map ofE) _ rfl HOO.out (ofE x) #[.int .i64 x.idx, .int .i64 x.trm, .int .i64 x.knd] rfl 26 _ rfl HBX9.out HLL.out (by omega) HSS.out ?_
                  intro g7 c7 w7 p1 p2 p3 p4
                  have HX7 := Lib.hid (show Box w7 g #[.int .i64 b.idx, .int .i64 b.trm, .int .i64 b.knd, .slice A' (n9 + k) c'] 29 from (p4 g HXA.out.lt (fun he => HOO.out.spot_ne HXA.out (by decide) g he.symm rfl)).trans HXA.out)
                  have hle : ((L1 ++ (m2.take k).map ofE) ++ [ofE x]).length = n9 + (k + 1) := by rw [List.length_append, HLE.out]; rfl
                  rw [hle] at p1
                  rw [hle]
                  have HO7 := Lib.hid p1
                  have HB7 := Lib.hid (P9.out.trans p2)
                  obtain ⟨kz, fz, zz⟩ := HX7.out.facts
                  clear p1 p2 p3 p4 hle ky fy zy kx fx zx
                  refine hK.out _ _ (HF8.out _ HB7.out) (fun hH => ?_)
                  clear hK K
                  try simp only [Act.put, List.setIfInBounds_toArray, List.set_cons_zero, List.set_cons_succ, List.getElem_toArray, List.getElem_cons_zero, List.getElem_cons_succ]
                  have hHeld2 := hH
                  first
                    | (refine wpAnyH_take (i := 10) (v := ?_) rfl (by kernel_rfl) (by kernel_rfl) (by kernel_rfl) (fun _ _ _ h => h) (Or.inl ⟨?_, ?_⟩) (by assumption) ?_; rotate_left; (focus rfl); (focus (intro w hSw; go_split_ands; go_simp; try with_reducible rfl)); skip)
                    | (refine wpAnyH_take (i := 10) (v := undef) rfl (by kernel_rfl) (by kernel_rfl) (by kernel_rfl) (fun _ _ _ h => h) (Or.inr ⟨?_, rfl⟩) (by assumption) ?_; (focus rfl))
                  try simp only [Act.put, List.setIfInBounds_toArray, List.set_cons_zero, List.set_cons_succ, List.getElem_toArray, List.getElem_cons_zero, List.getElem_cons_succ]
                  refine wpAnyH_ready (rs := [11]) (by kernel_rfl) (by simp) ?_
                  refine AllReadyH.cons rfl (fun K hK => ?_) AllReadyH.nil
                  go_simp
                  refine hK.out _ _ (HF8.out _ (below_set HB7.out hgW)) (fun hH => ?_)
                  clear hK K
                  try simp only [Act.put, List.setIfInBounds_toArray, List.set_cons_zero, List.set_cons_succ, List.getElem_toArray, List.getElem_cons_zero, List.getElem_cons_succ]
                  refine wpAnyH_done (by kernel_rfl) ?_ _
                  clear kz fz zz k1 f1 z1
                  go_wp2_with fail
                  go_roundw
                  case rel =>
                    have e9 : L1 ++ (m2.take (k + 1)).map ofE = (L1 ++ (m2.take k).map ofE) ++ [ofE x] := by rw [take_at HPK.out, List.map_append, List.append_assoc]; rfl
                    refine ⟨k + 1, some ⟨g7, 0, none⟩, c7, by omega, by go_num, ?_, ?_, ?_⟩
                    · exact HX7.out.set_ 3 (.slice (some ⟨g7, 0, none⟩) (n9 + (k + 1)) c7)
                    · rw [e9]; exact HO7.out.set1x HX7.out (by decide) 3 _
                    · exact below_set (HBk.out.trans HB7.out) hgW
                  case measure => simp [intOf]; omega
            · have d0 : decide ((k : Int) < (m2.length : Int)) = false := decide_eq_false (by omega)
              have d0' : decide (k < m2.length) = false := decide_eq_false hlt
              have hkl : k = m2.length := by omega
              have HBL := Lib.hid (show (behV b l ⟨ix, cut, m1, m2⟩).length = n9 + k by rw [HBV.out, List.length_append, HLN.out, List.length_map, hkl])
              have HOf := Lib.hid (show Own 3 idRow 26 W.heap.size wr (.slice A' (n9 + k) c') (behV b l ⟨ix, cut, m1, m2⟩) from by have h := HOk.out; rw [hkl, List.take_length] at h; rw [HBV.out, hkl]; exact h)
              obtain ⟨kr, fr, zr⟩ := (X2.out.below HBk.out zl2).facts
              have HR := Lib.hid (X2.out.below HBk.out zl2)
              have hgw2 : w.heap.size ≤ g2 := by omega
              clear hkl HOk
              go_wp2_with fail
              refine bodyPost_with (fun V => Box V g2 #[.int .i64 b.idx, .int .i64 b.trm, .int .i64 b.knd, .slice A' (n9 + k) c'] 29 ∧ Own 3 idRow 26 W.heap.size V (.slice A' (n9 + k) c') (behV b l ⟨ix, cut, m1, m2⟩) ∧ Below w.heap.size w V) ⟨HR.out.set4 _ _ _ _, (((HOf.out.set_below zl2).set_below zl2).set_below zl2).set_below zl2, below_set (below_set (below_set (below_set (BW.out.trans (HBk.out.mono zw)) hgw2) hgw2) hgw2) hgw2⟩ ?_
              rintro wz ⟨hz1, hz2, hz3⟩
              obtain ⟨kz, -, -⟩ := hz1.facts
              rw [HBL.out]
              exact bodyPost_ret (v := .agg #[.int .i64 b.idx, .int .i64 b.trm, .int .i64 b.knd, .slice A' (n9 + k) c']) (by simp [results, Tryd.results13, go_sem, kz]) rfl ⟨A', c', rfl, hz2.less zw, hz3⟩
end Go.Proofs.YthadfdpdillemaaDoor
