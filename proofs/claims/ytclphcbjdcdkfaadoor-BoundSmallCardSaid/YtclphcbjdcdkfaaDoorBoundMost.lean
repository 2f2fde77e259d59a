/-
  bound.most, Majority, Of: contracts.
-/
import Derived.Test.YtclphcbjdcdkfaaDoorSorted
import Derived.Test.YtclphcbjdcdkfaaDoorBound
import Derived.Test.YtclphcbjdcdkfaaDoorAppend
set_option linter.unusedVariables false
set_option linter.unusedSimpArgs false
namespace Go.Proofs.YtclphcbjdcdkfaaDoor
open Go.RowKit Go.Maps

set_option maxRecDepth 100000 in
set_option maxHeartbeats 4000000 in
theorem mostB (l : List Int) (v : Value) (w : World) (h : Sl 1 i64Row w.heap.size w v l) (hn : l.length ≤ 1000000) :
    Calls Tryd.prog 47 #[v] w fun e w' => e = .returned (.int .i64 (medI l)) ∧ Below w.heap.size w w' := by
  obtain ⟨A, cap, rfl, -⟩ := id h
  by_cases hl : l = []
  · subst hl
    have e : medI [] = 0 := by unfold medI; rw [if_pos rfl]
    rw [e]
    clear e h
    go_enter Tryd.func47, Tryd.ntmps47
    go_wp2_with fail
    go_ret
    exact ⟨rfl, Below.refl _ _⟩
  · have hlp : 0 < l.length := List.length_pos_iff.2 hl
    have HS := Lib.hid (sortedV w.heap.size (.slice A l.length cap) l hn (w.alloc (.cells #[.slice A l.length cap] 45)) ((Box.new w #[.slice A l.length cap] 45).cell 0) (h.alloc _))
    have HM := Lib.hid (med_mid hl)
    obtain ⟨n, hnl⟩ : ∃ n, l.length = n := ⟨_, rfl⟩
    obtain ⟨d, hd⟩ : ∃ d, (n - 1) / 2 = d := ⟨_, rfl⟩
    obtain ⟨md, hmd⟩ : ∃ x, medI l = x := ⟨_, rfl⟩
    rw [hmd]
    rw [hnl, hd, hmd] at HM
    rw [hnl] at HS ⊢
    rw [hnl] at hn hlp
    have HNL := Lib.hid hnl
    have z0 : ((n : Int) == 0) = false := by simp; omega
    have z1 : ¬ n = 0 := by omega
    have w1 : wrap64 ((n : Int) - 1) = (n : Int) - 1 := by unfold wrap64; omega
    have q1 : ((n : Int) - 1).tdiv 2 = (d : Int) := by rw [Int.tdiv_eq_ediv_of_nonneg (by omega)]; omega
    have w2 : wrap64 (d : Int) = (d : Int) := by unfold wrap64; omega
    have hdn : d < n := by omega
    have i0 : (0 : Int) ≤ (d : Int) := by omega
    have i1 : (d : Int) < (n : Int) := by omega
    clear h hl hmd hnl hd
    go_enter Tryd.func47, Tryd.ntmps47
    go_wp2_with (first
      | (go_at_call 66; refine (valuesC _ _ _ _).mono ?_; rintro e w1 ⟨rfl, rfl⟩)
      | (go_at_call 65; refine HS.out.mono ?_; rintro e w2 ⟨u, rfl, hrow, hb⟩; obtain ⟨g, cp, rfl⟩ : ∃ g cp, u = .slice (some ⟨g, 0, none⟩) n cp := (by
           rcases hrow.2 with ⟨_, h0⟩ | ⟨g, cp, _, h1, _⟩
           · exact absurd h0 (by omega)
           · exact ⟨g, cp, h1⟩)
         have hc : w2.cell? ⟨g, d, none⟩ = some (.int .i64 md) := (by
           have := hrow.cells (g := g) rfl d (encZ md) (by rw [List.getElem?_map, HM.out]; rfl)
           rw [Addr.add_lit] at this
           simpa [encZ] using this)
         have HB2 := Lib.hid hb
         clear hrow hb))
    go_ret
    exact ⟨rfl, below_call (below_new _ _) HB2.out⟩

set_option maxHeartbeats 1000000 in
theorem majB (l : List Int) (v : Value) (w : World) (h : Sl 1 i64Row w.heap.size w v l) (hn : l.length ≤ 1000000) :
    Calls Tryd.prog 21 #[v] w fun e w' => e = .returned (.int .i64 (medI l)) ∧ Below w.heap.size w w' := by
  have HM := Lib.hid (mostB l v w h hn)
  obtain ⟨A, cap, rfl, -⟩ := id h
  obtain ⟨md, hmd⟩ : ∃ x, medI l = x := ⟨_, rfl⟩
  rw [hmd] at HM ⊢
  clear hmd h
  go_enter Tryd.func21, Tryd.ntmps21
  go_wp2_with (go_at_call 47; refine HM.out.mono ?_; rintro e w2 ⟨rfl, hb2⟩)
  go_ret
  exact ⟨rfl, hb2⟩

theorem ofB (c t : Int) (a : Idt) (l : List Int) (v : Value) (w : World) (h : Sl 1 i64Row w.heap.size w v l) (hn : l.length ≤ 1000000) (hG : errTypeIs w) :
    Calls Tryd.prog 26 #[.int .i64 c, .int .i64 t, .agg #[.int .i64 a.idx, .int .i64 a.trm, .int .i64 a.knd], v] w fun e w' => e = .returned (.int .i64 (ofI c t (medI l) a)) ∧ Below w.heap.size w w' :=
  ofB_of c t (medI l) a v w hG (fun W q => majB l v W (h.later q) hn)
end Go.Proofs.YtclphcbjdcdkfaaDoor
