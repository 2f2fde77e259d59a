/-
  group.Of: contract.
-/
import Derived.Test.YthadfdpdillemaaGreatDoorGroupOf
import Derived.Test.YthadfdpdillemaaGreatDoorEnt4
set_option linter.unusedVariables false
set_option linter.unusedSimpArgs false
namespace Go.Proofs.YthadfdpdillemaaGreatDoor
open Go.RowKit Go.Shelf

attribute [local go_sem] Oper.semAt_some

theorem ownFrom_box {β : Type} (B g : Nat) (cs : β → Array Value) (t : TypeId) : OwnFrom B (fun (s : β) W => Box W g (cs s) t) := fun s W W' row h hg hr => by
  refine (hg.block _ h.lt (fun e => ?_)).trans h
  obtain ⟨-, o, ho, hc⟩ := hr _ e.symm
  unfold Box at h
  rw [h] at ho; cases ho; simp [Obj.isCells] at hc
theorem own_kept {α : Type} {k : Nat} {row : α → List Value} {e : TypeId} {base : Nat} {l : List α} {v : Value} {W W' : World} {rw : Option Nat} (h : Own k row e base W v l) (hg : W.grownBy W' rw) (hr : ∀ r, rw = some r → ∃ o : Obj, W.heap[r]? = some o ∧ o.isCells = false) : Own k row e base W' v l := by
  refine World.ownsRow.kept h hg ?_
  rcases h.2 with ⟨rfl, _⟩ | ⟨g, cap, cur, rfl, _, hgb, _⟩
  · exact .inl rfl
  · refine .inr fun e' => ?_
    obtain ⟨o, ho, hc⟩ := hr g (by simpa [Value.ownBlock] using e'.symm)
    rw [hgb] at ho; cases ho; simp [Obj.isCells] at hc
theorem box_kept {W W' : World} {g : Nat} {cs : Array Value} {t : TypeId} {rw : Option Nat} (h : Box W g cs t) (hg : W.grownBy W' rw) (hr : ∀ r, rw = some r → ∃ o : Obj, W.heap[r]? = some o ∧ o.isCells = false) : Box W' g cs t := by
  refine (hg.block _ h.lt (fun e => ?_)).trans h
  obtain ⟨o, ho, hc⟩ := hr _ e.symm
  unfold Box at h
  rw [h] at ho; cases ho; simp [Obj.isCells] at hc

/-- What is behind when a round has found it. -/
def FndG (w : World) (g4 g5 : Nat) {es : List Ent} (pre : List (At1 es)) (W : World) : Prop :=
  ∃ (pre' : List (At1 es)) (x : At1 es) (v' : Value), pre = pre' ++ [x] ∧ (∀ y ∈ pre', grpE y.1.2 = false) ∧ grpE x.1.2 = true ∧ Box W g4 #[v'] 70 ∧ Box W g5 #[.int .i64 x.1.2.idx] 3 ∧ Own 1 i64Row 3 w.heap.size W v' x.1.2.bd
theorem fndG_from {w : World} {g4 g5 : Nat} {es : List Ent} (B : Nat) : OwnFrom B (fun (pre : List (At1 es)) W => FndG w g4 g5 pre W) := fun s W W' row h hg hr => by
  obtain ⟨pre', x, v', h1, h2, h3, h4, h5, h6⟩ := h
  have hr' := fun r e => (hr r e).2
  exact ⟨pre', x, v', h1, h2, h3, box_kept h4 hg hr', box_kept h5 hg hr', own_kept h6 hg hr'⟩
theorem mem_backN {n j : Nat} (h : j < n) : j ∈ backN n n := by
  unfold backN
  rw [List.mem_map]
  exact ⟨n - 1 - j, by rw [List.mem_range]; omega, by omega⟩
theorem back_all {es : List Ent} {ys : List (At1 es)} (h : ys.map (fun x => x.1.1) = backN es.length es.length) (hno : ∀ y ∈ ys, grpE y.1.2 = false) {j : Nat} {x : Ent} (hx : es[j]? = some x) : grpE x = false := by
  have hm : j ∈ ys.map (fun x => x.1.1) := by rw [h]; exact mem_backN (List.getElem?_eq_some_iff.1 hx).1
  obtain ⟨y, hy, rfl⟩ := List.mem_map.1 hm
  have := y.2
  rw [hx] at this
  cases this
  exact hno y hy
theorem back_found {es : List Ent} {pre : List (At1 es)} {x : At1 es} {k : Nat} (hk : k ≤ es.length) (h : (pre ++ [x]).map (fun x => x.1.1) = backN es.length k) (hno : ∀ y ∈ pre, grpE y.1.2 = false) {j : Nat} {y : Ent} (hj : x.1.1 < j) (hy : es[j]? = some y) : grpE y = false := by
  have hl : pre.length + 1 = k := by have := congrArg List.length h; simpa [backN] using this
  have hp : pre.map (fun x => x.1.1) = backN es.length pre.length ∧ x.1.1 = es.length - 1 - pre.length := by
    rw [← hl, backN_succ, List.map_append] at h
    have := List.append_inj h (by simp [backN])
    exact ⟨this.1, by simpa using this.2⟩
  have hjl := (List.getElem?_eq_some_iff.1 hy).1
  have hm : j ∈ pre.map (fun x => x.1.1) := by
    rw [hp.1]
    unfold backN
    rw [List.mem_map]
    exact ⟨es.length - 1 - j, by rw [List.mem_range]; omega, by omega⟩
  obtain ⟨z, hz, rfl⟩ := List.mem_map.1 hm
  have := z.2
  rw [hy] at this
  cases this
  exact hno z hz

set_option maxRecDepth 100000 in
set_option maxHeartbeats 4000000 in
theorem groupOf (base : List Int) (es : List Ent) (v vl : Value) (w : World) (h : Sl 1 i64Row w.heap.size w v base) (hl : Sl 4 entRow w.heap.size w vl es) (hin : ∀ x ∈ es, EntIn w.heap.size w x) (hb : base.length ≤ 1000000) (hn : es.length ≤ 1000000) :
    Calls Tryz.prog 60 #[v, vl] w fun e w' => ∃ v', e = .returned (.tuple #[v', .int .i64 (grpV base es).2]) ∧ Own 1 i64Row 3 w.heap.size w' v' (grpV base es).1 ∧ Below w.heap.size w w' := by
  obtain ⟨A, cap, rfl, -⟩ := id h
  obtain ⟨Al, capl, rfl, -⟩ := id hl
  obtain ⟨g4, hg4⟩ : ∃ g, g = w.heap.size := ⟨_, rfl⟩
  obtain ⟨W1, hW1⟩ : ∃ W1, W1 = (w.alloc (.cells #[.slice none 0 0] 70)).alloc (.cells #[.int .i64 0] 3) := ⟨_, rfl⟩
  have HB1 : Hid (Below w.heap.size w W1) := by rw [hW1]; exact below_call (below_new _ _) (below_new _ _)
  have X4 : Hid (Box W1 w.heap.size #[.slice none 0 0] 70) := by rw [hW1]; exact (Box.new _ _ _).alloc _
  have X5 : Hid (Box W1 (w.heap.size + 1) #[.int .i64 0] 3) := by
    have := Box.new (w.alloc (.cells #[.slice none 0 0] 70)) #[.int .i64 0] 3
    rw [World.size_alloc] at this
    rw [hW1]; exact this
  have hz1 : W1.heap.size = w.heap.size + 2 := by rw [hW1]; simp
  have CC := Lib.hid (cloneInts base _ W1 (h.later HB1.out) hb)
  have HL := Lib.hid hl
  have HIN := Lib.hid hin
  clear h hl hin
  refine (callsIn_wide (n := 8)).1 ?_
  refine callsIn_of_wp_marks Tryz.func60 rfl trivial ?_ rfl
  simp only [Tryz.ntmps60, List.size_toArray, List.length_cons, List.length_nil, Nat.reduceAdd, Nat.reduceSub, Array.replicate_succ, Array.replicate_zero, List.push_toArray, List.append_toArray, List.nil_append, List.cons_append]
  gi_wp2_with (first
    | (refine ⟨trivial, ?_⟩; gi_at_call 99; rw [← hW1]; refine (callsIn_wide.2 CC.out).mono ?_; rintro e w2 ⟨A2, c2, rfl, ho, hb2⟩; have HO2 := Lib.hid ho; have HB2 := Lib.hid hb2; have Y4 := Lib.hid (X4.out.later hb2); have Y5 := Lib.hid (X5.out.later hb2); obtain ⟨k4, f4, z4⟩ := Y4.out.facts; clear ho hb2)
    | (refine ⟨trivial, ?_⟩; gi_at_call 108; refine (callsIn_wide.2 (backC _ _ _ _)).mono ?_; rintro e w' ⟨rfl, rfl⟩))
  have Z4 := Lib.hid (Y4.out.set_ 0 (.slice A2 base.length c2))
  have Z5 := Lib.hid (Y5.out.far (p := ⟨w.heap.size, 0, none⟩) (show w.heap.size + 1 ≠ w.heap.size by omega) (.slice A2 base.length c2))
  have ZO := Lib.hid (HO2.out.set_below (i := 0) (u := .slice A2 base.length c2) (show w.heap.size < W1.heap.size by omega))
  have ZB := Lib.hid (below_set (i := 0) (u := .slice A2 base.length c2) (below_call HB1.out HB2.out) (Nat.le_refl w.heap.size))
  have hz2 := HB2.out.size
  obtain ⟨w3, hw3⟩ : ∃ z, z = w2.setCell ⟨w.heap.size, 0, none⟩ (.slice A2 base.length c2) := ⟨_, rfl⟩
  have hz3 : w3.heap.size = w2.heap.size := by rw [hw3]; simp
  rw [← hw3] at Z4 Z5 ZO ZB
  rw [← hw3]
  clear hw3 k4 f4 z4 hW1
  have HX := Lib.hid (Box.new w3 #[.slice Al es.length capl] 28)
  have HBx := Lib.hid (below_new w3 (.cells #[.slice Al es.length capl] 28))
  have hz0 : (w3.alloc (.cells #[.slice Al es.length capl] 28)).heap.size = w3.heap.size + 1 := by simp
  obtain ⟨W0, hW0⟩ : ∃ z, z = w3.alloc (.cells #[.slice Al es.length capl] 28) := ⟨_, rfl⟩
  rw [← hW0] at HX HBx hz0
  rw [← hW0]
  clear hW0
  obtain ⟨g5, hg5⟩ : ∃ g, g = w.heap.size + 1 := ⟨_, rfl⟩
  obtain ⟨gs, hgs⟩ : ∃ g, g = w2.heap.size := ⟨_, rfl⟩
  rw [← hg5] at Z5
  rw [← hg4] at Z4
  rw [hz3, ← hgs] at HX
  rw [← hg5, ← hgs, ← hg4]
  have U4 := Lib.hid (Z4.out.later HBx.out)
  have U5 := Lib.hid (Z5.out.later HBx.out)
  have UO := Lib.hid (ZO.out.later HBx.out)
  have UB := Lib.hid (below_call ZB.out HBx.out)
  have UL := Lib.hid ((HL.out.below UB.out).more (by omega : w.heap.size ≤ W0.heap.size))
  have HZ := Lib.hid (show g4 < W0.heap.size ∧ g5 < W0.heap.size ∧ gs < W0.heap.size ∧ w.heap.size ≤ g4 ∧ w.heap.size ≤ g5 ∧ g4 ≠ g5 by omega)
  have hwz : w.heap.size ≤ W0.heap.size := UB.out.size
  have HZ1 := Lib.hid (show g4 < W1.heap.size ∧ g5 < W1.heap.size ∧ w.heap.size ≤ W1.heap.size by omega)
  clear hz0 hz1 hz2 hz3 hg4 hg5 hgs Z4 Z5 ZO ZB HBx Y4 Y5 HO2 HB2 X4 X5 HB1 CC HL
  refine wpIn_rangeFunc_ownH rfl (by omega) (gf := 161) (lb := #[.pointer (some ⟨gs, 0, none⟩)]) rfl trivial (enters_of Tryz.func161 (by kernel_rfl) rfl)
    (back_stops Fence.wide _ trivial rfl (by omega) gs W0.heap.size (.slice Al es.length capl) es hn W0 HZ.out.2.2.1 (Nat.le_refl _) (HX.out.cell 0) UL.out) belowK_t (belowK_b (Nat.le_refl _)) (Below.refl _ _) (fun _ => rfl)
    (fun pre W => (∀ y ∈ pre, grpE y.1.2 = false) ∧ Below W0.heap.size W0 W)
    (fun c pre W => (c = .ret ∧ FndG w g4 g5 pre W) ∧ Below w.heap.size w W)
    (OwnFrom.and (ownFrom_pure _ _) (ownFrom_below (Nat.le_refl _) (Nat.le_refl _)))
    (fun c => OwnFrom.and (OwnFrom.and (ownFrom_pure _ _) (fndG_from _)) (ownFrom_below (Nat.le_refl _) hwz))
    ⟨by simp, Below.refl _ _⟩
    (fun x a' W => ∃ Bx, W0.heap.size ≤ Bx ∧ Box W Bx #[.int .i64 x.1.2.idx, .int .i64 x.1.2.trm, .int .i64 x.1.2.knd, .slice x.1.2.ba x.1.2.bd.length x.1.2.bc] 79 ∧ a' = { tmps := #[.slice A base.length cap, .slice Al es.length capl, undef, undef, .pointer (some ⟨g4, 0, none⟩), .pointer (some ⟨g5, 0, none⟩), undef, .pointer (some ⟨Bx, 0, none⟩), undef, undef, .slice A base.length cap, .slice A2 base.length c2, .slice Al es.length capl, .func (.func 161) #[] #[.pointer (some ⟨gs, 0, none⟩)], .int .i64 (x.1.1 : Int), Value.agg #[.int .i64 x.1.2.idx, .int .i64 x.1.2.trm, .int .i64 x.1.2.knd, .slice x.1.2.ba x.1.2.bd.length x.1.2.bc], undef, undef, undef, undef, undef, undef, undef, undef, undef, undef, undef, undef, undef, undef, undef, undef, undef], defers := [] })
    (fun x a' _ X Y row hs hg hr => by obtain ⟨Bx, e1, e2, e3⟩ := hs; exact ⟨Bx, e1, box_kept e2 hg (fun r e => (hr r e).2), e3⟩)
    ?assign ?body ?done ?stop
  case assign =>
    rintro l pre x W K ⟨hp, hB⟩ hK
    gi_wp2
    exact hK _ _ ((KeepsOthers.alloc _ _).from _) ((Below.refl _ W).alloc hB.size _) ⟨hp, hB.alloc hB.size _⟩ ⟨W.heap.size, hB.size, Box.new W _ _, rfl⟩
  case body =>
    rintro l pre x a' W hl ⟨r, hr⟩ ⟨hp, hB⟩ ⟨Bx, hBx, bX, rfl⟩ hlt
    obtain ⟨kx, fx, zx⟩ := bX.facts
    have hmem : x.1.2 ∈ es := List.mem_of_getElem? x.2
    have HE := HIN.out x.1.2 hmem
    have HS : Sl 1 u8Row W.heap.size W (.slice x.1.2.ba x.1.2.bd.length x.1.2.bc) x.1.2.bd := (HE.1.below (UB.out.trans (hB.mono hwz))).more (by have := hB.size; omega)
    have CM := Lib.hid (entMembers x.1.2.bd HE.2 _ W HS)
    have HP := Lib.hid hp
    have HBB := Lib.hid hB
    have hzW := hB.size
    have HXB := Lib.hid bX
    have HG : Hid (grpE x.1.2 = (memOk x.1.2.bd && decide (x.1.2.knd = 3))) := rfl
    clear hp hB HE HS bX hmem
    cases hm : memOk x.1.2.bd with
    | false =>
      have HM := Lib.hid hm
      have HN := Lib.hid (show grpE x.1.2 = false by rw [HG.out, hm]; rfl)
      clear hm
      gi_wp2_with (refine ⟨trivial, ?_⟩; gi_at_call 109; refine (CallsIn.inRound l (callsIn_wide.2 CM.out)).mono ?_; rintro e w5 ⟨v', rfl, ho, hb5⟩; rw [HM.out]; have HB5 := Lib.hid hb5; obtain ⟨ky, fy, zy⟩ := (HXB.out.later hb5).facts; clear ho hb5 kx fx zx)
      exact ⟨⟨HB5.out.size, fun k o hk ho hc => (HB5.out.block k (Array.getElem?_eq_some_iff.1 ho).1).trans ho⟩, HB5.out.mono hzW, fun y hy => (List.mem_append.1 hy).elim (HP.out y) (fun e => by simp at e; subst e; exact HN.out), HBB.out.trans (HB5.out.mono hzW)⟩
    | true =>
      have HM := Lib.hid hm
      clear hm
      by_cases hk3 : x.1.2.knd = 3
      · have HY := Lib.hid (show grpE x.1.2 = true by rw [HG.out, HM.out, hk3]; rfl)
        have k3 : (x.1.2.knd == 3) = true := by rw [hk3]; rfl
        clear hk3
        gi_wp2_with (refine ⟨trivial, ?_⟩; gi_at_call 109; refine (CallsIn.inRound l (callsIn_wide.2 CM.out)).mono ?_; rintro e w5 ⟨v', rfl, ho, hb5⟩; rw [HM.out] at ho; rw [HM.out]; rw [if_pos rfl] at ho; have HB5 := Lib.hid hb5; have HO5 := Lib.hid ho; obtain ⟨A5, c5, rfl⟩ := ho.len; obtain ⟨ky, fy, zy⟩ := (HXB.out.later hb5).facts; have V4 := Lib.hid ((U4.out.later HBB.out).later hb5); have V5 := Lib.hid ((U5.out.later HBB.out).later hb5); obtain ⟨k4, f4, z4⟩ := V4.out.facts; obtain ⟨k5, f5, z5⟩ := V5.out.facts; clear ho hb5 kx fx zx)
        have n1 : Bx ≠ g4 := by have := HZ.out; omega
        have n2 : Bx ≠ g5 := by have := HZ.out; omega
        have n3 : g4 ≠ g5 := HZ.out.2.2.2.2.2
        have n4 : g5 ≠ g4 := fun h => n3 h.symm
        have mixed : Tryz.prog.follows .mixedOrders = true := by kernel_rfl
        have Q4 : Hid (Box ((w5.setCell ⟨g4, 0, none⟩ (.slice A5 x.1.2.bd.length c5)).setCell ⟨g5, 0, none⟩ (.int .i64 x.1.2.idx)) g4 #[.slice A5 x.1.2.bd.length c5] 70) := (V4.out.set_ 0 (.slice A5 x.1.2.bd.length c5)).far (p := ⟨g5, 0, none⟩) n3 (.int .i64 x.1.2.idx)
        have Q5 : Hid (Box ((w5.setCell ⟨g4, 0, none⟩ (.slice A5 x.1.2.bd.length c5)).setCell ⟨g5, 0, none⟩ (.int .i64 x.1.2.idx)) g5 #[.int .i64 x.1.2.idx] 3) := (V5.out.far (p := ⟨g4, 0, none⟩) n4 (.slice A5 x.1.2.bd.length c5)).set_ 0 (.int .i64 x.1.2.idx)
        have QO : Hid (Own 1 i64Row 3 w.heap.size ((w5.setCell ⟨g4, 0, none⟩ (.slice A5 x.1.2.bd.length c5)).setCell ⟨g5, 0, none⟩ (.int .i64 x.1.2.idx)) (.slice A5 x.1.2.bd.length c5) x.1.2.bd) := ((HO5.out.set_below (i := 0) (u := .slice A5 x.1.2.bd.length c5) (show g4 < W.heap.size by have := HZ.out; omega)).set_below (i := 0) (u := .int .i64 x.1.2.idx) (show g5 < W.heap.size by have := HZ.out; omega)).less (by omega)
        have QB : Hid (Below w.heap.size w ((w5.setCell ⟨g4, 0, none⟩ (.slice A5 x.1.2.bd.length c5)).setCell ⟨g5, 0, none⟩ (.int .i64 x.1.2.idx))) := below_set (below_set (UB.out.trans ((HBB.out.mono hwz).trans (HB5.out.mono (by omega)))) HZ.out.2.2.2.1) HZ.out.2.2.2.2.1
        have QK : Hid (KeepsFrom W0.heap.size W ((w5.setCell ⟨g4, 0, none⟩ (.slice A5 x.1.2.bd.length c5)).setCell ⟨g5, 0, none⟩ (.int .i64 x.1.2.idx))) := ⟨by have := HB5.out.size; simp; exact this, fun k o hk ho hc => by
          have hz := HZ.out
          refine (Below.heap_setCell _ ⟨g5, 0, none⟩ _ k (by show k ≠ g5; omega)).trans ((Below.heap_setCell _ ⟨g4, 0, none⟩ _ k (by show k ≠ g4; omega)).trans ((HB5.out.block k (Array.getElem?_eq_some_iff.1 ho).1).trans ho))⟩
        gi_region_with_o (fail)
        all_goals gi_wp2
        all_goals (try go_bits)
        all_goals exact ⟨⟨QK.out.1, QK.out.2⟩, ⟨⟨rfl, pre, x, _, rfl, HP.out, HY.out, Q4.out, Q5.out, QO.out⟩, QB.out.drew⟩⟩
      · have HN := Lib.hid (show grpE x.1.2 = false by rw [HG.out, HM.out]; simp [hk3])
        have k3 : (x.1.2.knd == 3) = false := by simpa using hk3
        clear hk3
        gi_wp2_with (refine ⟨trivial, ?_⟩; gi_at_call 109; refine (CallsIn.inRound l (callsIn_wide.2 CM.out)).mono ?_; rintro e w5 ⟨v', rfl, ho, hb5⟩; rw [HM.out]; have HB5 := Lib.hid hb5; obtain ⟨ky, fy, zy⟩ := (HXB.out.later hb5).facts; clear ho hb5 kx fx zx)
        exact ⟨⟨HB5.out.size, fun k o hk ho hc => (HB5.out.block k (Array.getElem?_eq_some_iff.1 ho).1).trans ho⟩, HB5.out.mono hzW, fun y hy => (List.mem_append.1 hy).elim (HP.out y) (fun e => by simp at e; subst e; exact HN.out), HBB.out.trans (HB5.out.mono hzW)⟩
  case done =>
    rintro D ys W hD hys ⟨hp, hB⟩ hK
    have HG0 := Lib.hid (grp_none (base := base) (l := es) (fun j y hy => back_all hys hp hy))
    have V4 := Lib.hid (U4.out.later hB)
    have V5 := Lib.hid (U5.out.later hB)
    have VO := Lib.hid (UO.out.later hB)
    have HBB := Lib.hid (UB.out.trans (hB.mono hwz))
    have HKD := Lib.hid hK
    have HD := Lib.hid hD
    obtain ⟨k4, f4, z4⟩ := V4.out.facts
    obtain ⟨k5, f5, z5⟩ := V5.out.facts
    have n3 : g4 ≠ g5 := HZ.out.2.2.2.2.2
    have n4 : g5 ≠ g4 := fun h => n3 h.symm
    clear hp hB hys hK hD
    have Q4 : Hid (Box ((W.setCell ⟨g4, 0, none⟩ (.slice A2 base.length c2)).setCell ⟨g5, 0, none⟩ (.int .i64 0)) g4 #[.slice A2 base.length c2] 70) := (V4.out.set_ 0 (.slice A2 base.length c2)).far (p := ⟨g5, 0, none⟩) n3 (.int .i64 0)
    have Q5 : Hid (Box ((W.setCell ⟨g4, 0, none⟩ (.slice A2 base.length c2)).setCell ⟨g5, 0, none⟩ (.int .i64 0)) g5 #[.int .i64 0] 3) := (V5.out.far (p := ⟨g4, 0, none⟩) n4 (.slice A2 base.length c2)).set_ 0 (.int .i64 0)
    have QO : Hid (Own 1 i64Row 3 w.heap.size ((W.setCell ⟨g4, 0, none⟩ (.slice A2 base.length c2)).setCell ⟨g5, 0, none⟩ (.int .i64 0)) (.slice A2 base.length c2) base) := by
      exact ((VO.out.set_below (i := 0) (u := .slice A2 base.length c2) HZ1.out.1).set_below (i := 0) (u := .int .i64 0) HZ1.out.2.1).less HZ1.out.2.2
    have QB : Hid (Below w.heap.size w ((W.setCell ⟨g4, 0, none⟩ (.slice A2 base.length c2)).setCell ⟨g5, 0, none⟩ (.int .i64 0))) := below_set (below_set HBB.out HZ.out.2.2.2.1) HZ.out.2.2.2.2.1
    have QD : Hid (((W.setCell ⟨g4, 0, none⟩ (.slice A2 base.length c2)).setCell ⟨g5, 0, none⟩ (.int .i64 0)).heap[D]? = some (.deferred (some []))) := by
      have hz := HZ.out
      have hd := HD.out
      exact (Below.heap_setCell _ ⟨g5, 0, none⟩ _ D (by show D ≠ g5; omega)).trans ((Below.heap_setCell _ ⟨g4, 0, none⟩ _ D (by show D ≠ g4; omega)).trans HKD.out)
    gi_wp2
    refine ⟨by simp, .inl ⟨_, _, rfl, run_takeDeferred QD.out, ?_⟩⟩
    have hr : ∀ r, some D = some r → ∃ o : Obj, ((W.setCell ⟨g4, 0, none⟩ (.slice A2 base.length c2)).setCell ⟨g5, 0, none⟩ (.int .i64 0)).heap[r]? = some o ∧ o.isCells = false := fun r e => by cases e; exact ⟨_, QD.out, rfl⟩
    have q4 := (box_kept Q4.out (grownBy_putObj' _ D (.deferred none)) hr).cell 0
    have q5 := (box_kept Q5.out (grownBy_putObj' _ D (.deferred none)) hr).cell 0
    refine ⟨.tuple #[.slice A2 base.length c2, .int .i64 0], ?_, .slice A2 base.length c2, by rw [HG0.out], by rw [HG0.out]; exact own_kept QO.out (grownBy_putObj' _ D (.deferred none)) hr, QB.out.trans ((belowK_b (w := W0) (Nat.le_refl _) _ D _ _ HD.out QD.out rfl rfl).mono hwz)⟩
    simp [results, Tryz.f60, go_sem, q4, q5]
  case stop =>
    rintro D c pre W hD ⟨k, hk, hpk⟩ ⟨⟨rfl, pre', x, v', rfl, hno, hyes, b4, b5, ho⟩, hB⟩ hK
    have HG0 := Lib.hid (grp_back (base := base) x.2 (fun j y hj hy => back_found hk hpk hno hj hy) hyes)
    have HBB := Lib.hid hB
    have QD := Lib.hid hK
    have HD := Lib.hid hD
    have Q4 := Lib.hid b4
    have Q5 := Lib.hid b5
    have QO := Lib.hid ho
    clear hB hK hD b4 b5 ho hno hyes hpk hk
    gi_wp2
    refine ⟨by simp, .inl ⟨_, _, rfl, run_takeDeferred QD.out, ?_⟩⟩
    have hr : ∀ r, some D = some r → ∃ o : Obj, W.heap[r]? = some o ∧ o.isCells = false := fun r e => by cases e; exact ⟨_, QD.out, rfl⟩
    have q4 := (box_kept Q4.out (grownBy_putObj' _ D (.deferred none)) hr).cell 0
    have q5 := (box_kept Q5.out (grownBy_putObj' _ D (.deferred none)) hr).cell 0
    refine ⟨.tuple #[v', .int .i64 x.1.2.idx], ?_, v', by rw [HG0.out], by rw [HG0.out]; exact own_kept QO.out (grownBy_putObj' _ D (.deferred none)) hr, HBB.out.trans ((belowK_b (w := W0) (Nat.le_refl _) _ D _ _ HD.out QD.out rfl rfl).mono hwz)⟩
    simp [results, Tryz.f60, go_sem, q4, q5]
end Go.Proofs.YthadfdpdillemaaGreatDoor
