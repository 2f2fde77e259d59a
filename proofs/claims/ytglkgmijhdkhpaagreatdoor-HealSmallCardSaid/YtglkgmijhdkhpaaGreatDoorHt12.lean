/-
  limpetkit's LentIdents, KeptIdents: contracts.
-/
import Derived.Test.YtglkgmijhdkhpaaGreatDoorHt3
import Derived.Test.YtglkgmijhdkhpaaGreatDoorHt2
import Derived.Deep.RegionHeld3
namespace Go.Proofs.YtglkgmijhdkhpaaGreatDoor
open Go.RowKit
set_option linter.unusedVariables false
set_option linter.unusedSimpArgs false

theorem identInfo : (Tryz.prog.info? 42).map (fun i => (i.zero, i.size, i.bytes)) = some (some (.agg #[.int .i64 0, .int .i64 0, .int .i64 0]), 3, 24) := by kernel_rfl
def mrkI (i : Nat) : Idt := ⟨8000024 + (i : Int), 0, 0⟩
def marksI : List Idt := (List.range 12).map mrkI
theorem marksI_length : marksI.length = 12 := rfl
theorem marksI_at {i : Nat} (h : i < 12) : marksI[i]? = some (mrkI i) := by simp [marksI, h]
theorem marksI_more {i : Nat} (h : i < 12) : marksI.take (i + 1) = marksI.take i ++ [mrkI i] := take_at (marksI_at h)

set_option maxHeartbeats 400000 in
theorem markI (x : Int) (w : World) (h0 : 0 ≤ x) (h1 : x ≤ 12) : Calls Tryz.prog 28 #[.int .i64 1, .int .i64 x] w fun e w' => e = .returned (.agg #[.int .i64 (8000024 + x), .int .i64 0, .int .i64 0]) ∧ Below w.heap.size w w' := by
  go_enter Tryz.func28, Tryz.ntmps28
  go_wp2_with fail
  refine (mark2 x _ h0 h1).mono ?_
  rintro e w1 ⟨rfl, hw⟩
  subst hw
  go_wp2_with fail
  refine bodyPost_ret (v := .agg #[.int .i64 (8000024 + x), .int .i64 0, .int .i64 0]) (by simp [results, Tryz.results28, go_sem]) rfl ⟨rfl, ?_⟩
  repeat refine below_set ?_ (by simp)
  exact below_new _ _

set_option maxHeartbeats 400000 in
theorem lentIdentsF (l : List Idt) (v : Value) (w : World) (h : Sl 3 idRow w.heap.size w v l) (hn : l.length ≤ 1000000) :
    Calls Tryz.prog 7 #[v] w fun e w' => ∃ g cp, e = .returned (.slice (some ⟨g, 0, none⟩) l.length cp) ∧ w.heap.size ≤ g ∧ Lnt 3 idRow marksI w'.heap.size w' (.slice (some ⟨g, 0, none⟩) l.length cp) l ∧ Below w.heap.size w w' := by
  have h' := h
  obtain ⟨A, cap, rfl, hlc, hcm, hN, -⟩ := h'
  clear hcm hN
  go_enter Tryz.func7, Tryz.ntmps7
  go_wp2_with (first
    | (at_make; refine wpList_make_rows _ rfl _ _ 22 rfl idRow w.heap.size 42 _ 3 24 Tryz.underlying22 identInfo .i64 .i64 _ (l.length + 12) rfl rfl (by omega) (by omega) (by omega) (Nat.le_refl _) ?_; intro w0 hown0 hb0)
    | (at_builtin; refine wpList_append_all _ rfl (.tmp 9) (.tmp 10) 22 rfl w.heap.size 42 _ 3 24 Tryz.underlying22 identInfo rfl (by omega) idRow idRow_length idRow_one [] _ rfl hown0 l w.heap.size _ (h.below hb0) rfl (by unfold maxLen; simp; omega) (by simp; omega) hb0.size ?_; intro v' w' h1 h2 h3 h4 h5))
  have hB := hb0.trans h2
  rw [List.nil_append] at h1
  clear hown0 hb0 h2 h3 h4 h5
  go_loopw [3, 4] (fun v i wr => ∃ k : Nat, k ≤ 12 ∧ i = .int .i64 k ∧ Own 3 idRow 42 w.heap.size wr v (l ++ marksI.take k) ∧ (v = .slice none 0 0 → k = 0) ∧ Below w.heap.size w wr) (fun _ i _ => 12 - (intOf i).toNat)
  case atStart => exact ⟨0, by omega, rfl, by simpa using h1, fun _ => rfl, hB⟩
  case round =>
    clear h1 hB
    obtain ⟨k, hk, rfl, hown, hnn, hB⟩ := hrel
    by_cases hlt : k < 12
    · have HO := Lib.hid hown
      have HN := Lib.hid hnn
      have hz := hB.size
      have hle : (l ++ marksI.take k).length ≤ 1000012 := by have := List.length_take_le k marksI; rw [List.length_append]; omega
      clear hown hnn
      go_wp2_with fail
      refine (markI k _ (by omega) (by omega)).mono ?_
      rintro e w1 ⟨rfl, hb1⟩
      have HO1 := Lib.hid (HO.out.later hb1)
      have HB1 := Lib.hid (below_call hB hb1)
      have hz1 := (below_call hB hb1).size
      clear hB hb1
      go_wp2_with (at_builtin; refine wpList_append_row _ rfl (.tmp 16) (.tmp 19) 22 rfl w.heap.size 42 _ 3 24 Tryz.underlying22 identInfo rfl (by omega) idRow idRow_length idRow_one _ _ rfl HO1.out (mrkI k) _ rfl 42 _ rfl rfl (by omega) (by omega) hz1 ?_; intro v' w' p1 p2 p3 p4 p5)
      have HP := Lib.hid p1
      have HB := Lib.hid (HB1.out.trans p2)
      have HV := Lib.hid p5
      clear p1 p2 p3 p4 p5
      go_roundw
      case rel => exact ⟨k + 1, by omega, by go_num, by rw [marksI_more hlt, ← List.append_assoc]; exact HP.out, fun h => absurd h HV.out, HB.out⟩
      case measure => simp [intOf]; omega
    · obtain rfl : k = 12 := by omega
      have h3 : u3 ≠ .slice none 0 0 := fun h => by have := hnn h; omega
      obtain ⟨g, cp, rfl, q1, q2, q3, q4⟩ := hown.form' h3
      have HL : Hid (Lnt 3 idRow marksI wr.heap.size wr (.slice (some ⟨g, 0, none⟩) l.length cp) l) := Own.lnt hown idRow_length (by decide)
      have HB := Lib.hid hB
      have hlen : (l ++ marksI.take 12).length = l.length + 12 := by rw [List.length_append]; rfl
      rw [hlen] at q1
      clear hown hnn h3 hB
      go_wp2
      go_ret
      exact ⟨_, _, rfl, q3, HL.out, HB.out⟩

theorem lentIdents (l : List Idt) (v : Value) (w : World) (h : Sl 3 idRow w.heap.size w v l) (hn : l.length ≤ 1000000) :
    Calls Tryz.prog 7 #[v] w fun e w' => ∃ v', e = .returned v' ∧ Lnt 3 idRow marksI w'.heap.size w' v' l ∧ Below w.heap.size w w' :=
  (lentIdentsF l v w h hn).mono fun e w' ⟨g, cp, he, _, hl, hb⟩ => ⟨_, he, hl, hb⟩

set_option maxHeartbeats 4000000 in
theorem keptIdents (l : List Idt) (v v' : Value) (w : World) (h : Lnt 3 idRow marksI w.heap.size w v l) (h' : Sl 3 idRow w.heap.size w v' l) (hn : l.length ≤ 1000000) :
    Calls Tryz.prog 22 #[v, v'] w fun e w' => e = .returned (.bool true) ∧ Below w.heap.size w w' := by
  obtain ⟨g, cap, rfl, q1, q2, hg, hall⟩ := h
  obtain ⟨A', cap', rfl, hlc', hcm', -, hA'⟩ := h'
  rw [marksI_length] at q1
  have q2' : cap ≤ 9223372036854775807 := by unfold maxLen at q2; omega
  clear hcm' q2
  go_enter Tryz.func22, Tryz.ntmps22
  go_wp2_with fail
  go_loopw [6] (fun i wr => ∃ k : Nat, k ≤ l.length + 12 ∧ i = .int .i64 k ∧ Below w.heap.size w wr) (fun i _ => l.length + 12 - (intOf i).toNat)
  case atStart => exact ⟨0, by omega, rfl, Below.refl _ _⟩
  case round =>
    obtain ⟨k, hk, rfl, hB⟩ := hrel
    have HB := Lib.hid hB
    have hcc : ∀ (b o : Nat), b < w.heap.size → wr.cell? ⟨b, o, none⟩ = w.cell? ⟨b, o, none⟩ := fun b o hb => hB.cell (p := ⟨b, o, none⟩) hb
    have hz := hB.size
    clear hB
    have i0 : (0 : Int) ≤ (k : Int) := by omega
    by_cases hlt : k < l.length
    · obtain ⟨b', off', rfl, hb', hcell'⟩ := hA' (by intro h; subst h; simp at hlt)
      obtain ⟨x, hx⟩ : ∃ x, l[k]? = some x := ⟨_, List.getElem?_eq_getElem hlt⟩
      have hxx : (l ++ marksI)[k]? = some x := by rw [List.getElem?_append_left hlt]; exact hx
      have c0 : wr.cell? ⟨g, k * 3, none⟩ = some (.int .i64 x.idx) := by rw [hcc _ _ hg]; simpa using hall k x hxx 0 _ rfl
      have c1 : wr.cell? ⟨g, k * 3 + 1, none⟩ = some (.int .i64 x.trm) := by rw [hcc _ _ hg]; simpa using hall k x hxx 1 _ rfl
      have c2 : wr.cell? ⟨g, k * 3 + 2, none⟩ = some (.int .i64 x.knd) := by rw [hcc _ _ hg]; simpa using hall k x hxx 2 _ rfl
      have d0 : wr.cell? ⟨b', off' + k * 3, none⟩ = some (.int .i64 x.idx) := by rw [hcc _ _ hb']; simpa using hcell' k x hx 0 _ rfl
      have d1 : wr.cell? ⟨b', off' + k * 3 + 1, none⟩ = some (.int .i64 x.trm) := by rw [hcc _ _ hb']; simpa using hcell' k x hx 1 _ rfl
      have d2 : wr.cell? ⟨b', off' + k * 3 + 2, none⟩ = some (.int .i64 x.knd) := by rw [hcc _ _ hb']; simpa using hcell' k x hx 2 _ rfl
      have i1 : (k : Int) < (l.length : Int) := by omega
      have i2 : (k : Int) < (l.length : Int) + 12 := by omega
      have d3 : decide (k < l.length) = true := by simpa using hlt
      have d4 : decide (l.length ≤ k) = false := by simpa using hlt
      clear hcell' hx hxx hA' hall hcc
      go_wp2_with fail
      go_quiet (fail)
      go_wp2_with fail
      go_roundw
      case rel => exact ⟨k + 1, by omega, by go_num, below_drewN HB.out _⟩
      case measure => simp [intOf]; omega
    · by_cases hlt2 : k < l.length + 12
      · obtain ⟨j, hj⟩ : ∃ j, j = k - l.length := ⟨_, rfl⟩
        have hxx : (l ++ marksI)[k]? = some (mrkI j) := by rw [hj, List.getElem?_append_right (by omega)]; exact marksI_at (by omega)
        have ej : (8000024 : Int) + ((k : Int) - (l.length : Int)) = 8000024 + (j : Int) := by omega
        have c0 : wr.cell? ⟨g, k * 3, none⟩ = some (.int .i64 (8000024 + ((k : Int) - (l.length : Int)))) := by rw [hcc _ _ hg, ej]; simpa [mrkI] using hall k _ hxx 0 _ rfl
        have c1 : wr.cell? ⟨g, k * 3 + 1, none⟩ = some (.int .i64 0) := by rw [hcc _ _ hg]; simpa [mrkI] using hall k _ hxx 1 _ rfl
        have c2 : wr.cell? ⟨g, k * 3 + 2, none⟩ = some (.int .i64 0) := by rw [hcc _ _ hg]; simpa [mrkI] using hall k _ hxx 2 _ rfl
        have i1 : (l.length : Int) ≤ (k : Int) := by omega
        have i2 : (k : Int) < (l.length : Int) + 12 := by omega
        have m0 : (0 : Int) ≤ (k : Int) - (l.length : Int) := by omega
        have m1 : (k : Int) - (l.length : Int) ≤ 12 := by omega
        have d3 : decide (k < l.length) = false := by simpa using hlt
        have d4 : decide (l.length ≤ k) = true := by simpa using hlt
        have w1 : IntKind.i64.wrap ((k : Int) - (l.length : Int)) = (k : Int) - (l.length : Int) := IntWalk.i64_in _ (by omega)
        have HF : Hid (∀ w', Below wr.heap.size wr w' → w'.cell? ⟨g, k * 3, none⟩ = some (.int .i64 (8000024 + ((k : Int) - (l.length : Int)))) ∧ w'.cell? ⟨g, k * 3 + 1, none⟩ = some (.int .i64 0) ∧ w'.cell? ⟨g, k * 3 + 2, none⟩ = some (.int .i64 0) ∧ Below wr.heap.size wr w') :=
          fun w' q => ⟨(q.cell (p := ⟨g, k * 3, none⟩) (by show g < _; omega)).trans c0, (q.cell (p := ⟨g, k * 3 + 1, none⟩) (by show g < _; omega)).trans c1, (q.cell (p := ⟨g, k * 3 + 2, none⟩) (by show g < _; omega)).trans c2, q⟩
        clear hA' hall hlt hcc c0 c1 c2 hxx hj ej
        go_wp2_with fail
        refine wp_region_held_drew (S := fun w' => w'.cell? ⟨g, k * 3, none⟩ = some (.int .i64 (8000024 + ((k : Int) - (l.length : Int)))) ∧ w'.cell? ⟨g, k * 3 + 1, none⟩ = some (.int .i64 0) ∧ w'.cell? ⟨g, k * 3 + 2, none⟩ = some (.int .i64 0) ∧ Below wr.heap.size wr w') (by kernel_rfl) (HF.out _ (Below.refl _ _).drew) (fun hHeld => ?_)
        first
          | (refine wpAnyH_take (i := 0) (v := ?_) rfl (by kernel_rfl) (by kernel_rfl) (by kernel_rfl) (fun _ _ _ h => h) (Or.inl ⟨?_, ?_⟩) (by assumption) ?_; rotate_left; (focus rfl); (focus (intro w hSw; go_split_ands; go_simp; try with_reducible rfl)); skip)
          | (refine wpAnyH_take (i := 0) (v := undef) rfl (by kernel_rfl) (by kernel_rfl) (by kernel_rfl) (fun _ _ _ h => h) (Or.inr ⟨?_, rfl⟩) (by assumption) ?_; (focus rfl))
        try simp only [Act.put, List.setIfInBounds_toArray, List.set_cons_zero, List.set_cons_succ, List.getElem_toArray, List.getElem_cons_zero, List.getElem_cons_succ]
        first
          | (refine wpAnyH_take (i := 1) (v := ?_) rfl (by kernel_rfl) (by kernel_rfl) (by kernel_rfl) (fun _ _ _ h => h) (Or.inl ⟨?_, ?_⟩) (by assumption) ?_; rotate_left; (focus rfl); (focus (intro w hSw; go_split_ands; go_simp; try with_reducible rfl)); skip)
          | (refine wpAnyH_take (i := 1) (v := undef) rfl (by kernel_rfl) (by kernel_rfl) (by kernel_rfl) (fun _ _ _ h => h) (Or.inr ⟨?_, rfl⟩) (by assumption) ?_; (focus rfl))
        try simp only [Act.put, List.setIfInBounds_toArray, List.set_cons_zero, List.set_cons_succ, List.getElem_toArray, List.getElem_cons_zero, List.getElem_cons_succ]
        first
          | (refine wpAnyH_take (i := 2) (v := ?_) rfl (by kernel_rfl) (by kernel_rfl) (by kernel_rfl) (fun _ _ _ h => h) (Or.inl ⟨?_, ?_⟩) (by assumption) ?_; rotate_left; (focus rfl); (focus (intro w hSw; go_split_ands; go_simp; try with_reducible rfl)); skip)
          | (refine wpAnyH_take (i := 2) (v := undef) rfl (by kernel_rfl) (by kernel_rfl) (by kernel_rfl) (fun _ _ _ h => h) (Or.inr ⟨?_, rfl⟩) (by assumption) ?_; (focus rfl))
        try simp only [Act.put, List.setIfInBounds_toArray, List.set_cons_zero, List.set_cons_succ, List.getElem_toArray, List.getElem_cons_zero, List.getElem_cons_succ]
        first
          | (refine wpAnyH_take (i := 3) (v := ?_) rfl (by kernel_rfl) (by kernel_rfl) (by kernel_rfl) (fun _ _ _ h => h) (Or.inl ⟨?_, ?_⟩) (by assumption) ?_; rotate_left; (focus rfl); (focus (intro w hSw; go_split_ands; go_simp; try with_reducible rfl)); skip)
          | (refine wpAnyH_take (i := 3) (v := undef) rfl (by kernel_rfl) (by kernel_rfl) (by kernel_rfl) (fun _ _ _ h => h) (Or.inr ⟨?_, rfl⟩) (by assumption) ?_; (focus rfl))
        try simp only [Act.put, List.setIfInBounds_toArray, List.set_cons_zero, List.set_cons_succ, List.getElem_toArray, List.getElem_cons_zero, List.getElem_cons_succ]
        first
          | (refine wpAnyH_take (i := 4) (v := ?_) rfl (by kernel_rfl) (by kernel_rfl) (by kernel_rfl) (fun _ _ _ h => h) (Or.inl ⟨?_, ?_⟩) (by assumption) ?_; rotate_left; (focus rfl); (focus (intro w hSw; go_split_ands; go_simp; try with_reducible rfl)); skip)
          | (refine wpAnyH_take (i := 4) (v := undef) rfl (by kernel_rfl) (by kernel_rfl) (by kernel_rfl) (fun _ _ _ h => h) (Or.inr ⟨?_, rfl⟩) (by assumption) ?_; (focus rfl))
        try simp only [Act.put, List.setIfInBounds_toArray, List.set_cons_zero, List.set_cons_succ, List.getElem_toArray, List.getElem_cons_zero, List.getElem_cons_succ]
        first
          | (refine wpAnyH_take (i := 5) (v := ?_) rfl (by kernel_rfl) (by kernel_rfl) (by kernel_rfl) (fun _ _ _ h => h) (Or.inl ⟨?_, ?_⟩) (by assumption) ?_; rotate_left; (focus rfl); (focus (intro w hSw; go_split_ands; go_simp; try with_reducible rfl)); skip)
          | (refine wpAnyH_take (i := 5) (v := undef) rfl (by kernel_rfl) (by kernel_rfl) (by kernel_rfl) (fun _ _ _ h => h) (Or.inr ⟨?_, rfl⟩) (by assumption) ?_; (focus rfl))
        try simp only [Act.put, List.setIfInBounds_toArray, List.set_cons_zero, List.set_cons_succ, List.getElem_toArray, List.getElem_cons_zero, List.getElem_cons_succ]
        first
          | (refine wpAnyH_take (i := 6) (v := ?_) rfl (by kernel_rfl) (by kernel_rfl) (by kernel_rfl) (fun _ _ _ h => h) (Or.inl ⟨?_, ?_⟩) (by assumption) ?_; rotate_left; (focus rfl); (focus (intro w hSw; go_split_ands; go_simp; try with_reducible rfl)); skip)
          | (refine wpAnyH_take (i := 6) (v := undef) rfl (by kernel_rfl) (by kernel_rfl) (by kernel_rfl) (fun _ _ _ h => h) (Or.inr ⟨?_, rfl⟩) (by assumption) ?_; (focus rfl))
        try simp only [Act.put, List.setIfInBounds_toArray, List.set_cons_zero, List.set_cons_succ, List.getElem_toArray, List.getElem_cons_zero, List.getElem_cons_succ]
        first
          | (refine wpAnyH_take (i := 7) (v := ?_) rfl (by kernel_rfl) (by kernel_rfl) (by kernel_rfl) (fun _ _ _ h => h) (Or.inl ⟨?_, ?_⟩) (by assumption) ?_; rotate_left; (focus rfl); (focus (intro w hSw; go_split_ands; go_simp; try with_reducible rfl)); skip)
          | (refine wpAnyH_take (i := 7) (v := undef) rfl (by kernel_rfl) (by kernel_rfl) (by kernel_rfl) (fun _ _ _ h => h) (Or.inr ⟨?_, rfl⟩) (by assumption) ?_; (focus rfl))
        try simp only [Act.put, List.setIfInBounds_toArray, List.set_cons_zero, List.set_cons_succ, List.getElem_toArray, List.getElem_cons_zero, List.getElem_cons_succ]
        first
          | (refine wpAnyH_take (i := 8) (v := ?_) rfl (by kernel_rfl) (by kernel_rfl) (by kernel_rfl) (fun _ _ _ h => h) (Or.inl ⟨?_, ?_⟩) (by assumption) ?_; rotate_left; (focus rfl); (focus (intro w hSw; go_split_ands; go_simp; try with_reducible rfl)); skip)
          | (refine wpAnyH_take (i := 8) (v := undef) rfl (by kernel_rfl) (by kernel_rfl) (by kernel_rfl) (fun _ _ _ h => h) (Or.inr ⟨?_, rfl⟩) (by assumption) ?_; (focus rfl))
        try simp only [Act.put, List.setIfInBounds_toArray, List.set_cons_zero, List.set_cons_succ, List.getElem_toArray, List.getElem_cons_zero, List.getElem_cons_succ]
        first
          | (refine wpAnyH_take (i := 9) (v := ?_) rfl (by kernel_rfl) (by kernel_rfl) (by kernel_rfl) (fun _ _ _ h => h) (Or.inl ⟨?_, ?_⟩) (by assumption) ?_; rotate_left; (focus rfl); (focus (intro w hSw; go_split_ands; go_simp; try with_reducible rfl)); skip)
          | (refine wpAnyH_take (i := 9) (v := undef) rfl (by kernel_rfl) (by kernel_rfl) (by kernel_rfl) (fun _ _ _ h => h) (Or.inr ⟨?_, rfl⟩) (by assumption) ?_; (focus rfl))
        try simp only [Act.put, List.setIfInBounds_toArray, List.set_cons_zero, List.set_cons_succ, List.getElem_toArray, List.getElem_cons_zero, List.getElem_cons_succ]
        first
          | (refine wpAnyH_take (i := 10) (v := ?_) rfl (by kernel_rfl) (by kernel_rfl) (by kernel_rfl) (fun _ _ _ h => h) (Or.inl ⟨?_, ?_⟩) (by assumption) ?_; rotate_left; (focus rfl); (focus (intro w hSw; go_split_ands; go_simp; try with_reducible rfl)); skip)
          | (refine wpAnyH_take (i := 10) (v := undef) rfl (by kernel_rfl) (by kernel_rfl) (by kernel_rfl) (fun _ _ _ h => h) (Or.inr ⟨?_, rfl⟩) (by assumption) ?_; (focus rfl))
        try simp only [Act.put, List.setIfInBounds_toArray, List.set_cons_zero, List.set_cons_succ, List.getElem_toArray, List.getElem_cons_zero, List.getElem_cons_succ]
        first
          | (refine wpAnyH_take (i := 11) (v := ?_) rfl (by kernel_rfl) (by kernel_rfl) (by kernel_rfl) (fun _ _ _ h => h) (Or.inl ⟨?_, ?_⟩) (by assumption) ?_; rotate_left; (focus rfl); (focus (intro w hSw; go_split_ands; go_simp; try with_reducible rfl)); skip)
          | (refine wpAnyH_take (i := 11) (v := undef) rfl (by kernel_rfl) (by kernel_rfl) (by kernel_rfl) (fun _ _ _ h => h) (Or.inr ⟨?_, rfl⟩) (by assumption) ?_; (focus rfl))
        try simp only [Act.put, List.setIfInBounds_toArray, List.set_cons_zero, List.set_cons_succ, List.getElem_toArray, List.getElem_cons_zero, List.getElem_cons_succ]
        first
          | (refine wpAnyH_take (i := 12) (v := ?_) rfl (by kernel_rfl) (by kernel_rfl) (by kernel_rfl) (fun _ _ _ h => h) (Or.inl ⟨?_, ?_⟩) (by assumption) ?_; rotate_left; (focus rfl); (focus (intro w hSw; go_split_ands; go_simp; try with_reducible rfl)); skip)
          | (refine wpAnyH_take (i := 12) (v := undef) rfl (by kernel_rfl) (by kernel_rfl) (by kernel_rfl) (fun _ _ _ h => h) (Or.inr ⟨?_, rfl⟩) (by assumption) ?_; (focus rfl))
        try simp only [Act.put, List.setIfInBounds_toArray, List.set_cons_zero, List.set_cons_succ, List.getElem_toArray, List.getElem_cons_zero, List.getElem_cons_succ]
        first
          | (refine wpAnyH_take (i := 13) (v := ?_) rfl (by kernel_rfl) (by kernel_rfl) (by kernel_rfl) (fun _ _ _ h => h) (Or.inl ⟨?_, ?_⟩) (by assumption) ?_; rotate_left; (focus rfl); (focus (intro w hSw; go_split_ands; go_simp; try with_reducible rfl)); skip)
          | (refine wpAnyH_take (i := 13) (v := undef) rfl (by kernel_rfl) (by kernel_rfl) (by kernel_rfl) (fun _ _ _ h => h) (Or.inr ⟨?_, rfl⟩) (by assumption) ?_; (focus rfl))
        try simp only [Act.put, List.setIfInBounds_toArray, List.set_cons_zero, List.set_cons_succ, List.getElem_toArray, List.getElem_cons_zero, List.getElem_cons_succ]
        first
          | (refine wpAnyH_take (i := 14) (v := ?_) rfl (by kernel_rfl) (by kernel_rfl) (by kernel_rfl) (fun _ _ _ h => h) (Or.inl ⟨?_, ?_⟩) (by assumption) ?_; rotate_left; (focus rfl); (focus (intro w hSw; go_split_ands; go_simp; try with_reducible rfl)); skip)
          | (refine wpAnyH_take (i := 14) (v := undef) rfl (by kernel_rfl) (by kernel_rfl) (by kernel_rfl) (fun _ _ _ h => h) (Or.inr ⟨?_, rfl⟩) (by assumption) ?_; (focus rfl))
        try simp only [Act.put, List.setIfInBounds_toArray, List.set_cons_zero, List.set_cons_succ, List.getElem_toArray, List.getElem_cons_zero, List.getElem_cons_succ]
        first
          | (refine wpAnyH_take (i := 15) (v := ?_) rfl (by kernel_rfl) (by kernel_rfl) (by kernel_rfl) (fun _ _ _ h => h) (Or.inl ⟨?_, ?_⟩) (by assumption) ?_; rotate_left; (focus rfl); (focus (intro w hSw; go_split_ands; go_simp; try with_reducible rfl)); skip)
          | (refine wpAnyH_take (i := 15) (v := undef) rfl (by kernel_rfl) (by kernel_rfl) (by kernel_rfl) (fun _ _ _ h => h) (Or.inr ⟨?_, rfl⟩) (by assumption) ?_; (focus rfl))
        try simp only [Act.put, List.setIfInBounds_toArray, List.set_cons_zero, List.set_cons_succ, List.getElem_toArray, List.getElem_cons_zero, List.getElem_cons_succ]
        first
          | (refine wpAnyH_take (i := 16) (v := ?_) rfl (by kernel_rfl) (by kernel_rfl) (by kernel_rfl) (fun _ _ _ h => h) (Or.inl ⟨?_, ?_⟩) (by assumption) ?_; rotate_left; (focus rfl); (focus (intro w hSw; go_split_ands; go_simp; try with_reducible rfl)); skip)
          | (refine wpAnyH_take (i := 16) (v := undef) rfl (by kernel_rfl) (by kernel_rfl) (by kernel_rfl) (fun _ _ _ h => h) (Or.inr ⟨?_, rfl⟩) (by assumption) ?_; (focus rfl))
        try simp only [Act.put, List.setIfInBounds_toArray, List.set_cons_zero, List.set_cons_succ, List.getElem_toArray, List.getElem_cons_zero, List.getElem_cons_succ]
        first
          | (refine wpAnyH_take (i := 17) (v := ?_) rfl (by kernel_rfl) (by kernel_rfl) (by kernel_rfl) (fun _ _ _ h => h) (Or.inl ⟨?_, ?_⟩) (by assumption) ?_; rotate_left; (focus rfl); (focus (intro w hSw; go_split_ands; go_simp; try with_reducible rfl)); skip)
          | (refine wpAnyH_take (i := 17) (v := undef) rfl (by kernel_rfl) (by kernel_rfl) (by kernel_rfl) (fun _ _ _ h => h) (Or.inr ⟨?_, rfl⟩) (by assumption) ?_; (focus rfl))
        try simp only [Act.put, List.setIfInBounds_toArray, List.set_cons_zero, List.set_cons_succ, List.getElem_toArray, List.getElem_cons_zero, List.getElem_cons_succ]
        first
          | (refine wpAnyH_take (i := 18) (v := ?_) rfl (by kernel_rfl) (by kernel_rfl) (by kernel_rfl) (fun _ _ _ h => h) (Or.inl ⟨?_, ?_⟩) (by assumption) ?_; rotate_left; (focus rfl); (focus (intro w hSw; go_split_ands; go_simp; try with_reducible rfl)); skip)
          | (refine wpAnyH_take (i := 18) (v := undef) rfl (by kernel_rfl) (by kernel_rfl) (by kernel_rfl) (fun _ _ _ h => h) (Or.inr ⟨?_, rfl⟩) (by assumption) ?_; (focus rfl))
        try simp only [Act.put, List.setIfInBounds_toArray, List.set_cons_zero, List.set_cons_succ, List.getElem_toArray, List.getElem_cons_zero, List.getElem_cons_succ]
        first
          | (refine wpAnyH_take (i := 19) (v := ?_) rfl (by kernel_rfl) (by kernel_rfl) (by kernel_rfl) (fun _ _ _ h => h) (Or.inl ⟨?_, ?_⟩) (by assumption) ?_; rotate_left; (focus rfl); (focus (intro w hSw; go_split_ands; go_simp; try with_reducible rfl)); skip)
          | (refine wpAnyH_take (i := 19) (v := undef) rfl (by kernel_rfl) (by kernel_rfl) (by kernel_rfl) (fun _ _ _ h => h) (Or.inr ⟨?_, rfl⟩) (by assumption) ?_; (focus rfl))
        try simp only [Act.put, List.setIfInBounds_toArray, List.set_cons_zero, List.set_cons_succ, List.getElem_toArray, List.getElem_cons_zero, List.getElem_cons_succ]
        first
          | (refine wpAnyH_take (i := 20) (v := ?_) rfl (by kernel_rfl) (by kernel_rfl) (by kernel_rfl) (fun _ _ _ h => h) (Or.inl ⟨?_, ?_⟩) (by assumption) ?_; rotate_left; (focus rfl); (focus (intro w hSw; go_split_ands; go_simp; try with_reducible rfl)); skip)
          | (refine wpAnyH_take (i := 20) (v := undef) rfl (by kernel_rfl) (by kernel_rfl) (by kernel_rfl) (fun _ _ _ h => h) (Or.inr ⟨?_, rfl⟩) (by assumption) ?_; (focus rfl))
        try simp only [Act.put, List.setIfInBounds_toArray, List.set_cons_zero, List.set_cons_succ, List.getElem_toArray, List.getElem_cons_zero, List.getElem_cons_succ]
        first
          | (refine wpAnyH_take (i := 21) (v := ?_) rfl (by kernel_rfl) (by kernel_rfl) (by kernel_rfl) (fun _ _ _ h => h) (Or.inl ⟨?_, ?_⟩) (by assumption) ?_; rotate_left; (focus rfl); (focus (intro w hSw; go_split_ands; go_simp; try with_reducible rfl)); skip)
          | (refine wpAnyH_take (i := 21) (v := undef) rfl (by kernel_rfl) (by kernel_rfl) (by kernel_rfl) (fun _ _ _ h => h) (Or.inr ⟨?_, rfl⟩) (by assumption) ?_; (focus rfl))
        try simp only [Act.put, List.setIfInBounds_toArray, List.set_cons_zero, List.set_cons_succ, List.getElem_toArray, List.getElem_cons_zero, List.getElem_cons_succ]
        first
          | (refine wpAnyH_take (i := 22) (v := ?_) rfl (by kernel_rfl) (by kernel_rfl) (by kernel_rfl) (fun _ _ _ h => h) (Or.inl ⟨?_, ?_⟩) (by assumption) ?_; rotate_left; (focus rfl); (focus (intro w hSw; go_split_ands; go_simp; try with_reducible rfl)); skip)
          | (refine wpAnyH_take (i := 22) (v := undef) rfl (by kernel_rfl) (by kernel_rfl) (by kernel_rfl) (fun _ _ _ h => h) (Or.inr ⟨?_, rfl⟩) (by assumption) ?_; (focus rfl))
        try simp only [Act.put, List.setIfInBounds_toArray, List.set_cons_zero, List.set_cons_succ, List.getElem_toArray, List.getElem_cons_zero, List.getElem_cons_succ]
        first
          | (refine wpAnyH_take (i := 23) (v := ?_) rfl (by kernel_rfl) (by kernel_rfl) (by kernel_rfl) (fun _ _ _ h => h) (Or.inl ⟨?_, ?_⟩) (by assumption) ?_; rotate_left; (focus rfl); (focus (intro w hSw; go_split_ands; go_simp; try with_reducible rfl)); skip)
          | (refine wpAnyH_take (i := 23) (v := undef) rfl (by kernel_rfl) (by kernel_rfl) (by kernel_rfl) (fun _ _ _ h => h) (Or.inr ⟨?_, rfl⟩) (by assumption) ?_; (focus rfl))
        try simp only [Act.put, List.setIfInBounds_toArray, List.set_cons_zero, List.set_cons_succ, List.getElem_toArray, List.getElem_cons_zero, List.getElem_cons_succ]
        first
          | (refine wpAnyH_take (i := 24) (v := ?_) rfl (by kernel_rfl) (by kernel_rfl) (by kernel_rfl) (fun _ _ _ h => h) (Or.inl ⟨?_, ?_⟩) (by assumption) ?_; rotate_left; (focus rfl); (focus (intro w hSw; go_split_ands; go_simp; try with_reducible rfl)); skip)
          | (refine wpAnyH_take (i := 24) (v := undef) rfl (by kernel_rfl) (by kernel_rfl) (by kernel_rfl) (fun _ _ _ h => h) (Or.inr ⟨?_, rfl⟩) (by assumption) ?_; (focus rfl))
        try simp only [Act.put, List.setIfInBounds_toArray, List.set_cons_zero, List.set_cons_succ, List.getElem_toArray, List.getElem_cons_zero, List.getElem_cons_succ]
        first
          | (refine wpAnyH_take (i := 25) (v := ?_) rfl (by kernel_rfl) (by kernel_rfl) (by kernel_rfl) (fun _ _ _ h => h) (Or.inl ⟨?_, ?_⟩) (by assumption) ?_; rotate_left; (focus rfl); (focus (intro w hSw; go_split_ands; go_simp; try with_reducible rfl)); skip)
          | (refine wpAnyH_take (i := 25) (v := undef) rfl (by kernel_rfl) (by kernel_rfl) (by kernel_rfl) (fun _ _ _ h => h) (Or.inr ⟨?_, rfl⟩) (by assumption) ?_; (focus rfl))
        try simp only [Act.put, List.setIfInBounds_toArray, List.set_cons_zero, List.set_cons_succ, List.getElem_toArray, List.getElem_cons_zero, List.getElem_cons_succ]
        first
          | (refine wpAnyH_take (i := 26) (v := ?_) rfl (by kernel_rfl) (by kernel_rfl) (by kernel_rfl) (fun _ _ _ h => h) (Or.inl ⟨?_, ?_⟩) (by assumption) ?_; rotate_left; (focus rfl); (focus (intro w hSw; go_split_ands; go_simp; try with_reducible rfl)); skip)
          | (refine wpAnyH_take (i := 26) (v := undef) rfl (by kernel_rfl) (by kernel_rfl) (by kernel_rfl) (fun _ _ _ h => h) (Or.inr ⟨?_, rfl⟩) (by assumption) ?_; (focus rfl))
        try simp only [Act.put, List.setIfInBounds_toArray, List.set_cons_zero, List.set_cons_succ, List.getElem_toArray, List.getElem_cons_zero, List.getElem_cons_succ]
        first
          | (refine wpAnyH_take (i := 27) (v := ?_) rfl (by kernel_rfl) (by kernel_rfl) (by kernel_rfl) (fun _ _ _ h => h) (Or.inl ⟨?_, ?_⟩) (by assumption) ?_; rotate_left; (focus rfl); (focus (intro w hSw; go_split_ands; go_simp; try with_reducible rfl)); skip)
          | (refine wpAnyH_take (i := 27) (v := undef) rfl (by kernel_rfl) (by kernel_rfl) (by kernel_rfl) (fun _ _ _ h => h) (Or.inr ⟨?_, rfl⟩) (by assumption) ?_; (focus rfl))
        try simp only [Act.put, List.setIfInBounds_toArray, List.set_cons_zero, List.set_cons_succ, List.getElem_toArray, List.getElem_cons_zero, List.getElem_cons_succ]
        first
          | (refine wpAnyH_take (i := 28) (v := ?_) rfl (by kernel_rfl) (by kernel_rfl) (by kernel_rfl) (fun _ _ _ h => h) (Or.inl ⟨?_, ?_⟩) (by assumption) ?_; rotate_left; (focus rfl); (focus (intro w hSw; go_split_ands; go_simp; try with_reducible rfl)); skip)
          | (refine wpAnyH_take (i := 28) (v := undef) rfl (by kernel_rfl) (by kernel_rfl) (by kernel_rfl) (fun _ _ _ h => h) (Or.inr ⟨?_, rfl⟩) (by assumption) ?_; (focus rfl))
        try simp only [Act.put, List.setIfInBounds_toArray, List.set_cons_zero, List.set_cons_succ, List.getElem_toArray, List.getElem_cons_zero, List.getElem_cons_succ]
        first
          | (refine wpAnyH_take (i := 29) (v := ?_) rfl (by kernel_rfl) (by kernel_rfl) (by kernel_rfl) (fun _ _ _ h => h) (Or.inl ⟨?_, ?_⟩) (by assumption) ?_; rotate_left; (focus rfl); (focus (intro w hSw; go_split_ands; go_simp; try with_reducible rfl)); skip)
          | (refine wpAnyH_take (i := 29) (v := undef) rfl (by kernel_rfl) (by kernel_rfl) (by kernel_rfl) (fun _ _ _ h => h) (Or.inr ⟨?_, rfl⟩) (by assumption) ?_; (focus rfl))
        try simp only [Act.put, List.setIfInBounds_toArray, List.set_cons_zero, List.set_cons_succ, List.getElem_toArray, List.getElem_cons_zero, List.getElem_cons_succ]
        refine wpAnyH_ready (rs := [30]) (by kernel_rfl) (by simp) ?_
        refine AllReadyH.cons rfl (fun K hK => ?_) AllReadyH.nil
        go_simp
        go_at_call 28
        refine (markI _ _ m0 m1).mono ?_
        rintro e w8 ⟨rfl, hb8⟩
        have P8 : Below wr.heap.size wr w8 := (Below.refl _ _).drew.trans (hb8.mono (Nat.le_refl _))
        refine hK.out _ _ (HF.out _ P8) (fun hH => ?_)
        clear hK K hHeld hb8
        try simp only [Act.put, List.setIfInBounds_toArray, List.set_cons_zero, List.set_cons_succ, List.getElem_toArray, List.getElem_cons_zero, List.getElem_cons_succ]
        first
          | (refine wpAnyH_take (i := 31) (v := ?_) rfl (by kernel_rfl) (by kernel_rfl) (by kernel_rfl) (fun _ _ _ h => h) (Or.inl ⟨?_, ?_⟩) (by assumption) ?_; rotate_left; (focus rfl); (focus (intro w hSw; go_split_ands; go_simp; try with_reducible rfl)); skip)
          | (refine wpAnyH_take (i := 31) (v := undef) rfl (by kernel_rfl) (by kernel_rfl) (by kernel_rfl) (fun _ _ _ h => h) (Or.inr ⟨?_, rfl⟩) (by assumption) ?_; (focus rfl))
        try simp only [Act.put, List.setIfInBounds_toArray, List.set_cons_zero, List.set_cons_succ, List.getElem_toArray, List.getElem_cons_zero, List.getElem_cons_succ]
        first
          | (refine wpAnyH_take (i := 32) (v := ?_) rfl (by kernel_rfl) (by kernel_rfl) (by kernel_rfl) (fun _ _ _ h => h) (Or.inl ⟨?_, ?_⟩) (by assumption) ?_; rotate_left; (focus rfl); (focus (intro w hSw; go_split_ands; go_simp; try with_reducible rfl)); skip)
          | (refine wpAnyH_take (i := 32) (v := undef) rfl (by kernel_rfl) (by kernel_rfl) (by kernel_rfl) (fun _ _ _ h => h) (Or.inr ⟨?_, rfl⟩) (by assumption) ?_; (focus rfl))
        try simp only [Act.put, List.setIfInBounds_toArray, List.set_cons_zero, List.set_cons_succ, List.getElem_toArray, List.getElem_cons_zero, List.getElem_cons_succ]
        first
          | (refine wpAnyH_take (i := 33) (v := ?_) rfl (by kernel_rfl) (by kernel_rfl) (by kernel_rfl) (fun _ _ _ h => h) (Or.inl ⟨?_, ?_⟩) (by assumption) ?_; rotate_left; (focus rfl); (focus (intro w hSw; go_split_ands; go_simp; try with_reducible rfl)); skip)
          | (refine wpAnyH_take (i := 33) (v := undef) rfl (by kernel_rfl) (by kernel_rfl) (by kernel_rfl) (fun _ _ _ h => h) (Or.inr ⟨?_, rfl⟩) (by assumption) ?_; (focus rfl))
        try simp only [Act.put, List.setIfInBounds_toArray, List.set_cons_zero, List.set_cons_succ, List.getElem_toArray, List.getElem_cons_zero, List.getElem_cons_succ]
        first
          | (refine wpAnyH_take (i := 34) (v := ?_) rfl (by kernel_rfl) (by kernel_rfl) (by kernel_rfl) (fun _ _ _ h => h) (Or.inl ⟨?_, ?_⟩) (by assumption) ?_; rotate_left; (focus rfl); (focus (intro w hSw; go_split_ands; go_simp; try with_reducible rfl)); skip)
          | (refine wpAnyH_take (i := 34) (v := undef) rfl (by kernel_rfl) (by kernel_rfl) (by kernel_rfl) (fun _ _ _ h => h) (Or.inr ⟨?_, rfl⟩) (by assumption) ?_; (focus rfl))
        try simp only [Act.put, List.setIfInBounds_toArray, List.set_cons_zero, List.set_cons_succ, List.getElem_toArray, List.getElem_cons_zero, List.getElem_cons_succ]
        refine wpAnyH_done (by kernel_rfl) ?_ _
        clear hH
        clear w1
        go_wp2_with fail
        go_roundw
        case rel => exact ⟨k + 1, by omega, by go_num, HB.out.trans (P8.mono hz)⟩
        case measure => simp [intOf]; omega
      · go_wp2_with fail
        go_ret
        exact ⟨rfl, HB.out⟩
end Go.Proofs.YtglkgmijhdkhpaaGreatDoor
