/-
  limpetref24's wants, Wants: contracts.
-/
import Derived.Test.YtglkgmijhdkhpaaGreatDoorHt35
import Derived.Test.YtglkgmijhdkhpaaGreatDoorHt18
import Derived.Test.YtglkgmijhdkhpaaGreatDoorHt8
import Derived.Test.YtglkgmijhdkhpaaGreatDoorHt4
import Derived.Test.YtglkgmijhdkhpaaGreatDoorHt19
import Derived.Deep.DeepCutAuto
import Derived.Deep.RegionHeld3
set_option linter.unusedVariables false
set_option linter.unusedSimpArgs false
namespace Go.Proofs.YtglkgmijhdkhpaaGreatDoor
open Go.RowKit

/-- l[j:], as a walk tells it, whatever lies there. -/
theorem Sl.dropA {α : Type} {k : Nat} {row : α → List Value} {B : Nat} {w : World} {l : List α} {A : Option Addr} {n c j : Nat} (h : Sl k row B w (.slice A n c) l) (hj : j ≤ l.length) : Sl k row B w (.slice (if c = j then A else Option.map (fun x => x.add (j * k)) A) (l.length - j) (c - j)) (l.drop j) := by
  cases A with
  | some ad => exact h.drop2 hj
  | none =>
    obtain ⟨A', c', hv, h1, h2, h3, h4⟩ := id h
    simp only [Value.slice.injEq] at hv
    obtain ⟨rfl, rfl, rfl⟩ := hv
    have hc := h3 rfl
    have hl : l = [] := List.eq_nil_of_length_eq_zero (by omega)
    subst hl
    have hj0 : j = 0 := by simpa using hj
    subst hj0; subst hc
    simpa using Sl.nil_ k row B w
theorem box_keep {w w' : World} {n : Nat} {cs : Array Value} {t : TypeId} (h : w'.heap[n]? = w.heap[n]?) (hb : Box w n cs t) : Box w' n cs t := h.trans hb
theorem box_dr {w : World} {n : Nat} {cs : Array Value} {t : TypeId} (h : Box w n cs t) : Box w.drew n cs t := h
theorem box_nw {w : World} {n : Nat} {cs : Array Value} {t : TypeId} (h : n = w.heap.size) : Box (w.alloc (.cells cs t)) n cs t := by subst h; exact Box.new _ _ _
theorem own_made {α : Type} {k : Nat} {row : α → List Value} {e : TypeId} {base n : Nat} {w : World} (h : n = w.heap.size) (hb : base ≤ w.heap.size) : Own k row e base (w.alloc (.cells #[] e)) (.slice (some ⟨n, 0, none⟩) 0 0) [] := by subst h; exact (Own.made k row e w).less hb
theorem wantsV_take {rot : List Idt} {k : Nat} {p : Idt} (h : rot[k]? = some p) : wantsV (rot.take (k + 1)) = if knownI p then insI (wantsV (rot.take k)) p else wantsV (rot.take k) := by
  unfold wantsV
  rw [take_at h, List.filter_append]
  cases hk : knownI p with
  | true => simp [hk, List.foldl_append]
  | false => simp [hk]
set_option maxRecDepth 100000 in
set_option maxHeartbeats 20000000 in
theorem ref24Wants0 (rot : List Idt) (v : Value) (w : World) (h : Sl 3 idRow w.heap.size w v rot) (hn : rot.length ≤ 100000) :
    Calls Tryz.prog 39 #[v] w fun e w' => ∃ A c, e = .returned (.slice A (wantsV rot).length c) ∧ Own 3 idRow 42 w.heap.size w' (.slice A (wantsV rot).length c) (wantsV rot) ∧ Below w.heap.size w w' := by
  obtain ⟨Ar, cr, rfl, -, -, -, hA⟩ := h
  have HA := Lib.hid hA
  clear hA
  go_enter Tryz.func39, Tryz.ntmps39
  go_wp2_with fail
  go_loopw [3, 4, 5] (fun o i _ wr => ∃ (k n : Nat) (A : Option Addr) (c : Nat), o = .slice A n c ∧ n = (wantsV (rot.take k)).length ∧ k ≤ rot.length ∧ i = .int .i64 (k : Int) ∧ Own 3 idRow 42 w.heap.size wr (.slice A n c) (wantsV (rot.take k)) ∧ Below w.heap.size w wr) (fun _ i _ _ => rot.length - (kOf i).toNat)
  case atStart => exact ⟨0, 0, none, 0, rfl, rfl, by omega, rfl, Own.nil_ _ _ _ _ _, Below.refl _ _⟩
  case round => as_aux_lemma =>
    obtain ⟨k, n, A, c, rfl, hnn, hk, rfl, ho, hb⟩ := hrel
    have HNN := Lib.hid hnn
    have HO := Lib.hid ho
    have HB := Lib.hid hb
    have hz := hb.size
    have i0 : (0 : Int) ≤ (k : Int) := by omega
    have hwl := wants_len (rot.take k)
    rw [List.length_take] at hwl
    clear ho hb hnn
    by_cases hlt : k < rot.length
    · have i1 : (k : Int) < (rot.length : Int) := by omega
      have d0 : decide ((k : Int) < (rot.length : Int)) = true := decide_eq_true i1
      obtain ⟨b, off, rfl, hbb, hcell⟩ := HA.out (by intro h; subst h; simp at hlt)
      obtain ⟨p, hp⟩ : ∃ p, rot[k]? = some p := ⟨_, List.getElem?_eq_getElem hlt⟩
      have HC : Hid (∀ V, Below w.heap.size w V → V.cell? ⟨b, off + k * 3, none⟩ = some (.int .i64 p.idx) ∧ V.cell? ⟨b, off + k * 3 + 1, none⟩ = some (.int .i64 p.trm) ∧ V.cell? ⟨b, off + k * 3 + 2, none⟩ = some (.int .i64 p.knd)) := fun V q => ⟨(q.cell (p := ⟨b, off + k * 3 + 0, none⟩) hbb).trans (hcell k p hp 0 _ rfl), (q.cell (p := ⟨b, off + k * 3 + 1, none⟩) hbb).trans (hcell k p hp 1 _ rfl), (q.cell (p := ⟨b, off + k * 3 + 2, none⟩) hbb).trans (hcell k p hp 2 _ rfl)⟩
      obtain ⟨c0, c1, c2⟩ := HC.out wr HB.out
      have HWT := Lib.hid (wantsV_take hp)
      have CK := Lib.hid (ref24Known p wr)
      clear hcell hp
      by_cases hkn : knownI p = true
      case neg =>
        have hkf : knownI p = false := by simpa using hkn
        have HWN := Lib.hid (show wantsV (rot.take (k + 1)) = wantsV (rot.take k) by rw [HWT.out, hkf]; rfl)
        rw [hkf] at CK
        clear hkn hkf
        go_wp2_with (go_at_call 74; (with_reducible refine CK.out.mono ?_); rintro e w2 ⟨rfl, hb2⟩; have HB2 := Lib.hid (HB.out.trans (hb2.mono hz)); have HO2 := Lib.hid (HO.out.later hb2); clear hb2)
        go_roundw
        case rel => exact ⟨k + 1, n, A, c, rfl, by rw [HWN.out]; exact HNN.out, by omega, by go_num, by rw [HWN.out]; exact HO2.out, HB2.out⟩
        case measure => first | (simp [kOf]; done) | (simp [kOf]; omega)
      have HWY := Lib.hid (show wantsV (rot.take (k + 1)) = insI (wantsV (rot.take k)) p by rw [HWT.out, hkn]; rfl)
      rw [hkn] at CK
      clear hkn
      go_upto_region 6 with (go_at_call 74; (with_reducible refine CK.out.mono ?_); rintro e w2 ⟨rfl, hb2⟩; have HB2 := Lib.hid (HB.out.trans (hb2.mono hz)); have HO2 := Lib.hid (HO.out.later hb2); clear hb2)
      clear CK c0 c1 c2
      obtain ⟨ov, hov⟩ : ∃ z, z = wantsV (rot.take k) := ⟨_, rfl⟩
      rw [← hov] at HNN HO2 HWY hwl
      have HSo := Lib.hid (HO2.out.sl idRow_length)
      obtain ⟨U, hU⟩ : ∃ z, z = w2 := ⟨_, rfl⟩
      rw [← hU] at HB2 HO2 HSo
      rw [← hU]
      have hnl := HNN.out
      have HOV := Lib.hid hov
      clear hU hov HO
      subst hnl
      go_wp2_with fail
      go_loopw [5] (fun i wr => ∃ j : Nat, j ≤ ov.length ∧ i = .int .i64 (j : Int) ∧ (∀ i q, i < j → ov[i]? = some q → q.idx < p.idx) ∧ Below U.heap.size U wr) (fun i _ => ov.length - (kOf i).toNat)
      case atStart => exact ⟨0, by omega, rfl, fun i q h => by omega, Below.refl _ _⟩
      case round => as_aux_lemma =>
        obtain ⟨j, hj, rfl, hall, hb⟩ := hrel
        have HAL := Lib.hid hall
        have HBJ := Lib.hid hb
        have HBV := Lib.hid (below_call HB2.out hb)
        have j0 : (0 : Int) ≤ (j : Int) := by omega
        clear hall hb
        obtain ⟨c0, c1, c2⟩ := HC.out wr HBV.out
        have HKP : Hid (∀ V, Below U.heap.size U V → ∀ z : Ext V, z.wd.cell? ⟨b, off + k * 3, none⟩ = some (.int .i64 p.idx)) := fun V hV z => (HC.out z.wd (below_call HB2.out (below_call hV z.low))).1
        have kp0 := HKP.out wr HBJ.out
        clear c0 c1 c2
        by_cases hjl : j < ov.length
        case neg =>
          have hje : j = ov.length := by omega
          have e0 : decide ((j : Int) < (ov.length : Int)) = false := decide_eq_false (by omega)
          have e0n : decide (j < ov.length) = false := decide_eq_false hjl
          have e1 : ((j : Int) == (ov.length : Int)) = true := by simp [hje]
          have e1n : (j == ov.length) = true := by simp [hje]
          have HIN := Lib.hid (insI_at (out := ov) (p := p) (k := j) HAL.out (fun q hq => by rw [hje, List.getElem?_eq_none (by omega)] at hq; cases hq) (by omega))
          have HIE := Lib.hid (show insI ov p = ov.take j ++ [p] ++ ov.drop j by rw [HIN.out, if_neg]; rw [hje, List.getElem?_eq_none (by omega)]; simp)
          clear hje
          go_upto_region 7 with fail
          refine wp_region_ext (by kernel_rfl) (by kernel_rfl) ?_
          repeat (go_big_quiet_step (fail))
          refine wpQuiet_nil ?_
          intro _ hw'
          obtain ⟨x9, hw''⟩ := hw'
          subst hw''
          obtain ⟨W7, hW7⟩ : ∃ z, z = x9.wd := ⟨_, rfl⟩
          have hbw7 : Below wr.heap.size wr W7 := by rw [hW7]; exact x9.low
          have HBJ7 := Lib.hid (below_call HBJ.out hbw7)
          rw [← hW7]
          clear hW7 hbw7
          clear kp0
          go_upto_region 9 with fail
          have kp0 := HKP.out W7 HBJ7.out
          refine wp_region_ext (by kernel_rfl) (by kernel_rfl) ?_
          repeat (go_big_quiet_step (fail))
          refine wpQuiet_nil ?_
          intro _ hw'
          obtain ⟨x9, hw''⟩ := hw'
          subst hw''
          obtain ⟨W9, hW9⟩ : ∃ z, z = x9.wd := ⟨_, rfl⟩
          have hbw9 : Below W7.heap.size W7 W9 := by rw [hW9]; exact x9.low
          have HBJ9 := Lib.hid (below_call HBJ7.out hbw9)
          rw [← hW9]
          clear hW9 hbw9
          have HBV9 := Lib.hid (below_call HB2.out HBJ9.out)
          have HSV := Lib.hid (HSo.out.later HBJ9.out)
          have HS1 := Lib.hid (HSV.out.take_ hj)
          have HS2 := Lib.hid (HSV.out.dropA hj)
          have HS3 := HS2
          try simp only [Option.map_some, Addr.add_lit] at HS3
          obtain ⟨hjc, hlc⟩ : j ≤ c ∧ ov.length ≤ c := by obtain ⟨_, _, hv9, h1, -⟩ := id HSV.out; simp only [Value.slice.injEq] at hv9; omega
          have HFR : Hid (∀ w', Below W9.heap.size W9 w' → w'.cell? ⟨b, off + k * 3, none⟩ = some (.int .i64 p.idx) ∧ w'.cell? ⟨b, off + k * 3 + 1, none⟩ = some (.int .i64 p.trm) ∧ w'.cell? ⟨b, off + k * 3 + 2, none⟩ = some (.int .i64 p.knd)) := fun w' h => HC.out w' (below_call HBV9.out h)
          go_upto_region 10 with fail
          refine wp_region_held_drew (S := fun w' => w'.cell? ⟨b, off + k * 3, none⟩ = some (.int .i64 p.idx) ∧ w'.cell? ⟨b, off + k * 3 + 1, none⟩ = some (.int .i64 p.trm) ∧ w'.cell? ⟨b, off + k * 3 + 2, none⟩ = some (.int .i64 p.knd)) (by kernel_rfl) (HFR.out _ (Below.refl _ _).drew) (fun hHeld => ?_)
          first
            | (refine wpAnyH_take (i := 1) (v := ?_) rfl (by kernel_rfl) (by kernel_rfl) (by kernel_rfl) (fun _ _ _ h => h) (Or.inl ⟨?_, ?_⟩) (by assumption) ?_; rotate_left; (focus rfl); (focus (intro w hSw; go_split_ands; go_simp; try with_reducible rfl)); skip)
            | (refine wpAnyH_take (i := 1) (v := undef) rfl (by kernel_rfl) (by kernel_rfl) (by kernel_rfl) (fun _ _ _ h => h) (Or.inr ⟨?_, rfl⟩) (by assumption) ?_; (focus rfl))
          try simp only [Act.put, List.setIfInBounds_toArray, List.set_cons_zero, List.set_cons_succ, List.getElem_toArray, List.getElem_cons_zero, List.getElem_cons_succ]
          first
            | (refine wpAnyH_take (i := 2) (v := ?_) rfl (by kernel_rfl) (by kernel_rfl) (by kernel_rfl) (fun _ _ _ h => h) (Or.inl ⟨?_, ?_⟩) (by assumption) ?_; rotate_left; (focus rfl); (focus (intro w hSw; go_split_ands; go_simp; try with_reducible rfl)); skip)
            | (refine wpAnyH_take (i := 2) (v := undef) rfl (by kernel_rfl) (by kernel_rfl) (by kernel_rfl) (fun _ _ _ h => h) (Or.inr ⟨?_, rfl⟩) (by assumption) ?_; (focus rfl))
          try simp only [Act.put, List.setIfInBounds_toArray, List.set_cons_zero, List.set_cons_succ, List.getElem_toArray, List.getElem_cons_zero, List.getElem_cons_succ]
          first
            | (refine wpAnyH_take (i := 3) (v := ?_) rfl (by kernel_rfl) (by kernel_rfl) (by kernel_rfl) (fun _ _ _ h => h) (Or.inl ⟨?_, ?_⟩) (by assumption) ?_; rotate_left; (focus rfl); (focus (intro w hSw; go_split_ands; go_simp; try with_reducible rfl)); skip)
            | (refine wpAnyH_take (i := 3) (v := undef) rfl (by kernel_rfl) (by kernel_rfl) (by kernel_rfl) (fun _ _ _ h => h) (Or.inr ⟨?_, rfl⟩) (by assumption) ?_; (focus rfl))
          try simp only [Act.put, List.setIfInBounds_toArray, List.set_cons_zero, List.set_cons_succ, List.getElem_toArray, List.getElem_cons_zero, List.getElem_cons_succ]
          first
            | (refine wpAnyH_take (i := 5) (v := ?_) rfl (by kernel_rfl) (by kernel_rfl) (by kernel_rfl) (fun _ _ _ h => h) (Or.inl ⟨?_, ?_⟩) (by assumption) ?_; rotate_left; (focus rfl); (focus (intro w hSw; go_split_ands; go_simp; try with_reducible rfl)); skip)
            | (refine wpAnyH_take (i := 5) (v := undef) rfl (by kernel_rfl) (by kernel_rfl) (by kernel_rfl) (fun _ _ _ h => h) (Or.inr ⟨?_, rfl⟩) (by assumption) ?_; (focus rfl))
          try simp only [Act.put, List.setIfInBounds_toArray, List.set_cons_zero, List.set_cons_succ, List.getElem_toArray, List.getElem_cons_zero, List.getElem_cons_succ]
          first
            | (refine wpAnyH_take (i := 6) (v := ?_) rfl (by kernel_rfl) (by kernel_rfl) (by kernel_rfl) (fun _ _ _ h => h) (Or.inl ⟨?_, ?_⟩) (by assumption) ?_; rotate_left; (focus rfl); (focus (intro w hSw; go_split_ands; go_simp; try with_reducible rfl)); skip)
            | (refine wpAnyH_take (i := 6) (v := undef) rfl (by kernel_rfl) (by kernel_rfl) (by kernel_rfl) (fun _ _ _ h => h) (Or.inr ⟨?_, rfl⟩) (by assumption) ?_; (focus rfl))
          try simp only [Act.put, List.setIfInBounds_toArray, List.set_cons_zero, List.set_cons_succ, List.getElem_toArray, List.getElem_cons_zero, List.getElem_cons_succ]
          first
            | (refine wpAnyH_take (i := 7) (v := ?_) rfl (by kernel_rfl) (by kernel_rfl) (by kernel_rfl) (fun _ _ _ h => h) (Or.inl ⟨?_, ?_⟩) (by assumption) ?_; rotate_left; (focus rfl); (focus (intro w hSw; go_split_ands; go_simp; try with_reducible rfl)); skip)
            | (refine wpAnyH_take (i := 7) (v := undef) rfl (by kernel_rfl) (by kernel_rfl) (by kernel_rfl) (fun _ _ _ h => h) (Or.inr ⟨?_, rfl⟩) (by assumption) ?_; (focus rfl))
          try simp only [Act.put, List.setIfInBounds_toArray, List.set_cons_zero, List.set_cons_succ, List.getElem_toArray, List.getElem_cons_zero, List.getElem_cons_succ]
          first
            | (refine wpAnyH_take (i := 8) (v := ?_) rfl (by kernel_rfl) (by kernel_rfl) (by kernel_rfl) (fun _ _ _ h => h) (Or.inl ⟨?_, ?_⟩) (by assumption) ?_; rotate_left; (focus rfl); (focus (intro w hSw; go_split_ands; go_simp; try with_reducible rfl)); skip)
            | (refine wpAnyH_take (i := 8) (v := undef) rfl (by kernel_rfl) (by kernel_rfl) (by kernel_rfl) (fun _ _ _ h => h) (Or.inr ⟨?_, rfl⟩) (by assumption) ?_; (focus rfl))
          try simp only [Act.put, List.setIfInBounds_toArray, List.set_cons_zero, List.set_cons_succ, List.getElem_toArray, List.getElem_cons_zero, List.getElem_cons_succ]
          first
            | (refine wpAnyH_take (i := 11) (v := ?_) rfl (by kernel_rfl) (by kernel_rfl) (by kernel_rfl) (fun _ _ _ h => h) (Or.inl ⟨?_, ?_⟩) (by assumption) ?_; rotate_left; (focus rfl); (focus (intro w hSw; go_split_ands; go_simp; try with_reducible rfl)); skip)
            | (refine wpAnyH_take (i := 11) (v := undef) rfl (by kernel_rfl) (by kernel_rfl) (by kernel_rfl) (fun _ _ _ h => h) (Or.inr ⟨?_, rfl⟩) (by assumption) ?_; (focus rfl))
          try simp only [Act.put, List.setIfInBounds_toArray, List.set_cons_zero, List.set_cons_succ, List.getElem_toArray, List.getElem_cons_zero, List.getElem_cons_succ]
          first
            | (refine wpAnyH_take (i := 12) (v := ?_) rfl (by kernel_rfl) (by kernel_rfl) (by kernel_rfl) (fun _ _ _ h => h) (Or.inl ⟨?_, ?_⟩) (by assumption) ?_; rotate_left; (focus rfl); (focus (intro w hSw; go_split_ands; go_simp; try with_reducible rfl)); skip)
            | (refine wpAnyH_take (i := 12) (v := undef) rfl (by kernel_rfl) (by kernel_rfl) (by kernel_rfl) (fun _ _ _ h => h) (Or.inr ⟨?_, rfl⟩) (by assumption) ?_; (focus rfl))
          try simp only [Act.put, List.setIfInBounds_toArray, List.set_cons_zero, List.set_cons_succ, List.getElem_toArray, List.getElem_cons_zero, List.getElem_cons_succ]
          first
            | (refine wpAnyH_take (i := 13) (v := ?_) rfl (by kernel_rfl) (by kernel_rfl) (by kernel_rfl) (fun _ _ _ h => h) (Or.inl ⟨?_, ?_⟩) (by assumption) ?_; rotate_left; (focus rfl); (focus (intro w hSw; go_split_ands; go_simp; try with_reducible rfl)); skip)
            | (refine wpAnyH_take (i := 13) (v := undef) rfl (by kernel_rfl) (by kernel_rfl) (by kernel_rfl) (fun _ _ _ h => h) (Or.inr ⟨?_, rfl⟩) (by assumption) ?_; (focus rfl))
          try simp only [Act.put, List.setIfInBounds_toArray, List.set_cons_zero, List.set_cons_succ, List.getElem_toArray, List.getElem_cons_zero, List.getElem_cons_succ]
          refine wpAnyH_ready (rs := [0, 9]) (by kernel_rfl) (by simp) ?_
          refine AllReadyH.cons rfl (fun K hK => ?_) (AllReadyH.cons rfl (fun K hK => ?_) AllReadyH.nil)
          · go_simp
            refine hK.out _ _ (HFR.out _ (by ((repeat (first | (with_reducible refine Below.drew ?_) | (with_reducible refine Below.alloc ?_ (by first | omega | (simp; done) | (simp; omega)) _))); first | exact PC.out | exact PB.out | exact PA.out | exact Below.refl _ _))) (fun hH => ?_)
            clear hK K
            try simp only [Act.put, List.setIfInBounds_toArray, List.set_cons_zero, List.set_cons_succ, List.getElem_toArray, List.getElem_cons_zero, List.getElem_cons_succ]
            refine wpAnyH_ready (rs := [4, 9]) (by kernel_rfl) (by simp) ?_
            refine AllReadyH.cons rfl (fun K hK => ?_) (AllReadyH.cons rfl (fun K hK => ?_) AllReadyH.nil)
            · refine step_append_all rfl (.tmp 54) (.tmp 57) _ rfl W9.heap.size 42 _ 3 24 Tryz.underlying22 idtInfo rfl (Nat.succ_pos 2) idRow idRow_length idRow_one [] (.slice (some ⟨W9.heap.size, 0, none⟩) 0 0) rfl ?_ (ov.take j) W9.heap.size _ ?_ rfl (by simp only [List.length_nil, List.length_take]; omega) (by omega) (by first | omega | (simp; done) | (simp; omega)) ?_
              focus ((repeat (first | (with_reducible refine Own.drew ?_) | ((with_reducible refine own_made ?_ ?_) <;> first | rfl | omega | (simp; done) | (simp; omega)) | (with_reducible refine Own.alloc ?_ _))))
              focus (refine HS1.out.below ?_; ((repeat (first | (with_reducible refine Below.drew ?_) | (with_reducible refine Below.alloc ?_ (by first | omega | (simp; done) | (simp; omega)) _))); first | exact PC.out | exact PB.out | exact PA.out | exact Below.refl _ _))
              intro v5 w5 p1 p2 p3 p4 p5
              obtain ⟨A5, c5, hv5⟩ := p1.len
              rw [List.nil_append, List.length_take_of_le hj] at hv5
              subst hv5
              have HO5 := Lib.hid (show Own 3 idRow 42 W9.heap.size w5 (.slice A5 j c5) (ov.take j) by simpa using p1)
              have PA := Lib.hid (Below.trans (show Below W9.heap.size W9 _ by ((repeat (first | (with_reducible refine Below.drew ?_) | (with_reducible refine Below.alloc ?_ (by first | omega | (simp; done) | (simp; omega)) _))); first | exact PC.out | exact PB.out | exact PA.out | exact Below.refl _ _)) p2)
              have hz5 := PA.out.size
              clear p1 p2 p3 p4 p5
              refine hK.out _ _ (HFR.out _ PA.out) (fun hH => ?_)
              clear hK K
              try simp only [Act.put, List.setIfInBounds_toArray, List.set_cons_zero, List.set_cons_succ, List.getElem_toArray, List.getElem_cons_zero, List.getElem_cons_succ]
              refine wpAnyH_ready (rs := [9]) (by kernel_rfl) (by simp) ?_
              refine AllReadyH.cons rfl (fun K hK => ?_) AllReadyH.nil
              go_simp
              refine hK.out _ _ (HFR.out _ (by ((repeat (first | (with_reducible refine Below.drew ?_) | (with_reducible refine Below.alloc ?_ (by first | omega | (simp; done) | (simp; omega)) _))); first | exact PC.out | exact PB.out | exact PA.out | exact Below.refl _ _))) (fun hH => ?_)
              clear hK K
              try simp only [Act.put, List.setIfInBounds_toArray, List.set_cons_zero, List.set_cons_succ, List.getElem_toArray, List.getElem_cons_zero, List.getElem_cons_succ]
              refine wpAnyH_ready (rs := [10]) (by kernel_rfl) (by simp) ?_
              refine AllReadyH.cons rfl (fun K hK => ?_) AllReadyH.nil
              refine step_append_row rfl (.tmp 58) (.tmp 63) _ rfl W9.heap.size 42 _ 3 24 Tryz.underlying22 idtInfo rfl (Nat.succ_pos 2) idRow idRow_length idRow_one (ov.take j) _ rfl ?_ p #[.int .i64 p.idx, .int .i64 p.trm, .int .i64 p.knd] rfl 42 _ rfl ?_ (by rw [List.length_take]; omega) (by omega) (by first | omega | (simp; done) | (simp; omega)) ?_
              focus (first | exact HO5.out | exact HO5.out.alloc _)
              focus (first | exact HBX.out | exact Box.new _ _ _)
              intro g6 c6 w6 p1 p2 p3
              have HO6 := Lib.hid p1
              have PB := Lib.hid (Below.trans (show Below W9.heap.size W9 _ by ((repeat (first | (with_reducible refine Below.drew ?_) | (with_reducible refine Below.alloc ?_ (by first | omega | (simp; done) | (simp; omega)) _))); first | exact PC.out | exact PB.out | exact PA.out | exact Below.refl _ _)) p2)
              have hz6 := PB.out.size
              clear p1 p2 p3
              refine hK.out _ _ (HFR.out _ PB.out) (fun hH => ?_)
              clear hK K
              try simp only [Act.put, List.setIfInBounds_toArray, List.set_cons_zero, List.set_cons_succ, List.getElem_toArray, List.getElem_cons_zero, List.getElem_cons_succ]
              refine wpAnyH_ready (rs := [14]) (by kernel_rfl) (by simp) ?_
              refine AllReadyH.cons rfl (fun K hK => ?_) AllReadyH.nil
              refine step_append_all rfl (.tmp 64) (.tmp 67) _ rfl W9.heap.size 42 _ 3 24 Tryz.underlying22 idtInfo rfl (Nat.succ_pos 2) idRow idRow_length idRow_one (ov.take j ++ [p]) _ rfl HO6.out (ov.drop j) W9.heap.size _ ?_ rfl (by simp only [List.length_append, List.length_singleton, List.length_take, List.length_drop]; omega) (by omega) (by first | omega | (simp; done) | (simp; omega)) ?_
              focus (first | exact HS2.out.below PB.out | exact HS3.out.below PB.out)
              intro v7 w7 p1 p2 p3 p4 p5
              obtain ⟨A7, c7, hv7⟩ := p1.len
              have hl7 : (ov.take j ++ [p] ++ ov.drop j).length = ov.length + 1 := by simp only [List.length_append, List.length_singleton, List.length_take, List.length_drop]; omega
              rw [hl7] at hv7
              subst hv7
              have HO7 := Lib.hid (p1.less HBV9.out.size)
              have PD := Lib.hid (HBV9.out.trans ((PB.out.trans p2).mono HBV9.out.size))
              have PC := Lib.hid (PB.out.trans p2)
              clear p1 p2 p3 p4 p5 hl7
              refine hK.out _ _ (HFR.out _ PC.out) (fun hH => ?_)
              clear hK K
              try simp only [Act.put, List.setIfInBounds_toArray, List.set_cons_zero, List.set_cons_succ, List.getElem_toArray, List.getElem_cons_zero, List.getElem_cons_succ]
              first
                | (refine wpAnyH_take (i := 15) (v := ?_) rfl (by kernel_rfl) (by kernel_rfl) (by kernel_rfl) (fun _ _ _ h => h) (Or.inl ⟨?_, ?_⟩) (by assumption) ?_; rotate_left; (focus rfl); (focus (intro w hSw; go_split_ands; go_simp; try with_reducible rfl)); skip)
                | (refine wpAnyH_take (i := 15) (v := undef) rfl (by kernel_rfl) (by kernel_rfl) (by kernel_rfl) (fun _ _ _ h => h) (Or.inr ⟨?_, rfl⟩) (by assumption) ?_; (focus rfl))
              try simp only [Act.put, List.setIfInBounds_toArray, List.set_cons_zero, List.set_cons_succ, List.getElem_toArray, List.getElem_cons_zero, List.getElem_cons_succ]
              refine wpAnyH_done (by kernel_rfl) ?_ _
              go_wp2_with fail
              go_roundw
              case rel => exact ⟨k + 1, ov.length + 1, A7, c7, rfl, by rw [HWY.out, HIE.out]; simp only [List.length_append, List.length_singleton, List.length_take, List.length_drop]; omega, by omega, by go_num, by rw [HWY.out, HIE.out]; exact HO7.out, PD.out⟩
              case measure => first | (simp [kOf]; done) | (simp [kOf]; omega)
            · go_simp
              refine hK.out _ _ (HFR.out _ (by ((repeat (first | (with_reducible refine Below.drew ?_) | (with_reducible refine Below.alloc ?_ (by first | omega | (simp; done) | (simp; omega)) _))); first | exact PC.out | exact PB.out | exact PA.out | exact Below.refl _ _))) (fun hH => ?_)
              clear hK K
              try simp only [Act.put, List.setIfInBounds_toArray, List.set_cons_zero, List.set_cons_succ, List.getElem_toArray, List.getElem_cons_zero, List.getElem_cons_succ]
              refine wpAnyH_ready (rs := [4]) (by kernel_rfl) (by simp) ?_
              refine AllReadyH.cons rfl (fun K hK => ?_) AllReadyH.nil
              refine step_append_all rfl (.tmp 54) (.tmp 57) _ rfl W9.heap.size 42 _ 3 24 Tryz.underlying22 idtInfo rfl (Nat.succ_pos 2) idRow idRow_length idRow_one [] (.slice (some ⟨W9.heap.size, 0, none⟩) 0 0) rfl ?_ (ov.take j) W9.heap.size _ ?_ rfl (by simp only [List.length_nil, List.length_take]; omega) (by omega) (by first | omega | (simp; done) | (simp; omega)) ?_
              focus ((repeat (first | (with_reducible refine Own.drew ?_) | ((with_reducible refine own_made ?_ ?_) <;> first | rfl | omega | (simp; done) | (simp; omega)) | (with_reducible refine Own.alloc ?_ _))))
              focus (refine HS1.out.below ?_; ((repeat (first | (with_reducible refine Below.drew ?_) | (with_reducible refine Below.alloc ?_ (by first | omega | (simp; done) | (simp; omega)) _))); first | exact PC.out | exact PB.out | exact PA.out | exact Below.refl _ _))
              intro v5 w5 p1 p2 p3 p4 p5
              obtain ⟨A5, c5, hv5⟩ := p1.len
              rw [List.nil_append, List.length_take_of_le hj] at hv5
              subst hv5
              have HO5 := Lib.hid (show Own 3 idRow 42 W9.heap.size w5 (.slice A5 j c5) (ov.take j) by simpa using p1)
              have PA := Lib.hid (Below.trans (show Below W9.heap.size W9 _ by ((repeat (first | (with_reducible refine Below.drew ?_) | (with_reducible refine Below.alloc ?_ (by first | omega | (simp; done) | (simp; omega)) _))); first | exact PC.out | exact PB.out | exact PA.out | exact Below.refl _ _)) p2)
              have HBX := Lib.hid (show Box w5 (W9.heap.size + 1) #[.int .i64 p.idx, .int .i64 p.trm, .int .i64 p.knd] 42 from box_keep (p4 (W9.heap.size + 1) (by first | (simp; done) | (simp; omega)) (by simp [Value.ownBlock])) (by ((repeat (first | (with_reducible refine box_dr ?_) | (with_reducible exact Box.new _ _ _) | ((with_reducible refine box_nw ?_); (focus (simp; done))) | (with_reducible refine Box.alloc ?_ _))))))
              have hz5 := PA.out.size
              clear p1 p2 p3 p4 p5
              refine hK.out _ _ (HFR.out _ PA.out) (fun hH => ?_)
              clear hK K
              try simp only [Act.put, List.setIfInBounds_toArray, List.set_cons_zero, List.set_cons_succ, List.getElem_toArray, List.getElem_cons_zero, List.getElem_cons_succ]
              refine wpAnyH_ready (rs := [10]) (by kernel_rfl) (by simp) ?_
              refine AllReadyH.cons rfl (fun K hK => ?_) AllReadyH.nil
              refine step_append_row rfl (.tmp 58) (.tmp 63) _ rfl W9.heap.size 42 _ 3 24 Tryz.underlying22 idtInfo rfl (Nat.succ_pos 2) idRow idRow_length idRow_one (ov.take j) _ rfl ?_ p #[.int .i64 p.idx, .int .i64 p.trm, .int .i64 p.knd] rfl 42 _ rfl ?_ (by rw [List.length_take]; omega) (by omega) (by first | omega | (simp; done) | (simp; omega)) ?_
              focus (first | exact HO5.out | exact HO5.out.alloc _)
              focus (first | exact HBX.out | exact Box.new _ _ _)
              intro g6 c6 w6 p1 p2 p3
              have HO6 := Lib.hid p1
              have PB := Lib.hid (Below.trans (show Below W9.heap.size W9 _ by ((repeat (first | (with_reducible refine Below.drew ?_) | (with_reducible refine Below.alloc ?_ (by first | omega | (simp; done) | (simp; omega)) _))); first | exact PC.out | exact PB.out | exact PA.out | exact Below.refl _ _)) p2)
              have hz6 := PB.out.size
              clear p1 p2 p3
              refine hK.out _ _ (HFR.out _ PB.out) (fun hH => ?_)
              clear hK K
              try simp only [Act.put, List.setIfInBounds_toArray, List.set_cons_zero, List.set_cons_succ, List.getElem_toArray, List.getElem_cons_zero, List.getElem_cons_succ]
              refine wpAnyH_ready (rs := [14]) (by kernel_rfl) (by simp) ?_
              refine AllReadyH.cons rfl (fun K hK => ?_) AllReadyH.nil
              refine step_append_all rfl (.tmp 64) (.tmp 67) _ rfl W9.heap.size 42 _ 3 24 Tryz.underlying22 idtInfo rfl (Nat.succ_pos 2) idRow idRow_length idRow_one (ov.take j ++ [p]) _ rfl HO6.out (ov.drop j) W9.heap.size _ ?_ rfl (by simp only [List.length_append, List.length_singleton, List.length_take, List.length_drop]; omega) (by omega) (by first | omega | (simp; done) | (simp; omega)) ?_
              focus (first | exact HS2.out.below PB.out | exact HS3.out.below PB.out)
              intro v7 w7 p1 p2 p3 p4 p5
              obtain ⟨A7, c7, hv7⟩ := p1.len
              have hl7 : (ov.take j ++ [p] ++ ov.drop j).length = ov.length + 1 := by simp only [List.length_append, List.length_singleton, List.length_take, List.length_drop]; omega
              rw [hl7] at hv7
              subst hv7
              have HO7 := Lib.hid (p1.less HBV9.out.size)
              have PD := Lib.hid (HBV9.out.trans ((PB.out.trans p2).mono HBV9.out.size))
              have PC := Lib.hid (PB.out.trans p2)
              clear p1 p2 p3 p4 p5 hl7
              refine hK.out _ _ (HFR.out _ PC.out) (fun hH => ?_)
              clear hK K
              try simp only [Act.put, List.setIfInBounds_toArray, List.set_cons_zero, List.set_cons_succ, List.getElem_toArray, List.getElem_cons_zero, List.getElem_cons_succ]
              first
                | (refine wpAnyH_take (i := 15) (v := ?_) rfl (by kernel_rfl) (by kernel_rfl) (by kernel_rfl) (fun _ _ _ h => h) (Or.inl ⟨?_, ?_⟩) (by assumption) ?_; rotate_left; (focus rfl); (focus (intro w hSw; go_split_ands; go_simp; try with_reducible rfl)); skip)
                | (refine wpAnyH_take (i := 15) (v := undef) rfl (by kernel_rfl) (by kernel_rfl) (by kernel_rfl) (fun _ _ _ h => h) (Or.inr ⟨?_, rfl⟩) (by assumption) ?_; (focus rfl))
              try simp only [Act.put, List.setIfInBounds_toArray, List.set_cons_zero, List.set_cons_succ, List.getElem_toArray, List.getElem_cons_zero, List.getElem_cons_succ]
              refine wpAnyH_done (by kernel_rfl) ?_ _
              go_wp2_with fail
              go_roundw
              case rel => exact ⟨k + 1, ov.length + 1, A7, c7, rfl, by rw [HWY.out, HIE.out]; simp only [List.length_append, List.length_singleton, List.length_take, List.length_drop]; omega, by omega, by go_num, by rw [HWY.out, HIE.out]; exact HO7.out, PD.out⟩
              case measure => first | (simp [kOf]; done) | (simp [kOf]; omega)
          · go_simp
            refine hK.out _ _ (HFR.out _ (by ((repeat (first | (with_reducible refine Below.drew ?_) | (with_reducible refine Below.alloc ?_ (by first | omega | (simp; done) | (simp; omega)) _))); first | exact PC.out | exact PB.out | exact PA.out | exact Below.refl _ _))) (fun hH => ?_)
            clear hK K
            try simp only [Act.put, List.setIfInBounds_toArray, List.set_cons_zero, List.set_cons_succ, List.getElem_toArray, List.getElem_cons_zero, List.getElem_cons_succ]
            refine wpAnyH_ready (rs := [0]) (by kernel_rfl) (by simp) ?_
            refine AllReadyH.cons rfl (fun K hK => ?_) AllReadyH.nil
            go_simp
            refine hK.out _ _ (HFR.out _ (by ((repeat (first | (with_reducible refine Below.drew ?_) | (with_reducible refine Below.alloc ?_ (by first | omega | (simp; done) | (simp; omega)) _))); first | exact PC.out | exact PB.out | exact PA.out | exact Below.refl _ _))) (fun hH => ?_)
            clear hK K
            try simp only [Act.put, List.setIfInBounds_toArray, List.set_cons_zero, List.set_cons_succ, List.getElem_toArray, List.getElem_cons_zero, List.getElem_cons_succ]
            refine wpAnyH_ready (rs := [4]) (by kernel_rfl) (by simp) ?_
            refine AllReadyH.cons rfl (fun K hK => ?_) AllReadyH.nil
            refine step_append_all rfl (.tmp 54) (.tmp 57) _ rfl W9.heap.size 42 _ 3 24 Tryz.underlying22 idtInfo rfl (Nat.succ_pos 2) idRow idRow_length idRow_one [] (.slice (some ⟨W9.heap.size + 1, 0, none⟩) 0 0) rfl ?_ (ov.take j) W9.heap.size _ ?_ rfl (by simp only [List.length_nil, List.length_take]; omega) (by omega) (by first | omega | (simp; done) | (simp; omega)) ?_
            focus ((repeat (first | (with_reducible refine Own.drew ?_) | ((with_reducible refine own_made ?_ ?_) <;> first | rfl | omega | (simp; done) | (simp; omega)) | (with_reducible refine Own.alloc ?_ _))))
            focus (refine HS1.out.below ?_; ((repeat (first | (with_reducible refine Below.drew ?_) | (with_reducible refine Below.alloc ?_ (by first | omega | (simp; done) | (simp; omega)) _))); first | exact PC.out | exact PB.out | exact PA.out | exact Below.refl _ _))
            intro v5 w5 p1 p2 p3 p4 p5
            obtain ⟨A5, c5, hv5⟩ := p1.len
            rw [List.nil_append, List.length_take_of_le hj] at hv5
            subst hv5
            have HO5 := Lib.hid (show Own 3 idRow 42 W9.heap.size w5 (.slice A5 j c5) (ov.take j) by simpa using p1)
            have PA := Lib.hid (Below.trans (show Below W9.heap.size W9 _ by ((repeat (first | (with_reducible refine Below.drew ?_) | (with_reducible refine Below.alloc ?_ (by first | omega | (simp; done) | (simp; omega)) _))); first | exact PC.out | exact PB.out | exact PA.out | exact Below.refl _ _)) p2)
            have HBX := Lib.hid (show Box w5 (W9.heap.size) #[.int .i64 p.idx, .int .i64 p.trm, .int .i64 p.knd] 42 from box_keep (p4 (W9.heap.size) (by first | (simp; done) | (simp; omega)) (by simp [Value.ownBlock])) (by ((repeat (first | (with_reducible refine box_dr ?_) | (with_reducible exact Box.new _ _ _) | ((with_reducible refine box_nw ?_); (focus (simp; done))) | (with_reducible refine Box.alloc ?_ _))))))
            have hz5 := PA.out.size
            clear p1 p2 p3 p4 p5
            refine hK.out _ _ (HFR.out _ PA.out) (fun hH => ?_)
            clear hK K
            try simp only [Act.put, List.setIfInBounds_toArray, List.set_cons_zero, List.set_cons_succ, List.getElem_toArray, List.getElem_cons_zero, List.getElem_cons_succ]
            refine wpAnyH_ready (rs := [10]) (by kernel_rfl) (by simp) ?_
            refine AllReadyH.cons rfl (fun K hK => ?_) AllReadyH.nil
            refine step_append_row rfl (.tmp 58) (.tmp 63) _ rfl W9.heap.size 42 _ 3 24 Tryz.underlying22 idtInfo rfl (Nat.succ_pos 2) idRow idRow_length idRow_one (ov.take j) _ rfl ?_ p #[.int .i64 p.idx, .int .i64 p.trm, .int .i64 p.knd] rfl 42 _ rfl ?_ (by rw [List.length_take]; omega) (by omega) (by first | omega | (simp; done) | (simp; omega)) ?_
            focus (first | exact HO5.out | exact HO5.out.alloc _)
            focus (first | exact HBX.out | exact Box.new _ _ _)
            intro g6 c6 w6 p1 p2 p3
            have HO6 := Lib.hid p1
            have PB := Lib.hid (Below.trans (show Below W9.heap.size W9 _ by ((repeat (first | (with_reducible refine Below.drew ?_) | (with_reducible refine Below.alloc ?_ (by first | omega | (simp; done) | (simp; omega)) _))); first | exact PC.out | exact PB.out | exact PA.out | exact Below.refl _ _)) p2)
            have hz6 := PB.out.size
            clear p1 p2 p3
            refine hK.out _ _ (HFR.out _ PB.out) (fun hH => ?_)
            clear hK K
            try simp only [Act.put, List.setIfInBounds_toArray, List.set_cons_zero, List.set_cons_succ, List.getElem_toArray, List.getElem_cons_zero, List.getElem_cons_succ]
            refine wpAnyH_ready (rs := [14]) (by kernel_rfl) (by simp) ?_
            refine AllReadyH.cons rfl (fun K hK => ?_) AllReadyH.nil
            refine step_append_all rfl (.tmp 64) (.tmp 67) _ rfl W9.heap.size 42 _ 3 24 Tryz.underlying22 idtInfo rfl (Nat.succ_pos 2) idRow idRow_length idRow_one (ov.take j ++ [p]) _ rfl HO6.out (ov.drop j) W9.heap.size _ ?_ rfl (by simp only [List.length_append, List.length_singleton, List.length_take, List.length_drop]; omega) (by omega) (by first | omega | (simp; done) | (simp; omega)) ?_
            focus (first | exact HS2.out.below PB.out | exact HS3.out.below PB.out)
            intro v7 w7 p1 p2 p3 p4 p5
            obtain ⟨A7, c7, hv7⟩ := p1.len
            have hl7 : (ov.take j ++ [p] ++ ov.drop j).length = ov.length + 1 := by simp only [List.length_append, List.length_singleton, List.length_take, List.length_drop]; omega
            rw [hl7] at hv7
            subst hv7
            have HO7 := Lib.hid (p1.less HBV9.out.size)
            have PD := Lib.hid (HBV9.out.trans ((PB.out.trans p2).mono HBV9.out.size))
            have PC := Lib.hid (PB.out.trans p2)
            clear p1 p2 p3 p4 p5 hl7
            refine hK.out _ _ (HFR.out _ PC.out) (fun hH => ?_)
            clear hK K
            try simp only [Act.put, List.setIfInBounds_toArray, List.set_cons_zero, List.set_cons_succ, List.getElem_toArray, List.getElem_cons_zero, List.getElem_cons_succ]
            first
              | (refine wpAnyH_take (i := 15) (v := ?_) rfl (by kernel_rfl) (by kernel_rfl) (by kernel_rfl) (fun _ _ _ h => h) (Or.inl ⟨?_, ?_⟩) (by assumption) ?_; rotate_left; (focus rfl); (focus (intro w hSw; go_split_ands; go_simp; try with_reducible rfl)); skip)
              | (refine wpAnyH_take (i := 15) (v := undef) rfl (by kernel_rfl) (by kernel_rfl) (by kernel_rfl) (fun _ _ _ h => h) (Or.inr ⟨?_, rfl⟩) (by assumption) ?_; (focus rfl))
            try simp only [Act.put, List.setIfInBounds_toArray, List.set_cons_zero, List.set_cons_succ, List.getElem_toArray, List.getElem_cons_zero, List.getElem_cons_succ]
            refine wpAnyH_done (by kernel_rfl) ?_ _
            go_wp2_with fail
            go_roundw
            case rel => exact ⟨k + 1, ov.length + 1, A7, c7, rfl, by rw [HWY.out, HIE.out]; simp only [List.length_append, List.length_singleton, List.length_take, List.length_drop]; omega, by omega, by go_num, by rw [HWY.out, HIE.out]; exact HO7.out, PD.out⟩
            case measure => first | (simp [kOf]; done) | (simp [kOf]; omega)
        · obtain ⟨q, hq⟩ : ∃ q, ov[j]? = some q := ⟨_, List.getElem?_eq_getElem hjl⟩
          obtain ⟨gb, goff, gc, hv, -, -, hgbU, hgcU⟩ := HSo.out.cellAt (by intro h; subst h; simp at hjl)
          simp only [Value.slice.injEq] at hv
          obtain ⟨rfl, -, rfl⟩ := hv
          have j1 : (j : Int) < (ov.length : Int) := by omega
          have e0 : decide ((j : Int) < (ov.length : Int)) = true := decide_eq_true j1
          have e0n : decide (j < ov.length) = true := decide_eq_true hjl
          have HQ := Lib.hid hq
          have HKQ : Hid (∀ V, Below U.heap.size U V → V.cell? ⟨gb, goff + j * 3, none⟩ = some (.int .i64 q.idx)) := fun V hV => (hV.cell (p := ⟨gb, goff + j * 3 + 0, none⟩) hgbU).trans (hgcU j q HQ.out 0 _ rfl)
          have kq0 : ∀ z : Ext wr, z.wd.cell? ⟨gb, goff + j * 3, none⟩ = some (.int .i64 q.idx) := fun z => HKQ.out z.wd (below_call HBJ.out z.low)
          clear hq hgcU
          by_cases hqp : q.idx < p.idx
          · have e2 : decide (q.idx < p.idx) = true := decide_eq_true hqp
            have HAL2 : Hid (∀ i y, i < j + 1 → ov[i]? = some y → y.idx < p.idx) := fun i y hi hy => by
              by_cases h : i = j
              · subst h; rw [HQ.out] at hy; simp only [Option.some.injEq] at hy; subst hy; exact hqp
              · exact HAL.out i y (by omega) hy
            clear hqp
            go_upto_region 7 with fail
            refine wp_region_ext (by kernel_rfl) (by kernel_rfl) ?_
            repeat (go_big_quiet_step (fail))
            refine wpQuiet_nil ?_
            intro _ hw'
            obtain ⟨x9, hw''⟩ := hw'
            subst hw''
            obtain ⟨W7, hW7⟩ : ∃ z, z = x9.wd := ⟨_, rfl⟩
            have hbw7 : Below wr.heap.size wr W7 := by rw [hW7]; exact x9.low
            have HBJ7 := Lib.hid (below_call HBJ.out hbw7)
            rw [← hW7]
            clear hW7 hbw7
            clear kp0
            go_wp2_with fail
            go_roundw
            case rel => exact ⟨j + 1, by omega, by go_num, HAL2.out, HBJ7.out⟩
            case measure => first | (simp [kOf]; done) | (simp [kOf]; omega)
          · have e2 : decide (q.idx < p.idx) = false := decide_eq_false hqp
            have e1 : ((j : Int) == (ov.length : Int)) = false := by simp; omega
            have e1n : (j == ov.length) = false := by simp; omega
            have HIN := Lib.hid (insI_at (out := ov) (p := p) (k := j) HAL.out (fun y hy => by rw [HQ.out] at hy; simp only [Option.some.injEq] at hy; subst hy; omega) (by omega))
            by_cases hqe : q.idx = p.idx
            · have e3 : (q.idx != p.idx) = false := by simp [hqe]
              have HIE := Lib.hid (show insI ov p = ov by rw [HIN.out, HQ.out, if_pos (by simp [hqe])])
              clear hqp hqe
              go_upto_region 7 with fail
              refine wp_region_ext (by kernel_rfl) (by kernel_rfl) ?_
              repeat (go_big_quiet_step (fail))
              refine wpQuiet_nil ?_
              intro _ hw'
              obtain ⟨x9, hw''⟩ := hw'
              subst hw''
              obtain ⟨W7, hW7⟩ : ∃ z, z = x9.wd := ⟨_, rfl⟩
              have hbw7 : Below wr.heap.size wr W7 := by rw [hW7]; exact x9.low
              have HBJ7 := Lib.hid (below_call HBJ.out hbw7)
              rw [← hW7]
              clear hW7 hbw7
              clear kp0
              go_upto_region 9 with fail
              have kp0 := HKP.out W7 HBJ7.out
              have kq0 : ∀ z : Ext W7, z.wd.cell? ⟨gb, goff + j * 3, none⟩ = some (.int .i64 q.idx) := fun z => HKQ.out z.wd (below_call HBJ7.out z.low)
              refine wp_region_ext (by kernel_rfl) (by kernel_rfl) ?_
              repeat (go_big_quiet_step (fail))
              refine wpQuiet_nil ?_
              intro _ hw'
              obtain ⟨x9, hw''⟩ := hw'
              subst hw''
              obtain ⟨W9, hW9⟩ : ∃ z, z = x9.wd := ⟨_, rfl⟩
              have hbw9 : Below W7.heap.size W7 W9 := by rw [hW9]; exact x9.low
              have HBJ9 := Lib.hid (below_call HBJ7.out hbw9)
              rw [← hW9]
              clear hW9 hbw9
              go_wp2_with fail
              go_roundw
              case rel => exact ⟨k + 1, ov.length, some ⟨gb, goff, none⟩, c, rfl, by rw [HWY.out, HIE.out], by omega, by go_num, by rw [HWY.out, HIE.out]; exact HO2.out.later HBJ9.out, below_call HB2.out HBJ9.out⟩
              case measure => first | (simp [kOf]; done) | (simp [kOf]; omega)
            · have e3 : (q.idx != p.idx) = true := by simpa using hqe
              have HIE := Lib.hid (show insI ov p = ov.take j ++ [p] ++ ov.drop j by rw [HIN.out, HQ.out, if_neg (by simpa using hqe)])
              clear hqp hqe
              go_upto_region 7 with fail
              refine wp_region_ext (by kernel_rfl) (by kernel_rfl) ?_
              repeat (go_big_quiet_step (fail))
              refine wpQuiet_nil ?_
              intro _ hw'
              obtain ⟨x9, hw''⟩ := hw'
              subst hw''
              obtain ⟨W7, hW7⟩ : ∃ z, z = x9.wd := ⟨_, rfl⟩
              have hbw7 : Below wr.heap.size wr W7 := by rw [hW7]; exact x9.low
              have HBJ7 := Lib.hid (below_call HBJ.out hbw7)
              rw [← hW7]
              clear hW7 hbw7
              clear kp0
              go_upto_region 9 with fail
              have kp0 := HKP.out W7 HBJ7.out
              have kq0 : ∀ z : Ext W7, z.wd.cell? ⟨gb, goff + j * 3, none⟩ = some (.int .i64 q.idx) := fun z => HKQ.out z.wd (below_call HBJ7.out z.low)
              refine wp_region_ext (by kernel_rfl) (by kernel_rfl) ?_
              repeat (go_big_quiet_step (fail))
              refine wpQuiet_nil ?_
              intro _ hw'
              obtain ⟨x9, hw''⟩ := hw'
              subst hw''
              obtain ⟨W9, hW9⟩ : ∃ z, z = x9.wd := ⟨_, rfl⟩
              have hbw9 : Below W7.heap.size W7 W9 := by rw [hW9]; exact x9.low
              have HBJ9 := Lib.hid (below_call HBJ7.out hbw9)
              rw [← hW9]
              clear hW9 hbw9
              have HBV9 := Lib.hid (below_call HB2.out HBJ9.out)
              have HSV := Lib.hid (HSo.out.later HBJ9.out)
              have HS1 := Lib.hid (HSV.out.take_ hj)
              have HS2 := Lib.hid (HSV.out.dropA hj)
              have HS3 := HS2
              try simp only [Option.map_some, Addr.add_lit] at HS3
              obtain ⟨hjc, hlc⟩ : j ≤ c ∧ ov.length ≤ c := by obtain ⟨_, _, hv9, h1, -⟩ := id HSV.out; simp only [Value.slice.injEq] at hv9; omega
              have HFR : Hid (∀ w', Below W9.heap.size W9 w' → w'.cell? ⟨b, off + k * 3, none⟩ = some (.int .i64 p.idx) ∧ w'.cell? ⟨b, off + k * 3 + 1, none⟩ = some (.int .i64 p.trm) ∧ w'.cell? ⟨b, off + k * 3 + 2, none⟩ = some (.int .i64 p.knd)) := fun w' h => HC.out w' (below_call HBV9.out h)
              go_upto_region 10 with fail
              refine wp_region_held_drew (S := fun w' => w'.cell? ⟨b, off + k * 3, none⟩ = some (.int .i64 p.idx) ∧ w'.cell? ⟨b, off + k * 3 + 1, none⟩ = some (.int .i64 p.trm) ∧ w'.cell? ⟨b, off + k * 3 + 2, none⟩ = some (.int .i64 p.knd)) (by kernel_rfl) (HFR.out _ (Below.refl _ _).drew) (fun hHeld => ?_)
              first
                | (refine wpAnyH_take (i := 1) (v := ?_) rfl (by kernel_rfl) (by kernel_rfl) (by kernel_rfl) (fun _ _ _ h => h) (Or.inl ⟨?_, ?_⟩) (by assumption) ?_; rotate_left; (focus rfl); (focus (intro w hSw; go_split_ands; go_simp; try with_reducible rfl)); skip)
                | (refine wpAnyH_take (i := 1) (v := undef) rfl (by kernel_rfl) (by kernel_rfl) (by kernel_rfl) (fun _ _ _ h => h) (Or.inr ⟨?_, rfl⟩) (by assumption) ?_; (focus rfl))
              try simp only [Act.put, List.setIfInBounds_toArray, List.set_cons_zero, List.set_cons_succ, List.getElem_toArray, List.getElem_cons_zero, List.getElem_cons_succ]
              first
                | (refine wpAnyH_take (i := 2) (v := ?_) rfl (by kernel_rfl) (by kernel_rfl) (by kernel_rfl) (fun _ _ _ h => h) (Or.inl ⟨?_, ?_⟩) (by assumption) ?_; rotate_left; (focus rfl); (focus (intro w hSw; go_split_ands; go_simp; try with_reducible rfl)); skip)
                | (refine wpAnyH_take (i := 2) (v := undef) rfl (by kernel_rfl) (by kernel_rfl) (by kernel_rfl) (fun _ _ _ h => h) (Or.inr ⟨?_, rfl⟩) (by assumption) ?_; (focus rfl))
              try simp only [Act.put, List.setIfInBounds_toArray, List.set_cons_zero, List.set_cons_succ, List.getElem_toArray, List.getElem_cons_zero, List.getElem_cons_succ]
              first
                | (refine wpAnyH_take (i := 3) (v := ?_) rfl (by kernel_rfl) (by kernel_rfl) (by kernel_rfl) (fun _ _ _ h => h) (Or.inl ⟨?_, ?_⟩) (by assumption) ?_; rotate_left; (focus rfl); (focus (intro w hSw; go_split_ands; go_simp; try with_reducible rfl)); skip)
                | (refine wpAnyH_take (i := 3) (v := undef) rfl (by kernel_rfl) (by kernel_rfl) (by kernel_rfl) (fun _ _ _ h => h) (Or.inr ⟨?_, rfl⟩) (by assumption) ?_; (focus rfl))
              try simp only [Act.put, List.setIfInBounds_toArray, List.set_cons_zero, List.set_cons_succ, List.getElem_toArray, List.getElem_cons_zero, List.getElem_cons_succ]
              first
                | (refine wpAnyH_take (i := 5) (v := ?_) rfl (by kernel_rfl) (by kernel_rfl) (by kernel_rfl) (fun _ _ _ h => h) (Or.inl ⟨?_, ?_⟩) (by assumption) ?_; rotate_left; (focus rfl); (focus (intro w hSw; go_split_ands; go_simp; try with_reducible rfl)); skip)
                | (refine wpAnyH_take (i := 5) (v := undef) rfl (by kernel_rfl) (by kernel_rfl) (by kernel_rfl) (fun _ _ _ h => h) (Or.inr ⟨?_, rfl⟩) (by assumption) ?_; (focus rfl))
              try simp only [Act.put, List.setIfInBounds_toArray, List.set_cons_zero, List.set_cons_succ, List.getElem_toArray, List.getElem_cons_zero, List.getElem_cons_succ]
              first
                | (refine wpAnyH_take (i := 6) (v := ?_) rfl (by kernel_rfl) (by kernel_rfl) (by kernel_rfl) (fun _ _ _ h => h) (Or.inl ⟨?_, ?_⟩) (by assumption) ?_; rotate_left; (focus rfl); (focus (intro w hSw; go_split_ands; go_simp; try with_reducible rfl)); skip)
                | (refine wpAnyH_take (i := 6) (v := undef) rfl (by kernel_rfl) (by kernel_rfl) (by kernel_rfl) (fun _ _ _ h => h) (Or.inr ⟨?_, rfl⟩) (by assumption) ?_; (focus rfl))
              try simp only [Act.put, List.setIfInBounds_toArray, List.set_cons_zero, List.set_cons_succ, List.getElem_toArray, List.getElem_cons_zero, List.getElem_cons_succ]
              first
                | (refine wpAnyH_take (i := 7) (v := ?_) rfl (by kernel_rfl) (by kernel_rfl) (by kernel_rfl) (fun _ _ _ h => h) (Or.inl ⟨?_, ?_⟩) (by assumption) ?_; rotate_left; (focus rfl); (focus (intro w hSw; go_split_ands; go_simp; try with_reducible rfl)); skip)
                | (refine wpAnyH_take (i := 7) (v := undef) rfl (by kernel_rfl) (by kernel_rfl) (by kernel_rfl) (fun _ _ _ h => h) (Or.inr ⟨?_, rfl⟩) (by assumption) ?_; (focus rfl))
              try simp only [Act.put, List.setIfInBounds_toArray, List.set_cons_zero, List.set_cons_succ, List.getElem_toArray, List.getElem_cons_zero, List.getElem_cons_succ]
              first
                | (refine wpAnyH_take (i := 8) (v := ?_) rfl (by kernel_rfl) (by kernel_rfl) (by kernel_rfl) (fun _ _ _ h => h) (Or.inl ⟨?_, ?_⟩) (by assumption) ?_; rotate_left; (focus rfl); (focus (intro w hSw; go_split_ands; go_simp; try with_reducible rfl)); skip)
                | (refine wpAnyH_take (i := 8) (v := undef) rfl (by kernel_rfl) (by kernel_rfl) (by kernel_rfl) (fun _ _ _ h => h) (Or.inr ⟨?_, rfl⟩) (by assumption) ?_; (focus rfl))
              try simp only [Act.put, List.setIfInBounds_toArray, List.set_cons_zero, List.set_cons_succ, List.getElem_toArray, List.getElem_cons_zero, List.getElem_cons_succ]
              first
                | (refine wpAnyH_take (i := 11) (v := ?_) rfl (by kernel_rfl) (by kernel_rfl) (by kernel_rfl) (fun _ _ _ h => h) (Or.inl ⟨?_, ?_⟩) (by assumption) ?_; rotate_left; (focus rfl); (focus (intro w hSw; go_split_ands; go_simp; try with_reducible rfl)); skip)
                | (refine wpAnyH_take (i := 11) (v := undef) rfl (by kernel_rfl) (by kernel_rfl) (by kernel_rfl) (fun _ _ _ h => h) (Or.inr ⟨?_, rfl⟩) (by assumption) ?_; (focus rfl))
              try simp only [Act.put, List.setIfInBounds_toArray, List.set_cons_zero, List.set_cons_succ, List.getElem_toArray, List.getElem_cons_zero, List.getElem_cons_succ]
              first
                | (refine wpAnyH_take (i := 12) (v := ?_) rfl (by kernel_rfl) (by kernel_rfl) (by kernel_rfl) (fun _ _ _ h => h) (Or.inl ⟨?_, ?_⟩) (by assumption) ?_; rotate_left; (focus rfl); (focus (intro w hSw; go_split_ands; go_simp; try with_reducible rfl)); skip)
                | (refine wpAnyH_take (i := 12) (v := undef) rfl (by kernel_rfl) (by kernel_rfl) (by kernel_rfl) (fun _ _ _ h => h) (Or.inr ⟨?_, rfl⟩) (by assumption) ?_; (focus rfl))
              try simp only [Act.put, List.setIfInBounds_toArray, List.set_cons_zero, List.set_cons_succ, List.getElem_toArray, List.getElem_cons_zero, List.getElem_cons_succ]
              first
                | (refine wpAnyH_take (i := 13) (v := ?_) rfl (by kernel_rfl) (by kernel_rfl) (by kernel_rfl) (fun _ _ _ h => h) (Or.inl ⟨?_, ?_⟩) (by assumption) ?_; rotate_left; (focus rfl); (focus (intro w hSw; go_split_ands; go_simp; try with_reducible rfl)); skip)
                | (refine wpAnyH_take (i := 13) (v := undef) rfl (by kernel_rfl) (by kernel_rfl) (by kernel_rfl) (fun _ _ _ h => h) (Or.inr ⟨?_, rfl⟩) (by assumption) ?_; (focus rfl))
              try simp only [Act.put, List.setIfInBounds_toArray, List.set_cons_zero, List.set_cons_succ, List.getElem_toArray, List.getElem_cons_zero, List.getElem_cons_succ]
              refine wpAnyH_ready (rs := [0, 9]) (by kernel_rfl) (by simp) ?_
              refine AllReadyH.cons rfl (fun K hK => ?_) (AllReadyH.cons rfl (fun K hK => ?_) AllReadyH.nil)
              · go_simp
                refine hK.out _ _ (HFR.out _ (by ((repeat (first | (with_reducible refine Below.drew ?_) | (with_reducible refine Below.alloc ?_ (by first | omega | (simp; done) | (simp; omega)) _))); first | exact PC.out | exact PB.out | exact PA.out | exact Below.refl _ _))) (fun hH => ?_)
                clear hK K
                try simp only [Act.put, List.setIfInBounds_toArray, List.set_cons_zero, List.set_cons_succ, List.getElem_toArray, List.getElem_cons_zero, List.getElem_cons_succ]
                refine wpAnyH_ready (rs := [4, 9]) (by kernel_rfl) (by simp) ?_
                refine AllReadyH.cons rfl (fun K hK => ?_) (AllReadyH.cons rfl (fun K hK => ?_) AllReadyH.nil)
                · refine step_append_all rfl (.tmp 54) (.tmp 57) _ rfl W9.heap.size 42 _ 3 24 Tryz.underlying22 idtInfo rfl (Nat.succ_pos 2) idRow idRow_length idRow_one [] (.slice (some ⟨W9.heap.size, 0, none⟩) 0 0) rfl ?_ (ov.take j) W9.heap.size _ ?_ rfl (by simp only [List.length_nil, List.length_take]; omega) (by omega) (by first | omega | (simp; done) | (simp; omega)) ?_
                  focus ((repeat (first | (with_reducible refine Own.drew ?_) | ((with_reducible refine own_made ?_ ?_) <;> first | rfl | omega | (simp; done) | (simp; omega)) | (with_reducible refine Own.alloc ?_ _))))
                  focus (refine HS1.out.below ?_; ((repeat (first | (with_reducible refine Below.drew ?_) | (with_reducible refine Below.alloc ?_ (by first | omega | (simp; done) | (simp; omega)) _))); first | exact PC.out | exact PB.out | exact PA.out | exact Below.refl _ _))
                  intro v5 w5 p1 p2 p3 p4 p5
                  obtain ⟨A5, c5, hv5⟩ := p1.len
                  rw [List.nil_append, List.length_take_of_le hj] at hv5
                  subst hv5
                  have HO5 := Lib.hid (show Own 3 idRow 42 W9.heap.size w5 (.slice A5 j c5) (ov.take j) by simpa using p1)
                  have PA := Lib.hid (Below.trans (show Below W9.heap.size W9 _ by ((repeat (first | (with_reducible refine Below.drew ?_) | (with_reducible refine Below.alloc ?_ (by first | omega | (simp; done) | (simp; omega)) _))); first | exact PC.out | exact PB.out | exact PA.out | exact Below.refl _ _)) p2)
                  have hz5 := PA.out.size
                  clear p1 p2 p3 p4 p5
                  refine hK.out _ _ (HFR.out _ PA.out) (fun hH => ?_)
                  clear hK K
                  try simp only [Act.put, List.setIfInBounds_toArray, List.set_cons_zero, List.set_cons_succ, List.getElem_toArray, List.getElem_cons_zero, List.getElem_cons_succ]
                  refine wpAnyH_ready (rs := [9]) (by kernel_rfl) (by simp) ?_
                  refine AllReadyH.cons rfl (fun K hK => ?_) AllReadyH.nil
                  go_simp
                  refine hK.out _ _ (HFR.out _ (by ((repeat (first | (with_reducible refine Below.drew ?_) | (with_reducible refine Below.alloc ?_ (by first | omega | (simp; done) | (simp; omega)) _))); first | exact PC.out | exact PB.out | exact PA.out | exact Below.refl _ _))) (fun hH => ?_)
                  clear hK K
                  try simp only [Act.put, List.setIfInBounds_toArray, List.set_cons_zero, List.set_cons_succ, List.getElem_toArray, List.getElem_cons_zero, List.getElem_cons_succ]
                  refine wpAnyH_ready (rs := [10]) (by kernel_rfl) (by simp) ?_
                  refine AllReadyH.cons rfl (fun K hK => ?_) AllReadyH.nil
                  refine step_append_row rfl (.tmp 58) (.tmp 63) _ rfl W9.heap.size 42 _ 3 24 Tryz.underlying22 idtInfo rfl (Nat.succ_pos 2) idRow idRow_length idRow_one (ov.take j) _ rfl ?_ p #[.int .i64 p.idx, .int .i64 p.trm, .int .i64 p.knd] rfl 42 _ rfl ?_ (by rw [List.length_take]; omega) (by omega) (by first | omega | (simp; done) | (simp; omega)) ?_
                  focus (first | exact HO5.out | exact HO5.out.alloc _)
                  focus (first | exact HBX.out | exact Box.new _ _ _)
                  intro g6 c6 w6 p1 p2 p3
                  have HO6 := Lib.hid p1
                  have PB := Lib.hid (Below.trans (show Below W9.heap.size W9 _ by ((repeat (first | (with_reducible refine Below.drew ?_) | (with_reducible refine Below.alloc ?_ (by first | omega | (simp; done) | (simp; omega)) _))); first | exact PC.out | exact PB.out | exact PA.out | exact Below.refl _ _)) p2)
                  have hz6 := PB.out.size
                  clear p1 p2 p3
                  refine hK.out _ _ (HFR.out _ PB.out) (fun hH => ?_)
                  clear hK K
                  try simp only [Act.put, List.setIfInBounds_toArray, List.set_cons_zero, List.set_cons_succ, List.getElem_toArray, List.getElem_cons_zero, List.getElem_cons_succ]
                  refine wpAnyH_ready (rs := [14]) (by kernel_rfl) (by simp) ?_
                  refine AllReadyH.cons rfl (fun K hK => ?_) AllReadyH.nil
                  refine step_append_all rfl (.tmp 64) (.tmp 67) _ rfl W9.heap.size 42 _ 3 24 Tryz.underlying22 idtInfo rfl (Nat.succ_pos 2) idRow idRow_length idRow_one (ov.take j ++ [p]) _ rfl HO6.out (ov.drop j) W9.heap.size _ ?_ rfl (by simp only [List.length_append, List.length_singleton, List.length_take, List.length_drop]; omega) (by omega) (by first | omega | (simp; done) | (simp; omega)) ?_
                  focus (first | exact HS2.out.below PB.out | exact HS3.out.below PB.out)
                  intro v7 w7 p1 p2 p3 p4 p5
                  obtain ⟨A7, c7, hv7⟩ := p1.len
                  have hl7 : (ov.take j ++ [p] ++ ov.drop j).length = ov.length + 1 := by simp only [List.length_append, List.length_singleton, List.length_take, List.length_drop]; omega
                  rw [hl7] at hv7
                  subst hv7
                  have HO7 := Lib.hid (p1.less HBV9.out.size)
                  have PD := Lib.hid (HBV9.out.trans ((PB.out.trans p2).mono HBV9.out.size))
                  have PC := Lib.hid (PB.out.trans p2)
                  clear p1 p2 p3 p4 p5 hl7
                  refine hK.out _ _ (HFR.out _ PC.out) (fun hH => ?_)
                  clear hK K
                  try simp only [Act.put, List.setIfInBounds_toArray, List.set_cons_zero, List.set_cons_succ, List.getElem_toArray, List.getElem_cons_zero, List.getElem_cons_succ]
                  first
                    | (refine wpAnyH_take (i := 15) (v := ?_) rfl (by kernel_rfl) (by kernel_rfl) (by kernel_rfl) (fun _ _ _ h => h) (Or.inl ⟨?_, ?_⟩) (by assumption) ?_; rotate_left; (focus rfl); (focus (intro w hSw; go_split_ands; go_simp; try with_reducible rfl)); skip)
                    | (refine wpAnyH_take (i := 15) (v := undef) rfl (by kernel_rfl) (by kernel_rfl) (by kernel_rfl) (fun _ _ _ h => h) (Or.inr ⟨?_, rfl⟩) (by assumption) ?_; (focus rfl))
                  try simp only [Act.put, List.setIfInBounds_toArray, List.set_cons_zero, List.set_cons_succ, List.getElem_toArray, List.getElem_cons_zero, List.getElem_cons_succ]
                  refine wpAnyH_done (by kernel_rfl) ?_ _
                  go_wp2_with fail
                  go_roundw
                  case rel => exact ⟨k + 1, ov.length + 1, A7, c7, rfl, by rw [HWY.out, HIE.out]; simp only [List.length_append, List.length_singleton, List.length_take, List.length_drop]; omega, by omega, by go_num, by rw [HWY.out, HIE.out]; exact HO7.out, PD.out⟩
                  case measure => first | (simp [kOf]; done) | (simp [kOf]; omega)
                · go_simp
                  refine hK.out _ _ (HFR.out _ (by ((repeat (first | (with_reducible refine Below.drew ?_) | (with_reducible refine Below.alloc ?_ (by first | omega | (simp; done) | (simp; omega)) _))); first | exact PC.out | exact PB.out | exact PA.out | exact Below.refl _ _))) (fun hH => ?_)
                  clear hK K
                  try simp only [Act.put, List.setIfInBounds_toArray, List.set_cons_zero, List.set_cons_succ, List.getElem_toArray, List.getElem_cons_zero, List.getElem_cons_succ]
                  refine wpAnyH_ready (rs := [4]) (by kernel_rfl) (by simp) ?_
                  refine AllReadyH.cons rfl (fun K hK => ?_) AllReadyH.nil
                  refine step_append_all rfl (.tmp 54) (.tmp 57) _ rfl W9.heap.size 42 _ 3 24 Tryz.underlying22 idtInfo rfl (Nat.succ_pos 2) idRow idRow_length idRow_one [] (.slice (some ⟨W9.heap.size, 0, none⟩) 0 0) rfl ?_ (ov.take j) W9.heap.size _ ?_ rfl (by simp only [List.length_nil, List.length_take]; omega) (by omega) (by first | omega | (simp; done) | (simp; omega)) ?_
                  focus ((repeat (first | (with_reducible refine Own.drew ?_) | ((with_reducible refine own_made ?_ ?_) <;> first | rfl | omega | (simp; done) | (simp; omega)) | (with_reducible refine Own.alloc ?_ _))))
                  focus (refine HS1.out.below ?_; ((repeat (first | (with_reducible refine Below.drew ?_) | (with_reducible refine Below.alloc ?_ (by first | omega | (simp; done) | (simp; omega)) _))); first | exact PC.out | exact PB.out | exact PA.out | exact Below.refl _ _))
                  intro v5 w5 p1 p2 p3 p4 p5
                  obtain ⟨A5, c5, hv5⟩ := p1.len
                  rw [List.nil_append, List.length_take_of_le hj] at hv5
                  subst hv5
                  have HO5 := Lib.hid (show Own 3 idRow 42 W9.heap.size w5 (.slice A5 j c5) (ov.take j) by simpa using p1)
                  have PA := Lib.hid (Below.trans (show Below W9.heap.size W9 _ by ((repeat (first | (with_reducible refine Below.drew ?_) | (with_reducible refine Below.alloc ?_ (by first | omega | (simp; done) | (simp; omega)) _))); first | exact PC.out | exact PB.out | exact PA.out | exact Below.refl _ _)) p2)
                  have HBX := Lib.hid (show Box w5 (W9.heap.size + 1) #[.int .i64 p.idx, .int .i64 p.trm, .int .i64 p.knd] 42 from box_keep (p4 (W9.heap.size + 1) (by first | (simp; done) | (simp; omega)) (by simp [Value.ownBlock])) (by ((repeat (first | (with_reducible refine box_dr ?_) | (with_reducible exact Box.new _ _ _) | ((with_reducible refine box_nw ?_); (focus (simp; done))) | (with_reducible refine Box.alloc ?_ _))))))
                  have hz5 := PA.out.size
                  clear p1 p2 p3 p4 p5
                  refine hK.out _ _ (HFR.out _ PA.out) (fun hH => ?_)
                  clear hK K
                  try simp only [Act.put, List.setIfInBounds_toArray, List.set_cons_zero, List.set_cons_succ, List.getElem_toArray, List.getElem_cons_zero, List.getElem_cons_succ]
                  refine wpAnyH_ready (rs := [10]) (by kernel_rfl) (by simp) ?_
                  refine AllReadyH.cons rfl (fun K hK => ?_) AllReadyH.nil
                  refine step_append_row rfl (.tmp 58) (.tmp 63) _ rfl W9.heap.size 42 _ 3 24 Tryz.underlying22 idtInfo rfl (Nat.succ_pos 2) idRow idRow_length idRow_one (ov.take j) _ rfl ?_ p #[.int .i64 p.idx, .int .i64 p.trm, .int .i64 p.knd] rfl 42 _ rfl ?_ (by rw [List.length_take]; omega) (by omega) (by first | omega | (simp; done) | (simp; omega)) ?_
                  focus (first | exact HO5.out | exact HO5.out.alloc _)
                  focus (first | exact HBX.out | exact Box.new _ _ _)
                  intro g6 c6 w6 p1 p2 p3
                  have HO6 := Lib.hid p1
                  have PB := Lib.hid (Below.trans (show Below W9.heap.size W9 _ by ((repeat (first | (with_reducible refine Below.drew ?_) | (with_reducible refine Below.alloc ?_ (by first | omega | (simp; done) | (simp; omega)) _))); first | exact PC.out | exact PB.out | exact PA.out | exact Below.refl _ _)) p2)
                  have hz6 := PB.out.size
                  clear p1 p2 p3
                  refine hK.out _ _ (HFR.out _ PB.out) (fun hH => ?_)
                  clear hK K
                  try simp only [Act.put, List.setIfInBounds_toArray, List.set_cons_zero, List.set_cons_succ, List.getElem_toArray, List.getElem_cons_zero, List.getElem_cons_succ]
                  refine wpAnyH_ready (rs := [14]) (by kernel_rfl) (by simp) ?_
                  refine AllReadyH.cons rfl (fun K hK => ?_) AllReadyH.nil
                  refine step_append_all rfl (.tmp 64) (.tmp 67) _ rfl W9.heap.size 42 _ 3 24 Tryz.underlying22 idtInfo rfl (Nat.succ_pos 2) idRow idRow_length idRow_one (ov.take j ++ [p]) _ rfl HO6.out (ov.drop j) W9.heap.size _ ?_ rfl (by simp only [List.length_append, List.length_singleton, List.length_take, List.length_drop]; omega) (by omega) (by first | omega | (simp; done) | (simp; omega)) ?_
                  focus (first | exact HS2.out.below PB.out | exact HS3.out.below PB.out)
                  intro v7 w7 p1 p2 p3 p4 p5
                  obtain ⟨A7, c7, hv7⟩ := p1.len
                  have hl7 : (ov.take j ++ [p] ++ ov.drop j).length = ov.length + 1 := by simp only [List.length_append, List.length_singleton, List.length_take, List.length_drop]; omega
                  rw [hl7] at hv7
                  subst hv7
                  have HO7 := Lib.hid (p1.less HBV9.out.size)
                  have PD := Lib.hid (HBV9.out.trans ((PB.out.trans p2).mono HBV9.out.size))
                  have PC := Lib.hid (PB.out.trans p2)
                  clear p1 p2 p3 p4 p5 hl7
                  refine hK.out _ _ (HFR.out _ PC.out) (fun hH => ?_)
                  clear hK K
                  try simp only [Act.put, List.setIfInBounds_toArray, List.set_cons_zero, List.set_cons_succ, List.getElem_toArray, List.getElem_cons_zero, List.getElem_cons_succ]
                  first
                    | (refine wpAnyH_take (i := 15) (v := ?_) rfl (by kernel_rfl) (by kernel_rfl) (by kernel_rfl) (fun _ _ _ h => h) (Or.inl ⟨?_, ?_⟩) (by assumption) ?_; rotate_left; (focus rfl); (focus (intro w hSw; go_split_ands; go_simp; try with_reducible rfl)); skip)
                    | (refine wpAnyH_take (i := 15) (v := undef) rfl (by kernel_rfl) (by kernel_rfl) (by kernel_rfl) (fun _ _ _ h => h) (Or.inr ⟨?_, rfl⟩) (by assumption) ?_; (focus rfl))
                  try simp only [Act.put, List.setIfInBounds_toArray, List.set_cons_zero, List.set_cons_succ, List.getElem_toArray, List.getElem_cons_zero, List.getElem_cons_succ]
                  refine wpAnyH_done (by kernel_rfl) ?_ _
                  go_wp2_with fail
                  go_roundw
                  case rel => exact ⟨k + 1, ov.length + 1, A7, c7, rfl, by rw [HWY.out, HIE.out]; simp only [List.length_append, List.length_singleton, List.length_take, List.length_drop]; omega, by omega, by go_num, by rw [HWY.out, HIE.out]; exact HO7.out, PD.out⟩
                  case measure => first | (simp [kOf]; done) | (simp [kOf]; omega)
              · go_simp
                refine hK.out _ _ (HFR.out _ (by ((repeat (first | (with_reducible refine Below.drew ?_) | (with_reducible refine Below.alloc ?_ (by first | omega | (simp; done) | (simp; omega)) _))); first | exact PC.out | exact PB.out | exact PA.out | exact Below.refl _ _))) (fun hH => ?_)
                clear hK K
                try simp only [Act.put, List.setIfInBounds_toArray, List.set_cons_zero, List.set_cons_succ, List.getElem_toArray, List.getElem_cons_zero, List.getElem_cons_succ]
                refine wpAnyH_ready (rs := [0]) (by kernel_rfl) (by simp) ?_
                refine AllReadyH.cons rfl (fun K hK => ?_) AllReadyH.nil
                go_simp
                refine hK.out _ _ (HFR.out _ (by ((repeat (first | (with_reducible refine Below.drew ?_) | (with_reducible refine Below.alloc ?_ (by first | omega | (simp; done) | (simp; omega)) _))); first | exact PC.out | exact PB.out | exact PA.out | exact Below.refl _ _))) (fun hH => ?_)
                clear hK K
                try simp only [Act.put, List.setIfInBounds_toArray, List.set_cons_zero, List.set_cons_succ, List.getElem_toArray, List.getElem_cons_zero, List.getElem_cons_succ]
                refine wpAnyH_ready (rs := [4]) (by kernel_rfl) (by simp) ?_
                refine AllReadyH.cons rfl (fun K hK => ?_) AllReadyH.nil
                refine step_append_all rfl (.tmp 54) (.tmp 57) _ rfl W9.heap.size 42 _ 3 24 Tryz.underlying22 idtInfo rfl (Nat.succ_pos 2) idRow idRow_length idRow_one [] (.slice (some ⟨W9.heap.size + 1, 0, none⟩) 0 0) rfl ?_ (ov.take j) W9.heap.size _ ?_ rfl (by simp only [List.length_nil, List.length_take]; omega) (by omega) (by first | omega | (simp; done) | (simp; omega)) ?_
                focus ((repeat (first | (with_reducible refine Own.drew ?_) | ((with_reducible refine own_made ?_ ?_) <;> first | rfl | omega | (simp; done) | (simp; omega)) | (with_reducible refine Own.alloc ?_ _))))
                focus (refine HS1.out.below ?_; ((repeat (first | (with_reducible refine Below.drew ?_) | (with_reducible refine Below.alloc ?_ (by first | omega | (simp; done) | (simp; omega)) _))); first | exact PC.out | exact PB.out | exact PA.out | exact Below.refl _ _))
                intro v5 w5 p1 p2 p3 p4 p5
                obtain ⟨A5, c5, hv5⟩ := p1.len
                rw [List.nil_append, List.length_take_of_le hj] at hv5
                subst hv5
                have HO5 := Lib.hid (show Own 3 idRow 42 W9.heap.size w5 (.slice A5 j c5) (ov.take j) by simpa using p1)
                have PA := Lib.hid (Below.trans (show Below W9.heap.size W9 _ by ((repeat (first | (with_reducible refine Below.drew ?_) | (with_reducible refine Below.alloc ?_ (by first | omega | (simp; done) | (simp; omega)) _))); first | exact PC.out | exact PB.out | exact PA.out | exact Below.refl _ _)) p2)
                have HBX := Lib.hid (show Box w5 (W9.heap.size) #[.int .i64 p.idx, .int .i64 p.trm, .int .i64 p.knd] 42 from box_keep (p4 (W9.heap.size) (by first | (simp; done) | (simp; omega)) (by simp [Value.ownBlock])) (by ((repeat (first | (with_reducible refine box_dr ?_) | (with_reducible exact Box.new _ _ _) | ((with_reducible refine box_nw ?_); (focus (simp; done))) | (with_reducible refine Box.alloc ?_ _))))))
                have hz5 := PA.out.size
                clear p1 p2 p3 p4 p5
                refine hK.out _ _ (HFR.out _ PA.out) (fun hH => ?_)
                clear hK K
                try simp only [Act.put, List.setIfInBounds_toArray, List.set_cons_zero, List.set_cons_succ, List.getElem_toArray, List.getElem_cons_zero, List.getElem_cons_succ]
                refine wpAnyH_ready (rs := [10]) (by kernel_rfl) (by simp) ?_
                refine AllReadyH.cons rfl (fun K hK => ?_) AllReadyH.nil
                refine step_append_row rfl (.tmp 58) (.tmp 63) _ rfl W9.heap.size 42 _ 3 24 Tryz.underlying22 idtInfo rfl (Nat.succ_pos 2) idRow idRow_length idRow_one (ov.take j) _ rfl ?_ p #[.int .i64 p.idx, .int .i64 p.trm, .int .i64 p.knd] rfl 42 _ rfl ?_ (by rw [List.length_take]; omega) (by omega) (by first | omega | (simp; done) | (simp; omega)) ?_
                focus (first | exact HO5.out | exact HO5.out.alloc _)
                focus (first | exact HBX.out | exact Box.new _ _ _)
                intro g6 c6 w6 p1 p2 p3
                have HO6 := Lib.hid p1
                have PB := Lib.hid (Below.trans (show Below W9.heap.size W9 _ by ((repeat (first | (with_reducible refine Below.drew ?_) | (with_reducible refine Below.alloc ?_ (by first | omega | (simp; done) | (simp; omega)) _))); first | exact PC.out | exact PB.out | exact PA.out | exact Below.refl _ _)) p2)
                have hz6 := PB.out.size
                clear p1 p2 p3
                refine hK.out _ _ (HFR.out _ PB.out) (fun hH => ?_)
                clear hK K
                try simp only [Act.put, List.setIfInBounds_toArray, List.set_cons_zero, List.set_cons_succ, List.getElem_toArray, List.getElem_cons_zero, List.getElem_cons_succ]
                refine wpAnyH_ready (rs := [14]) (by kernel_rfl) (by simp) ?_
                refine AllReadyH.cons rfl (fun K hK => ?_) AllReadyH.nil
                refine step_append_all rfl (.tmp 64) (.tmp 67) _ rfl W9.heap.size 42 _ 3 24 Tryz.underlying22 idtInfo rfl (Nat.succ_pos 2) idRow idRow_length idRow_one (ov.take j ++ [p]) _ rfl HO6.out (ov.drop j) W9.heap.size _ ?_ rfl (by simp only [List.length_append, List.length_singleton, List.length_take, List.length_drop]; omega) (by omega) (by first | omega | (simp; done) | (simp; omega)) ?_
                focus (first | exact HS2.out.below PB.out | exact HS3.out.below PB.out)
                intro v7 w7 p1 p2 p3 p4 p5
                obtain ⟨A7, c7, hv7⟩ := p1.len
                have hl7 : (ov.take j ++ [p] ++ ov.drop j).length = ov.length + 1 := by simp only [List.length_append, List.length_singleton, List.length_take, List.length_drop]; omega
                rw [hl7] at hv7
                subst hv7
                have HO7 := Lib.hid (p1.less HBV9.out.size)
                have PD := Lib.hid (HBV9.out.trans ((PB.out.trans p2).mono HBV9.out.size))
                have PC := Lib.hid (PB.out.trans p2)
                clear p1 p2 p3 p4 p5 hl7
                refine hK.out _ _ (HFR.out _ PC.out) (fun hH => ?_)
                clear hK K
                try simp only [Act.put, List.setIfInBounds_toArray, List.set_cons_zero, List.set_cons_succ, List.getElem_toArray, List.getElem_cons_zero, List.getElem_cons_succ]
                first
                  | (refine wpAnyH_take (i := 15) (v := ?_) rfl (by kernel_rfl) (by kernel_rfl) (by kernel_rfl) (fun _ _ _ h => h) (Or.inl ⟨?_, ?_⟩) (by assumption) ?_; rotate_left; (focus rfl); (focus (intro w hSw; go_split_ands; go_simp; try with_reducible rfl)); skip)
                  | (refine wpAnyH_take (i := 15) (v := undef) rfl (by kernel_rfl) (by kernel_rfl) (by kernel_rfl) (fun _ _ _ h => h) (Or.inr ⟨?_, rfl⟩) (by assumption) ?_; (focus rfl))
                try simp only [Act.put, List.setIfInBounds_toArray, List.set_cons_zero, List.set_cons_succ, List.getElem_toArray, List.getElem_cons_zero, List.getElem_cons_succ]
                refine wpAnyH_done (by kernel_rfl) ?_ _
                go_wp2_with fail
                go_roundw
                case rel => exact ⟨k + 1, ov.length + 1, A7, c7, rfl, by rw [HWY.out, HIE.out]; simp only [List.length_append, List.length_singleton, List.length_take, List.length_drop]; omega, by omega, by go_num, by rw [HWY.out, HIE.out]; exact HO7.out, PD.out⟩
                case measure => first | (simp [kOf]; done) | (simp [kOf]; omega)
    · have d0 : decide ((k : Int) < (rot.length : Int)) = false := decide_eq_false (by omega)
      have hke : k = rot.length := by omega
      have HF := Lib.hid (show Own 3 idRow 42 w.heap.size wr (.slice A n c) (wantsV rot) by have h := HO.out; rw [hke, List.take_length] at h; exact h)
      have HN := Lib.hid (show n = (wantsV rot).length by have h := HNN.out; rw [hke, List.take_length] at h; exact h)
      clear hke
      go_wp2_with fail
      go_ret
      exact ⟨A, c, by rw [← HN.out]; rfl, by rw [← HN.out]; exact HF.out, HB.out⟩
end Go.Proofs.YtglkgmijhdkhpaaGreatDoor
