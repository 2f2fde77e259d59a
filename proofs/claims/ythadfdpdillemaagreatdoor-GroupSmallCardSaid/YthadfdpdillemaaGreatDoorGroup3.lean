/-
  THE PACKAGE group: made, may, Change: contracts.
-/
import Derived.Test.YthadfdpdillemaaGreatDoorGroup2
set_option linter.unusedVariables false
set_option linter.unusedSimpArgs false
namespace Go.Proofs.YthadfdpdillemaaGreatDoor
open Go.RowKit Go.Sort Go.Shelf

theorem notT_eq (l : List Int) (t : Int) : l.filter (notT t) = l.filter (fun m => !decide (m = t)) := rfl
theorem madeV_sort (l : List Int) (a t : Int) : madeV l a t = sortI (l.filter (notT t) ++ (if a = 0 then [] else [a])) := rfl

set_option maxRecDepth 100000 in
set_option maxHeartbeats 4000000 in
theorem groupMade (l : List Int) (a t : Int) (v : Value) (w : World) (h : Sl 1 i64Row w.heap.size w v l) (hl : l.length ≤ 1000) (hne : l ≠ []) :
    Calls Tryz.prog 104 #[.agg #[v, .int .i64 a, .int .i64 t]] w fun e w' => ∃ v', e = .returned v' ∧ Own 1 i64Row 3 w.heap.size w' v' (madeV l a t) ∧ Below w.heap.size w w' := by
  obtain ⟨A, cap, rfl, -⟩ := id h
  have HX := Lib.hid (Box.new w #[.slice A l.length cap, .int .i64 a, .int .i64 t] 156)
  have HB0 := Lib.hid (below_new w (.cells #[.slice A l.length cap, .int .i64 a, .int .i64 t] 156))
  have HS := Lib.hid (h.alloc (.cells #[.slice A l.length cap, .int .i64 a, .int .i64 t] 156))
  have HNE := Lib.hid hne
  have hz : w.heap.size < (w.alloc (.cells #[.slice A l.length cap, .int .i64 a, .int .i64 t] 156)).heap.size := by simp
  have hfl : (l.filter (notT t)).length ≤ l.length := List.length_filter_le _ _
  clear h hne
  go_enter Tryz.func104, Tryz.ntmps104
  obtain ⟨W, hW⟩ : ∃ W, W = w.alloc (.cells #[.slice A l.length cap, .int .i64 a, .int .i64 t] 156) := ⟨_, rfl⟩
  rw [← hW] at HX HB0 HS hz
  obtain ⟨g, hg⟩ : ∃ g, g = w.heap.size := ⟨_, rfl⟩
  go_upto_region 1 with fail
  rw [← hW, ← hg]
  rw [← hg] at HX HB0 hz
  obtain ⟨kx, fx, zx⟩ := HX.out.facts
  have HGW := Lib.hid hg
  clear hW hg
  go_upto_region 2 with (first
    | (go_at_call 157; refine (rowClone l _ W HS.out (by omega)).mono ?_; rintro e w2 ⟨A2, c2, rfl, ho, hb⟩; obtain ⟨g2, rfl⟩ : ∃ g2, A2 = some ⟨g2, 0, none⟩ := (by
         rcases ho.2 with ⟨hv, h0⟩ | ⟨g2, cap2, cur, hv, _⟩
         · exact absurd (List.eq_nil_of_length_eq_zero h0) HNE.out
         · simp only [Value.slice.injEq] at hv; exact ⟨g2, hv.1⟩); have HO2 := Lib.hid ho; have HB2 := Lib.hid hb; have HX2 := Lib.hid (HX.out.later hb); clear ho hb)
    | (go_at_call 156; refine (rowDelete g W.heap.size g2 _ c2 t l w2 (HX2.out.cell 2) hz HB2.out.size HO2.out (by omega)).mono ?_; rintro e w3 ⟨rfl, ho, hb⟩; have HO3 := Lib.hid ho; have HB3 := Lib.hid (HB2.out.trans hb); have HX3 := Lib.hid (show Box w3 g #[.slice A l.length cap, .int .i64 a, .int .i64 t] 156 from (hb.block g hz).trans HX2.out); clear ho hb))
  clear kx fx zx
  obtain ⟨kx, fx, zx⟩ := HX3.out.facts
  have hz3 := HB3.out.size
  have HM := Lib.hid (madeV_sort l a t)
  obtain ⟨L, hL⟩ : ∃ L, l.filter (notT t) = L := ⟨_, rfl⟩
  rw [hL] at HM HO3 hfl
  rw [hL]
  clear hL
  by_cases ha : a = 0
  · subst ha
    rw [if_pos rfl, List.append_nil] at HM
    go_wp2_with (go_at_call 159; refine (rowSort _ L _ w3 HO3.out (by omega) hz3).mono ?_; rintro e w4 ⟨rfl, ho, hb⟩; have HO4 := Lib.hid ho; have HB4 := Lib.hid (HB3.out.trans hb); clear ho hb)
    go_ret
    exact ⟨_, rfl, by rw [HM.out]; exact HO4.out.less (by have := HGW.out; omega), by rw [← HGW.out]; exact HB0.out.trans (HB4.out.mono (by omega))⟩
  · have ha1 : (a != 0) = true := by simpa using ha
    rw [if_neg ha] at HM
    clear ha
    go_wp2_with (first
      | (at_builtin; refine wpList_append_row _ rfl (.tmp 13) (.tmp 16) 154 rfl W.heap.size 3 _ 1 8 Tryz.underlying154 intInfo rfl (Nat.succ_pos 0) i64Row i64Row_length i64Row_one L _ rfl HO3.out a _ rfl 3 _ rfl rfl (by omega) (by omega) hz3 ?_; intro v4 w4 p1 p2 p3 p4 p5; have HO4 := Lib.hid p1; have HB4 := Lib.hid (HB3.out.trans p2); clear p1 p2 p3 p4 p5)
      | (go_at_call 159; refine (rowSort _ (L ++ [a]) _ w4 HO4.out (by simp; omega) HB4.out.size).mono ?_; rintro e w5 ⟨rfl, ho, hb⟩; have HO5 := Lib.hid ho; have HB5 := Lib.hid (HB4.out.trans hb); clear ho hb))
    go_ret
    exact ⟨_, rfl, by rw [HM.out]; exact HO5.out.less (by have := HGW.out; omega), by rw [← HGW.out]; exact HB0.out.trans (HB5.out.mono (by omega))⟩

/-- Why a change may not be: who, and the number; none. -/
def WhyG (c : Bool) (v : Value) : Prop := (c = true ∧ v = .nilIface) ∨ (c = false ∧ ∃ n k : Int, (k = 1 ∨ k = 2 ∨ k = 3 ∨ k = 4) ∧ v = .iface 159 (.agg #[.int .i64 n, .iface 160 (.int .i64 k)]))
theorem whyG_no {n k : Int} (h : k = 1 ∨ k = 2 ∨ k = 3 ∨ k = 4) : WhyG false (.iface 159 (.agg #[.int .i64 n, .iface 160 (.int .i64 k)])) := .inr ⟨rfl, n, k, h, rfl⟩

theorem may_wrong {l : List Int} {a t : Int} (h : memRight l = false) : mayV l a t = false := by unfold mayV; rw [h]; rfl

set_option maxRecDepth 100000 in
set_option maxHeartbeats 4000000 in
theorem groupMay (l : List Int) (a t : Int) (v : Value) (w : World) (h : Sl 1 i64Row w.heap.size w v l) (hl : l.length ≤ 1000000) :
    Calls Tryz.prog 103 #[.agg #[v, .int .i64 a, .int .i64 t]] w fun e w' => ∃ u, e = .returned u ∧ WhyG (mayV l a t) u ∧ Below w.heap.size w w' := by
  obtain ⟨A, cap, rfl, -⟩ := id h
  have HX := Lib.hid (Box.new w #[.slice A l.length cap, .int .i64 a, .int .i64 t] 156)
  have HB0 := Lib.hid (below_new w (.cells #[.slice A l.length cap, .int .i64 a, .int .i64 t] 156))
  have HS := Lib.hid (h.alloc (.cells #[.slice A l.length cap, .int .i64 a, .int .i64 t] 156))
  obtain ⟨W, hW⟩ : ∃ W, W = w.alloc (.cells #[.slice A l.length cap, .int .i64 a, .int .i64 t] 156) := ⟨_, rfl⟩
  rw [← hW] at HX HB0 HS
  have CR := Lib.hid (entryRight l _ W HS.out)
  have CT := Lib.hid (rowHas l t _ W HS.out)
  have CA := Lib.hid (rowHas l a _ W HS.out)
  clear h
  go_enter Tryz.func103, Tryz.ntmps103
  obtain ⟨g, hg⟩ : ∃ g, g = w.heap.size := ⟨_, rfl⟩
  go_upto_region 1 with fail
  rw [← hW, ← hg]
  rw [← hg] at HX HB0
  obtain ⟨kx, fx, zx⟩ := HX.out.facts
  have HGW := Lib.hid hg
  clear hW hg
  cases hm : memRight l with
  | false =>
    rw [hm] at CR
    have HMAY := Lib.hid (may_wrong (a := a) (t := t) hm)
    clear hm
    go_wp2_with (go_at_call 155; refine CR.out.mono ?_; rintro e w2 ⟨rfl, rfl⟩)
    go_ret
    exact ⟨_, rfl, by rw [HMAY.out]; exact whyG_no (.inl rfl), by rw [← HGW.out]; exact HB0.out⟩
  | true =>
    rw [hm] at CR
    have HM := Lib.hid hm
    clear hm
    by_cases ha : a = 0
    · by_cases ht : t = 0
      · have HMAY := Lib.hid (show mayV l a t = false by unfold mayV; simp [ha, ht])
        subst ha; subst ht
        go_wp2_with (go_at_call 155; refine CR.out.mono ?_; rintro e w2 ⟨rfl, rfl⟩)
        go_ret
        exact ⟨_, rfl, by rw [HMAY.out]; exact whyG_no (.inr (.inl rfl)), by rw [← HGW.out]; exact HB0.out⟩
      · have t1 : (t == 0) = false := by simpa using ht
        have t2 : (t != 0) = true := by simpa using ht
        cases hc : l.contains t with
        | false =>
          rw [hc] at CT
          have HMAY := Lib.hid (show mayV l a t = false by unfold mayV; rw [hc]; simp [ha, ht])
          subst ha
          clear ht hc
          go_wp2_with (first
            | (go_at_call 155; refine CR.out.mono ?_; rintro e w2 ⟨rfl, rfl⟩)
            | (go_at_call 106; refine CT.out.mono ?_; rintro e w3 ⟨rfl, rfl⟩))
          go_ret
          exact ⟨_, rfl, by rw [HMAY.out]; exact whyG_no (.inr (.inr (.inl rfl))), by rw [← HGW.out]; exact HB0.out⟩
        | true =>
          rw [hc] at CT
          by_cases h1 : l.length = 1
          · have HMAY := Lib.hid (show mayV l a t = false by unfold mayV; rw [hc]; simp [ha, ht, h1])
            have l1 : ((l.length : Int) == 1) = true := by rw [h1]; rfl
            have HL1 := Lib.hid h1
            subst ha
            clear ht hc h1
            go_wp2_with (first
              | (go_at_call 155; refine CR.out.mono ?_; rintro e w2 ⟨rfl, rfl⟩)
              | (go_at_call 106; refine CT.out.mono ?_; rintro e w3 ⟨rfl, rfl⟩))
            go_ret
            exact ⟨_, rfl, by rw [HMAY.out]; exact whyG_no (.inr (.inr (.inr rfl))), by rw [← HGW.out]; exact HB0.out⟩
          · have HMAY := Lib.hid (show mayV l a t = true by unfold mayV; rw [hc, HM.out]; simp [ha, ht, h1])
            have l1 : ((l.length : Int) == 1) = false := by simpa using (show ¬ (l.length : Int) = 1 by omega)
            have HL1 := Lib.hid h1
            subst ha
            clear ht hc h1
            go_wp2_with (first
              | (go_at_call 155; refine CR.out.mono ?_; rintro e w2 ⟨rfl, rfl⟩)
              | (go_at_call 106; refine CT.out.mono ?_; rintro e w3 ⟨rfl, rfl⟩))
            go_ret
            exact ⟨_, rfl, by rw [HMAY.out]; exact .inl ⟨rfl, rfl⟩, by rw [← HGW.out]; exact HB0.out⟩
    · have a1 : (a == 0) = false := by simpa using ha
      have a2 : (a != 0) = true := by simpa using ha
      by_cases ht : t = 0
      · have t1 : (t == 0) = true := by simpa using ht
        cases hc : l.contains a with
        | true =>
          rw [hc] at CA
          have HMAY := Lib.hid (show mayV l a t = false by unfold mayV; rw [hc]; simp [ha, ht])
          subst ht
          clear ha hc
          go_wp2_with (first
            | (go_at_call 155; refine CR.out.mono ?_; rintro e w2 ⟨rfl, rfl⟩)
            | (go_at_call 106; refine CA.out.mono ?_; rintro e w3 ⟨rfl, rfl⟩))
          go_ret
          exact ⟨_, rfl, by rw [HMAY.out]; exact whyG_no (.inr (.inr (.inl rfl))), by rw [← HGW.out]; exact HB0.out⟩
        | false =>
          rw [hc] at CA
          by_cases h7 : 7 < a
          · have HMAY := Lib.hid (show mayV l a t = false by unfold mayV; rw [hc]; simp [ht]; omega)
            have a3 : decide (7 < a) = true := decide_eq_true h7
            subst ht
            clear ha hc
            go_wp2_with (first
              | (go_at_call 155; refine CR.out.mono ?_; rintro e w2 ⟨rfl, rfl⟩)
              | (go_at_call 106; refine CA.out.mono ?_; rintro e w3 ⟨rfl, rfl⟩))
            go_ret
            exact ⟨_, rfl, by rw [HMAY.out]; exact whyG_no (.inr (.inr (.inl rfl))), by rw [← HGW.out]; exact HB0.out⟩
          · have a3 : decide (7 < a) = false := decide_eq_false h7
            by_cases h1 : a < 1
            · have HMAY := Lib.hid (show mayV l a t = false by unfold mayV; rw [hc]; simp [ht]; omega)
              have a4 : decide (a < 1) = true := decide_eq_true h1
              subst ht
              clear ha hc
              go_wp2_with (first
                | (go_at_call 155; refine CR.out.mono ?_; rintro e w2 ⟨rfl, rfl⟩)
                | (go_at_call 106; refine CA.out.mono ?_; rintro e w3 ⟨rfl, rfl⟩))
              go_ret
              exact ⟨_, rfl, by rw [HMAY.out]; exact whyG_no (.inl rfl), by rw [← HGW.out]; exact HB0.out⟩
            · have HMAY := Lib.hid (show mayV l a t = true by unfold mayV; rw [hc, HM.out]; simp [ha, ht]; omega)
              have a4 : decide (a < 1) = false := decide_eq_false h1
              subst ht
              clear ha hc
              go_wp2_with (first
                | (go_at_call 155; refine CR.out.mono ?_; rintro e w2 ⟨rfl, rfl⟩)
                | (go_at_call 106; refine CA.out.mono ?_; rintro e w3 ⟨rfl, rfl⟩))
              go_ret
              exact ⟨_, rfl, by rw [HMAY.out]; exact .inl ⟨rfl, rfl⟩, by rw [← HGW.out]; exact HB0.out⟩
      · have t1 : (t == 0) = false := by simpa using ht
        have t2 : (t != 0) = true := by simpa using ht
        have HMAY := Lib.hid (show mayV l a t = false by unfold mayV; simp [ha, ht])
        clear ha ht
        go_wp2_with (go_at_call 155; refine CR.out.mono ?_; rintro e w2 ⟨rfl, rfl⟩)
        go_ret
        exact ⟨_, rfl, by rw [HMAY.out]; exact whyG_no (.inr (.inl rfl)), by rw [← HGW.out]; exact HB0.out⟩
end Go.Proofs.YthadfdpdillemaaGreatDoor
