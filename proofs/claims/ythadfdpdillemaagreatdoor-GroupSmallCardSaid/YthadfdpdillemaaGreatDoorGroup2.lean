/-
  THE PACKAGE group: the change (made, may, Change): contracts.
-/
import Derived.Test.YthadfdpdillemaaGreatDoorGroup
set_option linter.unusedVariables false
set_option linter.unusedSimpArgs false
namespace Go.Proofs.YthadfdpdillemaaGreatDoor
open Go.RowKit Go.Sort Go.Shelf

theorem flat_map (l : List Int) : l.flatMap i64Row = l.map encZ := by
  induction l with
  | nil => rfl
  | cons x l ih => rw [List.flatMap_cons, ih]; rfl
def sortI (l : List Int) : List Int := l.mergeSort fun x y => decide (x ≤ y)
theorem sortI_length (l : List Int) : (sortI l).length = l.length := List.length_mergeSort l
theorem rowSort (base : Nat) (l : List Int) (v : Value) (w : World) (h : Own 1 i64Row 3 base w v l) (hn : l.length ≤ 4294967296) (hB : base ≤ w.heap.size) :
    Calls Tryz.prog 159 #[v] w fun e w' => e = .returned (.tuple #[]) ∧ Own 1 i64Row 3 base w' v (sortI l) ∧ Below base w w' := by
  by_cases hl : l = []
  · subst hl
    obtain ⟨A, c, rfl⟩ := h.len
    refine (sortNoneRow A c w).mono ?_
    rintro e w' ⟨rfl, rfl⟩
    exact ⟨rfl, by simpa [sortI] using h, Below.refl _ _⟩
  · have hown := h
    unfold Own at hown
    rw [flat_map] at hown
    rcases hown.2 with ⟨hv, h0⟩ | ⟨g, cap, cur, rfl, hb, hg, r1, r2, r3, r4⟩
    · exact absurd (List.eq_nil_of_length_eq_zero h0) hl
    · rw [Nat.mul_one] at r4
      refine (sortIntsRow g 0 cap l w (holds_of_block_i hg r4) (Array.getElem?_eq_some_iff.1 hg).1 (by omega)).mono ?_
      rintro e w' ⟨rfl, n, os, rfl⟩
      refine ⟨rfl, ?_, below_grown_own (grownBy_sorted_i _) hb hB⟩
      unfold Own
      rw [flat_map, sortI_length]
      exact ownsRow_sorted_i (sortI_length l) hb hg r1 r2 r3

/-- What the closure of 'made' strikes. -/
def notT (t : Int) (m : Int) : Bool := !decide (m = t)
set_option maxHeartbeats 1000000 in
theorem madeDel (g : Nat) (m t : Int) (w : World) (hc : w.cell? ⟨g, 2, none⟩ = some (.int .i64 t)) :
    Calls Tryz.prog 158 #[.int .i64 m, .pointer (some ⟨g, 0, none⟩)] w fun e w' => e = .returned (.bool (!notT t m)) ∧ w = w' := by
  have e1 : (!notT t m) = (m == t) := by unfold notT; rw [Bool.not_not]; rfl
  rw [e1]
  clear e1
  go_enter Tryz.func158, Tryz.ntmps158
  go_wp2_with fail
  go_ret
  exact ⟨rfl, rfl⟩

/-- All of the first k stay. -/
theorem filter_all {l : List Int} {t : Int} (h : NotI l t l.length) : l.filter (notT t) = l := by
  rw [List.filter_eq_self]
  intro x hx
  obtain ⟨i, hi⟩ := List.getElem?_of_mem hx
  have := h i x (List.getElem?_eq_some_iff.1 hi).1 hi
  simpa [notT] using this
theorem filter_to {l : List Int} {t : Int} {k : Nat} (h : NotI l t k) (hk : k ≤ l.length) : (l.take k).filter (notT t) = l.take k := by
  rw [List.filter_eq_self]
  intro x hx
  obtain ⟨i, hi⟩ := List.getElem?_of_mem hx
  rw [List.getElem?_take] at hi
  split at hi
  · have := h i x (by omega) hi
    simpa [notT] using this
  · cases hi
theorem filter_snoc {l : List Int} {t x : Int} {k : Nat} (hx : l[k]? = some x) : (l.take (k + 1)).filter (notT t) = if x = t then (l.take k).filter (notT t) else (l.take k).filter (notT t) ++ [x] := by
  rw [take_at hx, List.filter_append]
  by_cases h : x = t
  · simp [h, notT]
  · simp [h, notT]

set_option maxRecDepth 100000 in
set_option maxHeartbeats 2000000 in
theorem rowIndexFunc (g : Nat) (t : Int) (l : List Int) (v : Value) (w : World) (hc : w.cell? ⟨g, 2, none⟩ = some (.int .i64 t)) (h : Sl 1 i64Row w.heap.size w v l) :
    Calls Tryz.prog 181 #[v, .func (.func 158) #[] #[.pointer (some ⟨g, 0, none⟩)]] w fun e w' => ((NotI l t l.length ∧ e = .returned (.int .i64 (-1))) ∨ ∃ k : Nat, NotI l t k ∧ l[k]? = some t ∧ e = .returned (.int .i64 (k : Int))) ∧ w = w' := by
  obtain ⟨A, cap, rfl, hlc, hcm, -, hA⟩ := h
  have hn : l.length ≤ 9223372036854775807 := by unfold maxLen at hcm; omega
  clear hcm
  go_enter Tryz.func181, Tryz.ntmps181
  go_wp2_with fail
  go_loop [5, 8] (fun _ j => ∃ k : Nat, k ≤ l.length ∧ j = .int .i64 k ∧ NotI l t k) (fun _ j => l.length - (intOf j).toNat)
  case atStart => exact ⟨0, by omega, rfl, fun i y hi => absurd hi (Nat.not_lt_zero _)⟩
  case round =>
    obtain ⟨k, hk, rfl, hno⟩ := hrel
    have HNO := Lib.hid hno
    clear hno
    by_cases hlt : k < l.length
    · obtain ⟨b, off, rfl, hb, hcell⟩ := hA (by intro h; subst h; simp at hlt)
      obtain ⟨y, hy⟩ : ∃ y, l[k]? = some y := ⟨_, List.getElem?_eq_getElem hlt⟩
      have c0 : w.cell? ⟨b, off + k, none⟩ = some (.int .i64 y) := by simpa using hcell k y hy 0 _ rfl
      have HY := Lib.hid hy
      have CD := Lib.hid (madeDel g y t w hc)
      have i0 : (0 : Int) ≤ (k : Int) := by omega
      have i1 : (k : Int) < (l.length : Int) := by omega
      clear hcell hA hy
      by_cases hxy : y = t
      · have e1 : (!notT t y) = true := by simp [notT, hxy]
        rw [e1] at CD
        have HXY := Lib.hid hxy
        clear hxy e1
        go_wp2_with (go_at_call 158; refine CD.out.mono ?_; rintro e w2 ⟨rfl, rfl⟩)
        go_ret
        exact ⟨.inr ⟨k, HNO.out, by rw [HY.out, HXY.out], rfl⟩, rfl⟩
      · have e1 : (!notT t y) = false := by simp [notT, hxy]
        rw [e1] at CD
        have HXY := Lib.hid hxy
        clear hxy e1
        go_wp2_with (go_at_call 158; refine CD.out.mono ?_; rintro e w2 ⟨rfl, rfl⟩)
        go_roundw
        case rel => exact ⟨k + 1, by omega, by go_num, notI_succ HNO.out HY.out HXY.out⟩
        case measure => simp [intOf]; omega
    · go_wp2_with fail
      go_ret
      have : k = l.length := by omega
      subst this
      exact ⟨.inl ⟨HNO.out, rfl⟩, rfl⟩

theorem rowNil : ∀ (w : World) (a : Option Addr) (n c n' c' : Nat), (binOp .eql 154 (.slice a n c) (.slice none n' c')).run Tryz.prog w = .ok (.bool a.isNone) w := fun w a n c n' c' => Lib.run_eql_slice_nil w _ _ a n c n' c' Tryz.underlying154
set_option maxHeartbeats 1000000 in
theorem rowClone (l : List Int) (v : Value) (w : World) (h : Sl 1 i64Row w.heap.size w v l) (hn : l.length ≤ 1000000) :
    Calls Tryz.prog 157 #[v] w fun e w' => ∃ A c, e = .returned (.slice A l.length c) ∧ Own 1 i64Row 3 w.heap.size w' (.slice A l.length c) l ∧ Below w.heap.size w w' := by
  obtain ⟨A, cap, rfl, hlc, hcm, hN, hA⟩ := id h
  have HH := Lib.hid h
  have q23 := rowNil
  cases A with
  | none =>
    have hc : cap = 0 := hN rfl
    have h0 : l = [] := List.eq_nil_of_length_eq_zero (by omega)
    subst h0; subst hc
    clear h hA hN
    go_enter Tryz.func157, Tryz.ntmps157
    go_wp2_with fail
    go_ret
    exact ⟨none, 0, rfl, Own.nil_ _ _ _ _ _, Below.refl _ _⟩
  | some ad =>
    clear h hA hN hlc hcm
    go_enter Tryz.func157, Tryz.ntmps157
    go_wp2_with (at_builtin; refine wpList_append_all _ rfl (.tmp 5) (.tmp 6) 154 rfl w.heap.size 3 _ 1 8 Tryz.underlying154 intInfo rfl (Nat.succ_pos 0) i64Row i64Row_length i64Row_one [] _ rfl (Own.made 1 i64Row 3 w) l w.heap.size _ (HH.out.below (below_new _ _)) rfl (by unfold maxLen; simp; omega) (by simp; omega) (by simp) ?_; intro v' w' h1 h2 h3 h4 h5; have HO := Lib.hid h1; have HB2 := Lib.hid ((below_new w (.cells #[] 3)).trans h2); clear h2 h3 h4 h5)
    obtain ⟨A2, c2, hv⟩ := HO.out.len
    go_ret
    rw [List.nil_append] at hv
    subst hv
    exact ⟨A2, c2, rfl, by have h := HO.out; rwa [List.nil_append] at h, HB2.out⟩

theorem intZero : ∀ w, (zeroValue 3).run Tryz.prog w = .ok (.int .i64 0) w := fun w => by kernel_rfl
/-- Between two rounds: n of the first k stay, and lie ahead; what is behind k is as it was. -/
structure DelI (l : List Int) (t : Int) (L : List Int) (n k : Nat) : Prop where
  len : L.length = l.length
  head : L.take n = (l.take k).filter (notT t)
  rest : L.drop k = l.drop k
  lt : n < k ∧ k ≤ l.length ∧ ((l.take k).filter (notT t)).length = n
theorem DelI.begin_ {l : List Int} {t : Int} {k : Nat} (h : NotI l t k) (hk : l[k]? = some t) : DelI l t l k (k + 1) := by
  have hlt := (List.getElem?_eq_some_iff.1 hk).1
  have e : (l.take (k + 1)).filter (notT t) = l.take k := by rw [filter_snoc hk, if_pos rfl, filter_to h (by omega)]
  exact ⟨rfl, e.symm, rfl, by omega, by omega, by rw [e, List.length_take]; omega⟩
theorem DelI.skip {l L : List Int} {t x : Int} {n k : Nat} (h : DelI l t L n k) (hx : l[k]? = some x) (he : x = t) : DelI l t L n (k + 1) := by
  have hlt := (List.getElem?_eq_some_iff.1 hx).1
  have e : (l.take (k + 1)).filter (notT t) = (l.take k).filter (notT t) := by rw [filter_snoc hx, if_pos he]
  have hl := h.lt
  refine ⟨h.len, by rw [e, h.head], ?_, by omega, by omega, by rw [e]; exact hl.2.2⟩
  rw [← List.drop_drop, h.rest, List.drop_drop]
theorem DelI.keep {l L : List Int} {t x : Int} {n k : Nat} (h : DelI l t L n k) (hx : l[k]? = some x) (he : x ≠ t) : DelI l t (L.set n x) (n + 1) (k + 1) := by
  have hlt := (List.getElem?_eq_some_iff.1 hx).1
  have e : (l.take (k + 1)).filter (notT t) = (l.take k).filter (notT t) ++ [x] := by rw [filter_snoc hx, if_neg he]
  have hl := h.lt
  have hll := h.len
  refine ⟨by rw [List.length_set, h.len], ?_, ?_, by omega, by omega, by rw [e, List.length_append, hl.2.2]; rfl⟩
  · rw [e, ← h.head, List.take_add_one, List.getElem?_set_self (by omega), List.take_set_of_le (Nat.le_refl _)]; rfl
  · rw [List.drop_set_of_lt (by omega), ← List.drop_drop, h.rest, List.drop_drop]
theorem DelI.at_ {l L : List Int} {t : Int} {n k : Nat} (h : DelI l t L n k) : L[k]? = l[k]? := by
  have := congrArg (fun z => z[0]?) h.rest
  simpa using this

set_option maxRecDepth 100000 in
set_option maxHeartbeats 4000000 in
theorem rowDelete (g base gs n c : Nat) (t : Int) (l : List Int) (w : World) (hc : w.cell? ⟨g, 2, none⟩ = some (.int .i64 t)) (hg : g < base) (hB : base ≤ w.heap.size) (h : Own 1 i64Row 3 base w (.slice (some ⟨gs, 0, none⟩) n c) l) (hl : l.length ≤ 1000000) :
    Calls Tryz.prog 156 #[.slice (some ⟨gs, 0, none⟩) n c, .func (.func 158) #[] #[.pointer (some ⟨g, 0, none⟩)]] w fun e w' => e = .returned (.slice (some ⟨gs, 0, none⟩) (l.filter (notT t)).length c) ∧ Own 1 i64Row 3 base w' (.slice (some ⟨gs, 0, none⟩) (l.filter (notT t)).length c) (l.filter (notT t)) ∧ Below base w w' := by
  have hnl : n = l.length := by
    obtain ⟨A, c', hv⟩ := h.len
    simp only [Value.slice.injEq] at hv
    exact hv.2.1
  subst hnl
  have HS := Lib.hid (h.sl i64Row_length)
  have HO := Lib.hid h
  have hcn : l.length ≤ c ∧ c ≤ maxLen := by
    obtain ⟨A6, c6, h6, h7, h8, -⟩ := HS.out
    simp only [Value.slice.injEq] at h6
    omega
  have hcm : c ≤ 9223372036854775807 := by have := hcn.2; unfold maxLen at this; omega
  have hcl := hcn.1
  have CI := Lib.hid (rowIndexFunc g t l _ w hc HS.out)
  have hlt2 := (h.block (x := gs) rfl)
  clear hcn h
  go_enter Tryz.func156, Tryz.ntmps156
  go_upto_region 2 with (go_at_call 181; refine CI.out.mono ?_; rintro e w2 ⟨hq, rfl⟩; rcases hq with ⟨hq, rfl⟩ | ⟨k0, hq, hk, rfl⟩)
  · have HF := Lib.hid (filter_all hq)
    clear hq
    go_wp2_with fail
    go_ret
    rw [HF.out]
    exact ⟨rfl, HO.out, Below.refl _ _⟩
  · have HD := Lib.hid (DelI.begin_ hq hk)
    have hkl := (List.getElem?_eq_some_iff.1 hk).1
    have e1 : ((k0 : Int) == -1) = false := by simp
    clear hq hk
    go_wp2_with fail
    clear e1
    go_loopw [5, 6, 7] (fun i j _ wr => ∃ (a k : Nat) (L : List Int), i = .int .i64 a ∧ j = .int .i64 k ∧ DelI l t L a k ∧ Own 1 i64Row 3 base wr (.slice (some ⟨gs, 0, none⟩) l.length c) L ∧ Below base w wr) (fun _ j _ _ => l.length - (intOf j).toNat)
    case atStart => exact ⟨k0, k0 + 1, l, rfl, by go_num, HD.out, HO.out, Below.refl _ _⟩
    case round =>
      clear HD
      obtain ⟨a, k, L, rfl, rfl, hD, hown, hb⟩ := hrel
      have HDD := Lib.hid hD
      have HOW := Lib.hid hown
      have HBB := Lib.hid hb
      have hak := hD.lt
      have hak1 := hak.1
      have hak2 := hak.2.1
      have hcr := (hb.cell (p := ⟨g, 2, none⟩) hg).trans hc
      have hsz := hb.size
      have hlL := Lib.hid hD.len
      clear hD hb hak
      by_cases hlt : k < l.length
      · obtain ⟨y, hy⟩ : ∃ y, l[k]? = some y := ⟨_, List.getElem?_eq_getElem hlt⟩
        obtain ⟨z, hz⟩ : ∃ z, L[a]? = some z := ⟨_, List.getElem?_eq_getElem (by have := hlL.out; omega)⟩
        obtain ⟨b6, o6, c6, h6, -, -, -, hcell⟩ := (hown.sl i64Row_length).cellAt (by intro h; have := hlL.out; rw [h] at this; simp at this; omega)
        simp only [Value.slice.injEq, Option.some.injEq, Addr.mk.injEq, and_true] at h6
        obtain ⟨⟨rfl, rfl⟩, -, rfl⟩ := h6
        have c0 : wr.cell? ⟨gs, k, none⟩ = some (.int .i64 y) := by simpa using hcell k y (HDD.out.at_.trans hy) 0 _ rfl
        have c1 : wr.cell? ⟨gs, a, none⟩ = some (.int .i64 z) := by simpa using hcell a z hz 0 _ rfl
        have f1 : ∀ o, wr.frozen? ⟨gs, o, none⟩ = false := by
          obtain ⟨g7, c7, h7, -, -, h8⟩ := hown.place (by intro h; have := hlL.out; rw [h] at this; simp at this; omega)
          simp only [Value.slice.injEq, Option.some.injEq, Addr.mk.injEq, and_true] at h7
          rw [h7.1]; exact h8
        have HY := Lib.hid hy
        have HZ := Lib.hid hz
        have CD := Lib.hid (madeDel g y t wr hcr)
        have i0 : (0 : Int) ≤ (k : Int) := by omega
        have i1 : (k : Int) < (l.length : Int) := by omega
        have i2 : (0 : Int) ≤ (a : Int) := by omega
        have i3 : (a : Int) < (l.length : Int) := by omega
        clear hcell hown hy hz
        by_cases hxy : y = t
        · have e1 : (!notT t y) = true := by simp [notT, hxy]
          rw [e1] at CD
          have HXY := Lib.hid hxy
          clear hxy e1
          go_wp2_with (go_at_call 158; refine CD.out.mono ?_; rintro e w2 ⟨rfl, rfl⟩)
          go_roundw
          case rel => exact ⟨a, k + 1, L, rfl, by go_num, HDD.out.skip HY.out HXY.out, HOW.out, HBB.out⟩
          case measure => simp [intOf]; omega
        · have e1 : (!notT t y) = false := by simp [notT, hxy]
          rw [e1] at CD
          have HXY := Lib.hid hxy
          clear hxy e1
          have HW := Lib.hid (Own.write i64Row_length HOW.out (i := a) (j := 0) (x := z) (y := y) (u := .int .i64 y) HZ.out rfl (by omega))
          have HBW := Lib.hid (below_set (i := a) (u := .int .i64 y) HBB.out hlt2.1)
          go_wp2_with (go_at_call 158; refine CD.out.mono ?_; rintro e w2 ⟨rfl, rfl⟩)
          go_roundw
          case rel => exact ⟨a + 1, k + 1, L.set a y, by go_num, by go_num, HDD.out.keep HY.out HXY.out, by have h := HW.out; simpa using h, HBW.out⟩
          case measure => simp [intOf]; omega
      · have hkl2 : k = l.length := by omega
        have hcn2 : a < l.length := by omega
        obtain ⟨w9, hcl9, ho9, hb9⟩ := own_clear (P := Tryz.prog) (ty := 0) (t := 154) (z := .int .i64 0) (i := a) i64Row_length Tryz.underlying154 intZero rfl (by simp [Value.cells, Value.oneCell']) HOW.out hcn2
        have HF := Lib.hid (show L.take a = l.filter (notT t) by rw [HDD.out.head, hkl2, List.take_length])
        have HFL := Lib.hid (show (l.filter (notT t)).length = a by rw [← HF.out, List.length_take, hlL.out]; omega)
        have HO9 := Lib.hid ho9
        have HB9 := Lib.hid (HBB.out.trans hb9)
        rw [Nat.mul_one] at hcl9
        have i2 : (0 : Int) ≤ (a : Int) := by omega
        have i3 : (a : Int) ≤ (l.length : Int) := by omega
        have i4 : (a : Int) ≤ (c : Int) := by omega
        clear ho9 hb9 hown
        go_wp2_with fail
        go_ret
        rw [HFL.out, ← HF.out]
        exact ⟨rfl, HO9.out, HB9.out⟩
end Go.Proofs.YthadfdpdillemaaGreatDoor
