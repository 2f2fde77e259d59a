/-
  THE PACKAGE lead: contracts of Find, Right, Keep, Begin, Ack, Got (books as lists of Bk).
-/
import Derived.Test.YtnhodaconlodbaaDoorProg
import Derived.Test.YtnhodaconlodbaaDoorBase
import Derived.Test.YtnhodaconlodbaaDoorLeadMath
import Derived.WalkLawsBesides
import Derived.Lib.Hide
namespace Go.Proofs.YtnhodaconlodbaaDoor
open Go.RowKit
set_option linter.unusedVariables false

theorem bk_at {B : Nat} {w : World} {v : Value} {l : List Bk} (h : Sl 4 bkRow B w v l) (hl : l ≠ []) : ∃ b off cap, v = .slice (some ⟨b, off, none⟩) l.length cap ∧ l.length ≤ cap ∧ cap ≤ maxLen ∧ b < B ∧
    ∀ i x, l[i]? = some x → w.cell? ⟨b, off + i * 4, none⟩ = some (.int .i64 x.who) ∧ w.cell? ⟨b, off + i * 4 + 1, none⟩ = some (.int .i64 x.next) ∧ w.cell? ⟨b, off + i * 4 + 2, none⟩ = some (.int .i64 x.mat) ∧ w.cell? ⟨b, off + i * 4 + 3, none⟩ = some (.int .i64 x.piece) := by
  obtain ⟨b, off, cap, hv, h1, h2, hb, hc⟩ := h.cellAt hl
  refine ⟨b, off, cap, hv, h1, h2, hb, fun i x hx => ?_⟩
  exact ⟨hc i x hx 0 _ rfl, hc i x hx 1 _ rfl, hc i x hx 2 _ rfl, hc i x hx 3 _ rfl⟩

set_option maxHeartbeats 400000 in
theorem of1 (b : Nat) (x : Bk) (who : Int) (w : World) (hb : b < w.heap.size) (hc : w.cell? ⟨b, 0, none⟩ = some (.int .i64 who)) :
    Calls Tryd.prog 96 #[.agg #[.int .i64 x.who, .int .i64 x.next, .int .i64 x.mat, .int .i64 x.piece], .pointer (some ⟨b, 0, none⟩)] w fun e w' => e = .returned (.bool (x.who == who)) ∧ Below w.heap.size w w' := by
  go_enter Tryd.func96, Tryd.ntmps96
  go_wp2
  go_ret
  exact ⟨rfl, (Below.refl _ _).alloc (Nat.le_refl _) _⟩

set_option maxHeartbeats 400000 in
theorem indexFunc (g : Nat) (who : Int) (l : List Bk) (v : Value) (w : World) (hg : g < w.heap.size) (hc : w.cell? ⟨g, 0, none⟩ = some (.int .i64 who)) (h : Sl 4 bkRow w.heap.size w v l) :
    Calls Tryd.prog 95 #[v, .func (.func 96) #[] #[.pointer (some ⟨g, 0, none⟩)]] w fun e w' => e = .returned (.int .i64 (idxOf l who)) ∧ Below w.heap.size w w' := by
  obtain ⟨A, cap, rfl, hlc, hcm, -, hA⟩ := h
  have hn : l.length ≤ 9223372036854775807 := by unfold maxLen at hcm; omega
  clear hcm
  go_enter Tryd.func95, Tryd.ntmps95
  go_wp2_with fail
  go_loopw [5, 8] (fun i j wr => ∃ k : Nat, k ≤ l.length ∧ j = .int .i64 k ∧ NoneTo l who k ∧ Below w.heap.size w wr) (fun _ j _ => l.length - (intOf j).toNat)
  case atStart => exact ⟨0, by omega, rfl, noneTo_zero, Below.refl _ _⟩
  case round =>
    obtain ⟨k, hk, rfl, hno, hB⟩ := hrel
    by_cases hlt : k < l.length
    · obtain ⟨b, off, rfl, hb, hcell⟩ := hA (by intro h; subst h; simp at hlt)
      obtain ⟨x, hx⟩ : ∃ x, l[k]? = some x := ⟨_, List.getElem?_eq_getElem hlt⟩
      have c0 := (hB.cell (p := ⟨b, off + k * 4, none⟩) hb).trans (hcell k x hx 0 _ rfl)
      have c1 := (hB.cell (p := ⟨b, off + k * 4 + 1, none⟩) hb).trans (hcell k x hx 1 _ rfl)
      have c2 := (hB.cell (p := ⟨b, off + k * 4 + 2, none⟩) hb).trans (hcell k x hx 2 _ rfl)
      have c3 := (hB.cell (p := ⟨b, off + k * 4 + 3, none⟩) hb).trans (hcell k x hx 3 _ rfl)
      have cg := (hB.cell (p := ⟨g, 0, none⟩) hg).trans hc
      have HX := Lib.hid hx
      clear hcell hx
      have hgr : g < wr.heap.size := by have := hB.size; omega
      go_wp2_with (go_at_call 96; refine (of1 g x who _ hgr cg).mono ?_; rintro e w' ⟨rfl, hB'⟩)
      · have hw : (x.who == who) = true := by assumption
        go_ret
        exact ⟨by rw [idxOf_found hno HX.out hw]; rfl, hB.trans (hB'.mono hB.size)⟩
      · have hw : (x.who == who) = false := by assumption
        go_roundw
        case rel => exact ⟨k + 1, by omega, by go_num, noneTo_succ hno HX.out (by simpa using hw), hB.trans (hB'.mono hB.size)⟩
        case measure => simp [intOf]; omega
    · go_wp2_with fail
      go_ret
      have : k = l.length := by omega
      subst this
      exact ⟨by rw [idxOf_none hno]; rfl, hB⟩

set_option maxHeartbeats 400000 in
theorem booksOf (who : Int) (l : List Bk) (v : Value) (w : World) (h : Sl 4 bkRow w.heap.size w v l) :
    Calls Tryd.prog 69 #[v, .int .i64 who] w fun e w' => e = .returned (.int .i64 (idxOf l who)) ∧ Below w.heap.size w w' := by
  have h' := h.alloc (.cells #[.int .i64 who] 3)
  go_enter Tryd.func69, Tryd.ntmps69
  go_wp2_with (go_at_call 95; refine (indexFunc _ who l v _ (by simp) (by simp) h').mono ?_; rintro e w' ⟨rfl, hB'⟩)
  go_ret
  exact ⟨rfl, below_call (below_new _ _) hB'⟩

set_option maxHeartbeats 400000 in
theorem find_some (who : Int) (l : List Bk) (x : Bk) (v : Value) (w : World) (h : Sl 4 bkRow w.heap.size w v l) (hx : findBk l who = some x) :
    Calls Tryd.prog 34 #[v, .int .i64 who] w fun e w' => e = .returned (.tuple #[.agg #[.int .i64 x.who, .int .i64 x.next, .int .i64 x.mat, .int .i64 x.piece], .bool true]) ∧ Below w.heap.size w w' := by
  rcases idxOf_cases l who with ⟨k, y, hk, hy, -, hi, hf, -⟩ | ⟨-, hf⟩
  · rw [hx] at hf; cases hf
    obtain ⟨b, off, cap, rfl, hlc, hcm, hb, hcell⟩ := bk_at h (by intro h; subst h; simp at hk)
    obtain ⟨c0, c1, c2, c3⟩ := hcell k x hy
    have HI := Lib.hid hi
    have h' := h.alloc (.cells #[.int .i64 0, .int .i64 0, .int .i64 0, .int .i64 0] 24)
    clear hcell hx hi h hy
    go_enter Tryd.func34, Tryd.ntmps34
    go_wp2_with fail
    refine (booksOf who l _ _ h').mono ?_
    rintro e w' ⟨rfl, hB'⟩
    rw [HI.out]
    have e0 := (hB'.cell (p := ⟨b, off + k * 4, none⟩) (by simp; omega)).trans ((World.cell?_alloc_lt _ _ _ hb).trans c0)
    have e1 := (hB'.cell (p := ⟨b, off + k * 4 + 1, none⟩) (by simp; omega)).trans ((World.cell?_alloc_lt _ _ _ hb).trans c1)
    have e2 := (hB'.cell (p := ⟨b, off + k * 4 + 2, none⟩) (by simp; omega)).trans ((World.cell?_alloc_lt _ _ _ hb).trans c2)
    have e3 := (hB'.cell (p := ⟨b, off + k * 4 + 3, none⟩) (by simp; omega)).trans ((World.cell?_alloc_lt _ _ _ hb).trans c3)
    obtain ⟨k1, f1, z1⟩ := ((Box.new w _ _).later hB').facts
    go_wp2_with fail
    refine bodyPost_ret (v := .tuple #[.agg #[.int .i64 x.who, .int .i64 x.next, .int .i64 x.mat, .int .i64 x.piece], .bool true]) (by simp [results, Tryd.results34, go_sem, k1]) rfl ⟨rfl, ?_⟩
    repeat refine below_set ?_ (Nat.le_refl _)
    exact below_call (below_new _ _) hB'
  · rw [hx] at hf; cases hf

set_option maxHeartbeats 400000 in
theorem find_none (who : Int) (l : List Bk) (v : Value) (w : World) (h : Sl 4 bkRow w.heap.size w v l) (hx : findBk l who = none) :
    Calls Tryd.prog 34 #[v, .int .i64 who] w fun e w' => e = .returned (.tuple #[.agg #[.int .i64 0, .int .i64 0, .int .i64 0, .int .i64 0], .bool false]) ∧ Below w.heap.size w w' := by
  rcases idxOf_cases l who with ⟨k, y, hk, hy, -, hi, hf, -⟩ | ⟨hi, -⟩
  · rw [hx] at hf; cases hf
  · have HI := Lib.hid hi
    have h' := h.alloc (.cells #[.int .i64 0, .int .i64 0, .int .i64 0, .int .i64 0] 24)
    clear hx hi h
    go_enter Tryd.func34, Tryd.ntmps34
    go_wp2_with fail
    refine (booksOf who l _ _ h').mono ?_
    rintro e w' ⟨rfl, hB'⟩
    rw [HI.out]
    obtain ⟨k1, f1, z1⟩ := ((Box.new w _ _).later hB').facts
    go_wp2_with fail
    refine bodyPost_ret (v := .tuple #[.agg #[.int .i64 0, .int .i64 0, .int .i64 0, .int .i64 0], .bool false]) (by simp [results, Tryd.results34, go_sem, k1]) rfl ⟨rfl, ?_⟩
    repeat refine below_set ?_ (Nat.le_refl _)
    exact below_call (below_new _ _) hB'

set_option maxHeartbeats 400000 in
theorem entryRightL (l : List Int) (v : Value) (w : World) (h : Sl 1 i64Row w.heap.size w v l) :
    Calls Tryd.prog 110 #[v] w fun e w' => e = .returned (.bool (memRight l)) ∧ w = w' := by
  obtain ⟨A, cap, rfl, hlc, hcm, -, hA⟩ := h
  have hn : l.length ≤ 9223372036854775807 := by unfold maxLen at hcm; omega
  clear hcm
  go_enter Tryd.func110, Tryd.ntmps110
  go_wp2_with fail
  go_loop [3, 4, 7] (fun _ _ j => ∃ (k : Nat) (p : Int), k ≤ l.length ∧ j = .int .i64 k ∧ memFrom 0 l = memFrom p (l.drop k) ∧ (0 < k → l[k - 1]? = some p) ∧ (k = 0 → p = 0)) (fun _ _ j => l.length - (intOf j).toNat)
  case atStart => exact ⟨0, 0, by omega, rfl, by simp, by simp, by simp⟩
  case round =>
    obtain ⟨k, p, hk, rfl, hm, hp, h0⟩ := hrel
    by_cases hlt : k < l.length
    · obtain ⟨b, off, rfl, hb, hcell⟩ := hA (by intro h; subst h; simp at hlt)
      obtain ⟨x, hx⟩ : ∃ x, l[k]? = some x := ⟨_, List.getElem?_eq_getElem hlt⟩
      have c0 : w.cell? ⟨b, off + k, none⟩ = some (.int .i64 x) := by simpa using hcell k x hx 0 _ rfl
      have cp : 0 < k → w.cell? ⟨b, off + (k - 1), none⟩ = some (.int .i64 p) := fun h => by simpa using hcell (k - 1) p (hp h) 0 _ rfl
      have HM : Hid (memFrom 0 l = (decide (1 ≤ x ∧ x ≤ 7 ∧ p < x) && memFrom x (l.drop (k + 1)))) := by rw [hm, drop_at hx]; rfl
      have HX := Lib.hid hx
      have HE : Hid (l.isEmpty = false) := by cases l <;> first | rfl | simp at hlt
      have H0 := Lib.hid h0
      clear hcell hx hm hp h0
      go_wp2
      all_goals first
        | (go_roundw
           case rel => exact ⟨k + 1, x, by omega, by go_num, by rw [HM.out, show decide (1 ≤ x ∧ x ≤ 7 ∧ p < x) = true from decide_eq_true (by first | omega | (have := H0.out (by omega); omega))]; rfl, fun _ => HX.out, by omega⟩
           case measure => simp [intOf]; omega)
        | (go_ret
           exact ⟨ret_bool (by rw [memRight, HM.out, show decide (1 ≤ x ∧ x ≤ 7 ∧ p < x) = false from decide_eq_false (by omega)]; rfl), rfl⟩)
    · have : k = l.length := by omega
      subst this
      have HM := Lib.hid (show memFrom 0 l = true by rw [hm]; simp [memFrom])
      clear hm hp h0
      go_wp2
      go_ret
      exact ⟨ret_bool (by rw [memRight, HM.out]; cases l <;> simp), rfl⟩

theorem slice_nil_eq : ∀ (w : World) (a : Option Addr) (n c : Nat), (binOp .eql 26 (.slice a n c) (.slice none 0 0)).run Tryd.prog w = .ok (.bool a.isNone) w := fun w a n c => Lib.run_eql_slice_nil w _ _ a n c 0 0 Tryd.underlying26

theorem bookInfo : (Tryd.prog.info? 24).map (fun i => (i.zero, i.size, i.bytes)) = some (some (.agg #[.int .i64 0, .int .i64 0, .int .i64 0, .int .i64 0]), 4, 32) := by kernel_rfl

set_option maxHeartbeats 400000 in
theorem clone (l : List Bk) (v : Value) (w : World) (h : Sl 4 bkRow w.heap.size w v l) (hn : l.length ≤ 4294967296) :
    Calls Tryd.prog 97 #[v] w fun e w' => ∃ v', e = .returned v' ∧ Own 4 bkRow 24 w.heap.size w' v' l ∧ Below w.heap.size w w' := by
  have hq := slice_nil_eq w
  have h' := h
  obtain ⟨A, cap, rfl, hlc, hcm, hN, hA⟩ := h'
  clear hA
  cases A with
  | none =>
    have : l = [] := List.eq_nil_of_length_eq_zero (by have := hN rfl; omega)
    subst this
    clear hN
    go_enter Tryd.func97, Tryd.ntmps97
    go_wp2
    go_ret
    exact ⟨_, rfl, Own.nil_ _ _ _ _ _, Below.refl _ _⟩
  | some ad =>
    clear hN
    go_enter Tryd.func97, Tryd.ntmps97
    go_wp2_with (at_builtin; refine wpList_append_all _ rfl (.tmp 5) (.tmp 6) 26 rfl w.heap.size 24 _ 4 32 Tryd.underlying26 bookInfo rfl (by omega) bkRow bkRow_length bkRow_one [] _ rfl (Own.made _ _ _ _) l w.heap.size _ (h.below (below_new _ _)) rfl (by unfold maxLen; simp; omega) (by simp; omega) (by simp) ?_; intro v' w' h1 h2 h3 h4 h5)
    go_ret
    exact ⟨_, rfl, h1, (below_new _ _).trans h2⟩

set_option maxHeartbeats 400000 in
theorem ofL (l : List Bk) (v : Value) (w : World) (h : Sl 4 bkRow w.heap.size w v l) (hn : l.length ≤ 4294967296) :
    Calls Tryd.prog 71 #[v] w fun e w' => ∃ v', e = .returned (.agg #[v']) ∧ Own 4 bkRow 24 w.heap.size w' v' l ∧ Below w.heap.size w w' := by
  have h' := h.alloc (.cells #[.slice none 0 0] 128)
  go_enter Tryd.func71, Tryd.ntmps71
  go_wp2_with fail
  refine (clone l v _ h' hn).mono ?_
  rintro e w' ⟨v', rfl, hown, hB'⟩
  obtain ⟨k1, f1, z1⟩ := ((Box.new w _ _).later hB').facts
  obtain ⟨A', n', c', hv⟩ := hown.form
  subst hv
  go_wp2_with fail
  refine bodyPost_ret (v := .agg #[.slice A' n' c']) (by simp [results, Tryd.results71, go_sem, k1]) rfl ⟨_, rfl, ?_, ?_⟩
  · exact (hown.set_below (by simp)).less (by simp)
  · exact below_set (below_call (below_new _ _) hB') (Nat.le_refl _)

theorem withinL (n lo hi : Int) (w : World) :
    Calls Tryd.prog 70 #[.int .i64 n, .int .i64 lo, .int .i64 hi] w fun e w' => e = .returned (.bool (decide (lo ≤ n ∧ n ≤ hi))) ∧ w = w' := by
  go_enter Tryd.func70, Tryd.ntmps70
  go_wp2
  all_goals go_ret
  all_goals (refine ⟨ret_bool ?_, rfl⟩; simp; try omega)
theorem within_yes (n lo hi : Int) (w : World) (h : lo ≤ n ∧ n ≤ hi) :
    Calls Tryd.prog 70 #[.int .i64 n, .int .i64 lo, .int .i64 hi] w fun e w' => e = .returned (.bool true) ∧ w = w' :=
  (withinL n lo hi w).mono fun _ _ ⟨he, hw⟩ => ⟨by rw [he, decide_eq_true h], hw⟩
theorem within_no (n lo hi : Int) (w : World) (h : ¬ (lo ≤ n ∧ n ≤ hi)) :
    Calls Tryd.prog 70 #[.int .i64 n, .int .i64 lo, .int .i64 hi] w fun e w' => e = .returned (.bool false) ∧ w = w' :=
  (withinL n lo hi w).mono fun _ _ ⟨he, hw⟩ => ⟨by rw [he, decide_eq_false h], hw⟩

set_option maxHeartbeats 1000000 in
theorem right (l : List Bk) (v : Value) (w : World) (h : Sl 4 bkRow w.heap.size w v l) (hm : ∀ x ∈ l, -4611686018427387904 ≤ x.mat ∧ x.mat ≤ 4611686018427387904) :
    Calls Tryd.prog 36 #[v] w fun e w' => e = .returned (.bool (bksRight l)) ∧ Below w.heap.size w w' := by
  obtain ⟨A, cap, rfl, hlc, hcm, -, hA⟩ := h
  have hn : l.length ≤ 9223372036854775807 := by unfold maxLen at hcm; omega
  clear hcm
  go_enter Tryd.func36, Tryd.ntmps36
  go_wp2_with fail
  go_loopw [4, 6, 9] (fun q _ j wr => ∃ (k : Nat) (p : Int), k ≤ l.length ∧ j = .int .i64 k ∧ q = .int .i64 p ∧ bksFrom 0 l = bksFrom p (l.drop k) ∧ Below w.heap.size w wr) (fun _ _ j _ => l.length - (intOf j).toNat)
  case atStart => exact ⟨0, 0, by omega, rfl, rfl, by simp, Below.refl _ _⟩
  case round =>
    obtain ⟨k, p, hk, rfl, rfl, hq, hB⟩ := hrel
    by_cases hlt : k < l.length
    · obtain ⟨b, off, rfl, hb, hcell⟩ := hA (by intro h; subst h; simp at hlt)
      obtain ⟨x, hx⟩ : ∃ x, l[k]? = some x := ⟨_, List.getElem?_eq_getElem hlt⟩
      obtain ⟨hm1, hm2⟩ := hm x (List.mem_of_getElem? hx)
      have c0 := (hB.cell (p := ⟨b, off + k * 4, none⟩) hb).trans (hcell k x hx 0 _ rfl)
      have c1 := (hB.cell (p := ⟨b, off + k * 4 + 1, none⟩) hb).trans (hcell k x hx 1 _ rfl)
      have c2 := (hB.cell (p := ⟨b, off + k * 4 + 2, none⟩) hb).trans (hcell k x hx 2 _ rfl)
      have c3 := (hB.cell (p := ⟨b, off + k * 4 + 3, none⟩) hb).trans (hcell k x hx 3 _ rfl)
      have HM := Lib.hid (show bksFrom 0 l = (okBk p x && bksFrom x.who (l.drop (k + 1))) by rw [hq, drop_at hx]; rfl)
      clear hcell hx hq hm
      by_cases g0 : x.who ≤ p
      · go_wp2
        go_ret
        exact ⟨ret_bool (by rw [bksRight, HM.out, show okBk p x = false from decide_eq_false (by omega)]; rfl), hB.trans ((Below.refl _ _).alloc hB.size _)⟩
      by_cases g1 : 1 ≤ x.who ∧ x.who ≤ 7
      · by_cases g2 : 0 ≤ x.mat ∧ x.mat ≤ 1099511627776
        · by_cases g3 : x.mat + 1 ≤ x.next ∧ x.next ≤ 1099511627777
          · by_cases g4 : 0 ≤ x.piece ∧ x.piece ≤ 48
            · go_wp2_with (go_at_call 70; refine (within_yes _ _ _ _ (by omega)).mono ?_; rintro e w' ⟨rfl, rfl⟩)
              go_roundw
              case rel => exact ⟨k + 1, x.who, by omega, by go_num, rfl, by rw [HM.out, show okBk p x = true from decide_eq_true (by omega)]; rfl, hB.trans ((Below.refl _ _).alloc hB.size _)⟩
              case measure => simp [intOf]; omega
            all_goals
              go_wp2_with (first | (go_at_call 70; refine (within_yes _ _ _ _ (by omega)).mono ?_; rintro e w' ⟨rfl, rfl⟩) | (go_at_call 70; refine (within_no _ _ _ _ (by omega)).mono ?_; rintro e w' ⟨rfl, rfl⟩))
              go_ret
              exact ⟨ret_bool (by rw [bksRight, HM.out, show okBk p x = false from decide_eq_false (by omega)]; rfl), hB.trans ((Below.refl _ _).alloc hB.size _)⟩
          all_goals
            go_wp2_with (first | (go_at_call 70; refine (within_yes _ _ _ _ (by omega)).mono ?_; rintro e w' ⟨rfl, rfl⟩) | (go_at_call 70; refine (within_no _ _ _ _ (by omega)).mono ?_; rintro e w' ⟨rfl, rfl⟩))
            go_ret
            exact ⟨ret_bool (by rw [bksRight, HM.out, show okBk p x = false from decide_eq_false (by omega)]; rfl), hB.trans ((Below.refl _ _).alloc hB.size _)⟩
        all_goals
          go_wp2_with (first | (go_at_call 70; refine (within_yes _ _ _ _ (by omega)).mono ?_; rintro e w' ⟨rfl, rfl⟩) | (go_at_call 70; refine (within_no _ _ _ _ (by omega)).mono ?_; rintro e w' ⟨rfl, rfl⟩))
          go_ret
          exact ⟨ret_bool (by rw [bksRight, HM.out, show okBk p x = false from decide_eq_false (by omega)]; rfl), hB.trans ((Below.refl _ _).alloc hB.size _)⟩
      all_goals
        go_wp2_with (first | (go_at_call 70; refine (within_no _ _ _ _ (by omega)).mono ?_; rintro e w' ⟨rfl, rfl⟩))
        go_ret
        exact ⟨ret_bool (by rw [bksRight, HM.out, show okBk p x = false from decide_eq_false (by omega)]; rfl), hB.trans ((Below.refl _ _).alloc hB.size _)⟩
    · have hk' : k = l.length := by omega
      have HM := Lib.hid (show bksFrom 0 l = true by rw [hq, hk']; simp [bksFrom])
      clear hq hk'
      go_wp2
      go_ret
      exact ⟨ret_bool (by rw [bksRight, HM.out]), hB⟩

end Go.Proofs.YtnhodaconlodbaaDoor
