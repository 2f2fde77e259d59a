/-
  The document's books (limpetref25), 3: yes, with, Ack, Got; the law's far.
-/
import Derived.Test.YtnhodaconlodbaaDoorLeadRef2
namespace Go.Proofs.YtnhodaconlodbaaDoor
open Go.RowKit
set_option linter.unusedVariables false

def withBks (l : List Bk) (b : Bk) : List Bk := turnBks b.who (fun _ => b) l
theorem with_turn {l : List Bk} {who : Int} {x y : Bk} {f : Bk → Bk} (hx : findBk l who = some x) (hf : f x = y) (hy : y.who = who) : withBks l y = turnBks who f l := by
  rcases idxOf_cases l who with ⟨k, z, hk, hz, hw, -, hf', hno⟩ | ⟨-, hf'⟩
  · rw [hx] at hf'; cases hf'
    unfold withBks
    rw [hy, turnBks_set hno hz hw, turnBks_set hno hz hw, hf]
  · rw [hx] at hf'; cases hf'
theorem findBk_who' {l : List Bk} {who : Int} {x : Bk} (hx : findBk l who = some x) : x.who = who ∧ x ∈ l := by
  rcases idxOf_cases l who with ⟨k, z, hk, hz, hw, -, hf', hno⟩ | ⟨-, hf'⟩
  · rw [hx] at hf'; cases hf'
    exact ⟨hw, List.mem_of_getElem? hz⟩
  · rw [hx] at hf'; cases hf'

set_option maxHeartbeats 1000000 in
theorem rYes (x : Bk) (index : Int) (w : World) (hm1 : -4611686018427387904 ≤ x.mat) (hm2 : x.mat ≤ 4611686018427387904) :
    Calls Tryd.prog 76 #[.agg #[.int .i64 x.who, .int .i64 x.next, .int .i64 x.mat, .int .i64 x.piece], .int .i64 index] w fun e w' => e = .returned (.agg #[.int .i64 (yesBk x index).who, .int .i64 (yesBk x index).next, .int .i64 (yesBk x index).mat, .int .i64 (yesBk x index).piece]) ∧ Below w.heap.size w w' := by
  obtain ⟨who, next, mat, piece⟩ := x
  simp only at hm1 hm2
  have key : ∀ m', hasMatch mat index = m' → yesBk ⟨who, next, mat, piece⟩ index = ⟨who, max next (m' + 1), m', piece⟩ := by rintro _ rfl; rfl
  obtain ⟨m', hm', hcase⟩ : ∃ m', hasMatch mat index = m' ∧ ((mat < index ∧ index ≤ 1099511627776 ∧ m' = index) ∨ ((¬ mat < index ∨ ¬ index ≤ 1099511627776) ∧ m' = mat)) := by
    refine ⟨_, rfl, ?_⟩
    unfold hasMatch
    split <;> omega
  rw [key m' hm']
  clear key hm'
  rcases hcase with ⟨g1, g2, rfl⟩ | ⟨g, rfl⟩
  · by_cases g3 : next < m' + 1
    · rw [max_lt_r g3]
      go_enter Tryd.func76, Tryd.ntmps76
      go_wp2_with fail
      refine bodyPost_ret (v := .agg #[.int .i64 who, .int .i64 (m' + 1), .int .i64 m', .int .i64 piece]) (by simp [results, Tryd.results76, go_sem]) rfl ⟨rfl, ?_⟩
      repeat refine below_set ?_ (by simp)
      exact below_call (below_new _ _) (below_new _ _)
    · rw [max_lt_l g3]
      go_enter Tryd.func76, Tryd.ntmps76
      go_wp2_with fail
      refine bodyPost_ret (v := .agg #[.int .i64 who, .int .i64 next, .int .i64 m', .int .i64 piece]) (by simp [results, Tryd.results76, go_sem]) rfl ⟨rfl, ?_⟩
      repeat refine below_set ?_ (by simp)
      exact below_call (below_new _ _) (below_new _ _)
  · by_cases g1 : m' < index
    all_goals
      by_cases g3 : next < m' + 1
      · rw [max_lt_r g3]
        have g2 : m' < index → 1099511627776 < index := by omega
        go_enter Tryd.func76, Tryd.ntmps76
        go_wp2_with fail
        refine bodyPost_ret (v := .agg #[.int .i64 who, .int .i64 (m' + 1), .int .i64 m', .int .i64 piece]) (by simp [results, Tryd.results76, go_sem]) rfl ⟨rfl, ?_⟩
        repeat refine below_set ?_ (by simp)
        exact below_call (below_new _ _) (below_new _ _)
      · rw [max_lt_l g3]
        have g2 : m' < index → 1099511627776 < index := by omega
        go_enter Tryd.func76, Tryd.ntmps76
        go_wp2_with fail
        refine bodyPost_ret (v := .agg #[.int .i64 who, .int .i64 next, .int .i64 m', .int .i64 piece]) (by simp [results, Tryd.results76, go_sem]) rfl ⟨rfl, ?_⟩
        repeat refine below_set ?_ (by simp)
        exact below_call (below_new _ _) (below_new _ _)

theorem Own.writeBk {e : TypeId} {base g cap n k : Nat} {w : World} {l : List Bk} {x y : Bk} (h : Own 4 bkRow e base w (.slice (some ⟨g, 0, none⟩) n cap) l) (hx : l[k]? = some x) :
    Own 4 bkRow e base ((((w.setCell ⟨g, k * 4, none⟩ (.int .i64 y.who)).setCell ⟨g, k * 4 + 1, none⟩ (.int .i64 y.next)).setCell ⟨g, k * 4 + 2, none⟩ (.int .i64 y.mat)).setCell ⟨g, k * 4 + 3, none⟩ (.int .i64 y.piece)) (.slice (some ⟨g, 0, none⟩) n cap) (l.set k y) := by
  have hk := (List.getElem?_eq_some_iff.1 hx).1
  have h1 := h.write bkRow_length (i := k) (j := 0) (y := ⟨y.who, x.next, x.mat, x.piece⟩) (u := .int .i64 y.who) hx rfl (by omega)
  have h2 := h1.write bkRow_length (i := k) (j := 1) (y := ⟨y.who, y.next, x.mat, x.piece⟩) (u := .int .i64 y.next) (x := ⟨y.who, x.next, x.mat, x.piece⟩) (by simp [hk]) rfl (by omega)
  rw [List.set_set] at h2
  have h3 := h2.write bkRow_length (i := k) (j := 2) (y := ⟨y.who, y.next, y.mat, x.piece⟩) (u := .int .i64 y.mat) (x := ⟨y.who, y.next, x.mat, x.piece⟩) (by simp [hk]) rfl (by omega)
  rw [List.set_set] at h3
  have h4 := h3.write bkRow_length (i := k) (j := 3) (y := y) (u := .int .i64 y.piece) (x := ⟨y.who, y.next, y.mat, x.piece⟩) (by simp [hk]) rfl (by omega)
  rw [List.set_set] at h4
  exact h4

set_option maxHeartbeats 1000000 in
theorem rWith (l : List Bk) (y : Bk) (v : Value) (w : World) (h : Sl 4 bkRow w.heap.size w v l) (hn : l.length ≤ 1000000) :
    Calls Tryd.prog 75 #[v, .agg #[.int .i64 y.who, .int .i64 y.next, .int .i64 y.mat, .int .i64 y.piece]] w fun e w' => ∃ v', e = .returned v' ∧ Sl 4 bkRow w'.heap.size w' v' (withBks l y) ∧ Below w.heap.size w w' := by
  have h1 := h.alloc (.cells #[.int .i64 y.who, .int .i64 y.next, .int .i64 y.mat, .int .i64 y.piece] 67)
  obtain ⟨A, cap, rfl, hlc, hcm, -, -⟩ := h
  clear hcm
  have hmade : Own 4 bkRow 67 (w.heap.size + 1) ((w.alloc (.cells #[.int .i64 y.who, .int .i64 y.next, .int .i64 y.mat, .int .i64 y.piece] 67)).alloc (.cells #[] 67)) (.slice (some ⟨w.heap.size + 1, 0, none⟩) 0 0) [] := by
    have := Own.made 4 bkRow 67 (w.alloc (.cells #[.int .i64 y.who, .int .i64 y.next, .int .i64 y.mat, .int .i64 y.piece] 67))
    rwa [World.size_alloc] at this
  have hsl : Sl 4 bkRow (w.heap.size + 1) ((w.alloc (.cells #[.int .i64 y.who, .int .i64 y.next, .int .i64 y.mat, .int .i64 y.piece] 67)).alloc (.cells #[] 67)) (.slice A l.length cap) l := by
    have := h1.below (below_new _ (.cells #[] 67))
    rwa [World.size_alloc] at this
  have hbox := (Box.new w #[.int .i64 y.who, .int .i64 y.next, .int .i64 y.mat, .int .i64 y.piece] 67).alloc (.cells #[] 67)
  have hbl : Below w.heap.size w ((w.alloc (.cells #[.int .i64 y.who, .int .i64 y.next, .int .i64 y.mat, .int .i64 y.piece] 67)).alloc (.cells #[] 67)) := below_call (below_new _ _) (below_new _ _)
  clear h1
  go_enter Tryd.func75, Tryd.ntmps75
  go_wp2_with (at_builtin; refine wpList_append_all _ rfl (.tmp 7) (.tmp 8) 63 rfl (w.heap.size + 1) 67 _ 4 32 Tryd.underlying63 rbookInfo rfl (by omega) bkRow bkRow_length bkRow_one [] _ rfl hmade l (w.heap.size + 1) _ hsl rfl (by unfold maxLen; simp; omega) (by simp; omega) (by simp) ?_; intro v' w1 q1 q2 q3 q4 q5)
  have ho : Own 4 bkRow 67 (w.heap.size + 1) w1 v' l := by simpa using q1
  have hbx : Box w1 w.heap.size #[.int .i64 y.who, .int .i64 y.next, .int .i64 y.mat, .int .i64 y.piece] 67 := hbox.below q2 (by omega)
  have hB1 : Below w.heap.size w w1 := hbl.trans (q2.mono (by omega))
  obtain ⟨A', c', rfl⟩ : ∃ A' c', v' = .slice A' l.length c' := by
    obtain ⟨A2, cap2, hv, _⟩ := ho.sl bkRow_length
    exact ⟨A2, cap2, hv⟩
  obtain ⟨k1, f1, z1⟩ := hbx.facts
  have k10 := k1 0
  have k11 := k1 1
  have k12 := k1 2
  have k13 := k1 3
  have HO := Lib.hid ho
  have HB := Lib.hid hB1
  simp only [List.getElem?_toArray, List.getElem?_cons_zero, List.getElem?_cons_succ] at k10 k11 k12 k13
  clear q1 q2 q3 q4 q5 hmade hsl hbox hbl ho hbx hB1 k1
  go_loopw [6] (fun i wr => ∃ k n : Nat, k ≤ l.length ∧ i = .int .i64 k ∧ NoneTo l y.who k ∧ wr = w1.drewN n) (fun i _ => l.length - (intOf i).toNat)
  case atStart => exact ⟨0, 0, by omega, rfl, noneTo_zero, rfl⟩
  case round =>
    obtain ⟨k, n, hk, rfl, hno, rfl⟩ := hrel
    by_cases hlt : k < l.length
    · have hl : l ≠ [] := by intro h; subst h; simp at hlt
      obtain ⟨x, hx⟩ : ∃ x, l[k]? = some x := ⟨_, List.getElem?_eq_getElem hlt⟩
      obtain ⟨g, cp, hv, hg, hgs, hfz⟩ := HO.out.place hl
      obtain ⟨b, off, cap', hv', hlc', -, -, hc⟩ := bk_at (HO.out.sl bkRow_length) hl
      rw [hv] at hv'
      simp only [Value.slice.injEq, Option.some.injEq, Addr.mk.injEq, and_true] at hv hv'
      obtain ⟨rfl, -, rfl⟩ := hv
      obtain ⟨⟨rfl, rfl⟩, -, rfl⟩ := hv'
      obtain ⟨c0, c1, c2, c3⟩ := hc k x hx
      rw [Nat.zero_add] at c0 c1 c2 c3
      have e0 := hfz (k * 4)
      have e1 := hfz (k * 4 + 1)
      have e2 := hfz (k * 4 + 2)
      have e3 := hfz (k * 4 + 3)
      have i0 : (0 : Int) ≤ (k : Int) := by omega
      have i1 : (k : Int) < (l.length : Int) := by omega
      have HX := Lib.hid hx
      have HN := Lib.hid hno
      clear hc hx hno hl hfz
      by_cases hw : x.who = y.who
      · have q1 : (x.who == y.who) = true := by simpa using hw
        have HW := Lib.hid hw
        clear hw
        go_wp2_with fail
        go_quiet (fail)
        go_wp2_with fail
        go_ret
        have HT : withBks l y = l.set k y := turnBks_set HN.out HX.out HW.out
        rw [HT]
        refine ⟨_, rfl, (Own.writeBk (y := y) (w := (w1.drewN n).drewN nq) HO.out HX.out).sl bkRow_length, ?_⟩
        repeat refine below_set ?_ (by omega)
        exact below_drewN HB.out _
      · have q1 : (x.who == y.who) = false := by simpa using hw
        have HW := Lib.hid hw
        clear hw
        go_wp2_with fail
        go_quiet (fail)
        go_wp2_with fail
        go_roundw
        case rel => exact ⟨k + 1, _, by omega, by go_num, noneTo_succ HN.out HX.out HW.out, rfl⟩
        case measure => simp [intOf]; omega
    · have hk' : k = l.length := by omega
      have HT := Lib.hid (show withBks l y = l from turnBks_none (idxNat_none (by rw [← hk']; exact hno)).2)
      clear hno hk'
      go_wp2_with fail
      go_ret
      refine ⟨_, rfl, ?_, below_drewN HB.out n⟩
      rw [HT.out]
      exact Sl.keep (HO.out.sl bkRow_length) (fun b o _ => by simp)
end Go.Proofs.YtnhodaconlodbaaDoor
