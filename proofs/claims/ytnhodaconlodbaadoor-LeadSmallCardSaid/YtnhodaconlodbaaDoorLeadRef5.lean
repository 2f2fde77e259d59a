/-
  The document's books (limpetref25), 5: Got, Matches; lead's Matches.
-/
import Derived.Test.YtnhodaconlodbaaDoorLeadRef4
import Derived.Deep.DeepCutAuto
namespace Go.Proofs.YtnhodaconlodbaaDoor
open Go.RowKit
set_option linter.unusedVariables false

set_option maxHeartbeats 2000000 in
theorem rGot_none (l : List Bk) (v : Value) (who index piece : Int) (yes : Bool) (w : World) (h : Sl 4 bkRow w.heap.size w v l) (hn : l.length ≤ 1000000) (hf : findBk l who = none) :
    Calls Tryd.prog 46 #[v, .int .i64 who, .int .i64 index, .int .i64 piece, .bool yes] w fun e w' => ∃ v', e = .returned v' ∧ Sl 4 bkRow w'.heap.size w' v' (gotBks l who index piece yes) ∧ Below w.heap.size w w' := by
  have HT := Lib.hid (show gotBks l who index piece yes = l from turnBks_none hf)
  have HF := Lib.hid (hasBk_none hf)
  clear hf
  go_enter Tryd.func46, Tryd.ntmps46
  go_wp2_with fail
  refine (rFind who l v _ h).mono ?_
  rintro e w1 ⟨rfl, hb⟩
  rw [HF.out.1, HF.out.2]
  have h1 := h.later hb
  have h1' := h1.alloc (.cells #[.int .i64 0, .int .i64 0, .int .i64 0, .int .i64 0] 67)
  obtain ⟨A, cap, rfl, hlc, hcm, -, -⟩ := h
  have hmade : Own 4 bkRow 67 (w1.heap.size + 1) ((w1.alloc (.cells #[.int .i64 0, .int .i64 0, .int .i64 0, .int .i64 0] 67)).alloc (.cells #[] 67)) (.slice (some ⟨w1.heap.size + 1, 0, none⟩) 0 0) [] := by
    have := Own.made 4 bkRow 67 (w1.alloc (.cells #[.int .i64 0, .int .i64 0, .int .i64 0, .int .i64 0] 67))
    rwa [World.size_alloc] at this
  have hsl : Sl 4 bkRow (w1.heap.size + 1) ((w1.alloc (.cells #[.int .i64 0, .int .i64 0, .int .i64 0, .int .i64 0] 67)).alloc (.cells #[] 67)) (.slice A l.length cap) l := by
    have := h1'.below (below_new _ (.cells #[] 67))
    rwa [World.size_alloc] at this
  have hbl : Below w.heap.size w ((w1.alloc (.cells #[.int .i64 0, .int .i64 0, .int .i64 0, .int .i64 0] 67)).alloc (.cells #[] 67)) := below_call (below_call hb (below_new _ _)) (below_new _ _)
  have hz := hb.size
  clear h1 h1' hcm hb
  go_wp2_with (at_builtin; refine wpList_append_all _ rfl (.tmp 22) (.tmp 23) 63 rfl (w1.heap.size + 1) 67 _ 4 32 Tryd.underlying63 rbookInfo rfl (by omega) bkRow bkRow_length bkRow_one [] _ rfl hmade l (w1.heap.size + 1) _ hsl rfl (by unfold maxLen; simp; omega) (by simp; omega) (by simp) ?_; intro v' w2 q1 q2 q3 q4 q5)
  go_ret
  exact ⟨_, rfl, by rw [HT.out]; exact (show Own 4 bkRow 67 _ w2 v' l by simpa using q1).sl bkRow_length, hbl.trans (q2.mono (by omega))⟩

set_option maxHeartbeats 2000000 in
theorem rGot_yes (l : List Bk) (v : Value) (who index piece : Int) (w : World) (h : Sl 4 bkRow w.heap.size w v l) (hn : l.length ≤ 1000000) (x : Bk) (hf : findBk l who = some x) (m1 : -4611686018427387904 ≤ x.mat) (m2 : x.mat ≤ 4611686018427387904) :
    Calls Tryd.prog 46 #[v, .int .i64 who, .int .i64 index, .int .i64 piece, .bool true] w fun e w' => ∃ v', e = .returned v' ∧ Sl 4 bkRow w'.heap.size w' v' (gotBks l who index piece true) ∧ Below w.heap.size w w' := by
  have hxw := (findBk_who' hf).1
  have HF := Lib.hid (hasBk_some hf)
  obtain ⟨y, hy⟩ : ∃ y, gotBk x index piece true = y := ⟨_, rfl⟩
  have hyw : y.who = x.who := by
    rw [← hy]; unfold gotBk yesBk
    rfl
  have HT := Lib.hid (show withBks l y = gotBks l who index piece true from with_turn hf hy (hyw.trans hxw))
  obtain ⟨xw, xn, xm, xp⟩ := x
  clear hf hyw hxw
  simp only at m1 m2
  obtain ⟨z, hz⟩ : ∃ z, yesBk ⟨xw, xn, xm, xp⟩ index = z := ⟨_, rfl⟩
  have HZ := Lib.hid hz
  have HY := Lib.hid (show y = ⟨z.who, z.next, z.mat, 0⟩ by rw [← hy, ← hz]; rfl)
  rw [HY.out] at HT
  clear hy hz HY
  go_enter Tryd.func46, Tryd.ntmps46
  go_wp2_with fail
  refine (rFind who l v _ h).mono ?_
  rintro e w1 ⟨rfl, hb⟩
  rw [HF.out.1, HF.out.2]
  have hS := h.later hb
  have hzz := hb.size
  have hBX := Box.new w1 #[.int .i64 xw, .int .i64 xn, .int .i64 xm, .int .i64 xp] 67
  go_wp2_with fail
  refine (rYes ⟨xw, xn, xm, xp⟩ index _ m1 m2).mono ?_
  rintro e w2 ⟨rfl, hb2⟩
  rw [HZ.out]
  have hBX2 := hBX.later hb2
  have HBX := Lib.hid hBX2
  obtain ⟨k1, f1, z1⟩ := hBX2.facts
  have k10 := k1 0
  have k11 := k1 1
  have k12 := k1 2
  have k13 := k1 3
  simp only [List.getElem?_toArray, List.getElem?_cons_zero, List.getElem?_cons_succ] at k10 k11 k12 k13
  clear k1
  have HS := Lib.hid hS
  have HB := Lib.hid hb
  have HB2 := Lib.hid (below_call (below_new w1 (.cells #[.int .i64 xw, .int .i64 xn, .int .i64 xm, .int .i64 xp] 67)) hb2)
  clear hBX hBX2 hb hS hb2
  go_upto_region 6 with fail
  obtain ⟨W3, hW3⟩ : ∃ W3 : World, W3 = ((((w2.setCell ⟨w1.heap.size, 0, none⟩ (.int .i64 z.who)).setCell ⟨w1.heap.size, 1, none⟩ (.int .i64 z.next)).setCell ⟨w1.heap.size, 2, none⟩ (.int .i64 z.mat)).setCell ⟨w1.heap.size, 3, none⟩ (.int .i64 z.piece)) := ⟨_, rfl⟩
  have hX : Box W3 w1.heap.size #[.int .i64 z.who, .int .i64 z.next, .int .i64 z.mat, .int .i64 z.piece] 67 := by
    rw [hW3]; exact (((HBX.out.set_ 0 _).set_ 1 _).set_ 2 _).set_ 3 _
  have hB3 : Below w1.heap.size w1 W3 := by
    rw [hW3]; repeat refine below_set ?_ (Nat.le_refl _)
    exact HB2.out
  rw [← hW3]
  clear hW3 k10 k11 k12 k13 f1 z1
  obtain ⟨k1, f1, z1⟩ := hX.facts
  have k10 := k1 0
  have k11 := k1 1
  have k12 := k1 2
  have k13 := k1 3
  simp only [List.getElem?_toArray, List.getElem?_cons_zero, List.getElem?_cons_succ] at k10 k11 k12 k13
  have HX := Lib.hid hX
  have HB3 := Lib.hid hB3
  clear k1 hX hB3
  go_wp2_with fail
  refine (rWith l ⟨z.who, z.next, z.mat, 0⟩ v _ ?_ hn).mono ?_
  · refine (HS.out.below ?_).more ?_
    · repeat refine below_set ?_ (Nat.le_refl _)
      exact HB3.out
    · have := HB3.out.size
      simp; omega
  rintro e w3 ⟨v', rfl, h3, hb3⟩
  have HB4 : Hid (Below w.heap.size w w3) := by
    refine below_call ?_ hb3
    repeat refine below_set ?_ hzz
    exact below_call HB.out HB3.out
  clear hb3 f1 k10 k11 k12 k13
  go_wp2_with fail
  go_ret
  exact ⟨_, rfl, by rw [← HT.out]; exact h3, HB4.out⟩

set_option maxHeartbeats 2000000 in
theorem rGot_no (l : List Bk) (v : Value) (who index piece : Int) (w : World) (h : Sl 4 bkRow w.heap.size w v l) (hn : l.length ≤ 1000000) (x : Bk) (hf : findBk l who = some x) (m1 : -4611686018427387904 ≤ x.mat) (m2 : x.mat ≤ 4611686018427387904) :
    Calls Tryd.prog 46 #[v, .int .i64 who, .int .i64 index, .int .i64 piece, .bool false] w fun e w' => ∃ v', e = .returned v' ∧ Sl 4 bkRow w'.heap.size w' v' (gotBks l who index piece false) ∧ Below w.heap.size w w' := by
  have hxw := (findBk_who' hf).1
  have HF := Lib.hid (hasBk_some hf)
  obtain ⟨y, hy⟩ : ∃ y, gotBk x index piece false = y := ⟨_, rfl⟩
  have hyw : y.who = x.who := by
    rw [← hy]; unfold gotBk yesBk
    by_cases q : 0 ≤ piece ∧ piece ≤ 48 <;> simp [q]
  have HT := Lib.hid (show withBks l y = gotBks l who index piece false from with_turn hf hy (hyw.trans hxw))
  obtain ⟨xw, xn, xm, xp⟩ := x
  clear hf hyw hxw
  simp only at m1 m2
  by_cases g1 : 0 ≤ piece
  · by_cases g2 : piece ≤ 48
    · have HY := Lib.hid (show y = ⟨xw, xn, xm, piece⟩ by rw [← hy]; unfold gotBk; simp [g1, g2])
      rw [HY.out] at HT
      clear hy HY
      go_enter Tryd.func46, Tryd.ntmps46
      go_wp2_with fail
      refine (rFind who l v _ h).mono ?_
      rintro e w1 ⟨rfl, hb⟩
      rw [HF.out.1, HF.out.2]
      go_wp2_with fail
      have h1 := (h.later hb).alloc (.cells #[.int .i64 xw, .int .i64 xn, .int .i64 xm, .int .i64 piece] 67)
      have hB := below_call hb (below_new w1 (.cells #[.int .i64 xw, .int .i64 xn, .int .i64 xm, .int .i64 piece] 67))
      refine (rWith l ⟨xw, xn, xm, piece⟩ v _ h1 hn).mono ?_
      rintro e w3 ⟨v', rfl, h3, hb3⟩
      clear h1 hb
      go_wp2_with fail
      go_ret
      exact ⟨_, rfl, by rw [← HT.out]; exact h3, below_call hB hb3⟩
    · have HY := Lib.hid (show y = ⟨xw, xn, xm, xp⟩ by rw [← hy]; unfold gotBk; rw [if_neg (by simp), if_neg (by omega)])
      rw [HY.out] at HT
      clear hy HY
      go_enter Tryd.func46, Tryd.ntmps46
      go_wp2_with fail
      refine (rFind who l v _ h).mono ?_
      rintro e w1 ⟨rfl, hb⟩
      rw [HF.out.1, HF.out.2]
      go_wp2_with fail
      have h1 := (h.later hb).alloc (.cells #[.int .i64 xw, .int .i64 xn, .int .i64 xm, .int .i64 xp] 67)
      have hB := below_call hb (below_new w1 (.cells #[.int .i64 xw, .int .i64 xn, .int .i64 xm, .int .i64 xp] 67))
      refine (rWith l ⟨xw, xn, xm, xp⟩ v _ h1 hn).mono ?_
      rintro e w3 ⟨v', rfl, h3, hb3⟩
      clear h1 hb
      go_wp2_with fail
      go_ret
      exact ⟨_, rfl, by rw [← HT.out]; exact h3, below_call hB hb3⟩
  · have HY := Lib.hid (show y = ⟨xw, xn, xm, xp⟩ by rw [← hy]; unfold gotBk; rw [if_neg (by simp), if_neg (by omega)])
    rw [HY.out] at HT
    clear hy HY
    go_enter Tryd.func46, Tryd.ntmps46
    go_wp2_with fail
    refine (rFind who l v _ h).mono ?_
    rintro e w1 ⟨rfl, hb⟩
    rw [HF.out.1, HF.out.2]
    go_wp2_with fail
    have h1 := (h.later hb).alloc (.cells #[.int .i64 xw, .int .i64 xn, .int .i64 xm, .int .i64 xp] 67)
    have hB := below_call hb (below_new w1 (.cells #[.int .i64 xw, .int .i64 xn, .int .i64 xm, .int .i64 xp] 67))
    refine (rWith l ⟨xw, xn, xm, xp⟩ v _ h1 hn).mono ?_
    rintro e w3 ⟨v', rfl, h3, hb3⟩
    clear h1 hb
    go_wp2_with fail
    go_ret
    exact ⟨_, rfl, by rw [← HT.out]; exact h3, below_call hB hb3⟩

theorem rGot (l : List Bk) (v : Value) (who index piece : Int) (yes : Bool) (w : World) (h : Sl 4 bkRow w.heap.size w v l) (hn : l.length ≤ 1000000)
    (hm : ∀ x ∈ l, (-4611686018427387904 ≤ x.mat ∧ x.mat ≤ 4611686018427387904) ∧ -4611686018427387904 ≤ x.next ∧ x.next ≤ 4611686018427387904) :
    Calls Tryd.prog 46 #[v, .int .i64 who, .int .i64 index, .int .i64 piece, .bool yes] w fun e w' => ∃ v', e = .returned v' ∧ Sl 4 bkRow w'.heap.size w' v' (gotBks l who index piece yes) ∧ Below w.heap.size w w' := by
  rcases hf : findBk l who with _ | x
  · exact rGot_none l v who index piece yes w h hn hf
  · obtain ⟨⟨m1, m2⟩, m3, m4⟩ := hm x (findBk_who' hf).2
    cases yes with
    | true => exact rGot_yes l v who index piece w h hn x hf m1 m2
    | false => exact rGot_no l v who index piece w h hn x hf m1 m2

theorem findAny (who : Int) (l : List Bk) (v : Value) (w : World) (h : Sl 4 bkRow w.heap.size w v l) :
    Calls Tryd.prog 34 #[v, .int .i64 who] w fun e w' => e = .returned (.tuple #[.agg #[.int .i64 (fndBk l who).who, .int .i64 (fndBk l who).next, .int .i64 (fndBk l who).mat, .int .i64 (fndBk l who).piece], .bool (hasBk l who)]) ∧ Below w.heap.size w w' := by
  rcases hf : findBk l who with _ | x
  · rw [(hasBk_none hf).1, (hasBk_none hf).2]; exact find_none who l v w h hf
  · rw [(hasBk_some hf).1, (hasBk_some hf).2]; exact find_some who l x v w h hf

/-- Members' matches. -/
def matBk (l : List Bk) (self own m : Int) : Int := if m = self then own else (fndBk l m).mat
def matBks (l : List Bk) (ms : List Int) (self own : Int) : List Int := ms.map (matBk l self own)
theorem matBks_more {l : List Bk} {ms : List Int} {self own : Int} {k : Nat} {m : Int} (h : ms[k]? = some m) : matBks l (ms.take (k + 1)) self own = matBks l (ms.take k) self own ++ [matBk l self own m] := by
  rw [take_at h]; simp [matBks]
theorem matBks_len (l : List Bk) (ms : List Int) (self own : Int) : (matBks l ms self own).length = ms.length := by simp [matBks]

set_option maxHeartbeats 2000000 in
theorem lMatches (l : List Bk) (ms : List Int) (v vm : Value) (self own_ : Int) (w : World) (h : Sl 4 bkRow w.heap.size w v l) (hm : Sl 1 i64Row w.heap.size w vm ms) (hn : ms.length ≤ 1000000) :
    Calls Tryd.prog 48 #[v, vm, .int .i64 self, .int .i64 own_] w fun e w' => ∃ v', e = .returned v' ∧ Own 1 i64Row 3 w.heap.size w' v' (matBks l ms self own_) ∧ Below w.heap.size w w' := by
  obtain ⟨A, cap, rfl, hlc, hcm, -, hA⟩ := hm
  clear hcm
  go_enter Tryd.func48, Tryd.ntmps48
  go_wp2_with fail
  go_loopw [8, 10, 11, 12, 15] (fun out _ _ _ j wr => ∃ k : Nat, k ≤ ms.length ∧ j = .int .i64 k ∧ Own 1 i64Row 3 w.heap.size wr out (matBks l (ms.take k) self own_) ∧ Below w.heap.size w wr) (fun out _ _ _ j _ => ms.length - (intOf j).toNat)
  case atStart => exact ⟨0, by omega, rfl, Own.nil_ _ _ _ _ _, Below.refl _ _⟩
  case round =>
    obtain ⟨k, hk, rfl, hown, hB⟩ := hrel
    by_cases hlt : k < ms.length
    · obtain ⟨b, off, rfl, hb, hcell⟩ := hA (by intro h; subst h; simp at hlt)
      obtain ⟨m, hx⟩ : ∃ x, ms[k]? = some x := ⟨_, List.getElem?_eq_getElem hlt⟩
      have c0 : wr.cell? ⟨b, off + k, none⟩ = some (.int .i64 m) := by simpa using (hB.cell (p := ⟨b, off + k * 1 + 0, none⟩) hb).trans (hcell k m hx 0 _ rfl)
      have hle : (matBks l (ms.take k) self own_).length ≤ 1000000 := by rw [matBks_len]; have := List.length_take_le k ms; omega
      have hbr : b < wr.heap.size := by have := hB.size; omega
      have HX := Lib.hid hx
      have hSl := (h.below hB).more hB.size
      clear hcell hx
      go_wp2_with fail
      refine (findAny m l v _ hSl).mono ?_
      rintro e w1 ⟨rfl, hB1⟩
      have c1 := (hB1.cell (p := ⟨b, off + k, none⟩) hbr).trans c0
      have hb1 : b < w1.heap.size := by have := hB1.size; omega
      obtain ⟨y, hy⟩ : ∃ y, fndBk l m = y := ⟨_, rfl⟩
      obtain ⟨s, hs'⟩ : ∃ s, hasBk l m = s := ⟨_, rfl⟩
      have HY := Lib.hid hy
      rw [hy, hs']
      have hO1 := hown.later hB1
      have hB2 := below_call hB hB1
      clear hy hs' hown hB hB1 hSl c0
      by_cases hs : m = self
      · have e1 : (m == self) = true := by simpa using hs
        have HK := Lib.hid (show matBk l self own_ m = own_ by simp [matBk, hs])
        clear hs
        have HO := Lib.hid (hO1.alloc (.cells #[.int .i64 y.who, .int .i64 y.next, .int .i64 own_, .int .i64 y.piece] 24))
        have HB := Lib.hid (below_call hB2 (below_new w1 (.cells #[.int .i64 y.who, .int .i64 y.next, .int .i64 own_, .int .i64 y.piece] 24)))
        have hz := hB2.size
        clear hO1 hB2
        go_wp2_with (at_builtin; refine wpList_append_row _ rfl (.tmp 30) (.tmp 33) 22 rfl w.heap.size 3 _ 1 8 Tryd.underlying22 intInfo rfl (by omega) i64Row i64Row_length i64Row_one _ _ rfl HO.out own_ _ rfl 3 _ rfl (by simp) (by omega) (by omega) (by simp; omega) ?_; intro v' w2 p1 p2 p3 p4 p5)
        have P2 := Lib.hid (HB.out.trans p2)
        clear p2 p3 p4 p5
        go_roundw
        case rel => exact ⟨k + 1, by omega, by go_num, by rw [matBks_more HX.out, HK.out]; exact p1, P2.out⟩
        case measure => simp [intOf]; omega
      · have e1 : (m == self) = false := by simpa using hs
        have HK := Lib.hid (show matBk l self own_ m = y.mat by simp [matBk, hs, HY.out])
        clear hs
        have HO := Lib.hid (hO1.alloc (.cells #[.int .i64 y.who, .int .i64 y.next, .int .i64 y.mat, .int .i64 y.piece] 24))
        have HB := Lib.hid (below_call hB2 (below_new w1 (.cells #[.int .i64 y.who, .int .i64 y.next, .int .i64 y.mat, .int .i64 y.piece] 24)))
        have hz := hB2.size
        clear hO1 hB2
        go_wp2_with (at_builtin; refine wpList_append_row _ rfl (.tmp 30) (.tmp 33) 22 rfl w.heap.size 3 _ 1 8 Tryd.underlying22 intInfo rfl (by omega) i64Row i64Row_length i64Row_one _ _ rfl HO.out y.mat _ rfl 3 _ rfl (by simp) (by omega) (by omega) (by simp; omega) ?_; intro v' w2 p1 p2 p3 p4 p5)
        have P2 := Lib.hid (HB.out.trans p2)
        clear p2 p3 p4 p5
        go_roundw
        case rel => exact ⟨k + 1, by omega, by go_num, by rw [matBks_more HX.out, HK.out]; exact p1, P2.out⟩
        case measure => simp [intOf]; omega
    · have hk' : k = ms.length := by omega
      have HO := Lib.hid (show Own 1 i64Row 3 w.heap.size wr u8 (matBks l ms self own_) by rw [hk', List.take_length] at hown; exact hown)
      clear hown hk'
      go_wp2
      go_ret
      exact ⟨_, rfl, HO.out, hB⟩

set_option maxHeartbeats 2000000 in
theorem rMatches (l : List Bk) (ms : List Int) (v vm : Value) (self own_ : Int) (w : World) (h : Sl 4 bkRow w.heap.size w v l) (hm : Sl 1 i64Row w.heap.size w vm ms) (hn : ms.length ≤ 1000000) :
    Calls Tryd.prog 49 #[v, vm, .int .i64 self, .int .i64 own_] w fun e w' => ∃ v', e = .returned v' ∧ Own 1 i64Row 3 w.heap.size w' v' (matBks l ms self own_) ∧ Below w.heap.size w w' := by
  obtain ⟨A, cap, rfl, hlc, hcm, -, hA⟩ := hm
  clear hcm
  go_enter Tryd.func49, Tryd.ntmps49
  go_wp2_with fail
  go_loopw [9, 10, 11, 12] (fun out j _ _ wr => ∃ k : Nat, k ≤ ms.length ∧ j = .int .i64 k ∧ Own 1 i64Row 3 w.heap.size wr out (matBks l (ms.take k) self own_) ∧ Below w.heap.size w wr) (fun out j _ _ _ => ms.length - (intOf j).toNat)
  case atStart => exact ⟨0, by omega, rfl, Own.nil_ _ _ _ _ _, Below.refl _ _⟩
  case round =>
    obtain ⟨k, hk, rfl, hown, hB⟩ := hrel
    by_cases hlt : k < ms.length
    · obtain ⟨b, off, rfl, hb, hcell⟩ := hA (by intro h; subst h; simp at hlt)
      obtain ⟨m, hx⟩ : ∃ x, ms[k]? = some x := ⟨_, List.getElem?_eq_getElem hlt⟩
      have c0 : wr.cell? ⟨b, off + k, none⟩ = some (.int .i64 m) := by simpa using (hB.cell (p := ⟨b, off + k * 1 + 0, none⟩) hb).trans (hcell k m hx 0 _ rfl)
      have hle : (matBks l (ms.take k) self own_).length ≤ 1000000 := by rw [matBks_len]; have := List.length_take_le k ms; omega
      have hbr : b < wr.heap.size := by have := hB.size; omega
      have HX := Lib.hid hx
      have hSl := (h.below hB).more hB.size
      clear hcell hx
      go_wp2_with fail
      refine (rFind m l v _ hSl).mono ?_
      rintro e w1 ⟨rfl, hB1⟩
      have c1 := (hB1.cell (p := ⟨b, off + k, none⟩) hbr).trans c0
      have hb1 : b < w1.heap.size := by have := hB1.size; omega
      obtain ⟨y, hy⟩ : ∃ y, fndBk l m = y := ⟨_, rfl⟩
      obtain ⟨s, hs'⟩ : ∃ s, hasBk l m = s := ⟨_, rfl⟩
      have HY := Lib.hid hy
      rw [hy, hs']
      have hO1 := hown.later hB1
      have hB2 := below_call hB hB1
      clear hy hs' hown hB hB1 hSl c0
      by_cases hs : m = self
      · have e1 : (m == self) = true := by simpa using hs
        have HK := Lib.hid (show matBk l self own_ m = own_ by simp [matBk, hs])
        clear hs
        have HO := Lib.hid (hO1.alloc (.cells #[.int .i64 y.who, .int .i64 y.next, .int .i64 y.mat, .int .i64 y.piece] 67))
        have HB := Lib.hid (below_call hB2 (below_new w1 (.cells #[.int .i64 y.who, .int .i64 y.next, .int .i64 y.mat, .int .i64 y.piece] 67)))
        have hz := hB2.size
        clear hO1 hB2
        go_wp2_with (at_builtin; refine wpList_append_row _ rfl (.tmp 34) (.tmp 36) 22 rfl w.heap.size 3 _ 1 8 Tryd.underlying22 intInfo rfl (by omega) i64Row i64Row_length i64Row_one _ _ rfl HO.out own_ _ rfl 3 _ rfl (by simp) (by omega) (by omega) (by simp; omega) ?_; intro v' w2 p1 p2 p3 p4 p5)
        have P2 := Lib.hid (HB.out.trans p2)
        clear p2 p3 p4 p5
        go_roundw
        case rel => exact ⟨k + 1, by omega, by go_num, by rw [matBks_more HX.out, HK.out]; exact p1, P2.out⟩
        case measure => simp [intOf]; omega
      · have e1 : (m == self) = false := by simpa using hs
        have HK := Lib.hid (show matBk l self own_ m = y.mat by simp [matBk, hs, HY.out])
        clear hs
        have HO := Lib.hid (hO1.alloc (.cells #[.int .i64 y.who, .int .i64 y.next, .int .i64 y.mat, .int .i64 y.piece] 67))
        have HB := Lib.hid (below_call hB2 (below_new w1 (.cells #[.int .i64 y.who, .int .i64 y.next, .int .i64 y.mat, .int .i64 y.piece] 67)))
        have hz := hB2.size
        clear hO1 hB2
        go_wp2_with (at_builtin; refine wpList_append_row _ rfl (.tmp 38) (.tmp 41) 22 rfl w.heap.size 3 _ 1 8 Tryd.underlying22 intInfo rfl (by omega) i64Row i64Row_length i64Row_one _ _ rfl HO.out y.mat _ rfl 3 _ rfl (by simp) (by omega) (by omega) (by simp; omega) ?_; intro v' w2 p1 p2 p3 p4 p5)
        have P2 := Lib.hid (HB.out.trans p2)
        clear p2 p3 p4 p5
        go_roundw
        case rel => exact ⟨k + 1, by omega, by go_num, by rw [matBks_more HX.out, HK.out]; exact p1, P2.out⟩
        case measure => simp [intOf]; omega
    · have hk' : k = ms.length := by omega
      have HO := Lib.hid (show Own 1 i64Row 3 w.heap.size wr u9 (matBks l ms self own_) by rw [hk', List.take_length] at hown; exact hown)
      clear hown hk'
      go_wp2
      go_ret
      exact ⟨_, rfl, HO.out, hB⟩


end Go.Proofs.YtnhodaconlodbaaDoor
