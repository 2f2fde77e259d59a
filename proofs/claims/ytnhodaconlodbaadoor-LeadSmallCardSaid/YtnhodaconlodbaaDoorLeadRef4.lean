/-
  The document's books (limpetref25), 4: Ack, Got; the law's far.
-/
import Derived.Test.YtnhodaconlodbaaDoorLeadRef3
namespace Go.Proofs.YtnhodaconlodbaaDoor
open Go.RowKit
set_option linter.unusedVariables false

theorem hasBk_some {l : List Bk} {who : Int} {x : Bk} (h : findBk l who = some x) : hasBk l who = true ∧ fndBk l who = x := by simp [hasBk, fndBk, h]
theorem hasBk_none {l : List Bk} {who : Int} (h : findBk l who = none) : hasBk l who = false ∧ fndBk l who = ⟨0, 0, 0, 0⟩ := by simp [hasBk, fndBk, h]

set_option maxHeartbeats 1000000 in
theorem rAck (l : List Bk) (v : Value) (who index : Int) (yes : Bool) (w : World) (h : Sl 4 bkRow w.heap.size w v l) (hn : l.length ≤ 1000000)
    (hm : ∀ x ∈ l, (-4611686018427387904 ≤ x.mat ∧ x.mat ≤ 4611686018427387904) ∧ -4611686018427387904 ≤ x.next ∧ x.next ≤ 4611686018427387904) (hi : -9223372036854775808 ≤ index) :
    Calls Tryd.prog 44 #[v, .int .i64 who, .int .i64 index, .bool yes] w fun e w' => ∃ v', e = .returned v' ∧ Sl 4 bkRow w'.heap.size w' v' (ackBks l who index yes) ∧ Below w.heap.size w w' := by
  rcases hf : findBk l who with _ | x
  · have HT := Lib.hid (show ackBks l who index yes = l from turnBks_none hf)
    have HF := Lib.hid (hasBk_none hf)
    clear hf hm
    go_enter Tryd.func44, Tryd.ntmps44
    go_wp2_with fail
    refine (rFind who l v _ h).mono ?_
    rintro e w1 ⟨rfl, hb⟩
    rw [HF.out.1, HF.out.2]
    have h1 := h.later hb
    have h1' := h1.alloc (.cells #[.int .i64 0, .int .i64 0, .int .i64 0, .int .i64 0] 67)
    obtain ⟨A, cap, rfl, hlc, hcm, -, -⟩ := h
    have hmade : Own 4 bkRow 67 (w1.heap.size + 1) ((w1.alloc (.cells #[.int .i64 0, .int .i64 0, .int .i64 0, .int .i64 0] 67)).alloc (.cells #[] 67)) (.slice (some ⟨w1.heap.size + 1, 0, none⟩) 0 0) [] := by
      have := Own.made 4 bkRow 67 (w1.alloc (.cells #[.int .i64 0, .int .i64 0, .int .i64 0, .int .i64 0] 67))
      rwa [World.size_alloc] at this
    have hsl : Sl 4 bkRow (w1.heap.size + 1) ((w1.alloc (.cells #[.int .i64 0, .int .i64 0, .int .i64 0, .int .i64 0] 67)).alloc (.cells #[] 67)) (.slice A l.length cap) l := by
      have := h1'.below (below_new _ (.cells #[] 67))
      rwa [World.size_alloc] at this
    have hbl : Below w.heap.size w ((w1.alloc (.cells #[.int .i64 0, .int .i64 0, .int .i64 0, .int .i64 0] 67)).alloc (.cells #[] 67)) := below_call (below_call hb (below_new _ _)) (below_new _ _)
    have hz := hb.size
    clear h1 h1' hcm hb
    go_wp2_with (at_builtin; refine wpList_append_all _ rfl (.tmp 20) (.tmp 21) 63 rfl (w1.heap.size + 1) 67 _ 4 32 Tryd.underlying63 rbookInfo rfl (by omega) bkRow bkRow_length bkRow_one [] _ rfl hmade l (w1.heap.size + 1) _ hsl rfl (by unfold maxLen; simp; omega) (by simp; omega) (by simp) ?_; intro v' w2 q1 q2 q3 q4 q5)
    go_ret
    exact ⟨_, rfl, by rw [HT.out]; exact (show Own 4 bkRow 67 _ w2 v' l by simpa using q1).sl bkRow_length, hbl.trans (q2.mono (by omega))⟩
  · obtain ⟨hxw, hxm⟩ := findBk_who' hf
    obtain ⟨⟨m1, m2⟩, m3, m4⟩ := hm x hxm
    have HF := Lib.hid (hasBk_some hf)
    obtain ⟨y, hy⟩ : ∃ y, ackBk x index yes = y := ⟨_, rfl⟩
    have hyw : y.who = x.who := by rw [← hy]; unfold ackBk yesBk noBk; cases yes <;> rfl
    have HT := Lib.hid (show withBks l y = ackBks l who index yes from with_turn hf hy (hyw.trans hxw))
    obtain ⟨xw, xn, xm, xp⟩ := x
    clear hm hxm hf hyw hxw
    simp only at m1 m2 m3 m4
    cases yes with
    | true =>
      have HY := Lib.hid (show yesBk ⟨xw, xn, xm, xp⟩ index = y from hy)
      clear hy
      go_enter Tryd.func44, Tryd.ntmps44
      go_wp2_with fail
      refine (rFind who l v _ h).mono ?_
      rintro e w1 ⟨rfl, hb⟩
      rw [HF.out.1, HF.out.2]
      have h1 := (h.later hb).alloc (.cells #[.int .i64 xw, .int .i64 xn, .int .i64 xm, .int .i64 xp] 67)
      have hB := below_call hb (below_new w1 (.cells #[.int .i64 xw, .int .i64 xn, .int .i64 xm, .int .i64 xp] 67))
      clear hb
      go_wp2_with fail
      refine (rYes ⟨xw, xn, xm, xp⟩ index _ m1 m2).mono ?_
      rintro e w2 ⟨rfl, hb2⟩
      rw [HY.out]
      have h2 := h1.later hb2
      have hB2 := below_call hB hb2
      clear hb2 hB h1
      go_wp2_with fail
      refine (rWith l y v _ h2 hn).mono ?_
      rintro e w3 ⟨v', rfl, h3, hb3⟩
      go_wp2_with fail
      go_ret
      exact ⟨_, rfl, by rw [← HT.out]; exact h3, below_call hB2 hb3⟩
    | false =>
      have HY := Lib.hid (show noBk ⟨xw, xn, xm, xp⟩ index = y from hy)
      clear hy
      by_cases g1 : index < xn - 1
      · by_cases g2 : index + 1 < xm + 1
        · have HZ := Lib.hid (show y = ⟨xw, xm + 1, xm, xp⟩ by rw [← HY.out]; unfold noBk; simp only [if_pos g1]; rw [max_lt_r g2])
          rw [HZ.out] at HT
          clear HY HZ
          go_enter Tryd.func44, Tryd.ntmps44
          go_wp2_with fail
          refine (rFind who l v _ h).mono ?_
          rintro e w1 ⟨rfl, hb⟩
          rw [HF.out.1, HF.out.2]
          go_wp2_with fail
          have h1 := (h.later hb).alloc (.cells #[.int .i64 xw, .int .i64 (xm + 1), .int .i64 xm, .int .i64 xp] 67)
          have hB := below_call hb (below_new w1 (.cells #[.int .i64 xw, .int .i64 (xm + 1), .int .i64 xm, .int .i64 xp] 67))
          refine (rWith l ⟨xw, xm + 1, xm, xp⟩ v _ h1 hn).mono ?_
          rintro e w3 ⟨v', rfl, h3, hb3⟩
          clear h1 hb
          go_wp2_with fail
          go_ret
          exact ⟨_, rfl, by rw [← HT.out]; exact h3, below_call hB hb3⟩
        · have HZ := Lib.hid (show y = ⟨xw, index + 1, xm, xp⟩ by rw [← HY.out]; unfold noBk; simp only [if_pos g1]; rw [max_lt_l g2])
          rw [HZ.out] at HT
          clear HY HZ
          go_enter Tryd.func44, Tryd.ntmps44
          go_wp2_with fail
          refine (rFind who l v _ h).mono ?_
          rintro e w1 ⟨rfl, hb⟩
          rw [HF.out.1, HF.out.2]
          go_wp2_with fail
          have h1 := (h.later hb).alloc (.cells #[.int .i64 xw, .int .i64 (index + 1), .int .i64 xm, .int .i64 xp] 67)
          have hB := below_call hb (below_new w1 (.cells #[.int .i64 xw, .int .i64 (index + 1), .int .i64 xm, .int .i64 xp] 67))
          refine (rWith l ⟨xw, index + 1, xm, xp⟩ v _ h1 hn).mono ?_
          rintro e w3 ⟨v', rfl, h3, hb3⟩
          clear h1 hb
          go_wp2_with fail
          go_ret
          exact ⟨_, rfl, by rw [← HT.out]; exact h3, below_call hB hb3⟩
      · by_cases g2 : xn < xm + 1
        · have HZ := Lib.hid (show y = ⟨xw, xm + 1, xm, xp⟩ by rw [← HY.out]; unfold noBk; simp only [if_neg g1]; rw [max_lt_r g2])
          rw [HZ.out] at HT
          clear HY HZ
          go_enter Tryd.func44, Tryd.ntmps44
          go_wp2_with fail
          refine (rFind who l v _ h).mono ?_
          rintro e w1 ⟨rfl, hb⟩
          rw [HF.out.1, HF.out.2]
          go_wp2_with fail
          have h1 := (h.later hb).alloc (.cells #[.int .i64 xw, .int .i64 (xm + 1), .int .i64 xm, .int .i64 xp] 67)
          have hB := below_call hb (below_new w1 (.cells #[.int .i64 xw, .int .i64 (xm + 1), .int .i64 xm, .int .i64 xp] 67))
          refine (rWith l ⟨xw, xm + 1, xm, xp⟩ v _ h1 hn).mono ?_
          rintro e w3 ⟨v', rfl, h3, hb3⟩
          clear h1 hb
          go_wp2_with fail
          go_ret
          exact ⟨_, rfl, by rw [← HT.out]; exact h3, below_call hB hb3⟩
        · have HZ := Lib.hid (show y = ⟨xw, xn, xm, xp⟩ by rw [← HY.out]; unfold noBk; simp only [if_neg g1]; rw [max_lt_l g2])
          rw [HZ.out] at HT
          clear HY HZ
          go_enter Tryd.func44, Tryd.ntmps44
          go_wp2_with fail
          refine (rFind who l v _ h).mono ?_
          rintro e w1 ⟨rfl, hb⟩
          rw [HF.out.1, HF.out.2]
          go_wp2_with fail
          have h1 := (h.later hb).alloc (.cells #[.int .i64 xw, .int .i64 xn, .int .i64 xm, .int .i64 xp] 67)
          have hB := below_call hb (below_new w1 (.cells #[.int .i64 xw, .int .i64 xn, .int .i64 xm, .int .i64 xp] 67))
          refine (rWith l ⟨xw, xn, xm, xp⟩ v _ h1 hn).mono ?_
          rintro e w3 ⟨v', rfl, h3, hb3⟩
          clear h1 hb
          go_wp2_with fail
          go_ret
          exact ⟨_, rfl, by rw [← HT.out]; exact h3, below_call hB hb3⟩

/-- Books, and an index, none of them far. -/
def NearBks (l : List Bk) (index : Int) : Prop := (-4611686018427387904 ≤ index ∧ index ≤ 4611686018427387904) ∧ ∀ x ∈ l, (-4611686018427387904 ≤ x.mat ∧ x.mat ≤ 4611686018427387904) ∧ -4611686018427387904 ≤ x.next ∧ x.next ≤ 4611686018427387904
theorem near_nil {index : Int} (h1 : -4611686018427387904 ≤ index) (h2 : index ≤ 4611686018427387904) (l : List Bk) : NearBks (l.take 0) index := ⟨⟨h1, h2⟩, fun x hx => by simp at hx⟩
theorem near_succ {l : List Bk} {index : Int} {k : Nat} {x : Bk} (h : NearBks (l.take k) index) (hx : l[k]? = some x) (h1 : -4611686018427387904 ≤ x.mat) (h2 : x.mat ≤ 4611686018427387904) (h3 : -4611686018427387904 ≤ x.next) (h4 : x.next ≤ 4611686018427387904) : NearBks (l.take (k + 1)) index := by
  refine ⟨h.1, fun y hy => ?_⟩
  rw [take_at hx, List.mem_append] at hy
  rcases hy with hy | hy
  · exact h.2 y hy
  · simp at hy; subst hy; exact ⟨⟨h1, h2⟩, h3, h4⟩

def FarPost (l : List Bk) (index : Int) (w : World) (e : Ending) (w' : World) : Prop := ∃ b : Bool, e = .returned (.bool b) ∧ (b = false → NearBks l index) ∧ w = w'
theorem farPost_mk {l : List Bk} {index : Int} {w : World} {b : Bool} (h : b = false → NearBks l index) : FarPost l index w (.returned (.bool b)) w := ⟨b, rfl, h, rfl⟩

set_option maxHeartbeats 4000000 in
theorem farL (l : List Bk) (v : Value) (index : Int) (w : World) (h : Sl 4 bkRow w.heap.size w v l) :
    Calls Tryd.prog 32 #[v, .int .i64 index] w (FarPost l index w) := by
  obtain ⟨A, cap, rfl, hlc, hcm, -, hA⟩ := h
  have hn : l.length ≤ 9223372036854775807 := by unfold maxLen at hcm; omega
  clear hcm
  by_cases g1 : index < -4611686018427387904
  · have e1 : decide (index < -4611686018427387904) = true := decide_eq_true g1
    go_enter Tryd.func32, Tryd.ntmps32
    go_wp2_with fail
    go_loop [5, 6] (fun is i => ∃ (k : Nat) (b : Bool), k ≤ l.length ∧ i = .int .i64 k ∧ is = .bool b ∧ (b = false → NearBks (l.take k) index)) (fun _ i => l.length - (intOf i).toNat)
    case atStart => exact ⟨0, true, by omega, rfl, rfl, fun h => by cases h⟩
    case round =>
      obtain ⟨k, b, hk, rfl, rfl, hnear⟩ := hrel
      by_cases hlt : k < l.length
      · obtain ⟨b', off, rfl, hb, hcell⟩ := hA (by intro h; subst h; simp at hlt)
        obtain ⟨x, hx⟩ : ∃ x, l[k]? = some x := ⟨_, List.getElem?_eq_getElem hlt⟩
        have c1 := hcell k x hx 1 _ rfl
        have c2 := hcell k x hx 2 _ rfl
        have HX := Lib.hid hx
        clear hcell hx hA
        cases b with
        | true =>
          clear hnear
          go_wp2_with fail
          go_round
          case rel => exact ⟨k + 1, true, by omega, by go_num, rfl, fun h => by cases h⟩
          case measure => simp [intOf]; omega
        | false =>
          have HN := Lib.hid (hnear rfl)
          clear hnear
          by_cases q0 : x.next < -4611686018427387904
          · have d0 : decide (x.next < -4611686018427387904) = true := decide_eq_true q0
            go_wp2_with fail
            go_round
            case rel => exact ⟨k + 1, true, by omega, by go_num, rfl, fun h => by cases h⟩
            case measure => simp [intOf]; omega
          have d0 : decide (x.next < -4611686018427387904) = false := decide_eq_false q0
          by_cases q1 : 4611686018427387904 < x.next
          · have d1 : decide (4611686018427387904 < x.next) = true := decide_eq_true q1
            go_wp2_with fail
            go_round
            case rel => exact ⟨k + 1, true, by omega, by go_num, rfl, fun h => by cases h⟩
            case measure => simp [intOf]; omega
          have d1 : decide (4611686018427387904 < x.next) = false := decide_eq_false q1
          by_cases q2 : x.mat < -4611686018427387904
          · have d2 : decide (x.mat < -4611686018427387904) = true := decide_eq_true q2
            go_wp2_with fail
            go_round
            case rel => exact ⟨k + 1, true, by omega, by go_num, rfl, fun h => by cases h⟩
            case measure => simp [intOf]; omega
          have d2 : decide (x.mat < -4611686018427387904) = false := decide_eq_false q2
          by_cases q3 : 4611686018427387904 < x.mat
          · have d3 : decide (4611686018427387904 < x.mat) = true := decide_eq_true q3
            go_wp2_with fail
            go_round
            case rel => exact ⟨k + 1, true, by omega, by go_num, rfl, fun h => by cases h⟩
            case measure => simp [intOf]; omega
          have d3 : decide (4611686018427387904 < x.mat) = false := decide_eq_false q3
          go_wp2_with fail
          go_round
          case rel => exact ⟨k + 1, false, by omega, by go_num, rfl, fun _ => near_succ HN.out HX.out (by omega) (by omega) (by omega) (by omega)⟩
          case measure => simp [intOf]; omega
      · have hk' : k = l.length := by omega
        have HN := Lib.hid (show b = false → NearBks l index by intro h; have := hnear h; rwa [hk', List.take_length] at this)
        clear hnear hk'
        go_wp2_with fail
        go_ret
        exact farPost_mk (b := b) HN.out
  have e1 : decide (index < -4611686018427387904) = false := decide_eq_false g1
  by_cases g2 : 4611686018427387904 < index
  · have e2 : decide (4611686018427387904 < index) = true := decide_eq_true g2
    go_enter Tryd.func32, Tryd.ntmps32
    go_wp2_with fail
    go_loop [5, 6] (fun is i => ∃ (k : Nat) (b : Bool), k ≤ l.length ∧ i = .int .i64 k ∧ is = .bool b ∧ (b = false → NearBks (l.take k) index)) (fun _ i => l.length - (intOf i).toNat)
    case atStart => exact ⟨0, true, by omega, rfl, rfl, fun h => by cases h⟩
    case round =>
      obtain ⟨k, b, hk, rfl, rfl, hnear⟩ := hrel
      by_cases hlt : k < l.length
      · obtain ⟨b', off, rfl, hb, hcell⟩ := hA (by intro h; subst h; simp at hlt)
        obtain ⟨x, hx⟩ : ∃ x, l[k]? = some x := ⟨_, List.getElem?_eq_getElem hlt⟩
        have c1 := hcell k x hx 1 _ rfl
        have c2 := hcell k x hx 2 _ rfl
        have HX := Lib.hid hx
        clear hcell hx hA
        cases b with
        | true =>
          clear hnear
          go_wp2_with fail
          go_round
          case rel => exact ⟨k + 1, true, by omega, by go_num, rfl, fun h => by cases h⟩
          case measure => simp [intOf]; omega
        | false =>
          have HN := Lib.hid (hnear rfl)
          clear hnear
          by_cases q0 : x.next < -4611686018427387904
          · have d0 : decide (x.next < -4611686018427387904) = true := decide_eq_true q0
            go_wp2_with fail
            go_round
            case rel => exact ⟨k + 1, true, by omega, by go_num, rfl, fun h => by cases h⟩
            case measure => simp [intOf]; omega
          have d0 : decide (x.next < -4611686018427387904) = false := decide_eq_false q0
          by_cases q1 : 4611686018427387904 < x.next
          · have d1 : decide (4611686018427387904 < x.next) = true := decide_eq_true q1
            go_wp2_with fail
            go_round
            case rel => exact ⟨k + 1, true, by omega, by go_num, rfl, fun h => by cases h⟩
            case measure => simp [intOf]; omega
          have d1 : decide (4611686018427387904 < x.next) = false := decide_eq_false q1
          by_cases q2 : x.mat < -4611686018427387904
          · have d2 : decide (x.mat < -4611686018427387904) = true := decide_eq_true q2
            go_wp2_with fail
            go_round
            case rel => exact ⟨k + 1, true, by omega, by go_num, rfl, fun h => by cases h⟩
            case measure => simp [intOf]; omega
          have d2 : decide (x.mat < -4611686018427387904) = false := decide_eq_false q2
          by_cases q3 : 4611686018427387904 < x.mat
          · have d3 : decide (4611686018427387904 < x.mat) = true := decide_eq_true q3
            go_wp2_with fail
            go_round
            case rel => exact ⟨k + 1, true, by omega, by go_num, rfl, fun h => by cases h⟩
            case measure => simp [intOf]; omega
          have d3 : decide (4611686018427387904 < x.mat) = false := decide_eq_false q3
          go_wp2_with fail
          go_round
          case rel => exact ⟨k + 1, false, by omega, by go_num, rfl, fun _ => near_succ HN.out HX.out (by omega) (by omega) (by omega) (by omega)⟩
          case measure => simp [intOf]; omega
      · have hk' : k = l.length := by omega
        have HN := Lib.hid (show b = false → NearBks l index by intro h; have := hnear h; rwa [hk', List.take_length] at this)
        clear hnear hk'
        go_wp2_with fail
        go_ret
        exact farPost_mk (b := b) HN.out
  have e2 : decide (4611686018427387904 < index) = false := decide_eq_false g2
  go_enter Tryd.func32, Tryd.ntmps32
  go_wp2_with fail
  go_loop [5, 6] (fun is i => ∃ (k : Nat) (b : Bool), k ≤ l.length ∧ i = .int .i64 k ∧ is = .bool b ∧ (b = false → NearBks (l.take k) index)) (fun _ i => l.length - (intOf i).toNat)
  case atStart => exact ⟨0, false, by omega, rfl, rfl, fun _ => near_nil (by omega) (by omega) l⟩
  case round =>
    obtain ⟨k, b, hk, rfl, rfl, hnear⟩ := hrel
    by_cases hlt : k < l.length
    · obtain ⟨b', off, rfl, hb, hcell⟩ := hA (by intro h; subst h; simp at hlt)
      obtain ⟨x, hx⟩ : ∃ x, l[k]? = some x := ⟨_, List.getElem?_eq_getElem hlt⟩
      have c1 := hcell k x hx 1 _ rfl
      have c2 := hcell k x hx 2 _ rfl
      have HX := Lib.hid hx
      clear hcell hx hA
      cases b with
      | true =>
        clear hnear
        go_wp2_with fail
        go_round
        case rel => exact ⟨k + 1, true, by omega, by go_num, rfl, fun h => by cases h⟩
        case measure => simp [intOf]; omega
      | false =>
        have HN := Lib.hid (hnear rfl)
        clear hnear
        by_cases q0 : x.next < -4611686018427387904
        · have d0 : decide (x.next < -4611686018427387904) = true := decide_eq_true q0
          go_wp2_with fail
          go_round
          case rel => exact ⟨k + 1, true, by omega, by go_num, rfl, fun h => by cases h⟩
          case measure => simp [intOf]; omega
        have d0 : decide (x.next < -4611686018427387904) = false := decide_eq_false q0
        by_cases q1 : 4611686018427387904 < x.next
        · have d1 : decide (4611686018427387904 < x.next) = true := decide_eq_true q1
          go_wp2_with fail
          go_round
          case rel => exact ⟨k + 1, true, by omega, by go_num, rfl, fun h => by cases h⟩
          case measure => simp [intOf]; omega
        have d1 : decide (4611686018427387904 < x.next) = false := decide_eq_false q1
        by_cases q2 : x.mat < -4611686018427387904
        · have d2 : decide (x.mat < -4611686018427387904) = true := decide_eq_true q2
          go_wp2_with fail
          go_round
          case rel => exact ⟨k + 1, true, by omega, by go_num, rfl, fun h => by cases h⟩
          case measure => simp [intOf]; omega
        have d2 : decide (x.mat < -4611686018427387904) = false := decide_eq_false q2
        by_cases q3 : 4611686018427387904 < x.mat
        · have d3 : decide (4611686018427387904 < x.mat) = true := decide_eq_true q3
          go_wp2_with fail
          go_round
          case rel => exact ⟨k + 1, true, by omega, by go_num, rfl, fun h => by cases h⟩
          case measure => simp [intOf]; omega
        have d3 : decide (4611686018427387904 < x.mat) = false := decide_eq_false q3
        go_wp2_with fail
        go_round
        case rel => exact ⟨k + 1, false, by omega, by go_num, rfl, fun _ => near_succ HN.out HX.out (by omega) (by omega) (by omega) (by omega)⟩
        case measure => simp [intOf]; omega
    · have hk' : k = l.length := by omega
      have HN := Lib.hid (show b = false → NearBks l index by intro h; have := hnear h; rwa [hk', List.take_length] at this)
      clear hnear hk'
      go_wp2_with fail
      go_ret
      exact farPost_mk (b := b) HN.out
end Go.Proofs.YtnhodaconlodbaaDoor
