/-
  THE PACKAGE lead, 3: gots, Keep, Begin, Matches.
-/
import Derived.Test.YtnhodaconlodbaaDoorLead2
namespace Go.Proofs.YtnhodaconlodbaaDoor
open Go.RowKit
set_option linter.unusedVariables false

set_option maxHeartbeats 400000 in
theorem got (l : List Bk) (v : Value) (who index piece : Int) (yes : Bool) (w : World) (h : Sl 4 bkRow w.heap.size w v l) (hn : l.length ≤ 4294967296)
    (hm : ∀ x ∈ l, -4611686018427387904 ≤ x.mat ∧ x.mat ≤ 4611686018427387904) :
    Calls Tryd.prog 45 #[v, .int .i64 who, .int .i64 index, .int .i64 piece, .bool yes] w fun e w' => ∃ v', e = .returned v' ∧ Sl 4 bkRow w'.heap.size w' v' (gotBks l who index piece yes) ∧ Below w.heap.size w w' := by
  have h' := ((h.alloc (.cells #[.int .i64 index] 3)).alloc (.cells #[.int .i64 piece] 3)).alloc (.cells #[.bool yes] 4)
  rcases idxOf_cases l who with ⟨k, y, hk, hy, hw, hi, hf, hno⟩ | ⟨hi, hf⟩
  · obtain ⟨m1, m2⟩ := hm y (List.mem_of_getElem? hy)
    have HT := Lib.hid (show gotBks l who index piece yes = l.set k (gotBk y index piece yes) from turnBks_set hno hy hw)
    have HY := Lib.hid hy
    have HI := Lib.hid hi
    clear hm hy hw hi hf hno
    go_enter Tryd.func45, Tryd.ntmps45
    go_wp2_with fail
    refine (ofL l _ _ h' hn).mono ?_
    rintro e w' ⟨v', rfl, hown, hB'⟩
    have b1 := (((Box.new w #[.int .i64 index] 3).alloc (.cells #[.int .i64 piece] 3)).alloc (.cells #[.bool yes] 4)).later hB'
    have b2 := ((Box.new (w.alloc (.cells #[.int .i64 index] 3)) #[.int .i64 piece] 3).alloc (.cells #[.bool yes] 4)).later hB'
    have b3 := (Box.new ((w.alloc (.cells #[.int .i64 index] 3)).alloc (.cells #[.int .i64 piece] 3)) #[.bool yes] 4).later hB'
    have hbl : Below w.heap.size w w' := below_call (((below_new _ _).trans ((Below.refl _ _).alloc (by simp) _)).trans ((Below.refl _ _).alloc (by simp; omega) _)) hB'
    obtain ⟨A', n', c', hv⟩ := hown.form
    subst hv
    go_wp2_with fail
    have c1 := b1.alloc (.cells #[.slice A' n' c'] 128)
    have c2 := b2.alloc (.cells #[.slice A' n' c'] 128)
    have c4 := b3.alloc (.cells #[.slice A' n' c'] 128)
    have c3 := Box.new w' #[.slice A' n' c'] 128
    refine (turn_some l y _ who 77 _ (callFunc_enter Tryd.func77 (by kernel_rfl) rfl) (fun g w1 w2 => Own 4 bkRow 24 (((w.alloc (.cells #[.int .i64 index] 3)).alloc (.cells #[.int .i64 piece] 3)).alloc (.cells #[.bool yes] 4)).heap.size w2 (.slice A' n' c') (l.set k (gotBk y index piece yes)) ∧
        (∀ i, i < w1.heap.size → i ≠ g → i ≠ w.heap.size + 1 → w2.heap[i]? = w1.heap[i]?) ∧ w2.os = w1.os ∧ w2.tape = w1.tape ∧ w2.output = w1.output ∧ w1.heap.size ≤ w2.heap.size) _ (hown.alloc _) HY.out HI.out ?_).mono ?_
    · intro w1 g cap hv hb ho
      have d1 := c1.later hb
      have d2 := c2.later hb
      have d4 := c4.later hb
      have hv' := hv
      simp only [Value.slice.injEq] at hv'
      obtain ⟨rfl, rfl, rfl⟩ := hv'
      have hgl := (World.ownsRow.lt hown g rfl).1
      simp at hgl
      exact got1 index piece yes w1 ho HY.out m1 m2 (by simpa using d4.cell 0) (d1.cell 0) (by simpa using d2) (by omega)
    · rintro e w2 ⟨rfl, g, cap, w1, hv, hg, hgs, hb, ho, hbut, q1, q2, q3, q4⟩
      cases hv
      have hgl := (World.ownsRow.lt hown g rfl).2
      have hgb : w.heap.size ≤ g := by simp at hg; omega
      have hz := hB'.size
      have hzz := hb.size
      simp at hz hzz
      have d3 : Box w2 w'.heap.size #[.slice (some ⟨g, 0, none⟩) l.length c'] 128 := (hbut _ (by omega) (by omega) (by omega)).trans (c3.later hb)
      obtain ⟨k3, f3, z3⟩ := d3.facts
      have k4 := k3 0
      have HOb := Lib.hid ho
      have hb2 : Below w.heap.size w w1 := (below_call hbl (below_new _ _)).trans (hb.mono (by simp; omega))
      have HBb : Hid (Below w.heap.size w w2) := hb2.trans ⟨q1, q2, q3, q4, fun i hi => hbut i (by omega) (by omega) (by omega)⟩
      clear k3 ho hbut q1 q2 q3 q4
      go_wp2_with fail
      go_ret
      exact ⟨_, rfl, by rw [HT.out]; exact HOb.out.sl bkRow_length, HBb.out⟩
  · have HT := Lib.hid (show gotBks l who index piece yes = l from turnBks_none hf)
    have HF := Lib.hid hf
    clear hm hi hf
    go_enter Tryd.func45, Tryd.ntmps45
    go_wp2_with fail
    refine (ofL l _ _ h' hn).mono ?_
    rintro e w' ⟨v', rfl, hown, hB'⟩
    obtain ⟨A', n', c', hv⟩ := hown.form
    subst hv
    go_wp2_with fail
    refine (turn_none l _ who _ _ _ _ ((hown.alloc _).sl bkRow_length) HF.out).mono ?_
    rintro e w2 ⟨rfl, hb⟩
    obtain ⟨k3, f3, z3⟩ := ((Box.new w' #[.slice A' n' c'] 128).later hb).facts
    have k4 := k3 0
    have HO := Lib.hid ((hown.alloc (.cells #[.slice A' n' c'] 128)).later hb)
    have HBb : Hid (Below w.heap.size w w2) := below_call (below_call (below_call (((below_new _ _).trans ((Below.refl _ _).alloc (by simp) _)).trans ((Below.refl _ _).alloc (by simp; omega) _)) hB') (below_new _ _)) hb
    clear k3 hown hb
    go_wp2_with fail
    go_ret
    exact ⟨_, rfl, by rw [HT.out]; exact HO.out.sl bkRow_length, HBb.out⟩

set_option maxHeartbeats 1000000 in
theorem keep (l : List Bk) (ms : List Int) (v vm : Value) (self last : Int) (w : World) (h : Sl 4 bkRow w.heap.size w v l) (hm : Sl 1 i64Row w.heap.size w vm ms) (hn : ms.length ≤ 4294967295)
    (hl1 : -9223372036854775808 ≤ last) (hl2 : last ≤ 9223372036854775806) :
    Calls Tryd.prog 41 #[v, vm, .int .i64 self, .int .i64 last] w fun e w' => ∃ v', e = .returned v' ∧ Own 4 bkRow 24 w.heap.size w' v' (keepBks l ms self last) ∧ Below w.heap.size w w' := by
  obtain ⟨A, cap, rfl, hlc, hcm, -, hA⟩ := hm
  clear hcm
  go_enter Tryd.func41, Tryd.ntmps41
  go_wp2_with fail
  go_loopw [8, 10, 11, 12, 15] (fun out _ _ _ j wr => ∃ k : Nat, k ≤ ms.length ∧ j = .int .i64 k ∧ Own 4 bkRow 24 w.heap.size wr out (keepBks l (ms.take k) self last) ∧ Below w.heap.size w wr) (fun _ _ _ _ j _ => ms.length - (intOf j).toNat)
  case atStart => exact ⟨0, by omega, rfl, Own.nil_ _ _ _ _ _, Below.refl _ _⟩
  case round =>
    obtain ⟨k, hk, rfl, hown, hB⟩ := hrel
    by_cases hlt : k < ms.length
    · obtain ⟨b, off, rfl, hb, hcell⟩ := hA (by intro h; subst h; simp at hlt)
      obtain ⟨m, hx⟩ : ∃ x, ms[k]? = some x := ⟨_, List.getElem?_eq_getElem hlt⟩
      have c0 : wr.cell? ⟨b, off + k, none⟩ = some (.int .i64 m) := by simpa using (hB.cell (p := ⟨b, off + k * 1 + 0, none⟩) hb).trans (hcell k m hx 0 _ rfl)
      have hle := keepBks_le l (ms.take k) self last
      have hle2 : (ms.take k).length ≤ k := List.length_take_le _ _
      have HX := Lib.hid hx
      clear hcell hx
      by_cases hself : m = self
      · have HS := Lib.hid hself
        have hs1 : (m == self) = true := by simpa using hself
        clear hself
        go_wp2_with fail
        go_roundw
        case rel => exact ⟨k + 1, by omega, by go_num, by rw [keepBks_skip HX.out HS.out]; exact hown, hB⟩
        case measure => simp [intOf]; omega
      · have HS := Lib.hid hself
        have hs1 : (m == self) = false := by simpa using hself
        clear hself
        have hSl := (h.below hB).more hB.size
        rcases hf : findBk l m with _ | x
        · have HK := Lib.hid (show keptBk l last m = ⟨m, last + 1, 0, 0⟩ by simp [keptBk, hf])
          go_wp2_with fail
          refine (find_none m l v _ hSl hf).mono ?_
          rintro e w1 ⟨rfl, hB1⟩
          have ho1 := Lib.hid ((hown.later hB1).alloc (.cells #[.int .i64 m, .int .i64 (last + 1), .int .i64 0, .int .i64 0] 24))
          have hB2 := Lib.hid (below_call (below_call hB hB1) (below_new w1 (.cells #[.int .i64 m, .int .i64 (last + 1), .int .i64 0, .int .i64 0] 24)))
          have hz := (below_call hB hB1).size
          clear hown hB hB1 hf hSl
          go_wp2_with (at_builtin; refine wpList_append_row _ rfl (.tmp 34) (.tmp 36) 26 rfl w.heap.size 24 _ 4 32 Tryd.underlying26 bookInfo rfl (by omega) bkRow bkRow_length bkRow_one _ _ rfl ho1.out ⟨m, last + 1, 0, 0⟩ _ rfl 24 _ rfl (by simp) (by omega) (by omega) (by simp; omega) ?_; intro v' w2 p1 p2 p3 p4 p5)
          have P2 := Lib.hid (hB2.out.trans p2)
          clear p2 p3 p4 p5
          go_roundw
          case rel => exact ⟨k + 1, by omega, by go_num, by rw [keepBks_more HX.out HS.out, HK.out]; exact p1, P2.out⟩
          case measure => simp [intOf]; omega
        · have HK := Lib.hid (show keptBk l last m = x by simp [keptBk, hf])
          go_wp2_with fail
          refine (find_some m l x v _ hSl hf).mono ?_
          rintro e w1 ⟨rfl, hB1⟩
          have ho1 := Lib.hid ((hown.later hB1).alloc (.cells #[.int .i64 x.who, .int .i64 x.next, .int .i64 x.mat, .int .i64 x.piece] 24))
          have hB2 := Lib.hid (below_call (below_call hB hB1) (below_new w1 (.cells #[.int .i64 x.who, .int .i64 x.next, .int .i64 x.mat, .int .i64 x.piece] 24)))
          have hz := (below_call hB hB1).size
          clear hown hB hB1 hf hSl
          go_wp2_with (at_builtin; refine wpList_append_row _ rfl (.tmp 34) (.tmp 36) 26 rfl w.heap.size 24 _ 4 32 Tryd.underlying26 bookInfo rfl (by omega) bkRow bkRow_length bkRow_one _ _ rfl ho1.out x _ rfl 24 _ rfl (by simp) (by omega) (by omega) (by simp; omega) ?_; intro v' w2 p1 p2 p3 p4 p5)
          have P2 := Lib.hid (hB2.out.trans p2)
          clear p2 p3 p4 p5
          go_roundw
          case rel => exact ⟨k + 1, by omega, by go_num, by rw [keepBks_more HX.out HS.out, HK.out]; exact p1, P2.out⟩
          case measure => simp [intOf]; omega
    · have hk' : k = ms.length := by omega
      have HO := Lib.hid (show Own 4 bkRow 24 w.heap.size wr u8 (keepBks l ms self last) by rw [hk', List.take_length] at hown; exact hown)
      clear hown hk'
      go_wp2
      go_ret
      exact ⟨_, rfl, HO.out, hB⟩

set_option maxHeartbeats 400000 in
theorem begin_ (ms : List Int) (vm : Value) (self last : Int) (w : World) (hm : Sl 1 i64Row w.heap.size w vm ms) (hn : ms.length ≤ 4294967295)
    (hl1 : -9223372036854775808 ≤ last) (hl2 : last ≤ 9223372036854775806) :
    Calls Tryd.prog 39 #[vm, .int .i64 self, .int .i64 last] w fun e w' => ∃ v', e = .returned v' ∧ Own 4 bkRow 24 w.heap.size w' v' (keepBks [] ms self last) ∧ Below w.heap.size w w' := by
  go_enter Tryd.func39, Tryd.ntmps39
  go_wp2_with fail
  refine (keep [] ms _ vm self last w (Sl.nil_ _ _ _ _) hm hn hl1 hl2).mono ?_
  rintro e w1 ⟨v', rfl, ho, hb⟩
  go_wp2_with fail
  go_ret
  exact ⟨_, rfl, ho, hb⟩
end Go.Proofs.YtnhodaconlodbaaDoor
