/-
  THE PACKAGE entry, 6: the number of an error, whether a row follows, its last one: contracts.
-/
import Derived.Test.YtglkgmijhdkhpaaDoorHa45
set_option linter.unusedVariables false
set_option linter.unusedSimpArgs false
namespace Go.Proofs.YtglkgmijhdkhpaaDoor
open Go.RowKit

set_option maxHeartbeats 1000000 in
theorem told_nil (w : World) : Calls Tryd.prog 35 #[.nilIface] w fun e w' => e = .returned (.int .i64 0) ∧ Below w.heap.size w w' := by
  go_enter Tryd.func35, Tryd.ntmps35
  go_wp2_with (go_at_call 26; refine (EntE.as_nil _ _).mono ?_; rintro e w1 ⟨rfl, rfl⟩)
  go_ret
  exact ⟨rfl, below_new _ _⟩
set_option maxHeartbeats 1000000 in
theorem told_brk (k : Nat) (n : Int) (w : World) (hG : errTypeIs w) : Calls Tryd.prog 35 #[.iface 106 (.agg #[.int .i64 k, .iface 78 (.int .i64 n)])] w fun e w' => e = .returned (.int .i64 n) ∧ Below w.heap.size w w' := by
  have HG := Lib.hid (errType_later hG (below_new w (.cells #[.int .i64 0] 78)))
  have HX := Lib.hid (Box.new w #[.int .i64 0] 78)
  clear hG
  go_enter Tryd.func35, Tryd.ntmps35
  go_wp2_with (go_at_call 26; refine (EntE.as_rot w.heap.size k n _ _ HG.out HX.out).mono ?_; rintro e w1 ⟨rfl, hb1, hbut⟩; obtain ⟨kb, -, zb⟩ := hb1.facts)
  go_ret
  exact ⟨rfl, (below_new w (.cells #[.int .i64 0] 78)).trans (hbut.below (Nat.le_refl _) (by simp))⟩

set_option maxRecDepth 100000 in
set_option maxHeartbeats 2000000 in
theorem entFollows (p : Idt) (l : List Ent) (v : Value) (w : World) (hl : Sl 4 entRow w.heap.size w v l) (hin : ∀ x ∈ l, EntIn w.heap.size w x) (hG : errTypeIs w) :
    Calls Tryd.prog 14 #[.agg #[.int .i64 p.idx, .int .i64 p.trm, .int .i64 p.knd], v] w fun e w' => e = .returned (.int .i64 (folE p l)) ∧ Below w.heap.size w w' := by
  obtain ⟨W, hW⟩ : ∃ W : World, W = (w.alloc (.cells #[.int .i64 p.idx, .int .i64 p.trm, .int .i64 p.knd] 31)).alloc (.cells #[.int .i64 p.idx, .int .i64 p.trm, .int .i64 p.knd] 76) := ⟨_, rfl⟩
  have hB : Below w.heap.size w W := by rw [hW]; exact below_call (below_new _ _) (below_new _ _)
  have hX : Box W (w.heap.size + 1) #[.int .i64 p.idx, .int .i64 p.trm, .int .i64 p.knd] 76 := by
    have := Box.new (w.alloc (.cells #[.int .i64 p.idx, .int .i64 p.trm, .int .i64 p.knd] 31)) #[.int .i64 p.idx, .int .i64 p.trm, .int .i64 p.knd] 76
    rw [hW]; simpa using this
  have hz : W.heap.size = w.heap.size + 2 := by rw [hW]; simp
  have HROW := Lib.hid (entRowOf (w.heap.size + 1) p l v W hX ((hl.below hB).more (by omega)) (fun x hx => ((hin x hx).below hB).more (by omega)))
  have HG := Lib.hid (errType_later hG hB)
  have hz2 : w.heap.size + 1 < W.heap.size := by omega
  have HB := Lib.hid hB
  have hG0 : 0 < w.heap.size := World.block_lt_of_cell? _ _ hG
  clear hB hX hz hl hin hG
  go_enter Tryd.func14, Tryd.ntmps14
  go_wp2_with fail
  rw [← hW]
  clear hW
  refine HROW.out.mono ?_
  rintro e w1 ⟨hr, hb1⟩
  have HB1 := Lib.hid (HB.out.trans (hb1.mono (by omega)))
  have G1 : errTypeIs w1 := (hb1.cell (p := ⟨0, 0, none⟩) (by show 0 < w.heap.size + 1; omega)).trans HG.out
  have HG1 := Lib.hid G1
  clear hb1 G1
  rcases hr with ⟨rfl, hf⟩ | ⟨k, n, rfl, hf, hn⟩
  · have HF := Lib.hid hf
    clear hf
    go_wp2_with (first
      | (go_at_call 25; refine (EntE.is_nil 12 _).mono ?_; rintro e w2 ⟨rfl, rfl⟩)
      | (go_at_call 35; refine (told_nil _).mono ?_; rintro e w3 ⟨rfl, hb3⟩))
    go_ret
    exact ⟨ret_int HF.out.symm, HB1.out.trans (hb3.mono HB1.out.size)⟩
  · have HF := Lib.hid hf
    by_cases h12 : n = 12
    · have e1 : (n == 12) = true := by simpa using h12
      have H12 := Lib.hid h12
      clear hf h12 hn
      unfold brkV
      go_wp2_with (go_at_call 25; refine (EntE.is_wrap k n 12 _).mono ?_; rintro e w2 ⟨rfl, hb2⟩; rw [e1])
      go_ret
      exact ⟨ret_int (by rw [HF.out, H12.out]), HB1.out.trans (hb2.mono HB1.out.size)⟩
    · have e1 : (n == 12) = false := by simpa using h12
      clear hf h12 hn
      unfold brkV
      go_wp2_with (first
        | (go_at_call 25; refine (EntE.is_wrap k n 12 _).mono ?_; rintro e w2 ⟨rfl, hb2⟩; rw [e1])
        | (go_at_call 35; refine (told_brk k n _ (errType_later HG1.out hb2)).mono ?_; rintro e w3 ⟨rfl, hb3⟩))
      go_ret
      exact ⟨ret_int HF.out.symm, HB1.out.trans ((below_call hb2 hb3).mono HB1.out.size)⟩

theorem last_get {l : List Ent} {p : Idt} {x : Ent} (hx : l[l.length - 1]? = some x) : lastE p l = ofE x := by
  have hl : l.length - 1 < l.length := (List.getElem?_eq_some_iff.1 hx).1
  have h := last_take (p := p) hx
  rwa [show l.length - 1 + 1 = l.length by omega, List.take_length] at h

end Go.Proofs.YtglkgmijhdkhpaaDoor
