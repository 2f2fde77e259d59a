/-
  THE PACKAGE entry, 6: the number of an error, whether a row follows, its last one: contracts.
-/
import Derived.Test.YtfglkpcboodllaaGreatDoorEnt5
set_option linter.unusedVariables false
set_option linter.unusedSimpArgs false
namespace Go.Proofs.YtfglkpcboodllaaGreatDoor
open Go.RowKit

set_option maxHeartbeats 1000000 in
theorem told_nil (w : World) : Calls Tryz.prog 114 #[.nilIface] w fun e w' => e = .returned (.int .i64 0) ∧ Below w.heap.size w w' := by
  go_enter Tryz.func114, Tryz.ntmps114
  go_wp2_with (go_at_call 80; refine (EntE.as_nil _ _).mono ?_; rintro e w1 ⟨rfl, rfl⟩)
  go_ret
  exact ⟨rfl, below_new _ _⟩
set_option maxHeartbeats 1000000 in
theorem told_brk (k : Nat) (n : Int) (w : World) (hG : errTypeIs w) : Calls Tryz.prog 114 #[.iface 209 (.agg #[.int .i64 k, .iface 165 (.int .i64 n)])] w fun e w' => e = .returned (.int .i64 n) ∧ Below w.heap.size w w' := by
  have HG := Lib.hid (errType_later hG (below_new w (.cells #[.int .i64 0] 165)))
  have HX := Lib.hid (Box.new w #[.int .i64 0] 165)
  clear hG
  go_enter Tryz.func114, Tryz.ntmps114
  go_wp2_with (go_at_call 80; refine (EntE.as_rot w.heap.size k n _ _ HG.out HX.out).mono ?_; rintro e w1 ⟨rfl, hb1, hbut⟩; obtain ⟨kb, -, zb⟩ := hb1.facts)
  go_ret
  exact ⟨rfl, (below_new w (.cells #[.int .i64 0] 165)).trans (hbut.below (Nat.le_refl _) (by simp))⟩

set_option maxRecDepth 100000 in
set_option maxHeartbeats 2000000 in
theorem entFollows (p : Idt) (l : List Ent) (v : Value) (w : World) (hl : Sl 4 entRow w.heap.size w v l) (hin : ∀ x ∈ l, EntIn w.heap.size w x) (hG : errTypeIs w) :
    Calls Tryz.prog 57 #[.agg #[.int .i64 p.idx, .int .i64 p.trm, .int .i64 p.knd], v] w fun e w' => e = .returned (.int .i64 (folE p l)) ∧ Below w.heap.size w w' := by
  obtain ⟨W, hW⟩ : ∃ W : World, W = (w.alloc (.cells #[.int .i64 p.idx, .int .i64 p.trm, .int .i64 p.knd] 25)).alloc (.cells #[.int .i64 p.idx, .int .i64 p.trm, .int .i64 p.knd] 163) := ⟨_, rfl⟩
  have hB : Below w.heap.size w W := by rw [hW]; exact below_call (below_new _ _) (below_new _ _)
  have hX : Box W (w.heap.size + 1) #[.int .i64 p.idx, .int .i64 p.trm, .int .i64 p.knd] 163 := by
    have := Box.new (w.alloc (.cells #[.int .i64 p.idx, .int .i64 p.trm, .int .i64 p.knd] 25)) #[.int .i64 p.idx, .int .i64 p.trm, .int .i64 p.knd] 163
    rw [hW]; simpa using this
  have hz : W.heap.size = w.heap.size + 2 := by rw [hW]; simp
  have HROW := Lib.hid (entRowOf (w.heap.size + 1) p l v W hX ((hl.below hB).more (by omega)) (fun x hx => ((hin x hx).below hB).more (by omega)))
  have HG := Lib.hid (errType_later hG hB)
  have hz2 : w.heap.size + 1 < W.heap.size := by omega
  have HB := Lib.hid hB
  have hG0 : 0 < w.heap.size := World.block_lt_of_cell? _ _ hG
  clear hB hX hz hl hin hG
  go_enter Tryz.func57, Tryz.ntmps57
  go_wp2_with fail
  rw [← hW]
  clear hW
  refine HROW.out.mono ?_
  rintro e w1 ⟨hr, hb1⟩
  have HB1 := Lib.hid (HB.out.trans (hb1.mono (by omega)))
  have G1 : errTypeIs w1 := (hb1.cell (p := ⟨0, 0, none⟩) (by show 0 < w.heap.size + 1; omega)).trans HG.out
  have HG1 := Lib.hid G1
  clear hb1 G1
  rcases hr with ⟨rfl, hf⟩ | ⟨k, n, rfl, hf, hn⟩
  · have HF := Lib.hid hf
    clear hf
    go_wp2_with (first
      | (go_at_call 99; refine (EntE.is_nil 12 _).mono ?_; rintro e w2 ⟨rfl, rfl⟩)
      | (go_at_call 114; refine (told_nil _).mono ?_; rintro e w3 ⟨rfl, hb3⟩))
    go_ret
    exact ⟨ret_int HF.out.symm, HB1.out.trans (hb3.mono HB1.out.size)⟩
  · have HF := Lib.hid hf
    by_cases h12 : n = 12
    · have e1 : (n == 12) = true := by simpa using h12
      have H12 := Lib.hid h12
      clear hf h12 hn
      unfold brkV
      go_wp2_with (go_at_call 99; refine (EntE.is_wrap k n 12 _).mono ?_; rintro e w2 ⟨rfl, hb2⟩; rw [e1])
      go_ret
      exact ⟨ret_int (by rw [HF.out, H12.out]), HB1.out.trans (hb2.mono HB1.out.size)⟩
    · have e1 : (n == 12) = false := by simpa using h12
      clear hf h12 hn
      unfold brkV
      go_wp2_with (first
        | (go_at_call 99; refine (EntE.is_wrap k n 12 _).mono ?_; rintro e w2 ⟨rfl, hb2⟩; rw [e1])
        | (go_at_call 114; refine (told_brk k n _ (errType_later HG1.out hb2)).mono ?_; rintro e w3 ⟨rfl, hb3⟩))
      go_ret
      exact ⟨ret_int HF.out.symm, HB1.out.trans ((below_call hb2 hb3).mono HB1.out.size)⟩

theorem last_get {l : List Ent} {p : Idt} {x : Ent} (hx : l[l.length - 1]? = some x) : lastE p l = ofE x := by
  have hl : l.length - 1 < l.length := (List.getElem?_eq_some_iff.1 hx).1
  have h := last_take (p := p) hx
  rwa [show l.length - 1 + 1 = l.length by omega, List.take_length] at h

set_option maxHeartbeats 1000000 in
theorem entLast (p : Idt) (l : List Ent) (v : Value) (w : World) (hl : Sl 4 entRow w.heap.size w v l) :
    Calls Tryz.prog 55 #[.agg #[.int .i64 p.idx, .int .i64 p.trm, .int .i64 p.knd], v] w fun e w' => e = .returned (.agg #[.int .i64 (lastE p l).idx, .int .i64 (lastE p l).trm, .int .i64 (lastE p l).knd]) ∧ Below w.heap.size w w' := by
  obtain ⟨A, cap, rfl, hlc, hcm, -, hA⟩ := hl
  have hn : l.length ≤ 9223372036854775807 := by unfold maxLen at hcm; omega
  clear hcm
  by_cases h0 : l.length = 0
  · have hl0 : l = [] := List.eq_nil_of_length_eq_zero h0
    subst hl0
    have d0 : decide (0 < ([] : List Ent).length) = false := rfl
    clear hA h0
    go_enter Tryz.func55, Tryz.ntmps55
    go_wp2_with fail
    refine bodyPost_ret (v := .agg #[.int .i64 p.idx, .int .i64 p.trm, .int .i64 p.knd]) (by simp [results, Tryz.results55, go_sem]) rfl ⟨rfl, ?_⟩
    first | exact below_call (below_new _ _) (below_new _ _) | (repeat (first | exact Below.refl _ _ | refine Below.alloc ?_ (by simp) _ | refine below_set ?_ (by simp)))
  · obtain ⟨x, hx⟩ : ∃ x, l[l.length - 1]? = some x := ⟨_, List.getElem?_eq_getElem (by omega)⟩
    obtain ⟨b, off, rfl, hb, hcell⟩ := hA (by intro h; subst h; simp at h0)
    have c0 : w.cell? ⟨b, off + (l.length - 1) * 4, none⟩ = _ := hcell (l.length - 1) x hx 0 _ rfl
    have c1 := hcell (l.length - 1) x hx 1 _ rfl
    have c2 := hcell (l.length - 1) x hx 2 _ rfl
    have c3 := hcell (l.length - 1) x hx 3 _ rfl
    obtain ⟨j, hj⟩ : ∃ j, j = l.length - 1 := ⟨_, rfl⟩
    rw [← hj] at c0 c1 c2 c3
    have e1 : IntKind.i64.wrap ((l.length : Int) - 1) = (j : Int) := by rw [IntWalk.i64_in _ (by omega)]; omega
    have e2 : (l.length : Int) - 1 = (j : Int) := by omega
    have d0 : decide (0 < l.length) = true := decide_eq_true (by omega)
    have d1 : 0 < l.length := by omega
    have i0 : (0 : Int) ≤ (j : Int) := by omega
    have i1 : (j : Int) < (l.length : Int) := by omega
    have HL := Lib.hid (last_get (p := p) hx)
    clear hcell hx hA h0 hj
    go_enter Tryz.func55, Tryz.ntmps55
    go_wp2_with (go_at_call 51; refine (entOf x _).mono ?_; rintro e w1 ⟨rfl, b1⟩; obtain ⟨pa, pb, P⟩ := boxes2 _ _ _ _ b1; obtain ⟨kb, fb, zb⟩ := pb.facts)
    refine bodyPost_ret (v := .agg #[.int .i64 x.idx, .int .i64 x.trm, .int .i64 x.knd]) (by simp [results, Tryz.results55, go_sem, kb]) rfl ⟨by rw [HL.out]; rfl, ?_⟩
    exact below_set (below_set (below_set P (by simp)) (by simp)) (by simp)
end Go.Proofs.YtfglkpcboodllaaGreatDoor
