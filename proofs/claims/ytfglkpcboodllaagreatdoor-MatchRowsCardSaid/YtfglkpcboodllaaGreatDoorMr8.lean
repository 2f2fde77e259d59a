/-
  Merged: Ent6, Fit0.
-/
import Derived.Test.YtfglkpcboodllaaGreatDoorMr7
import Derived.Test.YtfglkpcboodllaaGreatDoorMr5
import Derived.Test.YtfglkpcboodllaaGreatDoorMr4
/-
  THE PACKAGE entry, 6: the number of an error, whether a row follows, its last one: contracts.
-/
set_option linter.unusedVariables false
set_option linter.unusedSimpArgs false
namespace Go.Proofs.YtfglkpcboodllaaGreatDoor
open Go.RowKit

set_option maxHeartbeats 1000000 in
theorem told_nil (w : World) : Calls Tryz.prog 114 #[.nilIface] w fun e w' => e = .returned (.int .i64 0) ∧ Below w.heap.size w w' := by
  go_enter Tryz.func114, Tryz.ntmps114
  go_wp2_with (go_at_call 80; refine (EntE.as_nil _ _).mono ?_; rintro e w1 ⟨rfl, rfl⟩)
  go_ret
  exact ⟨rfl, below_new _ _⟩
set_option maxHeartbeats 1000000 in
theorem told_brk (k : Nat) (n : Int) (w : World) (hG : errTypeIs w) : Calls Tryz.prog 114 #[.iface 209 (.agg #[.int .i64 k, .iface 165 (.int .i64 n)])] w fun e w' => e = .returned (.int .i64 n) ∧ Below w.heap.size w w' := by
  have HG := Lib.hid (errType_later hG (below_new w (.cells #[.int .i64 0] 165)))
  have HX := Lib.hid (Box.new w #[.int .i64 0] 165)
  clear hG
  go_enter Tryz.func114, Tryz.ntmps114
  go_wp2_with (go_at_call 80; refine (EntE.as_rot w.heap.size k n _ _ HG.out HX.out).mono ?_; rintro e w1 ⟨rfl, hb1, hbut⟩; obtain ⟨kb, -, zb⟩ := hb1.facts)
  go_ret
  exact ⟨rfl, (below_new w (.cells #[.int .i64 0] 165)).trans (hbut.below (Nat.le_refl _) (by simp))⟩

set_option maxRecDepth 100000 in
set_option maxHeartbeats 2000000 in
theorem entFollows (p : Idt) (l : List Ent) (v : Value) (w : World) (hl : Sl 4 entRow w.heap.size w v l) (hin : ∀ x ∈ l, EntIn w.heap.size w x) (hG : errTypeIs w) :
    Calls Tryz.prog 57 #[.agg #[.int .i64 p.idx, .int .i64 p.trm, .int .i64 p.knd], v] w fun e w' => e = .returned (.int .i64 (folE p l)) ∧ Below w.heap.size w w' := by
  obtain ⟨W, hW⟩ : ∃ W : World, W = (w.alloc (.cells #[.int .i64 p.idx, .int .i64 p.trm, .int .i64 p.knd] 25)).alloc (.cells #[.int .i64 p.idx, .int .i64 p.trm, .int .i64 p.knd] 163) := ⟨_, rfl⟩
  have hB : Below w.heap.size w W := by rw [hW]; exact below_call (below_new _ _) (below_new _ _)
  have hX : Box W (w.heap.size + 1) #[.int .i64 p.idx, .int .i64 p.trm, .int .i64 p.knd] 163 := by
    have := Box.new (w.alloc (.cells #[.int .i64 p.idx, .int .i64 p.trm, .int .i64 p.knd] 25)) #[.int .i64 p.idx, .int .i64 p.trm, .int .i64 p.knd] 163
    rw [hW]; simpa using this
  have hz : W.heap.size = w.heap.size + 2 := by rw [hW]; simp
  have HROW := Lib.hid (entRowOf (w.heap.size + 1) p l v W hX ((hl.below hB).more (by omega)) (fun x hx => ((hin x hx).below hB).more (by omega)))
  have HG := Lib.hid (errType_later hG hB)
  have hz2 : w.heap.size + 1 < W.heap.size := by omega
  have HB := Lib.hid hB
  have hG0 : 0 < w.heap.size := World.block_lt_of_cell? _ _ hG
  clear hB hX hz hl hin hG
  go_enter Tryz.func57, Tryz.ntmps57
  go_wp2_with fail
  rw [← hW]
  clear hW
  refine HROW.out.mono ?_
  rintro e w1 ⟨hr, hb1⟩
  have HB1 := Lib.hid (HB.out.trans (hb1.mono (by omega)))
  have G1 : errTypeIs w1 := (hb1.cell (p := ⟨0, 0, none⟩) (by show 0 < w.heap.size + 1; omega)).trans HG.out
  have HG1 := Lib.hid G1
  clear hb1 G1
  rcases hr with ⟨rfl, hf⟩ | ⟨k, n, rfl, hf, hn⟩
  · have HF := Lib.hid hf
    clear hf
    go_wp2_with (first
      | (go_at_call 99; refine (EntE.is_nil 12 _).mono ?_; rintro e w2 ⟨rfl, rfl⟩)
      | (go_at_call 114; refine (told_nil _).mono ?_; rintro e w3 ⟨rfl, hb3⟩))
    go_ret
    exact ⟨ret_int HF.out.symm, HB1.out.trans (hb3.mono HB1.out.size)⟩
  · have HF := Lib.hid hf
    by_cases h12 : n = 12
    · have e1 : (n == 12) = true := by simpa using h12
      have H12 := Lib.hid h12
      clear hf h12 hn
      unfold brkV
      go_wp2_with (go_at_call 99; refine (EntE.is_wrap k n 12 _).mono ?_; rintro e w2 ⟨rfl, hb2⟩; rw [e1])
      go_ret
      exact ⟨ret_int (by rw [HF.out, H12.out]), HB1.out.trans (hb2.mono HB1.out.size)⟩
    · have e1 : (n == 12) = false := by simpa using h12
      clear hf h12 hn
      unfold brkV
      go_wp2_with (first
        | (go_at_call 99; refine (EntE.is_wrap k n 12 _).mono ?_; rintro e w2 ⟨rfl, hb2⟩; rw [e1])
        | (go_at_call 114; refine (told_brk k n _ (errType_later HG1.out hb2)).mono ?_; rintro e w3 ⟨rfl, hb3⟩))
      go_ret
      exact ⟨ret_int HF.out.symm, HB1.out.trans ((below_call hb2 hb3).mono HB1.out.size)⟩

theorem last_get {l : List Ent} {p : Idt} {x : Ent} (hx : l[l.length - 1]? = some x) : lastE p l = ofE x := by
  have hl : l.length - 1 < l.length := (List.getElem?_eq_some_iff.1 hx).1
  have h := last_take (p := p) hx
  rwa [show l.length - 1 + 1 = l.length by omega, List.take_length] at h

set_option maxHeartbeats 1000000 in
theorem entLast (p : Idt) (l : List Ent) (v : Value) (w : World) (hl : Sl 4 entRow w.heap.size w v l) :
    Calls Tryz.prog 55 #[.agg #[.int .i64 p.idx, .int .i64 p.trm, .int .i64 p.knd], v] w fun e w' => e = .returned (.agg #[.int .i64 (lastE p l).idx, .int .i64 (lastE p l).trm, .int .i64 (lastE p l).knd]) ∧ Below w.heap.size w w' := by
  obtain ⟨A, cap, rfl, hlc, hcm, -, hA⟩ := hl
  have hn : l.length ≤ 9223372036854775807 := by unfold maxLen at hcm; omega
  clear hcm
  by_cases h0 : l.length = 0
  · have hl0 : l = [] := List.eq_nil_of_length_eq_zero h0
    subst hl0
    have d0 : decide (0 < ([] : List Ent).length) = false := rfl
    clear hA h0
    go_enter Tryz.func55, Tryz.ntmps55
    go_wp2_with fail
    refine bodyPost_ret (v := .agg #[.int .i64 p.idx, .int .i64 p.trm, .int .i64 p.knd]) (by simp [results, Tryz.results55, go_sem]) rfl ⟨rfl, ?_⟩
    first | exact below_call (below_new _ _) (below_new _ _) | (repeat (first | exact Below.refl _ _ | refine Below.alloc ?_ (by simp) _ | refine below_set ?_ (by simp)))
  · obtain ⟨x, hx⟩ : ∃ x, l[l.length - 1]? = some x := ⟨_, List.getElem?_eq_getElem (by omega)⟩
    obtain ⟨b, off, rfl, hb, hcell⟩ := hA (by intro h; subst h; simp at h0)
    have c0 : w.cell? ⟨b, off + (l.length - 1) * 4, none⟩ = _ := hcell (l.length - 1) x hx 0 _ rfl
    have c1 := hcell (l.length - 1) x hx 1 _ rfl
    have c2 := hcell (l.length - 1) x hx 2 _ rfl
    have c3 := hcell (l.length - 1) x hx 3 _ rfl
    obtain ⟨j, hj⟩ : ∃ j, j = l.length - 1 := ⟨_, rfl⟩
    rw [← hj] at c0 c1 c2 c3
    have e1 : IntKind.i64.wrap ((l.length : Int) - 1) = (j : Int) := by rw [IntWalk.i64_in _ (by omega)]; omega
    have e2 : (l.length : Int) - 1 = (j : Int) := by omega
    have d0 : decide (0 < l.length) = true := decide_eq_true (by omega)
    have d1 : 0 < l.length := by omega
    have i0 : (0 : Int) ≤ (j : Int) := by omega
    have i1 : (j : Int) < (l.length : Int) := by omega
    have HL := Lib.hid (last_get (p := p) hx)
    clear hcell hx hA h0 hj
    go_enter Tryz.func55, Tryz.ntmps55
    go_wp2_with (go_at_call 51; refine (entOf x _).mono ?_; rintro e w1 ⟨rfl, b1⟩; obtain ⟨pa, pb, P⟩ := boxes2 _ _ _ _ b1; obtain ⟨kb, fb, zb⟩ := pb.facts)
    refine bodyPost_ret (v := .agg #[.int .i64 x.idx, .int .i64 x.trm, .int .i64 x.knd]) (by simp [results, Tryz.results55, go_sem, kb]) rfl ⟨by rw [HL.out]; rfl, ?_⟩
    exact below_set (below_set (below_set P (by simp)) (by simp)) (by simp)
end Go.Proofs.YtfglkpcboodllaaGreatDoor
/-
  match's Fit of no entries, at an identity that the view has; End: contracts.
-/
set_option linter.unusedVariables false
set_option linter.unusedSimpArgs false
namespace Go.Proofs.YtfglkpcboodllaaGreatDoor
open Go.RowKit

theorem Box.set5 {w : World} {n : Nat} {a b c d e : Value} {t : TypeId} (h : Box w n #[a, b, c, d, e] t) (x y z u v : Value) :
    Box (((((w.setCell ⟨n, 0, none⟩ x).setCell ⟨n, 1, none⟩ y).setCell ⟨n, 2, none⟩ z).setCell ⟨n, 3, none⟩ u).setCell ⟨n, 4, none⟩ v) n #[x, y, z, u, v] t := ((((h.set_ 0 x).set_ 1 y).set_ 2 z).set_ 3 u).set_ 4 v
theorem below_set5 {B : Nat} {a w : World} {n : Nat} (h : Below B a w) (hn : B ≤ n) (x y z u v : Value) :
    Below B a (((((w.setCell ⟨n, 0, none⟩ x).setCell ⟨n, 1, none⟩ y).setCell ⟨n, 2, none⟩ z).setCell ⟨n, 3, none⟩ u).setCell ⟨n, 4, none⟩ v) :=
  below_set (below_set (below_set (below_set (below_set h hn) hn) hn) hn) hn
def endV (b : Idt) (l : List Idt) : Idt := match l[l.length - 1]? with | none => b | some p => p
theorem endV_at {b : Idt} {l : List Idt} {p : Idt} (hx : l[l.length - 1]? = some p) : endV b l = p := by unfold endV; rw [hx]
/-- What is known in a run has its index. -/
theorem vRun_at : ∀ (l : List Idt) (bi t : Int) (k i : Nat) (p : Idt), vRun bi t k l = true → l[i]? = some p → p.knd ≠ 0 → p.idx = bi + 1 + (k : Int) + (i : Int) := by
  intro l
  induction l with
  | nil => intro bi t k i p _ h; simp at h
  | cons q l ih =>
    intro bi t k i p hv hx hk
    have e : vRun bi t k (q :: l) = if q.knd = 0 then vRun bi t (k + 1) l else decide (q.idx = bi + 1 + (k : Int) ∧ t ≤ q.trm) && vRun bi q.trm (k + 1) l := rfl
    rw [e] at hv
    cases i with
    | zero =>
      simp only [List.getElem?_cons_zero, Option.some.injEq] at hx
      subst hx
      rw [if_neg hk] at hv
      simp only [Bool.and_eq_true, decide_eq_true_eq] at hv
      have := hv.1.1; simp; omega
    | succ i =>
      simp only [List.getElem?_cons_succ] at hx
      by_cases hq : q.knd = 0
      · rw [if_pos hq] at hv
        have := ih bi t (k + 1) i p hv hx hk; omega
      · rw [if_neg hq] at hv
        simp only [Bool.and_eq_true] at hv
        have := ih bi q.trm (k + 1) i p hv.2 hx hk; omega
theorem right_parts {b : Idt} {l : List Idt} (h : rightV b l = true) : vRun b.idx b.trm 0 l = true ∧ endOk l = true := by
  unfold rightV at h; simp only [Bool.and_eq_true] at h; exact ⟨h.1.2, h.2⟩
theorem endV_idx {b : Idt} {l : List Idt} (h : rightV b l = true) : (endV b l).idx = b.idx + (l.length : Int) := by
  obtain ⟨h1, h2⟩ := right_parts h
  by_cases h0 : l.length = 0
  · have : l = [] := List.eq_nil_of_length_eq_zero h0
    subst this
    simp [endV]
  · have hx := List.getElem?_eq_getElem (show l.length - 1 < l.length by omega)
    rw [endV_at hx]
    rw [endOk_at hx] at h2
    have := vRun_at l b.idx b.trm 0 (l.length - 1) _ h1 hx (by simpa using h2)
    omega
/-- What stands at an index, and is known, has that index. -/
theorem atV_idx {b p : Idt} {l : List Idt} {i : Int} (h : rightV b l = true) (ha : atV b l i = some p) : p.idx = i := by
  unfold atV at ha
  by_cases h1 : i = b.idx
  · rw [if_pos h1] at ha; simp only [Option.some.injEq] at ha; subst ha; exact h1.symm
  · rw [if_neg h1] at ha
    by_cases h2 : b.idx < i
    · rw [if_pos h2] at ha
      cases hx : l[(i - b.idx - 1).toNat]? with
      | none => rw [hx] at ha; simp at ha
      | some q =>
        rw [hx] at ha
        by_cases hq : q.knd = 0
        · simp [hq] at ha
        · simp only [if_neg hq, Option.some.injEq] at ha
          subst ha
          have := vRun_at l b.idx b.trm 0 _ q (right_parts h).1 hx hq
          omega
    · rw [if_neg h2] at ha; simp at ha
theorem atV_range {b p : Idt} {l : List Idt} {i : Int} (ha : atV b l i = some p) : b.idx ≤ i ∧ i ≤ b.idx + (l.length : Int) := by
  rcases Int.lt_or_le i b.idx with h1 | h1
  · rw [atV_low h1] at ha; simp at ha
  · rcases Int.lt_or_le (b.idx + (l.length : Int)) i with h2 | h2
    · rw [atV_out h2] at ha; simp at ha
    · exact ⟨h1, h2⟩

set_option maxHeartbeats 1000000 in
theorem matchEnd (b : Idt) (l : List Idt) (A : Option Addr) (c : Nat) (w : World) (h : Sl 3 idRow w.heap.size w (.slice A l.length c) l) :
    Calls Tryz.prog 23 #[.agg #[.int .i64 b.idx, .int .i64 b.trm, .int .i64 b.knd, .slice A l.length c]] w fun e w' => e = .returned (.agg #[.int .i64 (endV b l).idx, .int .i64 (endV b l).trm, .int .i64 (endV b l).knd]) ∧ Below w.heap.size w w' := by
  obtain ⟨A', cap, hv, hlc, hcm, -, hA⟩ := h
  simp only [Value.slice.injEq] at hv
  obtain ⟨rfl, -, rfl⟩ := hv
  have hn : l.length ≤ 9223372036854775807 := by unfold maxLen at hcm; omega
  clear hcm
  by_cases h0 : l.length = 0
  · have hl0 : l = [] := List.eq_nil_of_length_eq_zero h0
    subst hl0
    clear hA h0
    go_enter Tryz.func23, Tryz.ntmps23
    go_wp2_with fail
    refine bodyPost_ret (v := .agg #[.int .i64 b.idx, .int .i64 b.trm, .int .i64 b.knd]) (by simp [results, Tryz.results23, go_sem]) rfl ⟨rfl, ?_⟩
    first | exact below_call (below_new _ _) (below_new _ _) | (repeat (first | exact Below.refl _ _ | refine Below.alloc ?_ (by simp) _ | refine below_set ?_ (by simp)))
  · obtain ⟨x, hx⟩ : ∃ x, l[l.length - 1]? = some x := ⟨_, List.getElem?_eq_getElem (by omega)⟩
    obtain ⟨bb, off, rfl, hb, hcell⟩ := hA (by intro h; subst h; simp at h0)
    have c0 : w.cell? ⟨bb, off + (l.length - 1) * 3, none⟩ = _ := hcell (l.length - 1) x hx 0 _ rfl
    have c1 := hcell (l.length - 1) x hx 1 _ rfl
    have c2 := hcell (l.length - 1) x hx 2 _ rfl
    have HE := Lib.hid (endV_at (b := b) hx)
    obtain ⟨j, hj⟩ : ∃ j, j = l.length - 1 := ⟨_, rfl⟩
    rw [← hj] at c0 c1 c2
    have e1 : IntKind.i64.wrap ((l.length : Int) - 1) = (j : Int) := by rw [IntWalk.i64_in _ (by omega)]; omega
    have e2 : (l.length : Int) - 1 = (j : Int) := by omega
    have d0 : decide (0 < l.length) = true := decide_eq_true (by omega)
    have d1 : 0 < l.length := by omega
    have i0 : (0 : Int) ≤ (j : Int) := by omega
    have i1 : (j : Int) < (l.length : Int) := by omega
    clear hcell hx hA h0 hj
    go_enter Tryz.func23, Tryz.ntmps23
    go_wp2_with fail
    refine bodyPost_ret (v := .agg #[.int .i64 x.idx, .int .i64 x.trm, .int .i64 x.knd]) (by simp [results, Tryz.results23, go_sem]) rfl ⟨by rw [HE.out], ?_⟩
    first | exact below_call (below_new _ _) (below_new _ _) | (repeat (first | exact Below.refl _ _ | refine Below.alloc ?_ (by simp) _ | refine below_set ?_ (by simp)))

set_option maxHeartbeats 1000000 in
theorem showNil (b : Idt) (l : List Idt) (A : Option Addr) (c : Nat) (gf : Nat) (w : World) (hx : Box w gf #[.int .i64 b.idx, .int .i64 b.trm, .int .i64 b.knd, .slice A l.length c, .slice none 0 0, .int .i64 0] 111) :
    Calls Tryz.prog 79 #[.pointer (some ⟨gf, 0, none⟩)] w fun e w' => e = .returned (.tuple #[]) ∧ w = w' := by
  obtain ⟨ka, fa, za⟩ := hx.facts
  go_enter Tryz.func79, Tryz.ntmps79
  go_wp2_with fail
  go_loop [11] (fun i => i = .int .i64 0) (fun _ => 0)
  case atStart => rfl
  case round =>
    subst hrel
    go_wp2_with fail
    go_end0
    exact ⟨rfl, rfl⟩

set_option maxHeartbeats 1000000 in
theorem fitLast (b : Idt) (l : List Idt) (A : Option Addr) (c : Nat) (gf : Nat) (w : World) (hx : Box w gf #[.int .i64 b.idx, .int .i64 b.trm, .int .i64 b.knd, .slice A l.length c, .slice none 0 0, .int .i64 0] 111) (h0 : -9223372036854775808 ≤ b.idx + (l.length : Int)) (h1 : b.idx + (l.length : Int) ≤ 9223372036854775807) :
    Calls Tryz.prog 123 #[.pointer (some ⟨gf, 0, none⟩)] w fun e w' => e = .returned (.int .i64 (b.idx + (l.length : Int))) ∧ Below w.heap.size w w' := by
  have k0 : ∀ zw : Ext w, zw.wd.cell? ⟨gf, 0, none⟩ = some (.int .i64 b.idx) := hx.ext 0
  have k3 : ∀ zw : Ext w, zw.wd.cell? ⟨gf, 3, none⟩ = some (.slice A l.length c) := hx.ext 3
  have w1 : IntKind.i64.wrap (b.idx + (l.length : Int)) = b.idx + (l.length : Int) := IntWalk.i64_in _ (by omega)
  go_enter Tryz.func123, Tryz.ntmps123
  go_upto_region 1 with fail
  refine wp_region_ext (by kernel_rfl) (by kernel_rfl) ?_
  repeat (go_big_quiet_step (fail))
  refine wpQuiet_nil ?_
  intro _ hw'
  obtain ⟨x5, hw''⟩ := hw'
  subst hw''
  clear w1
  go_wp2_with fail
  go_ret
  exact ⟨rfl, x5.low⟩

set_option maxRecDepth 100000 in
set_option maxHeartbeats 1000000 in
theorem fitsYes (b : Idt) (l : List Idt) (A : Option Addr) (c : Nat) (p : Idt) (gf : Nat) (w : World) (h : Sl 3 idRow w.heap.size w (.slice A l.length c) l) (hb : I64 b.idx) (hi : I64 p.idx) (hr : rightV b l = true) (ha : atV b l p.idx = some p) (hx : Box w gf #[.int .i64 b.idx, .int .i64 b.trm, .int .i64 b.knd, .slice A l.length c, .slice none 0 0, .int .i64 0] 111) :
    Calls Tryz.prog 81 #[.pointer (some ⟨gf, 0, none⟩), .int .i64 p.idx, .int .i64 p.trm] w fun e w' => e = .returned .nilIface ∧ Below w.heap.size w w' := by
  obtain ⟨r0, r1⟩ := atV_range ha
  have hh := rightV_head hr
  have HX := Lib.hid hx
  have HS := Lib.hid h
  have HA := Lib.hid ha
  obtain ⟨b0, b1⟩ := id hb
  obtain ⟨p0, p1⟩ := id hi
  obtain ⟨HB, HI⟩ : I64 b.idx ∧ I64 p.idx := ⟨hb, hi⟩
  obtain ⟨ka, fa, za⟩ := hx.facts
  clear h hx ha hb hi
  by_cases g1 : p.idx ≤ b.idx
  · have d1 : decide (p.idx ≤ b.idx) = true := decide_eq_true g1
    go_enter Tryz.func81, Tryz.ntmps81
    go_wp2_with (go_at_call 19; refine (at_some (matchAt b l A c p.idx _ HS.out HB HI) HA.out).mono ?_; rintro e w1 ⟨rfl, hb1⟩; obtain ⟨kb, fb, zb⟩ := (HX.out.later hb1).facts; clear ka fa za)
    go_ret
    exact ⟨rfl, below_call hb1 (below_new _ _)⟩
  · have d1 : decide (p.idx ≤ b.idx) = false := decide_eq_false g1
    have d2 : decide (b.idx + (l.length : Int) < p.idx) = false := decide_eq_false (by omega)
    go_enter Tryz.func81, Tryz.ntmps81
    go_wp2_with (first
      | (go_at_call 19; refine (at_some (matchAt b l A c p.idx _ HS.out HB HI) HA.out).mono ?_; rintro e w1 ⟨rfl, hb1⟩; obtain ⟨kb, fb, zb⟩ := (HX.out.later hb1).facts; have HX2 := Lib.hid ((HX.out.later hb1).alloc (.cells #[.int .i64 p.idx, .int .i64 p.trm, .int .i64 p.knd] 25)); clear ka fa za)
      | (go_at_call 123; refine (fitLast b l A c gf _ HX2.out (by omega) (by omega)).mono ?_; rintro e w2 ⟨rfl, hb2⟩; obtain ⟨kd, fd, zd⟩ := (HX2.out.later hb2).facts; obtain ⟨kp, fp, zp⟩ := ((Box.new w1 #[.int .i64 p.idx, .int .i64 p.trm, .int .i64 p.knd] 25).later hb2).facts))
    go_ret
    exact ⟨rfl, below_call (below_call hb1 (below_new _ _)) hb2⟩

set_option maxHeartbeats 1000000 in
theorem planNil (b : Idt) (l : List Idt) (A : Option Addr) (c : Nat) (mx : Int) (gf : Nat) (w : World) (hx : Box w gf #[.int .i64 b.idx, .int .i64 b.trm, .int .i64 b.knd, .slice A l.length c, .slice none 0 0, .int .i64 0] 111) :
    Calls Tryz.prog 82 #[.pointer (some ⟨gf, 0, none⟩), .agg #[.bool true, .int .i64 mx, .int .i64 0, .slice none 0 0, .slice none 0 0]] w fun e w' => e = .returned (.agg #[.bool true, .int .i64 mx, .int .i64 0, .slice none 0 0, .slice none 0 0]) ∧ Below w.heap.size w w' := by
  have X1 := Box.new w #[.bool true, .int .i64 mx, .int .i64 0, .slice none 0 0, .slice none 0 0] 41
  have X2 := ((hx.alloc (.cells #[.bool true, .int .i64 mx, .int .i64 0, .slice none 0 0, .slice none 0 0] 41)).alloc (.cells #[.bool false, .int .i64 0, .int .i64 0, .slice none 0 0, .slice none 0 0] 41))
  obtain ⟨ka, fa, za⟩ := hx.facts
  go_enter Tryz.func82, Tryz.ntmps82
  go_wp2_with fail
  go_loop [13] (fun i => i = .int .i64 0) (fun _ => 0)
  case atStart => rfl
  case round =>
    subst hrel
    go_wp2_with fail
    refine bodyPost_ret (v := .agg #[.bool true, .int .i64 mx, .int .i64 0, .slice none 0 0, .slice none 0 0]) (by simp [results, Tryz.results82, go_sem]) rfl ⟨rfl, ?_⟩
    first | exact below_call (below_new _ _) (below_new _ _) | (repeat (first | exact Below.refl _ _ | refine Below.alloc ?_ (by simp) _ | refine below_set ?_ (by simp)))

theorem plan3 {w : World} {g : Nat} {m : Int} {t : TypeId} (h : Box w g #[.bool true, .int .i64 m, .int .i64 0, .slice none 0 0, .slice none 0 0] t) : Box (w.setCell ⟨g, 3, none⟩ (.slice none 0 0)) g #[.bool true, .int .i64 m, .int .i64 0, .slice none 0 0, .slice none 0 0] t := h.set_ 3 _
theorem plan4 {w : World} {g : Nat} {m : Int} {t : TypeId} (h : Box w g #[.bool true, .int .i64 m, .int .i64 0, .slice none 0 0, .slice none 0 0] t) : Box (w.setCell ⟨g, 4, none⟩ (.slice none 0 0)) g #[.bool true, .int .i64 m, .int .i64 0, .slice none 0 0, .slice none 0 0] t := h.set_ 4 _

set_option maxHeartbeats 1000000 in
theorem ownedNil (w : World) :
    Calls Tryz.prog 83 #[.slice none 0 0] w fun e w' => e = .returned (.slice none 0 0) ∧ w = w' := by
  go_enter Tryz.func83, Tryz.ntmps83
  go_wp2_with fail
  go_loop [2, 7] (fun o i => o = .slice none 0 0 ∧ i = .int .i64 0) (fun _ _ => 0)
  case atStart => exact ⟨rfl, rfl⟩
  case round =>
    obtain ⟨rfl, rfl⟩ := hrel
    go_wp2_with fail
    go_ret
    exact ⟨rfl, rfl⟩

set_option maxRecDepth 100000 in
set_option maxHeartbeats 4000000 in
theorem fitNil (b : Idt) (l : List Idt) (A : Option Addr) (c : Nat) (p : Idt) (w : World) (h : Sl 3 idRow w.heap.size w (.slice A l.length c) l) (hb : I64 b.idx) (hin : ∀ q ∈ l, I64 q.idx) (hi : I64 p.idx) (hr : rightV b l = true) (ha : atV b l p.idx = some p) (hG : errTypeIs w) :
    Calls Tryz.prog 16 #[.agg #[.int .i64 b.idx, .int .i64 b.trm, .int .i64 b.knd, .slice A l.length c], .agg #[.int .i64 p.idx, .int .i64 p.trm, .int .i64 p.knd], .slice none 0 0] w fun e w' => e = .returned (.tuple #[.agg #[.bool true, .int .i64 p.idx, .int .i64 0, .slice none 0 0, .slice none 0 0], .int .i64 0]) ∧ Below w.heap.size w w' := by
  have HF : folE p [] = 0 := rfl
  have hh := rightV_head hr
  obtain ⟨r0, r1⟩ := atV_range ha
  have HR := Lib.hid hr
  have HA := Lib.hid ha
  obtain ⟨HB, HI, HIN⟩ : I64 b.idx ∧ I64 p.idx ∧ (∀ q ∈ l, I64 q.idx) := ⟨hb, hi, hin⟩
  obtain ⟨W0, hW0⟩ : ∃ W0 : World, W0 = ((w.alloc (.cells #[.int .i64 b.idx, .int .i64 b.trm, .int .i64 b.knd, .slice A l.length c] 36)).alloc (.cells #[.int .i64 p.idx, .int .i64 p.trm, .int .i64 p.knd] 25)).alloc (.cells #[.bool false, .int .i64 0, .int .i64 0, .slice none 0 0, .slice none 0 0] 41) := ⟨_, rfl⟩
  have B0 : Below w.heap.size w W0 := by rw [hW0]; exact below_call (below_call (below_new _ _) (below_new _ _)) (below_new _ _)
  have X0 : Box W0 w.heap.size #[.int .i64 b.idx, .int .i64 b.trm, .int .i64 b.knd, .slice A l.length c] 36 := by rw [hW0]; exact ((Box.new _ _ _).alloc _).alloc _
  have X1 : Box W0 (w.heap.size + 1) #[.int .i64 p.idx, .int .i64 p.trm, .int .i64 p.knd] 25 := by
    have := (Box.new (w.alloc (.cells #[.int .i64 b.idx, .int .i64 b.trm, .int .i64 b.knd, .slice A l.length c] 36)) #[.int .i64 p.idx, .int .i64 p.trm, .int .i64 p.knd] 25).alloc (.cells #[.bool false, .int .i64 0, .int .i64 0, .slice none 0 0, .slice none 0 0] 41)
    rw [hW0]; simpa using this
  have X2 : Box W0 (w.heap.size + 1 + 1) #[.bool false, .int .i64 0, .int .i64 0, .slice none 0 0, .slice none 0 0] 41 := by
    have := Box.new ((w.alloc (.cells #[.int .i64 b.idx, .int .i64 b.trm, .int .i64 b.knd, .slice A l.length c] 36)).alloc (.cells #[.int .i64 p.idx, .int .i64 p.trm, .int .i64 p.knd] 25)) #[.bool false, .int .i64 0, .int .i64 0, .slice none 0 0, .slice none 0 0] 41
    rw [hW0]; simpa using this
  have HB0 := Lib.hid B0
  have HX0 := Lib.hid X0
  have HX1 := Lib.hid X1
  have HX2 := Lib.hid X2
  have HS := Lib.hid (h.later B0)
  have HG := Lib.hid (errType_later hG B0)
  obtain ⟨k0, f0, z0⟩ := X0.facts
  obtain ⟨k1, f1, z1⟩ := X1.facts
  clear h hb hin hi hr ha hG B0 X0 X1 X2
  go_enter Tryz.func16, Tryz.ntmps16
  go_wp2_with fail
  rw [← hW0]
  clear hW0
  go_upto_region 9 with (first
    | (go_at_call 21; refine (matchRight b l A c _ HS.out HB HIN).mono ?_; rintro e w1 ⟨rfl, hb1⟩; rw [HR.out]; obtain ⟨k1a, f1a, z1a⟩ := (HX1.out.later hb1).facts; clear k0 f0 z0 k1 f1 z1)
    | (go_at_call 57; refine (entFollows p [] _ _ (Sl.nil_ _ _ _ _) (fun x hx => by cases hx) (errType_later HG.out hb1)).mono ?_; rw [HF]; rintro e w2 ⟨rfl, hb2⟩; have HB2 := Lib.hid (below_call hb1 hb2); obtain ⟨k0b, f0b, z0b⟩ := (HX0.out.later HB2.out).facts; obtain ⟨k1b, f1b, z1b⟩ := (HX1.out.later HB2.out).facts; have XF := Lib.hid (Box.new w2 #[.int .i64 b.idx, .int .i64 b.trm, .int .i64 b.knd, .slice A l.length c, .slice none 0 0, .int .i64 0] 111); clear k1a f1a z1a hb1 hb2)
    | (go_at_call 79; refine (showNil b l A c _ _ XF.out).mono ?_; rintro e w3 ⟨rfl, rfl⟩)
    | (go_at_call 81; refine (fitsYes b l A c p _ _ (((HS.out.later HB2.out).alloc _).alloc _) HB HI HR.out HA.out (XF.out.alloc _)).mono ?_; rintro e w5 ⟨rfl, hb5⟩; have HB5 := Lib.hid (below_call (below_call (below_call HB2.out (below_new _ _)) (below_new _ _)) hb5); obtain ⟨k0c, f0c, z0c⟩ := (HX0.out.later HB5.out).facts; obtain ⟨k1c, f1c, z1c⟩ := (HX1.out.later HB5.out).facts; have XF5 := Lib.hid ((XF.out.alloc _).later hb5); clear k0b f0b z0b k1b f1b z1b hb5)
    | (go_at_call 80; refine (LeadE.as_nil _ _).mono ?_; rintro e w6 ⟨rfl, rfl⟩)
    | (go_at_call 82; refine (planNil b l A c _ _ _ XF5.out).mono ?_; rintro e w7 ⟨rfl, hb7⟩))
  have HB7 := Lib.hid (below_call HB5.out hb7)
  have X10 := Box.new w7 #[.bool true, .int .i64 p.idx, .int .i64 0, .slice none 0 0, .slice none 0 0] 41
  have XR := Lib.hid ((HX2.out.later HB7.out).alloc (.cells #[.bool true, .int .i64 p.idx, .int .i64 0, .slice none 0 0, .slice none 0 0] 41))
  have HB8 := Lib.hid (below_call HB7.out (below_new w7 (.cells #[.bool true, .int .i64 p.idx, .int .i64 0, .slice none 0 0, .slice none 0 0] 41)))
  obtain ⟨g10, hg10⟩ : ∃ g, g = w7.heap.size := ⟨_, rfl⟩
  obtain ⟨W, hW⟩ : ∃ W, W = w7.alloc (.cells #[.bool true, .int .i64 p.idx, .int .i64 0, .slice none 0 0, .slice none 0 0] 41) := ⟨_, rfl⟩
  rw [← hW, ← hg10] at X10
  rw [← hW] at XR HB8
  rw [← hW, ← hg10]
  have hgn0 : w.heap.size + 1 + 1 ≠ g10 := by have h1 := (HX2.out.later HB7.out).lt; omega
  have hg10l : W0.heap.size ≤ g10 := by have h1 := HB7.out.size; omega
  clear hW hg10 hb7 HB7 k0c f0c z0c k1c f1c z1c
  have Xa := plan3 X10
  have Xb := plan4 X10
  have Xc := plan4 Xa
  have Xd := plan3 Xb
  have HSF : Hid (∀ w', Box w' g10 #[.bool true, .int .i64 p.idx, .int .i64 0, .slice none 0 0, .slice none 0 0] 41 → (w'.cell? ⟨g10, 0, none⟩ = some (.bool true) ∧ w'.cell? ⟨g10, 1, none⟩ = some (.int .i64 p.idx) ∧ w'.cell? ⟨g10, 2, none⟩ = some (.int .i64 0) ∧ w'.cell? ⟨g10, 3, none⟩ = some (.slice none 0 0) ∧ w'.cell? ⟨g10, 4, none⟩ = some (.slice none 0 0) ∧ (∀ i, w'.frozen? ⟨g10, i, none⟩ = false) ∧ g10 < w'.heap.size)) := fun w' q => ⟨q.cell 0, q.cell 1, q.cell 2, q.cell 3, q.cell 4, q.free, q.lt⟩
  obtain ⟨kt, ft, zt⟩ := X10.facts
  first | go_region_held3 (fun w' => w'.cell? ⟨g10, 0, none⟩ = some (.bool true) ∧ w'.cell? ⟨g10, 1, none⟩ = some (.int .i64 p.idx) ∧ w'.cell? ⟨g10, 2, none⟩ = some (.int .i64 0) ∧ w'.cell? ⟨g10, 3, none⟩ = some (.slice none 0 0) ∧ w'.cell? ⟨g10, 4, none⟩ = some (.slice none 0 0) ∧ (∀ i, w'.frozen? ⟨g10, i, none⟩ = false) ∧ g10 < w'.heap.size)
    (first | exact HSF.out _ (box_drew X10) | exact HSF.out _ (box_drew Xa) | exact HSF.out _ (box_drew Xb) | exact HSF.out _ (box_drew Xc) | exact HSF.out _ (box_drew Xd) | fail)
    (first | (go_at_call 83; refine (ownedNil _).mono ?_; rintro e wl ⟨rfl, rfl⟩))
  have hgn : w.heap.size + 1 + 1 ≠ g10 := hgn0
  have XRc := box_drew ((XR.out.far (p := ⟨g10, 3, none⟩) hgn (.slice none 0 0)).far (p := ⟨g10, 4, none⟩) hgn (.slice none 0 0))
  have XVc := box_drew Xc
  have BVc := (below_set (i := 4) (u := .slice none 0 0) (below_set (i := 3) (u := .slice none 0 0) HB8.out hg10l) hg10l).drew
  have BVc := below_call HB0.out BVc
  obtain ⟨V, hV⟩ : ∃ V, V = ((W.setCell ⟨g10, 3, none⟩ (.slice none 0 0)).setCell ⟨g10, 4, none⟩ (.slice none 0 0)).drew := ⟨_, rfl⟩
  rw [← hV] at XRc XVc BVc
  rw [← hV]
  clear hV Xa Xb Xc Xd X10 kt ft zt
  obtain ⟨kv, fv, zv⟩ := XVc.facts
  obtain ⟨kr, fr, zr⟩ := XRc.facts
  have hv := BVc.size
  go_wp2_with fail
  refine bodyPost_box (XRc.set5 _ _ _ _ _) (below_set5 BVc (n := w.heap.size + 1 + 1) (by omega) _ _ _ _ _) ?_
  intro wz hz1 hz2
  obtain ⟨kz, -, -⟩ := hz1.facts
  exact bodyPost_ret (v := .tuple #[.agg #[.bool true, .int .i64 p.idx, .int .i64 0, .slice none 0 0, .slice none 0 0], .int .i64 0]) (by simp [results, Tryz.results16, go_sem, kz]) rfl ⟨rfl, hz2⟩
end Go.Proofs.YtfglkpcboodllaaGreatDoor
