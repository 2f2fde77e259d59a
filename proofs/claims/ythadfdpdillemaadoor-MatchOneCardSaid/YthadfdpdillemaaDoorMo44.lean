/-
  limpetlaw20's great, small, awake: contracts. Condition of awake: errors.errorType holds its value.
-/
import Derived.Test.YthadfdpdillemaaDoorMo42
import Derived.Test.YthadfdpdillemaaDoorMo22
import Derived.Test.YthadfdpdillemaaDoorMo43
set_option linter.unusedVariables false
set_option linter.unusedSimpArgs false
namespace Go.Proofs.YthadfdpdillemaaDoor
open Go.RowKit

def greatV (l : List Idt) (es : List Ent) : Bool := decide (500 < l.length) || decide (500 < sizeE es)
def smallV (b : Idt) (l : List Idt) : Bool := decide (b.idx < 1099511627276) && rightV b l
theorem aw20_two {m : List Ent} (h : m.map keyE = entsK 2 0 [3, 3]) : ∃ b1 n1 d1 b2 n2 d2, m = [⟨3, 3, 2, b1, n1, d1⟩, ⟨4, 3, 2, b2, n2, d2⟩] ∧ d1.length = 1 ∧ d2.length = 1 := by
  rcases m with _ | ⟨x, _ | ⟨y, _ | ⟨z, r⟩⟩⟩
  · simp [entsK] at h
  · simp [entsK] at h
  · simp only [List.map_cons, List.map_nil, keyE, entsK, List.cons.injEq, Prod.mk.injEq, and_true] at h
    obtain ⟨⟨h1, h2, h3, h4⟩, h5, h6, h7, h8⟩ := h
    obtain ⟨i, t, k, ba, bc, bd⟩ := x
    obtain ⟨i2, t2, k2, ba2, bc2, bd2⟩ := y
    simp only at h1 h2 h3 h4 h5 h6 h7 h8
    refine ⟨ba, bc, bd, ba2, bc2, bd2, ?_, by rw [h4]; rfl, by rw [h8]; rfl⟩
    subst h1 h2 h3 h5 h6 h7
    rfl
  · simp [entsK] at h
theorem aw20_fit (W : World) (A : Option Addr) (c : Nat) (Ae : Option Addr) (ce : Nat) (m : List Ent) (hk : m.map keyE = entsK 2 0 [3, 3]) (h : Sl 3 idRow W.heap.size W (.slice A 3 c) (viewL 0 [1, 1, 2])) (he : Sl 4 entRow W.heap.size W (.slice Ae 2 ce) m) (hein : ∀ x ∈ m, EntIn W.heap.size W x ∧ x.bd.length ≤ 100000) (hG : errTypeIs W) :
    Calls Tryd.prog 12 #[.agg #[.int .i64 0, .int .i64 0, .int .i64 0, .slice A 3 c], .agg #[.int .i64 2, .int .i64 1, .int .i64 2], .slice Ae 2 ce] W fun e w' => ∃ A1 c1 A2 c2, e = .returned (.tuple #[.agg #[.bool true, .int .i64 4, .int .i64 3, .slice A1 0 c1, .slice A2 2 c2], .int .i64 0]) ∧ Below W.heap.size W w' := by
  obtain ⟨b1, n1, d1, b2, n2, d2, rfl, hd1, hd2⟩ := aw20_two hk
  refine (fitYes zI ⟨2, 1, 2⟩ (viewL 0 [1, 1, 2]) A c [⟨3, 3, 2, b1, n1, d1⟩, ⟨4, 3, 2, b2, n2, d2⟩] Ae ce W h he hein (by simp) (by unfold I64 zI; simp only; omega) (by unfold I64; simp only; omega) ?_ ?_ hG (by kernel_rfl) ?_ (by kernel_rfl)).mono ?_
  · intro q hq
    simp only [viewL, List.mem_cons, List.not_mem_nil, or_false] at hq
    rcases hq with rfl | rfl | rfl <;> (unfold I64; simp only; omega)
  · intro x hx
    simp only [List.mem_cons, List.not_mem_nil, or_false] at hx
    rcases hx with rfl | rfl <;> (unfold I64; simp only; omega)
  · refine fol_of _ _ (fun i x hx => ?_) (fun i j x y hij hx hy => ?_)
    · match i, hx with
      | 0, hx => simp only [List.getElem?_cons_zero, Option.some.injEq] at hx; subst hx; refine ⟨?_, by simp, by simp⟩; unfold goodE rangeE; simp [hd1]
      | 1, hx => simp only [List.getElem?_cons_succ, List.getElem?_cons_zero, Option.some.injEq] at hx; subst hx; refine ⟨?_, by simp, by simp⟩; unfold goodE rangeE; simp [hd2]
    · match i, j, hx, hy with
      | 0, 0, hx, hy => simp at hx hy; subst hx; subst hy; exact Int.le_refl _
      | 0, 1, hx, hy => simp at hx hy; subst hx; subst hy; exact Int.le_refl _
      | 1, 1, hx, hy => simp at hx hy; subst hx; subst hy; exact Int.le_refl _
  · rintro e w' ⟨A1, c1, m1, A2, c2, m2, rfl, -, -, hb⟩
    exact ⟨A1, c1, A2, c2, by kernel_rfl, hb⟩
theorem aw20_no (W : World) (A : Option Addr) (c : Nat) (h : Sl 3 idRow W.heap.size W (.slice A 3 c) (viewL 0 [1, 1, 2])) (hG : errTypeIs W) :
    Calls Tryd.prog 12 #[.agg #[.int .i64 0, .int .i64 0, .int .i64 0, .slice A 3 c], .agg #[.int .i64 5, .int .i64 3, .int .i64 2], .slice none 0 0] W fun e w' => e = .returned (.tuple #[.agg #[.bool false, .int .i64 3, .int .i64 0, .slice none 0 0, .slice none 0 0], .int .i64 0]) ∧ Below W.heap.size W w' := by
  refine (fitNo zI ⟨5, 3, 2⟩ (viewL 0 [1, 1, 2]) A c [] none 0 W h (Sl.nil_ _ _ _ _) (fun x hx => by simp at hx) (by simp) (by unfold I64 zI; simp only; omega) (by unfold I64; simp only; omega) ?_ (fun x hx => by simp at hx) hG (by kernel_rfl) rfl (fun h => absurd (h.symm.trans (show fitK zI (viewL 0 [1, 1, 2]) (shownV zI (viewL 0 [1, 1, 2]) 0 []) 5 3 = 1 by kernel_rfl)) (by decide))).mono ?_
  · intro q hq
    simp only [viewL, List.mem_cons, List.not_mem_nil, or_false] at hq
    rcases hq with rfl | rfl | rfl <;> (unfold I64; simp only; omega)
  · rintro e w' ⟨rfl, hb⟩
    exact ⟨by kernel_rfl, hb⟩

set_option maxRecDepth 100000 in
set_option maxHeartbeats 4000000 in
theorem awake20 (w : World) (hG : errTypeIs w) :
    Calls Tryd.prog 8 #[] w fun e w' => e = .returned (.bool true) ∧ Below w.heap.size w w' := by
  have HG := Lib.hid hG
  clear hG
  have CV := Lib.hid (fun W : World => lawView [1, 1, 2] (.slice (some ⟨W.heap.size, 0, none⟩) 3 3) (W.alloc (.cells #[.int .i64 1, .int .i64 1, .int .i64 2] 3)) (Box.sl i64Row_length [1, 1, 2] (Box.new W #[.int .i64 1, .int .i64 1, .int .i64 2] 3) rfl (by unfold maxLen; simp)) (by simp))
  have CE := Lib.hid (fun W : World => lawEnts 2 [3, 3] (.slice (some ⟨W.heap.size, 0, none⟩) 2 2) (W.alloc (.cells #[.int .i64 3, .int .i64 3] 3)) (Box.sl i64Row_length [3, 3] (Box.new W #[.int .i64 3, .int .i64 3] 3) rfl (by unfold maxLen; simp)) (by simp) (by omega) (by omega))
  go_enter Tryd.func8, Tryd.ntmps8
  go_upto_region 2 with (first
    | (go_at_call 9; refine (CV.out w).mono ?_; rintro e w1 ⟨A, c, rfl, ho, hb⟩; have HV := Lib.hid (ho.sl idRow_length); have HB1 := Lib.hid (below_call (below_new _ _) hb); clear ho hb)
    | (go_at_call 10; refine (CE.out w1).mono ?_; rintro e w2 ⟨Ae, ce, m, rfl, hk, ho, hf, hb⟩; have HK := Lib.hid hk; have HE := Lib.hid (ho.sl entRow_length); have HI := Lib.hid (ents_in hk hf); have HB2 := Lib.hid (below_call HB1.out (below_call (below_new _ _) hb)); have HV2 := Lib.hid (HV.out.later (below_call (below_new _ _) hb)); clear hk ho hf hb)
    | (go_at_call 12; refine (aw20_fit w2 A c Ae ce m HK.out HV2.out HE.out HI.out (errType_later HG.out HB2.out)).mono ?_; rintro e w3 ⟨A1, c1, A2, c2, rfl, hb⟩; have HB3 := Lib.hid (below_call HB2.out hb); clear hb))
  have HP := Lib.hid (Box.new w3 #[.bool true, .int .i64 4, .int .i64 3, .slice A1 0 c1, .slice A2 2 c2] 35)
  have HB4 := Lib.hid (below_call HB3.out (below_new w3 (.cells #[.bool true, .int .i64 4, .int .i64 3, .slice A1 0 c1, .slice A2 2 c2] 35)))
  obtain ⟨gp, hgp⟩ : ∃ g, g = w3.heap.size := ⟨_, rfl⟩
  obtain ⟨w4, hw4⟩ : ∃ x, x = w3.alloc (.cells #[.bool true, .int .i64 4, .int .i64 3, .slice A1 0 c1, .slice A2 2 c2] 35) := ⟨_, rfl⟩
  rw [← hw4] at HP HB4
  rw [← hw4, ← hgp]
  rw [← hgp] at HP
  clear hw4 hgp HV HK HE HI HV2 HB1 HB2 HB3 CE
  go_upto_region 3 with (first
    | (go_at_call 9; refine (CV.out w4).mono ?_; rintro e w5 ⟨A5, c5, rfl, ho, hb⟩; have HV5 := Lib.hid (ho.sl idRow_length); have HB5 := Lib.hid (below_call HB4.out (below_call (below_new _ _) hb)); have HP5 := Lib.hid (HP.out.later (below_call (below_new _ _) hb)); clear ho hb)
    | (go_at_call 12; refine (aw20_no w5 A5 c5 HV5.out (errType_later HG.out HB5.out)).mono ?_; rintro e w6 ⟨rfl, hb⟩; have HB6 := Lib.hid (below_call HB5.out hb); have HP6 := Lib.hid (HP5.out.later hb); clear hb))
  have HQ := Lib.hid (Box.new w6 #[.bool false, .int .i64 3, .int .i64 0, .slice none 0 0, .slice none 0 0] 35)
  have HP7 := Lib.hid (HP6.out.alloc (.cells #[.bool false, .int .i64 3, .int .i64 0, .slice none 0 0, .slice none 0 0] 35))
  have HB7 := Lib.hid (below_call HB6.out (below_new w6 (.cells #[.bool false, .int .i64 3, .int .i64 0, .slice none 0 0, .slice none 0 0] 35)))
  obtain ⟨kq, fq, zq⟩ := HQ.out.facts
  obtain ⟨kp, fp, zp⟩ := HP7.out.facts
  go_wp2_with fail
  go_ret
  exact ⟨rfl, HB7.out⟩
end Go.Proofs.YthadfdpdillemaaDoor
