/-
  limpetlaw24's log: contract.
-/
import Derived.Test.YtglkgmijhdkhpaaDoorHa37
set_option linter.unusedVariables false
set_option linter.unusedSimpArgs false
namespace Go.Proofs.YtglkgmijhdkhpaaDoor
open Go.RowKit

theorem logV_append : ∀ (l : List Ent) (p : Idt) (x : Ent), logV p (l ++ [x]) = logV p l ++ [⟨x, lastE p l⟩] := by
  intro l
  induction l with
  | nil => intro p x; rfl
  | cons y l ih =>
    intro p x
    show (⟨y, p⟩ : Rec) :: logV (ofE y) (l ++ [x]) = (⟨y, p⟩ : Rec) :: logV (ofE y) l ++ [⟨x, lastE (ofE y) l⟩]
    rw [ih]; rfl
theorem lastE_snocH : ∀ (l : List Ent) (p : Idt) (x : Ent), lastE p (l ++ [x]) = ofE x := by
  intro l
  induction l with
  | nil => intro p x; rfl
  | cons y l ih => intro p x; exact ih (ofE y) x
set_option maxRecDepth 100000 in
set_option maxHeartbeats 4000000 in
theorem log24 (l : List Ent) (v : Value) (w : World) (h : Sl 4 entRow w.heap.size w v l) (hn : l.length ≤ 100000) :
    Calls Tryd.prog 15 #[v] w fun e w' => ∃ v', e = .returned v' ∧ Own 7 recRow 37 w.heap.size w' v' (logV zI0 l) ∧ Below w.heap.size w w' := by
  obtain ⟨Al, cl, rfl, -, -, -, hA⟩ := h
  have HA := Lib.hid hA
  have HX0 := Lib.hid (Box.new w #[.int .i64 0, .int .i64 0, .int .i64 0] 31)
  have HB0 := Lib.hid (below_new w (.cells #[.int .i64 0, .int .i64 0, .int .i64 0] 31))
  have hz0 : w.heap.size + 1 ≤ (w.alloc (.cells #[.int .i64 0, .int .i64 0, .int .i64 0] 31)).heap.size := by simp
  obtain ⟨W, hW⟩ : ∃ z, z = w.alloc (.cells #[.int .i64 0, .int .i64 0, .int .i64 0] 31) := ⟨_, rfl⟩
  obtain ⟨gp, hgp⟩ : ∃ z, z = w.heap.size := ⟨_, rfl⟩
  have HE := Lib.hid hW
  have HE2 := Lib.hid hgp
  have hgl : w.heap.size ≤ gp := by omega
  rw [← hW] at HX0 HB0 hz0
  rw [← hgp] at HX0 hz0
  clear hA hW hgp
  go_enter Tryd.func15, Tryd.ntmps15
  go_upto_region 3 with fail
  rw [← HE.out, ← HE2.out]
  go_wp2_with fail
  go_loopw [3, 5] (fun o i wr => ∃ (k : Nat) (ov : Value), ov = o ∧ k ≤ l.length ∧ i = .int .i64 (k : Int) ∧ Own 7 recRow 37 (gp + 1) wr ov (logV zI0 (l.take k)) ∧ Box wr gp #[.int .i64 (lastE zI0 (l.take k)).idx, .int .i64 (lastE zI0 (l.take k)).trm, .int .i64 (lastE zI0 (l.take k)).knd] 31 ∧ gp + 1 ≤ wr.heap.size ∧ Below w.heap.size w wr) (fun _ i _ => l.length - (kOf i).toNat)
  case atStart => exact ⟨0, _, rfl, by omega, rfl, Own.nil_ _ _ _ _ _, HX0.out, hz0, HB0.out⟩
  case round =>
    obtain ⟨k, ov, rfl, hk, rfl, ho, hx, hz, hb⟩ := hrel
    have HO := Lib.hid ho
    have HX := Lib.hid hx
    have HB := Lib.hid hb
    have i0 : (0 : Int) ≤ (k : Int) := by omega
    have hlg : (logV zI0 (l.take k)).length ≤ 100000 := by rw [logV_length, List.length_take]; omega
    clear ho hx hb HX0 HB0 hz0
    by_cases hlt : k < l.length
    · have i1 : (k : Int) < (l.length : Int) := by omega
      have d0 : decide ((k : Int) < (l.length : Int)) = true := decide_eq_true i1
      obtain ⟨b, off, rfl, hbb, hcell⟩ := HA.out (by intro h; subst h; simp at hlt)
      obtain ⟨x, hx⟩ : ∃ x, l[k]? = some x := ⟨_, List.getElem?_eq_getElem hlt⟩
      have HT := Lib.hid (take_at hx)
      obtain ⟨q, hq⟩ : ∃ q, q = lastE zI0 (l.take k) := ⟨_, rfl⟩
      have HQ := Lib.hid hq
      rw [← hq] at HX
      have hbg : b < gp + 1 := by omega
      have HF : Hid (∀ w', Below (gp + 1) wr w' → w'.cell? ⟨b, off + k * 4, none⟩ = some (.int .i64 x.idx) ∧ w'.cell? ⟨b, off + k * 4 + 1, none⟩ = some (.int .i64 x.trm) ∧ w'.cell? ⟨b, off + k * 4 + 2, none⟩ = some (.int .i64 x.knd) ∧ w'.cell? ⟨b, off + k * 4 + 3, none⟩ = some (.slice x.ba x.bd.length x.bc) ∧ w'.cell? ⟨gp, 0, none⟩ = some (.int .i64 q.idx) ∧ w'.cell? ⟨gp, 1, none⟩ = some (.int .i64 q.trm) ∧ w'.cell? ⟨gp, 2, none⟩ = some (.int .i64 q.knd) ∧ Below (gp + 1) wr w') :=
        fun w' hq' => ⟨((hq'.cell (p := ⟨b, off + k * 4, none⟩) hbg).trans (HB.out.cell (p := ⟨b, off + k * 4, none⟩) hbb)).trans (hcell k x hx 0 _ rfl), ((hq'.cell (p := ⟨b, off + k * 4 + 1, none⟩) hbg).trans (HB.out.cell (p := ⟨b, off + k * 4 + 1, none⟩) hbb)).trans (hcell k x hx 1 _ rfl), ((hq'.cell (p := ⟨b, off + k * 4 + 2, none⟩) hbg).trans (HB.out.cell (p := ⟨b, off + k * 4 + 2, none⟩) hbb)).trans (hcell k x hx 2 _ rfl), ((hq'.cell (p := ⟨b, off + k * 4 + 3, none⟩) hbg).trans (HB.out.cell (p := ⟨b, off + k * 4 + 3, none⟩) hbb)).trans (hcell k x hx 3 _ rfl),
          (hq'.cell (p := ⟨gp, 0, none⟩) (Nat.lt_succ_self gp)).trans (HX.out.cell 0), (hq'.cell (p := ⟨gp, 1, none⟩) (Nat.lt_succ_self gp)).trans (HX.out.cell 1), (hq'.cell (p := ⟨gp, 2, none⟩) (Nat.lt_succ_self gp)).trans (HX.out.cell 2), hq'⟩
      have CO : Hid (∀ v, Calls Tryd.prog 10 #[.agg #[.int .i64 x.idx, .int .i64 x.trm, .int .i64 x.knd, .slice x.ba x.bd.length x.bc]] v fun e w' => e = .returned (.agg #[.int .i64 x.idx, .int .i64 x.trm, .int .i64 x.knd]) ∧ Below v.heap.size v w') := fun v => entOf x v
      clear hcell hx hq
      go_upto_region 6 with fail
      go_region_held3 (fun w' => w'.cell? ⟨b, off + k * 4, none⟩ = some (.int .i64 x.idx) ∧ w'.cell? ⟨b, off + k * 4 + 1, none⟩ = some (.int .i64 x.trm) ∧ w'.cell? ⟨b, off + k * 4 + 2, none⟩ = some (.int .i64 x.knd) ∧ w'.cell? ⟨b, off + k * 4 + 3, none⟩ = some (.slice x.ba x.bd.length x.bc) ∧ w'.cell? ⟨gp, 0, none⟩ = some (.int .i64 q.idx) ∧ w'.cell? ⟨gp, 1, none⟩ = some (.int .i64 q.trm) ∧ w'.cell? ⟨gp, 2, none⟩ = some (.int .i64 q.knd) ∧ Below (gp + 1) wr w')
        (first | exact HF.out _ (Below.refl _ _).drew | exact HF.out _ ((Below.refl _ _).alloc hz _).drew | exact HF.out _ (((Below.refl _ _).alloc hz _).drew.trans p2))
        ((refine step_append_row (by rfl) _ _ _ (by rfl) (gp + 1) 37 _ 7 72 Tryd.underlying23 recInfo rfl (by omega) recRow recRow_length recRow_one _ _ (by rfl) ((HO.out.alloc _).drew) (⟨x, q⟩ : Rec) _ (by rfl) 37 wr.heap.size (by rfl) (heap_alloc_new wr _) (by omega) (by omega) (by simp; omega) ?_; intro g cp w2 p1 p2 p3))
      have HB2 := Lib.hid (((Below.refl (gp + 1) wr).alloc hz _).drew.trans p2)
      have hgl2 : (logV zI0 (l.take k) ++ [(⟨x, q⟩ : Rec)]).length = k + 1 := by rw [List.length_append, logV_length, List.length_take_of_le (by omega)]; rfl
      rw [hgl2]
      rw [hgl2] at p1
      have HP := Lib.hid p1
      have hp3 := p3
      clear p1 p2 p3 hgl2
      obtain ⟨c0, c1, c2, c3, y0, y1, y2, -⟩ := HF.out w2 HB2.out
      have hz2 : gp < w2.heap.size := by omega
      have HX2 := Lib.hid (HX.out.below HB2.out (Nat.lt_succ_self gp))
      go_wp2_with (go_at_call 10; (with_reducible refine (CO.out _).mono ?_); rintro e w3 ⟨rfl, hb3⟩; have HB3 := Lib.hid hb3; obtain ⟨kp, fp, zp⟩ := (HX2.out.later hb3).facts; clear hb3)
      go_roundw
      case rel =>
        have h3 := HB3.out.size
        have hne : ∀ r, (Value.slice (some ⟨g, 0, none⟩) (k + 1) cp).ownBlock = some r → r ≠ gp := fun r hr => by have := (HP.out.block hr).1; omega
        refine ⟨k + 1, .slice (some ⟨g, 0, none⟩) (k + 1) cp, by rw [logV_length, List.length_take_of_le (by omega)], by omega, by go_num, ?_, ?_, by simp; omega, ?_⟩
        · rw [HT.out, logV_append, ← HQ.out]
          exact (HP.out.later HB3.out).stay fun r hr => by
            rw [Below.heap_setCell _ ⟨gp, 2, none⟩ (.int .i64 x.knd) r (hne r hr), Below.heap_setCell _ ⟨gp, 1, none⟩ (.int .i64 x.trm) r (hne r hr), Below.heap_setCell _ ⟨gp, 0, none⟩ (.int .i64 x.idx) r (hne r hr)]
        · rw [HT.out, lastE_snocH]
          exact (HX2.out.later HB3.out).set3h (.int .i64 x.idx) (.int .i64 x.trm) (.int .i64 x.knd)
        · exact below_set (below_set (below_set (HB.out.trans ((HB2.out.mono (by omega)).trans (HB3.out.mono (by omega)))) hgl) hgl) hgl
      case measure => first | (simp [kOf]; done) | (simp [kOf]; omega)
    · have d0 : decide ((k : Int) < (l.length : Int)) = false := decide_eq_false (by omega)
      have hke : k = l.length := by omega
      have HF := Lib.hid (show Own 7 recRow 37 w.heap.size wr ov (logV zI0 l) by have h := HO.out; rw [hke, List.take_length] at h; exact h.less (by omega))
      clear hke
      go_wp2_with fail
      go_ret
      exact ⟨ov, rfl, HF.out, HB.out⟩
end Go.Proofs.YtglkgmijhdkhpaaDoor
