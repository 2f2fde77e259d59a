/-
  limpetlaw20's MatchTells: true. Condition: errors.errorType holds its value.
-/
import Derived.Test.YtfglkpcboodllaaGreatDoorMr26
import Derived.Test.YtfglkpcboodllaaGreatDoorMr39
set_option linter.unusedVariables false
set_option linter.unusedSimpArgs false
namespace Go.Proofs.YtfglkpcboodllaaGreatDoor
open Go.RowKit

theorem Own.set5x {α : Type} {k : Nat} {row : α → List Value} {e t : TypeId} {base g : Nat} {w : World} {v : Value} {l : List α} {cs : Array Value} (h : Own k row e base w v l) (hx : Box w g cs t) (he : e ≠ t) (x y z u s : Value) :
    Own k row e base (((((w.setCell ⟨g, 0, none⟩ x).setCell ⟨g, 1, none⟩ y).setCell ⟨g, 2, none⟩ z).setCell ⟨g, 3, none⟩ u).setCell ⟨g, 4, none⟩ s) v l := h.stay fun q hq => by
  have hn := h.spot_ne hx he q hq
  exact (Below.heap_setCell _ ⟨g, 4, none⟩ s q hn).trans ((Below.heap_setCell _ ⟨g, 3, none⟩ u q hn).trans ((Below.heap_setCell _ ⟨g, 2, none⟩ z q hn).trans ((Below.heap_setCell _ ⟨g, 1, none⟩ y q hn).trans (Below.heap_setCell _ ⟨g, 0, none⟩ x q hn))))
def four {β : Type} (a b c d : β) : Nat → β
  | 0 => a
  | 1 => b
  | 2 => c
  | _ => d
def five (a b c d e : Nat) : Nat → Nat
  | 0 => a
  | 1 => b
  | 2 => c
  | 3 => d
  | _ => e

set_option maxRecDepth 100000 in
set_option maxHeartbeats 20000000 in
theorem matchTells (b p : Idt) (l : List Idt) (A : Option Addr) (c : Nat) (es : List Ent) (Ae : Option Addr) (ce : Nat) (i : Int) (w : World) (h : Sl 3 idRow w.heap.size w (.slice A l.length c) l) (he : Sl 4 entRow w.heap.size w (.slice Ae es.length ce) es) (hein : ∀ x ∈ es, EntIn w.heap.size w x ∧ x.bd.length ≤ 140737488351232) (hl : l.length ≤ 140737488351232) (hb : I64 b.idx) (hp : I64 p.idx) (hin : ∀ q ∈ l, I64 q.idx) (hix : ∀ x ∈ es, I64 x.idx) (hi : I64 i) (hG : errTypeIs w) :
    Calls Tryz.prog 4 #[.agg #[.int .i64 b.idx, .int .i64 b.trm, .int .i64 b.knd, .slice A l.length c], .agg #[.int .i64 p.idx, .int .i64 p.trm, .int .i64 p.knd], .slice Ae es.length ce, .int .i64 i] w fun e w' => e = .returned (.bool true) ∧ Below w.heap.size w w' := by
  have BW : Below w.heap.size w ((w.alloc (.cells #[.int .i64 b.idx, .int .i64 b.trm, .int .i64 b.knd, .slice A l.length c] 36)).alloc (.cells #[.int .i64 p.idx, .int .i64 p.trm, .int .i64 p.knd] 25)) := below_call (below_new _ _) (below_new _ _)
  have HX0 := Lib.hid ((Box.new w #[.int .i64 b.idx, .int .i64 b.trm, .int .i64 b.knd, .slice A l.length c] 36).alloc (.cells #[.int .i64 p.idx, .int .i64 p.trm, .int .i64 p.knd] 25))
  have HX1 := Lib.hid (Box.new (w.alloc (.cells #[.int .i64 b.idx, .int .i64 b.trm, .int .i64 b.knd, .slice A l.length c] 36)) #[.int .i64 p.idx, .int .i64 p.trm, .int .i64 p.knd] 25)
  rw [World.size_alloc] at HX1
  obtain ⟨W, hW⟩ : ∃ W, W = (w.alloc (.cells #[.int .i64 b.idx, .int .i64 b.trm, .int .i64 b.knd, .slice A l.length c] 36)).alloc (.cells #[.int .i64 p.idx, .int .i64 p.trm, .int .i64 p.knd] 25) := ⟨_, rfl⟩
  have HE := Lib.hid hW
  rw [← hW] at HX0 HX1 BW
  have HB0 := Lib.hid BW
  obtain ⟨gv, hgv⟩ : ∃ g, g = w.heap.size := ⟨_, rfl⟩
  obtain ⟨gp, hgp⟩ : ∃ g, g = w.heap.size + 1 := ⟨_, rfl⟩
  rw [← hgv] at HX0
  rw [← hgp] at HX1
  have HN0 := Lib.hid hgv
  have HN1 := Lib.hid hgp
  have HS := Lib.hid (h.later BW)
  have HES := Lib.hid (he.later BW)
  have HIN := Lib.hid (show ∀ x ∈ es, EntIn W.heap.size W x ∧ x.bd.length ≤ 140737488351232 from fun x hx => ⟨(hein x hx).1.later BW, (hein x hx).2⟩)
  have HII := Lib.hid hin
  have HIX := Lib.hid hix
  have HG := Lib.hid (errType_later hG BW)
  have HGR := Lib.hid (great20 b l A c es Ae ce W hl (he.later BW) (fun x hx => (hein x hx).2))
  obtain ⟨k0, f0, z0⟩ := HX0.out.facts
  clear h he hein hin hix hG BW hgv hgp hW
  go_enter Tryz.func4, Tryz.ntmps4
  go_upto_region 1 with fail
  rw [← HE.out, ← HN1.out, ← HN0.out]
  by_cases hgr : greatV l es = true
  · rw [hgr] at HGR
    clear hgr
    go_wp2_with (first
      | (go_at_call 12; (with_reducible refine HGR.out.mono ?_); rintro e w1 ⟨rfl, hb1⟩; have HB1 := Lib.hid hb1; clear hb1 k0 f0 z0)
      | (go_at_call 13; (with_reducible refine (awake20 w1 (errType_later HG.out HB1.out)).mono ?_); rintro e w2 ⟨rfl, hb2⟩))
    go_ret
    exact ⟨rfl, below_call HB0.out (below_call HB1.out hb2)⟩
  have hgf : greatV l es = false := by cases hc : greatV l es with | true => exact absurd hc hgr | false => rfl
  rw [hgf] at HGR
  have hl5 : l.length ≤ 500 := by unfold greatV at hgf; simp at hgf; omega
  have hs5 : sizeE es ≤ 500 := by unfold greatV at hgf; simp at hgf; omega
  have he5 : es.length ≤ 500 := Nat.le_trans (sizeE_len es) hs5
  have HSM := Lib.hid (show ∀ x ∈ es, x.bd.length ≤ 500 from fun x hx => by have := sizeE_mem hx; omega)
  clear hgr hgf hs5 hl
  go_upto_region 3 with (go_at_call 12; (with_reducible refine HGR.out.mono ?_); rintro e w1 ⟨rfl, hb1⟩; have HB1 := Lib.hid hb1; clear hb1 k0 f0 z0)
  have HXv := Lib.hid (HX0.out.later HB1.out)
  have HFR : Hid (∀ w', Below w1.heap.size w1 w' → (w'.cell? ⟨gv, 0, none⟩ = some (.int .i64 b.idx) ∧ w'.cell? ⟨gv, 1, none⟩ = some (.int .i64 b.trm) ∧ w'.cell? ⟨gv, 2, none⟩ = some (.int .i64 b.knd) ∧ w'.cell? ⟨gv, 3, none⟩ = some (.slice A l.length c) ∧ Below w1.heap.size w1 w')) := fun w' q => ⟨(HXv.out.later q).cell 0, (HXv.out.later q).cell 1, (HXv.out.later q).cell 2, (HXv.out.later q).cell 3, q⟩
  have HS1 := Lib.hid (HS.out.later HB1.out)
  -- the view that is lent
  go_cut [9] (fun u wx => ∃ gx gI cI, u = .pointer (some ⟨gx, 0, none⟩) ∧ Box wx gx #[.int .i64 b.idx, .int .i64 b.trm, .int .i64 b.knd, .slice (some ⟨gI, 0, none⟩) l.length cI] 36 ∧ Lnt 3 idRow marksI wx.heap.size wx (.slice (some ⟨gI, 0, none⟩) l.length cI) l ∧ Below w1.heap.size w1 wx)
  case first =>
    go_region_held3 (fun w' => w'.cell? ⟨gv, 0, none⟩ = some (.int .i64 b.idx) ∧ w'.cell? ⟨gv, 1, none⟩ = some (.int .i64 b.trm) ∧ w'.cell? ⟨gv, 2, none⟩ = some (.int .i64 b.knd) ∧ w'.cell? ⟨gv, 3, none⟩ = some (.slice A l.length c) ∧ Below w1.heap.size w1 w')
      (first | (refine HFR.out _ ?_; ((repeat (first | (with_reducible refine Below.drew ?_) | (with_reducible refine Below.alloc ?_ (by first | omega | (simp; done) | (simp; omega)) _) | (with_reducible refine below_set ?_ (by first | omega | (simp; done) | (simp; omega))))); first | exact PB | exact PA | exact Below.refl _ _)))
      (first | (go_at_call 14; (with_reducible refine (lentIdentsF l _ _ (HS1.out.later ?_) (by omega)).mono ?_); (focus (((repeat (first | (with_reducible refine Below.drew ?_) | (with_reducible refine Below.alloc ?_ (by first | omega | (simp; done) | (simp; omega)) _) | (with_reducible refine below_set ?_ (by first | omega | (simp; done) | (simp; omega))))); first | exact PB | exact PA | exact Below.refl _ _))); rintro e wl ⟨gI, cI, rfl, hgI, hLI, hbl⟩; (refine Below.use (w := w1) (w' := wl) (B := w1.heap.size) ?_ ?_); (focus (refine below_call ?_ hbl; ((repeat (first | (with_reducible refine Below.drew ?_) | (with_reducible refine Below.alloc ?_ (by first | omega | (simp; done) | (simp; omega)) _) | (with_reducible refine below_set ?_ (by first | omega | (simp; done) | (simp; omega))))); first | exact PB | exact PA | exact Below.refl _ _))); intro PA hz; (first | (refine Box.use2 (w := wl) (n := w1.heap.size) (cs := #[.int .i64 0, .int .i64 0, .int .i64 0, .slice none 0 0]) (t := 36) ?_ ?_; (focus (refine Box.later ?_ hbl; exact Box.new w1 #[.int .i64 0, .int .i64 0, .int .i64 0, .slice none 0 0] 36)); intro kx fx zx bx) | skip)))
    all_goals (go_wp2_with fail; go_meet)
    · exact ⟨wl.heap.size, gI, cI, rfl, Box.new _ _ _, (hLI.later (below_new _ _)), PA.alloc hz _⟩
    · refine ⟨w1.heap.size, gI, cI, rfl, ((((bx.set_ 0 _).set_ 1 _).set_ 2 _).set_ 3 _), ?_, below_set (below_set (below_set (below_set PA (Nat.le_refl _)) (Nat.le_refl _)) (Nat.le_refl _)) (Nat.le_refl _)⟩
      have hne : w1.heap.size ≠ gI := by simp at hgI; omega
      have hst : ∀ (a0 a1 a2 a3 : Value), ((((wl.setCell ⟨w1.heap.size, 0, none⟩ a0).setCell ⟨w1.heap.size, 1, none⟩ a1).setCell ⟨w1.heap.size, 2, none⟩ a2).setCell ⟨w1.heap.size, 3, none⟩ a3).heap[gI]? = wl.heap[gI]? := fun a0 a1 a2 a3 =>
        (Below.heap_setCell _ ⟨w1.heap.size, 3, none⟩ a3 gI (fun e => hne e.symm)).trans ((Below.heap_setCell _ ⟨w1.heap.size, 2, none⟩ a2 gI (fun e => hne e.symm)).trans ((Below.heap_setCell _ ⟨w1.heap.size, 1, none⟩ a1 gI (fun e => hne e.symm)).trans (Below.heap_setCell _ ⟨w1.heap.size, 0, none⟩ a0 gI (fun e => hne e.symm))))
      exact hLI.block (hst _ _ _ _) (by simp)
  case rest =>
    obtain ⟨gx, gI, cI, rfl, hxx, hLI, hb2⟩ := hcut
    obtain ⟨V, hV⟩ : ∃ z, z = wc := ⟨_, rfl⟩
    rw [← hV] at hxx hLI hb2
    rw [← hV]
    have HXx := Lib.hid hxx
    have HLI := Lib.hid hLI
    have HBV := Lib.hid (below_call HB1.out hb2)
    clear hxx hLI hb2 hV HFR HS1
    go_upto_region 5 with (go_at_call 15; (with_reducible refine (lentEntries es _ V (HES.out.later HBV.out) (fun x hx => ⟨(HIN.out x hx).1.later HBV.out, by have := HSM.out x hx; omega⟩) (by omega)).mono ?_); rintro e w3 ⟨gE, cE, m0, rfl, hgE, hm, hlm, hbm, hb3⟩)
    have hml : m0.length = es.length := by simpa using congrArg List.length hm
    have HM := Lib.hid hm
    have HB3 := Lib.hid (below_call HBV.out hb3)
    have HXx3 := Lib.hid (HXx.out.later hb3)
    have HLI3 := Lib.hid (HLI.out.later hb3)
    have HLM := Lib.hid hlm
    have HBM := Lib.hid hbm
    have HML := Lib.hid hml
    obtain ⟨F, hF⟩ : ∃ z, z = w3 := ⟨_, rfl⟩
    rw [← hF] at HB3 HXx3 HLI3 HLM HBM
    rw [← hF]
    clear hgE hm hlm hbm hb3 hml hF HXx HLI HBV
    have HXp := Lib.hid (HX1.out.later HB3.out)
    have HXv3 := Lib.hid (HX0.out.later HB3.out)
    have HES3 := Lib.hid (HES.out.later HB3.out)
    have HIN3 := Lib.hid (show ∀ x ∈ es, EntIn F.heap.size F x ∧ x.bd.length ≤ 1000000 from fun x hx => ⟨(HIN.out x hx).1.later HB3.out, by have := HSM.out x hx; omega⟩)
    have HS3 := Lib.hid (HS.out.later HB3.out)
    have HG3 := Lib.hid (errType_later HG.out HB3.out)
    have HSI3 := Lib.hid (show Sl 3 idRow F.heap.size F (.slice (some ⟨gI, 0, none⟩) l.length cI) l from HLI3.out.sl)
    have HSE3 := Lib.hid (show Sl 4 entRow F.heap.size F (.slice (some ⟨gE, 0, none⟩) es.length cE) m0 from HLM.out.sl)
    have HKA : Hid (∀ x ∈ m0, ∃ y ∈ es, x.idx = y.idx ∧ x.bd = y.bd) := fun x hx => by
      obtain ⟨j, hj⟩ := List.getElem?_of_mem hx
      obtain ⟨A2, c2, h2⟩ := keys_at HM.out.symm hj
      exact ⟨_, List.mem_of_getElem? h2, rfl, rfl⟩
    have HIM3 := Lib.hid (show ∀ x ∈ m0, EntIn F.heap.size F x ∧ x.bd.length ≤ 100000 from fun x hx => by
      obtain ⟨y, hy, e1, e2⟩ := HKA.out x hx
      refine ⟨⟨(HBM.out x hx).sl, fun u hu => ?_⟩, ?_⟩
      · rw [e2] at hu; exact (HIN3.out y hy).1.2 u hu
      · rw [e2]; have := HSM.out y hy; omega)
    have HIX0 := Lib.hid (show ∀ x ∈ m0, I64 x.idx from fun x hx => by obtain ⟨y, hy, e1, -⟩ := HKA.out x hx; rw [e1]; exact HIX.out y hy)
    -- what Fit tells of both
    have hkey := fitV_key (b := b) (p := p) (l := l) HM.out
    have hsub := fitV_sub (b := b) (p := p) (l := l) (es := m0)
    have hsub0 := fitV_sub (b := b) (p := p) (l := l) (es := es)
    have CF0 : Hid (∀ v, Below F.heap.size F v → Calls Tryz.prog 16 #[.agg #[.int .i64 b.idx, .int .i64 b.trm, .int .i64 b.knd, .slice (some ⟨gI, 0, none⟩) l.length cI], .agg #[.int .i64 p.idx, .int .i64 p.trm, .int .i64 p.knd], .slice (some ⟨gE, 0, none⟩) es.length cE] v (FitPost (FitV b p l m0) v)) := fun v hv => by
      have h := matchFit b p l (some ⟨gI, 0, none⟩) cI m0 (some ⟨gE, 0, none⟩) cE v (HSI3.out.later hv) (by rw [HML.out]; exact HSE3.out.later hv) (fun x hx => ⟨(HIM3.out x hx).1.later hv, (HIM3.out x hx).2⟩) (by rw [HML.out]; omega) hb hp HII.out HIX0.out (errType_later HG3.out hv)
      rw [HML.out] at h
      exact h
    have CR0 : Hid (∀ v, Below F.heap.size F v → Calls Tryz.prog 17 #[.agg #[.int .i64 b.idx, .int .i64 b.trm, .int .i64 b.knd, .slice A l.length c], .agg #[.int .i64 p.idx, .int .i64 p.trm, .int .i64 p.knd], .slice Ae es.length ce] v (RefPost (FitV b p l es) v)) := fun v hv =>
      ref20Fit b p l A c es Ae ce v (HS3.out.later hv) (HES3.out.later hv) (fun x hx => ⟨(HIN3.out x hx).1.later hv, by have := HSM.out x hx; omega⟩) (by omega) hb hp HII.out HIX.out
    obtain ⟨V1, hV1⟩ : ∃ z, FitV b p l m0 = z := ⟨_, rfl⟩
    obtain ⟨V0, hV0⟩ : ∃ z, FitV b p l es = z := ⟨_, rfl⟩
    rw [hV1] at CF0 hkey hsub
    rw [hV0] at CR0 hkey hsub0
    clear hV1 hV0
    obtain ⟨y, ⟨ix, cu, S1, D1⟩, er⟩ := V1
    obtain ⟨y0, ⟨ix0, cu0, S0, D0⟩, er0⟩ := V0
    simp only at hkey hsub hsub0
    obtain ⟨rfl, rfl, rfl, rfl, hk5, hk6⟩ := hkey
    have hS0 : S0.length = S1.length := (keys_length hk5).symm
    have hD0 : D0.length = D1.length := (keys_length hk6).symm
    have HK5 := Lib.hid hk5
    have HK6 := Lib.hid hk6
    have HSB := Lib.hid hsub
    have HSB0 := Lib.hid hsub0
    have hS5 : S1.length ≤ 500 := by have := hsub.2.1; rw [HML.out] at this; omega
    have hD5 : D1.length ≤ 500 := by have := hsub.2.2.2; rw [HML.out] at this; omega
    have CR : Hid (∀ v, Below F.heap.size F v → Calls Tryz.prog 17 #[.agg #[.int .i64 b.idx, .int .i64 b.trm, .int .i64 b.knd, .slice A l.length c], .agg #[.int .i64 p.idx, .int .i64 p.trm, .int .i64 p.knd], .slice Ae es.length ce] v fun e w' => ∃ B1 k1 B2 k2, e = .returned (.tuple #[.agg #[.bool y, .int .i64 ix, .int .i64 cu, .slice B1 S1.length k1, .slice B2 D1.length k2], .int .i64 er]) ∧ Own 4 entRow 28 v.heap.size w' (.slice B1 S1.length k1) S0 ∧ Own 4 entRow 28 v.heap.size w' (.slice B2 D1.length k2) D0 ∧ Below v.heap.size v w') := fun v hv => (CR0.out v hv).mono fun e w' ⟨B1, k1, B2, k2, he, h1, h2, h3⟩ => by
      simp only at he h1 h2
      rw [hS0, hD0] at he
      rw [hS0] at h1
      rw [hD0] at h2
      exact ⟨B1, k1, B2, k2, he, h1, h2, h3⟩
    have CF : Hid (∀ v, Below F.heap.size F v → Calls Tryz.prog 16 #[.agg #[.int .i64 b.idx, .int .i64 b.trm, .int .i64 b.knd, .slice (some ⟨gI, 0, none⟩) l.length cI], .agg #[.int .i64 p.idx, .int .i64 p.trm, .int .i64 p.knd], .slice (some ⟨gE, 0, none⟩) es.length cE] v fun e w' => ∃ mid A1 c1 m1 A2 c2 m2, e = .returned (.tuple #[.agg #[.bool y, .int .i64 ix, .int .i64 cu, .slice A1 S1.length c1, .slice A2 D1.length c2], .int .i64 er]) ∧ Rs v.heap.size w' A1 c1 S1 m1 ∧ Rs v.heap.size w' A2 c2 D1 m2 ∧ Below v.heap.size v w' ∧ (∀ x, RsBlk A1 c1 S1.length m1 x → x < mid) ∧ Rs mid w' A2 c2 D1 m2) := fun v hv => CF0.out v hv
    clear CF0 CR0 hsub hsub0 hk5 hk6 hS0 hD0 HSM HKA
    obtain ⟨k0, f0, z0⟩ := HXx3.out.facts
    obtain ⟨k1, f1, z1⟩ := HXp.out.facts
    -- the first plan
    go_upto_region 6 with (go_at_call 16; (with_reducible refine (CF.out F (Below.refl _ _)).mono ?_); rintro e w5 ⟨mid1, A1, c1, m1, A2, c2, m2, rfl, r1, r2, hb5, u1, r3⟩; clear k0 f0 z0 k1 f1 z1)
    obtain ⟨G1, hG1⟩ : ∃ z, z = w5.alloc (.cells #[.bool y, .int .i64 ix, .int .i64 cu, .slice A1 S1.length c1, .slice A2 D1.length c2] 41) := ⟨_, rfl⟩
    obtain ⟨g11, hg11⟩ : ∃ z, z = w5.heap.size := ⟨_, rfl⟩
    have bg : Below w5.heap.size w5 G1 := by rw [hG1]; exact below_new _ _
    have HP1 := Lib.hid (show Box G1 g11 #[.bool y, .int .i64 ix, .int .i64 cu, .slice A1 S1.length c1, .slice A2 D1.length c2] 41 by rw [hG1, hg11]; exact Box.new _ _ _)
    have HR1 := Lib.hid (r1.later bg)
    have HR2 := Lib.hid (r3.later bg)
    have HU1 := Lib.hid u1
    have HR2m := Lib.hid (r2.later bg)
    have HW1 := Lib.hid (show ∀ x, RsBlk A2 c2 D1.length m2 x → x < g11 from fun x hx => by rw [hg11]; exact (r3.blk hx).2)
    have HW0 := Lib.hid (show ∀ x, RsBlk A1 c1 S1.length m1 x → x < g11 from fun x hx => by rw [hg11]; exact (r1.blk hx).2)
    have HBG := Lib.hid (below_call hb5 bg)
    have hgs1 : g11 < G1.heap.size := HP1.out.lt
    rw [← hG1, ← hg11]
    clear r1 r2 r3 u1 hb5 bg hG1 hg11
    -- the document's
    have HXvG := Lib.hid (HXv3.out.later HBG.out)
    have HXpG := Lib.hid (HXp.out.later HBG.out)
    have HFR : Hid (∀ w', Below G1.heap.size G1 w' → w'.cell? ⟨gv, 0, none⟩ = some (.int .i64 b.idx) ∧ w'.cell? ⟨gv, 1, none⟩ = some (.int .i64 b.trm) ∧ w'.cell? ⟨gv, 2, none⟩ = some (.int .i64 b.knd) ∧ w'.cell? ⟨gv, 3, none⟩ = some (.slice A l.length c) ∧ w'.cell? ⟨gp, 0, none⟩ = some (.int .i64 p.idx) ∧ w'.cell? ⟨gp, 1, none⟩ = some (.int .i64 p.trm) ∧ w'.cell? ⟨gp, 2, none⟩ = some (.int .i64 p.knd) ∧ Below G1.heap.size G1 w') := fun w' q => ⟨(HXvG.out.later q).cell 0, (HXvG.out.later q).cell 1, (HXvG.out.later q).cell 2, (HXvG.out.later q).cell 3, (HXpG.out.later q).cell 0, (HXpG.out.later q).cell 1, (HXpG.out.later q).cell 2, q⟩
    go_cut [13, 14] (fun u1 u2 wx => ∃ gq B1 k1 B2 k2, u1 = .pointer (some ⟨gq, 0, none⟩) ∧ u2 = .int .i64 er ∧ Box wx gq #[.bool y, .int .i64 ix, .int .i64 cu, .slice B1 S1.length k1, .slice B2 D1.length k2] 45 ∧ Own 4 entRow 28 G1.heap.size wx (.slice B1 S1.length k1) S0 ∧ Own 4 entRow 28 G1.heap.size wx (.slice B2 D1.length k2) D0 ∧ Below G1.heap.size G1 wx)
    case first =>
      go_region_held3 (fun w' => w'.cell? ⟨gv, 0, none⟩ = some (.int .i64 b.idx) ∧ w'.cell? ⟨gv, 1, none⟩ = some (.int .i64 b.trm) ∧ w'.cell? ⟨gv, 2, none⟩ = some (.int .i64 b.knd) ∧ w'.cell? ⟨gv, 3, none⟩ = some (.slice A l.length c) ∧ w'.cell? ⟨gp, 0, none⟩ = some (.int .i64 p.idx) ∧ w'.cell? ⟨gp, 1, none⟩ = some (.int .i64 p.trm) ∧ w'.cell? ⟨gp, 2, none⟩ = some (.int .i64 p.knd) ∧ Below G1.heap.size G1 w')
        (first | (refine HFR.out _ ?_; ((repeat (first | (with_reducible refine Below.drew ?_) | (with_reducible refine Below.alloc ?_ (by first | omega | (simp; done) | (simp; omega)) _) | (with_reducible refine below_set ?_ (by first | omega | (simp; done) | (simp; omega))))); first | exact PB | exact PA | exact Below.refl _ _)))
        (first
          | (go_at_call 18; (with_reducible refine (law20Ref b _ A l.length c _ rfl).mono ?_); rintro e wr ⟨rfl, hbr⟩; (refine Below.use (w := G1) (w' := wr) (B := G1.heap.size) ?_ ?_); (focus (refine below_call ?_ hbr; ((repeat (first | (with_reducible refine Below.drew ?_) | (with_reducible refine Below.alloc ?_ (by first | omega | (simp; done) | (simp; omega)) _) | (with_reducible refine below_set ?_ (by first | omega | (simp; done) | (simp; omega))))); first | exact PB | exact PA | exact Below.refl _ _))); intro PA hzA; (first | (refine Box.use2 (w := wr) (n := G1.heap.size) (cs := #[.bool false, .int .i64 0, .int .i64 0, .slice none 0 0, .slice none 0 0]) (t := 45) ?_ ?_; (focus (refine Box.later ?_ hbr; exact Box.new G1 #[.bool false, .int .i64 0, .int .i64 0, .slice none 0 0, .slice none 0 0] 45)); intro kx fx zx bx) | skip))
          | (go_at_call 17; (refine Below.use (w := G1) (w' := _) (B := G1.heap.size) (?_ : Below _ _ wr) ?_); (focus (exact PA)); intro PA2 hzA2; (with_reducible refine (CR.out _ (below_call HBG.out ?_)).mono ?_); (focus (((repeat (first | (with_reducible refine Below.drew ?_) | (with_reducible refine Below.alloc ?_ (by first | omega | (simp; done) | (simp; omega)) _) | (with_reducible refine below_set ?_ (by first | omega | (simp; done) | (simp; omega))))); first | exact PB | exact PA | exact Below.refl _ _))); rintro e wl ⟨B1, k1, B2, k2, rfl, o1, o2, hbl⟩; (refine Below.use (w := G1) (w' := wl) (B := G1.heap.size) ?_ ?_); (focus (refine below_call ?_ hbl; ((repeat (first | (with_reducible refine Below.drew ?_) | (with_reducible refine Below.alloc ?_ (by first | omega | (simp; done) | (simp; omega)) _) | (with_reducible refine below_set ?_ (by first | omega | (simp; done) | (simp; omega))))); first | exact PB | exact PA | exact Below.refl _ _))); intro PB hz; (first | (refine Box.use2 (w := wl) (n := G1.heap.size) (cs := #[.bool false, .int .i64 0, .int .i64 0, .slice none 0 0, .slice none 0 0]) (t := 45) ?_ ?_; (focus (refine Box.later ?_ hbl; exact bx)); intro ky fy zy bx2) | (refine Box.use2 (w := wl) (n := wr.heap.size) (cs := #[.bool false, .int .i64 0, .int .i64 0, .slice none 0 0, .slice none 0 0]) (t := 45) ?_ ?_; (focus (refine Box.later ?_ hbl; exact Box.new wr #[.bool false, .int .i64 0, .int .i64 0, .slice none 0 0, .slice none 0 0] 45)); intro ky fy zy bx2) | skip)))
      all_goals (go_wp2_with fail; go_meet)
      · exact ⟨wl.heap.size, B1, k1, B2, k2, rfl, rfl, Box.new _ _ _, (o1.alloc _).less hzA, (o2.alloc _).less hzA, PB.alloc hz _⟩
      · refine ⟨wr.heap.size, B1, k1, B2, k2, rfl, rfl, bx2.set5 _ _ _ _ _, (Own.set5x o1 bx2 (by decide) _ _ _ _ _).less (by simp; omega), (Own.set5x o2 bx2 (by decide) _ _ _ _ _).less (by simp; omega), below_set5 PB hzA _ _ _ _ _⟩
      · refine ⟨G1.heap.size, B1, k1, B2, k2, rfl, rfl, bx2.set5 _ _ _ _ _, (Own.set5x o1 bx2 (by decide) _ _ _ _ _).less hzA, (Own.set5x o2 bx2 (by decide) _ _ _ _ _).less hzA, below_set5 PB (Nat.le_refl _) _ _ _ _ _⟩
    case rest =>
      obtain ⟨gq, B1, k1, B2, k2, rfl, rfl, hbq, o1, o2, hbG⟩ := hcut
      obtain ⟨G2, hG2⟩ : ∃ z, z = wc := ⟨_, rfl⟩
      rw [← hG2] at hbq o1 o2 hbG
      rw [← hG2]
      have HQ2 := Lib.hid hbq
      have HO1 := Lib.hid o1
      have HO2 := Lib.hid o2
      have HBG1 := Lib.hid hbG
      have HBF2 := Lib.hid (below_call HBG.out hbG)
      have hgs2 : G1.heap.size ≤ G2.heap.size := hbG.size
      clear hbq o1 o2 hbG hG2 HFR CR
      obtain ⟨ka0, fa0, za0⟩ := (HXx3.out.later HBF2.out).facts
      obtain ⟨kb0, fb0, zb0⟩ := (HXp.out.later HBF2.out).facts
      -- the second plan
      go_upto_region 8 with (go_at_call 16; (with_reducible refine (CF.out G2 HBF2.out).mono ?_); rintro e w7 ⟨mid2, A3, c3, m3, A4, c4, m4, rfl, r1, r2, hb7, u1, r3⟩; clear ka0 fa0 za0 kb0 fb0 zb0)
      obtain ⟨G3, hG3⟩ : ∃ z, z = w7.alloc (.cells #[.bool y, .int .i64 ix, .int .i64 cu, .slice A3 S1.length c3, .slice A4 D1.length c4] 41) := ⟨_, rfl⟩
      obtain ⟨g15, hg15⟩ : ∃ z, z = w7.heap.size := ⟨_, rfl⟩
      have bg : Below w7.heap.size w7 G3 := by rw [hG3]; exact below_new _ _
      have HP2 := Lib.hid (show Box G3 g15 #[.bool y, .int .i64 ix, .int .i64 cu, .slice A3 S1.length c3, .slice A4 D1.length c4] 41 by rw [hG3, hg15]; exact Box.new _ _ _)
      have HR3 := Lib.hid (r1.later bg)
      have HR4m := Lib.hid (r3.later bg)
      have HR4 := Lib.hid (r2.later bg)
      have HU2 := Lib.hid u1
      have HW2 := Lib.hid (show ∀ x, RsBlk A3 c3 S1.length m3 x → G2.heap.size ≤ x ∧ x < g15 from fun x hx => by rw [hg15]; exact r1.blk hx)
      have HW3 := Lib.hid (show ∀ x, RsBlk A4 c4 D1.length m4 x → G2.heap.size ≤ x ∧ x < g15 from fun x hx => by rw [hg15]; exact r2.blk hx)
      have HV3 := Lib.hid (show ∀ x, RsBlk A4 c4 D1.length m4 x → mid2 ≤ x from fun x hx => (r3.blk hx).1)
      have hg15g : G2.heap.size ≤ g15 := by rw [hg15]; exact hb7.size
      have HBG3 := Lib.hid (below_call hb7 bg)
      have HBF3 := Lib.hid (below_call HBF2.out (below_call hb7 bg))
      rw [← hG3, ← hg15]
      clear r1 r2 r3 u1 hb7 bg hG3 hg15 CF
      -- what is at an index
      obtain ⟨q, hq⟩ : ∃ q, atP (atV b l i) = q := ⟨_, rfl⟩
      obtain ⟨sb, hs⟩ : ∃ s, (atV b l i).isSome = s := ⟨_, rfl⟩
      have HAT : Hid (∀ w1 w2 e, AtPost b l i w1 e w2 → e = .returned (.tuple #[.agg #[.int .i64 q.idx, .int .i64 q.trm, .int .i64 q.knd], .bool sb]) ∧ Below w1.heap.size w1 w2) := fun w1 w2 e hp => by have h := atG hp; rw [hq, hs] at h; exact h
      clear hq hs
      obtain ⟨ka0, fa0, za0⟩ := (HXx3.out.later HBF3.out).facts
      go_upto_region 9 with (go_at_call 19; (with_reducible refine (matchAt b l (some ⟨gI, 0, none⟩) cI i G3 (HSI3.out.later HBF3.out) hb hi).mono ?_); rintro e w8 hp8; obtain ⟨rfl, hb8⟩ := HAT.out _ _ _ hp8; clear hp8 ka0 fa0 za0)
      obtain ⟨G4, hG4⟩ : ∃ z, z = w8.alloc (.cells #[.int .i64 q.idx, .int .i64 q.trm, .int .i64 q.knd] 25) := ⟨_, rfl⟩
      obtain ⟨g17, hg17⟩ : ∃ z, z = w8.heap.size := ⟨_, rfl⟩
      have bg : Below w8.heap.size w8 G4 := by rw [hG4]; exact below_new _ _
      have HI1 := Lib.hid (show Box G4 g17 #[.int .i64 q.idx, .int .i64 q.trm, .int .i64 q.knd] 25 by rw [hG4, hg17]; exact Box.new _ _ _)
      have HBG4 := Lib.hid (below_call HBG3.out (below_call hb8 bg))
      have HBF4 := Lib.hid (below_call HBF3.out (below_call hb8 bg))
      have HBG34 := Lib.hid (below_call hb8 bg)
      rw [← hG4, ← hg17]
      clear hG4 hg17 bg hb8
      obtain ⟨ka0, fa0, za0⟩ := (HXv3.out.later HBF4.out).facts
      go_upto_region 10 with (first
        | (go_at_call 18; (with_reducible refine (law20Ref b _ A l.length c _ rfl).mono ?_); rintro e w9 ⟨rfl, hb9⟩)
        | (go_at_call 20; (with_reducible refine (ref20At b l A c i w9 (HS3.out.later (below_call HBF4.out hb9)) hb hi).mono ?_); rintro e w10 hp10; obtain ⟨rfl, hb10⟩ := HAT.out _ _ _ hp10; clear hp10 ka0 fa0 za0))
      obtain ⟨G5, hG5⟩ : ∃ z, z = w10.alloc (.cells #[.int .i64 q.idx, .int .i64 q.trm, .int .i64 q.knd] 25) := ⟨_, rfl⟩
      obtain ⟨g19, hg19⟩ : ∃ z, z = w10.heap.size := ⟨_, rfl⟩
      have bg : Below w10.heap.size w10 G5 := by rw [hG5]; exact below_new _ _
      have HI2 := Lib.hid (show Box G5 g19 #[.int .i64 q.idx, .int .i64 q.trm, .int .i64 q.knd] 25 by rw [hG5, hg19]; exact Box.new _ _ _)
      have HBF5 := Lib.hid (below_call HBF4.out (below_call hb9 (below_call hb10 bg)))
      have HB45 := Lib.hid (below_call hb9 (below_call hb10 bg))
      have HB35 := Lib.hid (below_call HBG34.out (below_call hb9 (below_call hb10 bg)))
      have HB25 := Lib.hid (below_call HBG4.out (below_call hb9 (below_call hb10 bg)))
      have HB15 := Lib.hid (below_call HBG1.out HB25.out)
      rw [← hG5, ← hg19]
      clear hG5 hg19 bg hb9 hb10 HAT
      -- all are the document's
      obtain ⟨rv, hrv⟩ : ∃ r, rightV b l = r := ⟨_, rfl⟩
      obtain ⟨ev, hev⟩ : ∃ r, endV b l = r := ⟨_, rfl⟩
      have HXx5 := Lib.hid (HXx3.out.later HBF5.out)
      have HXv5 := Lib.hid (HXv3.out.later HBF5.out)
      have HI15 := Lib.hid (HI1.out.later HB45.out)
      have HP15 := Lib.hid (HP1.out.later HB15.out)
      have HQ25 := Lib.hid (HQ2.out.later HB25.out)
      have HP25 := Lib.hid (HP2.out.later HB35.out)
      have HR15 := Lib.hid (HR1.out.later HB15.out)
      have HR25 := Lib.hid (HR2m.out.later HB15.out)
      have HR35 := Lib.hid (HR3.out.later HB35.out)
      have HR45 := Lib.hid (HR4.out.later HB35.out)
      have HO15 := Lib.hid (HO1.out.later HB25.out)
      have HO25 := Lib.hid (HO2.out.later HB25.out)
      have KR1 := Lib.hid (show ∀ x5 : Ext G5, Calls Tryz.prog 21 #[.agg #[.int .i64 b.idx, .int .i64 b.trm, .int .i64 b.knd, .slice (some ⟨gI, 0, none⟩) l.length cI]] x5.wd (fun e w' => e = .returned (.bool rv) ∧ Below x5.wd.heap.size x5.wd w') from fun x5 => by have h := matchRight b l (some ⟨gI, 0, none⟩) cI x5.wd (HSI3.out.later (below_call HBF5.out x5.low)) hb HII.out; rw [hrv] at h; exact h)
      have KR2 := Lib.hid (show ∀ x5 : Ext G5, Calls Tryz.prog 22 #[.agg #[.int .i64 b.idx, .int .i64 b.trm, .int .i64 b.knd, .slice A l.length c]] x5.wd (fun e w' => e = .returned (.bool rv) ∧ Below x5.wd.heap.size x5.wd w') from fun x5 => by have h := ref20Right b l A c x5.wd (HS3.out.later (below_call HBF5.out x5.low)) hb HII.out; rw [hrv] at h; exact h)
      have KE1 := Lib.hid (show ∀ x5 : Ext G5, Calls Tryz.prog 23 #[.agg #[.int .i64 b.idx, .int .i64 b.trm, .int .i64 b.knd, .slice (some ⟨gI, 0, none⟩) l.length cI]] x5.wd (fun e w' => e = .returned (.agg #[.int .i64 ev.idx, .int .i64 ev.trm, .int .i64 ev.knd]) ∧ Below x5.wd.heap.size x5.wd w') from fun x5 => by have h := matchEnd b l (some ⟨gI, 0, none⟩) cI x5.wd (HSI3.out.later (below_call HBF5.out x5.low)); rw [hev] at h; exact h)
      have KE2 := Lib.hid (show ∀ x5 : Ext G5, Calls Tryz.prog 24 #[.agg #[.int .i64 b.idx, .int .i64 b.trm, .int .i64 b.knd, .slice A l.length c]] x5.wd (fun e w' => e = .returned (.agg #[.int .i64 ev.idx, .int .i64 ev.trm, .int .i64 ev.knd]) ∧ Below x5.wd.heap.size x5.wd w') from fun x5 => by have h := ref20End b l A c x5.wd (HS3.out.later (below_call HBF5.out x5.low)); rw [hev] at h; exact h)
      have KSM := Lib.hid (show ∀ x5 : Ext G5, Calls Tryz.prog 25 #[.agg #[.bool y, .int .i64 ix, .int .i64 cu, .slice A1 S1.length c1, .slice A2 D1.length c2], .agg #[.bool y, .int .i64 ix, .int .i64 cu, .slice B1 S1.length k1, .slice B2 D1.length k2]] x5.wd (fun e w' => e = .returned (.bool true) ∧ Below x5.wd.heap.size x5.wd w') from fun x5 =>
        law20Same y ix cu A1 A2 B1 B2 c1 c2 k1 k2 S1 D1 m1 m2 S0 D0 x5.wd ((HR15.out.later x5.low).own.sl entRow_length) ((HR25.out.later x5.low).own.sl entRow_length) (((HO15.out.later x5.low)).sl entRow_length) (((HO25.out.later x5.low)).sl entRow_length) (HR15.out.key.trans HK5.out) (HR25.out.key.trans HK6.out)
          (fun x hx => by obtain ⟨j, hj⟩ := List.getElem?_of_mem hx; exact ((HR15.out.later x5.low).bod.own j x hj).sl u8Row_length)
          (fun x hx => by obtain ⟨j, hj⟩ := List.getElem?_of_mem hx; exact ((HR25.out.later x5.low).bod.own j x hj).sl u8Row_length)
          (fun x hx => ((HIN3.out x (HSB0.out.1 x hx)).1.later (below_call HBF5.out x5.low)).1)
          (fun x hx => ((HIN3.out x (HSB0.out.2.2.1 x hx)).1.later (below_call HBF5.out x5.low)).1))
      have KLR := Lib.hid (show ∀ x5 : Ext G5, Calls Tryz.prog 18 #[.agg #[.int .i64 b.idx, .int .i64 b.trm, .int .i64 b.knd, .slice A l.length c]] x5.wd (fun e w' => e = .returned (.agg #[.int .i64 b.idx, .int .i64 b.trm, .int .i64 b.knd, .slice A l.length c]) ∧ Below x5.wd.heap.size x5.wd w') from fun x5 => law20Ref b _ A l.length c x5.wd rfl)
      clear hrv hev
      have xa0 : ∀ zw : Ext G5, zw.wd.cell? ⟨gx, 0, none⟩ = some (.int .i64 b.idx) := HXx5.out.ext 0
      have xa1 : ∀ zw : Ext G5, zw.wd.cell? ⟨gx, 1, none⟩ = some (.int .i64 b.trm) := HXx5.out.ext 1
      have xa2 : ∀ zw : Ext G5, zw.wd.cell? ⟨gx, 2, none⟩ = some (.int .i64 b.knd) := HXx5.out.ext 2
      have xa3 : ∀ zw : Ext G5, zw.wd.cell? ⟨gx, 3, none⟩ = some (.slice (some ⟨gI, 0, none⟩) l.length cI) := HXx5.out.ext 3
      have xb0 : ∀ zw : Ext G5, zw.wd.cell? ⟨gv, 0, none⟩ = some (.int .i64 b.idx) := HXv5.out.ext 0
      have xb1 : ∀ zw : Ext G5, zw.wd.cell? ⟨gv, 1, none⟩ = some (.int .i64 b.trm) := HXv5.out.ext 1
      have xb2 : ∀ zw : Ext G5, zw.wd.cell? ⟨gv, 2, none⟩ = some (.int .i64 b.knd) := HXv5.out.ext 2
      have xb3 : ∀ zw : Ext G5, zw.wd.cell? ⟨gv, 3, none⟩ = some (.slice A l.length c) := HXv5.out.ext 3
      have xc0 : ∀ zw : Ext G5, zw.wd.cell? ⟨g17, 0, none⟩ = some (.int .i64 q.idx) := HI15.out.ext 0
      have xc1 : ∀ zw : Ext G5, zw.wd.cell? ⟨g17, 1, none⟩ = some (.int .i64 q.trm) := HI15.out.ext 1
      have xc2 : ∀ zw : Ext G5, zw.wd.cell? ⟨g17, 2, none⟩ = some (.int .i64 q.knd) := HI15.out.ext 2
      have xd0 : ∀ zw : Ext G5, zw.wd.cell? ⟨g19, 0, none⟩ = some (.int .i64 q.idx) := HI2.out.ext 0
      have xd1 : ∀ zw : Ext G5, zw.wd.cell? ⟨g19, 1, none⟩ = some (.int .i64 q.trm) := HI2.out.ext 1
      have xd2 : ∀ zw : Ext G5, zw.wd.cell? ⟨g19, 2, none⟩ = some (.int .i64 q.knd) := HI2.out.ext 2
      have xe0 : ∀ zw : Ext G5, zw.wd.cell? ⟨g11, 0, none⟩ = some (.bool y) := HP15.out.ext 0
      have xe1 : ∀ zw : Ext G5, zw.wd.cell? ⟨g11, 1, none⟩ = some (.int .i64 ix) := HP15.out.ext 1
      have xe2 : ∀ zw : Ext G5, zw.wd.cell? ⟨g11, 2, none⟩ = some (.int .i64 cu) := HP15.out.ext 2
      have xe3 : ∀ zw : Ext G5, zw.wd.cell? ⟨g11, 3, none⟩ = some (.slice A1 S1.length c1) := HP15.out.ext 3
      have xe4 : ∀ zw : Ext G5, zw.wd.cell? ⟨g11, 4, none⟩ = some (.slice A2 D1.length c2) := HP15.out.ext 4
      have xf0 : ∀ zw : Ext G5, zw.wd.cell? ⟨gq, 0, none⟩ = some (.bool y) := HQ25.out.ext 0
      have xf1 : ∀ zw : Ext G5, zw.wd.cell? ⟨gq, 1, none⟩ = some (.int .i64 ix) := HQ25.out.ext 1
      have xf2 : ∀ zw : Ext G5, zw.wd.cell? ⟨gq, 2, none⟩ = some (.int .i64 cu) := HQ25.out.ext 2
      have xf3 : ∀ zw : Ext G5, zw.wd.cell? ⟨gq, 3, none⟩ = some (.slice B1 S1.length k1) := HQ25.out.ext 3
      have xf4 : ∀ zw : Ext G5, zw.wd.cell? ⟨gq, 4, none⟩ = some (.slice B2 D1.length k2) := HQ25.out.ext 4
      go_upto_region 10 with fail
      refine wp_region_ext (by kernel_rfl) (by kernel_rfl) ?_
      repeat (go_big_quiet_step ((rename_i x5; have h5 := x5.low; first
        | (go_at_call 21; exact ext_of x5 (KR1.out x5))
        | (go_at_call 22; exact ext_of x5 (KR2.out x5))
        | (go_at_call 23; exact ext_of x5 (KE1.out x5))
        | (go_at_call 24; exact ext_of x5 (KE2.out x5))
        | (go_at_call 25; exact ext_of x5 (KSM.out x5))
        | (go_at_call 18; exact ext_of x5 (KLR.out x5)))))
      refine wpQuiet_nil ?_
      intro _ hw'
      obtain ⟨x9, hw''⟩ := hw'
      subst hw''
      have HBX := Lib.hid (show Below G5.heap.size G5 x9.wd from x9.low)
      obtain ⟨X, hX⟩ : ∃ z, z = x9.wd := ⟨_, rfl⟩
      rw [← hX] at HBX
      rw [← hX]
      clear hX xa0 xa1 xa2 xa3 xb0 xb1 xb2 xb3 xc0 xc1 xc2 xd0 xd1 xd2 xe0 xe1 xe2 xe3 xe4 xf0 xf1 xf2 xf3 xf4 KR1 KR2 KE1 KE2 KSM KLR
      have HBFX := Lib.hid (below_call HBF5.out HBX.out)
      -- all stays, what is told lies apart
      have KI : Hid (∀ v, Below F.heap.size F v → Calls Tryz.prog 26 #[.slice (some ⟨gI, 0, none⟩) l.length cI, .slice A l.length c] v fun e w' => e = .returned (.bool true) ∧ Below v.heap.size v w') := fun v hv => keptIdents l _ _ v (HLI3.out.later hv) (HS3.out.later hv) (by omega)
      have KE : Hid (∀ v, Below F.heap.size F v → Calls Tryz.prog 27 #[.slice (some ⟨gE, 0, none⟩) es.length cE, .slice Ae es.length ce] v fun e w' => e = .returned (.bool true) ∧ Below v.heap.size v w') := fun v hv => keptEntries es m0 _ _ v HM.out (HLM.out.later hv) (fun x hx => (HBM.out x hx).later hv) (HES3.out.later hv) (fun x hx => ⟨(HIN3.out x hx).1.later hv, (HIN3.out x hx).2⟩) (by omega)
      have CAP : Hid (∀ v, Below G5.heap.size G5 v → Calls Tryz.prog 28 #[.slice (some ⟨v.heap.size, 0, none⟩) 4 4] (v.alloc (.cells #[.slice A1 S1.length c1, .slice A2 D1.length c2, .slice A3 S1.length c3, .slice A4 D1.length c4] 31)) fun e w' => e = .returned (.bool true) ∧ Below F.heap.size v w') := fun v hv => by
        have hbn := below_new v (.cells #[.slice A1 S1.length c1, .slice A2 D1.length c2, .slice A3 S1.length c3, .slice A4 D1.length c4] 31)
        have hsF : F.heap.size ≤ v.heap.size := (below_call HBF5.out hv).size
        have hs2 : F.heap.size ≤ G2.heap.size := HBF2.out.size
        have hb5 := below_call hv hbn
        obtain ⟨u, q1, q2, q3⟩ : ∃ u, u ≤ g11 ∧ (∀ x, RsBlk A1 c1 S1.length m1 x → x < u) ∧ (∀ x, RsBlk A2 c2 D1.length m2 x → u ≤ x) := by
          rcases Nat.le_total mid1 g11 with hc | hc
          · exact ⟨mid1, hc, HU1.out, fun x hx => (HR2.out.blk hx).1⟩
          · exact ⟨g11, Nat.le_refl _, HW0.out, fun x hx => Nat.le_trans hc (HR2.out.blk hx).1⟩
        obtain ⟨t, t1, t2, t3, t4⟩ : ∃ t, g11 ≤ t ∧ t ≤ g15 ∧ (∀ x, RsBlk A3 c3 S1.length m3 x → x < t) ∧ (∀ x, RsBlk A4 c4 D1.length m4 x → t ≤ x) := by
          by_cases hc : mid2 ≤ g11
          · exact ⟨g11, Nat.le_refl _, by omega, fun x hx => Nat.lt_of_lt_of_le (HU2.out x hx) hc, fun x hx => by have := (HW3.out x hx).1; omega⟩
          · by_cases hd : mid2 ≤ g15
            · exact ⟨mid2, by omega, hd, HU2.out, HV3.out⟩
            · exact ⟨g15, by omega, Nat.le_refl _, fun x hx => (HW2.out x hx).2, fun x hx => by have := HV3.out x hx; omega⟩
        have hvs : G5.heap.size ≤ v.heap.size := hv.size
        have hg11 : g11 < G5.heap.size := HP15.out.lt
        have hg15' : g15 < G5.heap.size := HP25.out.lt
        have hbd : ∀ (ls m : List Ent), m.map keyE = ls.map keyE → (∀ x ∈ ls, x ∈ m0) → ∀ x ∈ m, x.bd.length ≤ 100000 := fun ls m hk hs x hx => by
          obtain ⟨j, hj⟩ := List.getElem?_of_mem hx
          obtain ⟨A9, c9, h9⟩ := keys_at hk.symm hj
          exact (HIM3.out _ (hs _ (List.mem_of_getElem? h9))).2
        refine (apartRs F.heap.size 4 (four A1 A2 A3 A4) (four c1 c2 c3 c4) (four S1 D1 S1 D1) (four m1 m2 m3 m4) (five 0 u g11 t g15) v.heap.size 0 4 _ (fun j hj => ?_) (fun j hj x hx => ?_) (fun i j hij => ?_) (fun j hj => ?_) (by simp) (fun j hj x hx => ?_) (by omega) (by omega) (fun j hj => ?_) (fun j hj x hx => ?_) (by simp; omega)).mono fun e w' hh => ⟨hh.1, (hbn.mono hsF).trans hh.2⟩
        · rcases (by omega : j = 0 ∨ j = 1 ∨ j = 2 ∨ j = 3) with rfl | rfl | rfl | rfl
          · exact HR15.out.later hb5
          · exact HR25.out.later hb5
          · exact (HR35.out.later hb5).less hs2
          · exact (HR45.out.later hb5).less hs2
        · rcases (by omega : j = 0 ∨ j = 1 ∨ j = 2 ∨ j = 3) with rfl | rfl | rfl | rfl
          · exact ⟨Nat.zero_le _, q2 x hx⟩
          · exact ⟨q3 x hx, HW1.out x hx⟩
          · exact ⟨by have := (HW2.out x hx).1; show g11 ≤ x; omega, t3 x hx⟩
          · exact ⟨t4 x hx, (HW3.out x hx).2⟩
        · rcases i with _ | _ | _ | _ | i <;> rcases j with _ | _ | _ | _ | j <;> simp only [five] <;> omega
        · rcases (by omega : j = 0 ∨ j = 1 ∨ j = 2 ∨ j = 3) with rfl | rfl | rfl | rfl <;> (rw [World.cell?_alloc_new]; rfl)
        · rcases (by omega : j = 0 ∨ j = 1 ∨ j = 2 ∨ j = 3) with rfl | rfl | rfl | rfl
          · have := HW0.out x hx; omega
          · have := HW1.out x hx; omega
          · have := (HW2.out x hx).2; omega
          · have := (HW3.out x hx).2; omega
        · rcases (by omega : j = 0 ∨ j = 1 ∨ j = 2 ∨ j = 3) with rfl | rfl | rfl | rfl <;> (simp only [four]; omega)
        · rcases (by omega : j = 0 ∨ j = 1 ∨ j = 2 ∨ j = 3) with rfl | rfl | rfl | rfl
          · exact hbd S1 m1 HR15.out.key HSB.out.1 x hx
          · exact hbd D1 m2 HR25.out.key HSB.out.2.2.1 x hx
          · exact hbd S1 m3 HR35.out.key HSB.out.1 x hx
          · exact hbd D1 m4 HR45.out.key HSB.out.2.2.1 x hx
      obtain ⟨ka0, fa0, za0⟩ := (HXx5.out.later HBX.out).facts
      obtain ⟨kb0, fb0, zb0⟩ := (HXv5.out.later HBX.out).facts
      go_wp2_with (first
        | (go_at_call 26; (with_reducible refine (KI.out X HBFX.out).mono ?_); rintro e x1 ⟨rfl, hb1⟩; have HX1b := Lib.hid (below_call HBX.out hb1); have HF1b := Lib.hid (below_call HBFX.out hb1); clear hb1 ka0 fa0 za0 kb0 fb0 zb0)
        | (go_at_call 27; (with_reducible refine (KE.out x1 HF1b.out).mono ?_); rintro e x2 ⟨rfl, hb2⟩; have HX2b := Lib.hid (below_call HX1b.out hb2); have HF2b := Lib.hid (below_call HF1b.out hb2); obtain ⟨kc0, fc0, zc0⟩ := (HP15.out.later HX2b.out).facts; obtain ⟨kd0, fd0, zd0⟩ := (HP25.out.later HX2b.out).facts; clear hb2)
        | (go_at_call 28; (with_reducible refine (CAP.out x2 HX2b.out).mono ?_); rintro e x3 ⟨rfl, hb3⟩; have HF3b := Lib.hid (HF2b.out.trans hb3); clear hb3 kc0 fc0 zc0 kd0 fd0 zd0)
        | (go_at_call 27; (with_reducible refine (KE.out x3 HF3b.out).mono ?_); rintro e x4 ⟨rfl, hb4⟩; have HF4b := Lib.hid (below_call HF3b.out hb4); clear hb4)
        | (go_at_call 13; (with_reducible refine (awake20 x4 (errType_later HG3.out HF4b.out)).mono ?_); rintro e x5 ⟨rfl, hb5⟩; have HF5b := Lib.hid (below_call HF4b.out hb5); clear hb5))
      go_ret
      exact ⟨rfl, below_call HB0.out (below_call HB3.out HF5b.out)⟩
end Go.Proofs.YtfglkpcboodllaaGreatDoor
