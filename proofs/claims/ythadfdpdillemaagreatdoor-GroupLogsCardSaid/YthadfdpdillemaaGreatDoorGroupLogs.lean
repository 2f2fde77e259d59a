/-
  GroupLogs: true. Condition: errors.errorType holds its value.
-/
import Derived.Test.YthadfdpdillemaaGreatDoorRefGroupOf
import Derived.Test.YthadfdpdillemaaGreatDoorGroupOf2
import Derived.Test.YthadfdpdillemaaGreatDoorGroupMeets
import Derived.Test.YthadfdpdillemaaGreatDoorKitEnt
import Derived.Test.YthadfdpdillemaaGreatDoorKitEnts2
import Derived.Test.YthadfdpdillemaaGreatDoorKitInts
import Derived.Test.YthadfdpdillemaaGreatDoorKitSameInts
import Derived.Test.YthadfdpdillemaaGreatDoorApart
set_option linter.unusedVariables false
set_option linter.unusedSimpArgs false
namespace Go.Proofs.YthadfdpdillemaaGreatDoor
open Go.RowKit

theorem ownPair {w w' : World} {e : Ending} {L : List Int} {n : Int} (h : ∃ v', e = .returned (.tuple #[v', .int .i64 n]) ∧ Own 1 i64Row 3 w.heap.size w' v' L ∧ Below w.heap.size w w') : ∃ A c, e = .returned (.tuple #[.slice A L.length c, .int .i64 n]) ∧ Own 1 i64Row 3 w.heap.size w' (.slice A L.length c) L ∧ Below w.heap.size w w' := by
  obtain ⟨v', he, ho, hb⟩ := h
  obtain ⟨A, c, hv⟩ := ho.len
  exact ⟨A, c, by rw [he, hv], by rw [← hv]; exact ho, hb⟩
theorem grp_len (base : List Int) (l : List Ent) (h : base.length ≤ 1000) : (grpV base l).1.length ≤ 1000 := by
  have key : ∀ (m : List Ent) (s : List Int × Int), s.1.length ≤ 1000 → (m.foldl grpS s).1.length ≤ 1000 := by
    intro m
    induction m with
    | nil => intro s h; exact h
    | cons y m ih =>
      intro s h
      rw [List.foldl_cons]
      refine ih _ ?_
      unfold grpS
      split
      · rename_i hg
        unfold grpE at hg
        rw [Bool.and_eq_true] at hg
        have := memOk_len hg.1
        show y.bd.length ≤ 1000
        omega
      · exact h
  exact key l _ h

set_option maxRecDepth 100000 in
set_option maxHeartbeats 2000000 in
theorem groupLogs1 (base : List Int) (l : List Ent) (vx vl : Value) (w : World) (hx : Sl 1 i64Row w.heap.size w vx base) (hl : Sl 4 entRow w.heap.size w vl l) (hin : ∀ x ∈ l, EntIn w.heap.size w x ∧ x.bd.length ≤ 140737488351232) (hG : errTypeIs w) (hs1 : base.length ≤ 1000) (hs2 : sizeE l ≤ 1000) :
    Calls Tryz.prog 8 #[vx, vl] w fun e w' => e = .returned (.bool true) ∧ Below w.heap.size w w' := by
  have hll : l.length ≤ 1000 := Nat.le_trans (sizeE_len l) hs2
  have HSM := Lib.hid (show ∀ x ∈ l, x.bd.length ≤ 1000000 from fun x hx => by have := sizeE_mem hx; omega)
  have HG := Lib.hid hG
  have HX := Lib.hid hx
  have HL := Lib.hid hl
  have HIN := Lib.hid hin
  obtain ⟨A, cx, rfl, -⟩ := id hx
  obtain ⟨Al, capl, rfl, -⟩ := id hl
  have CE : Hid (Calls Tryz.prog 59 #[.slice Al l.length capl, .int .i64 1000] w fun e w' => ∃ n : Nat, e = .returned (.int .i64 n) ∧ (n : Int) ≤ 1000 ∧ w = w') := (entriesOf l 1000 _ w hl (fun x hx => (hin x hx).2) (by omega)).mono fun e w' ⟨n, he, hn, hw⟩ => ⟨n, he, by omega, hw⟩
  have h0 : (base.length : Int) ≤ 1000 := by omega
  have d0 : decide ((1000 : Int) < (base.length : Int)) = false := decide_eq_false (by omega)
  have L1 := Lib.hid (lentIntsF base (.slice A base.length cx) w hx (by omega))
  have L2 : Hid (∀ w1, Below w.heap.size w w1 → Calls Tryz.prog 13 #[.slice Al l.length capl] w1 (LentsPost l w1)) := fun w1 hb => lentEntries l _ w1 (HL.out.later hb) (fun x hx => ⟨(HIN.out x hx).1.later hb, HSM.out x hx⟩) (by omega)
  clear hG hx hl hin
  go_enter Tryz.func8, Tryz.ntmps8
  go_upto_region 4 with (first
    | (go_at_call 59; with_reducible refine CE.out.mono ?_; rintro e w2 ⟨n, rfl, hn, rfl⟩)
    | (go_at_call 49; with_reducible refine L1.out.mono ?_; rintro e w1 ⟨gx, bx, rfl, hgx, hlx, hb1⟩; have HB1 := Lib.hid hb1; have HLX1 := Lib.hid hlx; clear hb1 hlx)
    | (go_at_call 13; (with_reducible refine (L2.out w1 HB1.out).mono ?_); rintro e w3 ⟨g, cm, m, rfl, hg, hm, hlm, hbm, hb3⟩))
  have HB3 := Lib.hid (below_call HB1.out hb3)
  have HLX := Lib.hid (HLX1.out.later hb3)
  have HX3 := Lib.hid (HX.out.later HB3.out)
  have HL3 := Lib.hid (HL.out.later HB3.out)
  have HG3 := Lib.hid (errType_later HG.out HB3.out)
  have HLM := Lib.hid hlm
  have HBM := Lib.hid hbm
  have HM := Lib.hid hm
  have HIN3 := Lib.hid (show ∀ x ∈ l, EntIn w3.heap.size w3 x from fun x hx => (HIN.out x hx).1.later HB3.out)
  have HBY : Hid (∀ x ∈ m, ∀ y ∈ x.bd, 0 ≤ y ∧ y ≤ 255) := by
    intro x hx
    obtain ⟨i, hi⟩ := List.getElem?_of_mem hx
    obtain ⟨A2, c2, h2⟩ := keys_at hm.symm hi
    have h3 := (HIN3.out _ (List.mem_of_getElem? h2)).2
    exact h3
  have HMN := Lib.hid (show ∀ x ∈ m, EntIn w3.heap.size w3 x from fun x hx => ⟨(HBM.out x hx).sl, HBY.out x hx⟩)
  have hml := keys_length hm
  have HMS := Lib.hid (show Sl 4 entRow w3.heap.size w3 (.slice (some ⟨g, 0, none⟩) l.length cm) m from HLM.out.sl)
  have HSX := Lib.hid (show Sl 1 i64Row w3.heap.size w3 _ base from HLX.out.sl)
  have HGV := Lib.hid (show grpV base m = grpV base l from grp_key hm)
  clear L1 L2 CE HB1 HLX1 hgx hb3 hlm hbm hm hg
  obtain ⟨ch, hch⟩ : ∃ r, (grpV base l).1 = r := ⟨_, rfl⟩
  obtain ⟨at_, hat⟩ : ∃ r, (grpV base l).2 = r := ⟨_, rfl⟩
  have z1 : ch.length ≤ 1000 := by rw [← hch]; exact grp_len _ _ (by omega)
  have CG : Hid (∀ v, Below w3.heap.size w3 v → Calls Tryz.prog 60 #[.slice (some ⟨gx, 0, none⟩) base.length bx, .slice (some ⟨g, 0, none⟩) l.length cm] v (fun e w' => ∃ A c, e = .returned (.tuple #[.slice A ch.length c, .int .i64 at_]) ∧ Own 1 i64Row 3 v.heap.size w' (.slice A ch.length c) ch ∧ Below v.heap.size v w')) := fun v hv => by
    have h := (groupOf base m _ _ v (HSX.out.later hv) (HMS.out.later hv) (fun x hx => (HMN.out x hx).later hv) (by omega) (by omega)).mono fun e w' h => ownPair h
    rw [HGV.out, hch, hat] at h
    exact h
  have CF : Hid (∀ v, Below w3.heap.size w3 v → Calls Tryz.prog 61 #[.slice A base.length cx, .slice Al l.length capl] v (fun e w' => ∃ A c, e = .returned (.tuple #[.slice A ch.length c, .int .i64 at_]) ∧ Own 1 i64Row 3 v.heap.size w' (.slice A ch.length c) ch ∧ Below v.heap.size v w')) := fun v hv => by
    have h := (refOfG base l _ _ v (HX3.out.later hv) (HL3.out.later hv) (fun x hx => (HIN3.out x hx).later hv) (by omega) (by omega)).mono fun e w' h => ownPair h
    rw [hch, hat] at h
    exact h
  have KI : Hid (∀ v, Below w3.heap.size w3 v → Calls Tryz.prog 57 #[.slice (some ⟨gx, 0, none⟩) base.length bx, .slice A base.length cx] v (fun e w' => e = .returned (.bool true) ∧ Below v.heap.size v w')) := fun v hv =>
    (keptInts base _ _ v (HLX.out.later hv) (HX3.out.later hv) (by omega)).mono fun _ _ ⟨he, hw⟩ => ⟨he, by obtain ⟨n, rfl⟩ := hw; exact below_drewN (Below.refl _ _) n⟩
  have KE : Hid (∀ v, Below w3.heap.size w3 v → Calls Tryz.prog 25 #[.slice (some ⟨g, 0, none⟩) l.length cm, .slice Al l.length capl] v (fun e w' => e = .returned (.bool true) ∧ Below v.heap.size v w')) := fun v hv =>
    keptEntries l m _ _ v HM.out (HLM.out.later hv) (fun x hx => (HBM.out x hx).later hv) (HL3.out.later hv) (fun x hx => ⟨(HIN3.out x hx).later hv, HSM.out x hx⟩) (by omega)
  clear hch hat hml
  go_upto_region 5 with (go_at_call 60; with_reducible refine (CG.out w3 (Below.refl _ _)).mono ?_; rintro e w4 ⟨Ac, cc, rfl, ho, hb⟩; have HC := Lib.hid ho; have HB4 := Lib.hid hb; clear ho hb)
  have HB34 := Lib.hid HB4.out
  go_upto_region 6 with (go_at_call 61; with_reducible refine (CF.out w4 HB34.out).mono ?_; rintro e w5 ⟨Ad, cd, rfl, ho, hb⟩; have HD := Lib.hid ho; have HB5 := Lib.hid hb; clear ho hb)
  have HB35 := Lib.hid (below_call HB34.out HB5.out)
  go_upto_region 7 with (go_at_call 60; with_reducible refine (CG.out w5 HB35.out).mono ?_; rintro e w6 ⟨Ae, ce, rfl, ho, hb⟩; have HE := Lib.hid ho; have HB6 := Lib.hid hb; clear ho hb)
  have HB36 := Lib.hid (below_call HB35.out HB6.out)
  have hs3 : w3.heap.size ≤ w4.heap.size := HB4.out.size
  have hs4 : w4.heap.size ≤ w5.heap.size := HB5.out.size
  have hs5 : w5.heap.size ≤ w6.heap.size := HB6.out.size
  have HB46 := Lib.hid (below_call HB5.out HB6.out)
  have c6 := Lib.hid ((HC.out.later HB46.out).h)
  have d6 := Lib.hid ((HD.out.later HB6.out).sl i64Row_length)
  have e6 := Lib.hid (HE.out.h)
  have s6 := Lib.hid ((HC.out.later HB46.out).sl i64Row_length)
  have rc : Hid (∀ x, blkH (.slice Ac ch.length cc) = some x → w3.heap.size ≤ x ∧ x < w4.heap.size) := fun x hx => HC.out.h.block hx
  have re : Hid (∀ x, blkH (.slice Ae ch.length ce) = some x → w5.heap.size ≤ x ∧ x < w6.heap.size) := fun x hx => HE.out.h.block hx
  have SI : Hid (∀ v, Below w6.heap.size w6 v → Calls Tryz.prog 52 #[.slice Ac ch.length cc, .slice Ad ch.length cd] v (fun e w' => e = .returned (.bool true) ∧ Below v.heap.size v w')) := fun v hv =>
    (sameInts ch _ _ v (s6.out.later hv) (d6.out.later hv)).mono fun _ _ ⟨he, n, hn⟩ => ⟨he, by subst hn; exact below_drewN (Below.refl _ _) n⟩
  have API : Hid (∀ v, Below w6.heap.size w6 v → Calls Tryz.prog 58 #[.slice (some ⟨v.heap.size, 0, none⟩) 2 2] (v.alloc (.cells #[.slice Ac ch.length cc, .slice Ae ch.length ce] 70)) (fun e w' => e = .returned (.bool true) ∧ Below w3.heap.size v w')) := fun v hv => by
    have hsv := hv.size
    have hf := (fams2 (out := []) (base := w3.heap.size) (c6.out) (e6.out.imp (fun h => h.less (by omega)) id) (fun x h1 h2 => by have := rc.out x h1; have := re.out x h2; omega)
      (fun x h1 h2 => by simp at h2) (fun x h1 h2 => by simp at h2)).later hv
    have hb := below_new v (.cells #[.slice Ac ch.length cc, .slice Ae ch.length ce] 70)
    refine (apartInts w3.heap.size 2 [] _ _ v.heap.size 0 2 _ ((hf.more (Nat.le_refl _)).later hb) (fun j hj => ?_) (by simp) (by omega) (by omega) (fun j hj => ?_) (by simp; omega) (fun p hp => by simp at hp)).mono (fun e w' h => ⟨h.1, (hb.mono (by omega)).trans h.2.low⟩)
    · rcases (by omega : j = 0 ∨ j = 1) with rfl | rfl <;> (rw [World.cell?_alloc_new]; rfl)
    · rcases (by omega : j = 0 ∨ j = 1) with rfl | rfl <;> (show ch.length ≤ 100000; omega)
  have HQ := Lib.hid (Below.refl w6.heap.size w6)
  have HB := Lib.hid HB36.out
  clear HC HD HE HB4 HB5 HB6 HB34 HB35 HB46 rc re c6 d6 e6 s6 HLX HSX hs4 hs5 CG CF HMN HMS HBY HGV
  go_wp2_with (first
    | (go_at_call 52; with_reducible refine (SI.out _ HQ.out).mono ?_; rintro e wk ⟨rfl, hk⟩; replace HQ := Lib.hid (below_call HQ.out hk); replace HB := Lib.hid (below_call HB.out hk); clear hk)
    | (go_at_call 57; with_reducible refine (KI.out _ HB.out).mono ?_; rintro e wk ⟨rfl, hk⟩; (try replace HQ := Lib.hid (below_call HQ.out hk)); replace HB := Lib.hid (below_call HB.out hk); clear hk)
    | (go_at_call 25; with_reducible refine (KE.out _ HB.out).mono ?_; rintro e wk ⟨rfl, hk⟩; (try replace HQ := Lib.hid (below_call HQ.out hk)); replace HB := Lib.hid (below_call HB.out hk); clear hk)
    | (go_at_call 58; refine (API.out _ HQ.out).mono ?_; rintro e wk ⟨rfl, hk⟩; replace HB := Lib.hid (HB.out.trans hk); clear HQ hk)
    | (go_at_call 48; refine (awake22 _ (errType_later HG3.out HB.out)).mono ?_; rintro e wk ⟨rfl, hk⟩; replace HB := Lib.hid (HB.out.trans (hk.mono HB.out.size)); clear hk))
  go_ret
  exact ⟨rfl, below_call HB3.out HB.out⟩

set_option maxRecDepth 100000 in
set_option maxHeartbeats 2000000 in
theorem groupLogs (base : List Int) (l : List Ent) (vx vl : Value) (w : World) (hx : Sl 1 i64Row w.heap.size w vx base) (hl : Sl 4 entRow w.heap.size w vl l) (hin : ∀ x ∈ l, EntIn w.heap.size w x ∧ x.bd.length ≤ 140737488351232) (z1 : base.length ≤ 140737488351232) (hG : errTypeIs w) :
    Calls Tryz.prog 8 #[vx, vl] w fun e w' => e = .returned (.bool true) ∧ Below w.heap.size w w' := by
  by_cases hs1 : base.length ≤ 1000
  · by_cases hs2 : sizeE l ≤ 1000
    · exact groupLogs1 base l vx vl w hx hl hin hG hs1 hs2
    · obtain ⟨A, cx, rfl, -⟩ := id hx
      obtain ⟨Al, capl, rfl, -⟩ := id hl
      have CE : Hid (Calls Tryz.prog 59 #[.slice Al l.length capl, .int .i64 1000] w fun e w' => ∃ n : Nat, e = .returned (.int .i64 n) ∧ (1000 : Int) < (n : Int) ∧ w = w') := (entriesOf l 1000 _ w hl (fun x hx => (hin x hx).2) (by omega)).mono fun e w' ⟨n, he, hn, hw⟩ => ⟨n, he, by omega, hw⟩
      have HG := Lib.hid hG
      have d0 : decide ((1000 : Int) < (base.length : Int)) = false := decide_eq_false (by omega)
      have d1 : (base.length : Int) ≤ 1000 := by omega
      clear hs2 hx hl hin hG
      go_enter Tryz.func8, Tryz.ntmps8
      go_wp2_with (first
        | (go_at_call 59; with_reducible refine CE.out.mono ?_; rintro e w2 ⟨n, rfl, hn, rfl⟩)
        | (go_at_call 48; refine (awake22 _ HG.out).mono ?_; rintro e wk ⟨rfl, hk⟩; have HK := Lib.hid hk; clear hk))
      go_ret
      exact ⟨rfl, HK.out⟩
  obtain ⟨A, cx, rfl, -⟩ := id hx
  obtain ⟨Al, capl, rfl, -⟩ := id hl
  have HG := Lib.hid hG
  have d0 : decide ((1000 : Int) < (base.length : Int)) = true := decide_eq_true (by omega)
  have d1 : (1000 : Int) < (base.length : Int) := by omega
  clear hs1 hx hl hin hG
  go_enter Tryz.func8, Tryz.ntmps8
  go_wp2_with (go_at_call 48; refine (awake22 _ HG.out).mono ?_; rintro e wk ⟨rfl, hk⟩; have HK := Lib.hid hk; clear hk)
  go_ret
  exact ⟨rfl, HK.out⟩
end Go.Proofs.YthadfdpdillemaaGreatDoor
