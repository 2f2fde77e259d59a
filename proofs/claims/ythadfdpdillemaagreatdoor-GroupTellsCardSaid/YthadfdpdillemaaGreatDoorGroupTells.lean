/-
  GroupTells: true. Condition: errors.errorType holds its value.
-/
import Derived.Test.YthadfdpdillemaaGreatDoorRefGroup
import Derived.Test.YthadfdpdillemaaGreatDoorGroupChange
import Derived.Test.YthadfdpdillemaaGreatDoorGroupMeets
import Derived.Test.YthadfdpdillemaaGreatDoorKitInts
import Derived.Test.YthadfdpdillemaaGreatDoorKitSameInts
import Derived.Test.YthadfdpdillemaaGreatDoorApart
set_option linter.unusedVariables false
set_option linter.unusedSimpArgs false
namespace Go.Proofs.YthadfdpdillemaaGreatDoor
open Go.RowKit

/-- What a change makes. -/
def chgI (l : List Int) (a t : Int) : List Int := if mayV l a t then refV l a t else []
theorem chgI_len (l : List Int) (a t : Int) : (chgI l a t).length ≤ 7 := by
  unfold chgI
  split
  · exact Nat.le_trans (List.length_filter_le _ _) (Nat.le_refl 7)
  · simp
theorem chgPost_own {l : List Int} {a t : Int} {w w' : World} {e : Ending} (h : ChgPost l a t w e w') : ∃ A c, e = .returned (.tuple #[.slice A (chgI l a t).length c, .int .i64 (if mayV l a t then 0 else 2)]) ∧ Own 1 i64Row 3 w.heap.size w' (.slice A (chgI l a t).length c) (chgI l a t) ∧ Below w.heap.size w w' := by
  obtain ⟨v', he, ho, hb⟩ := h
  have e1 : (if mayV l a t then madeV l a t else []) = chgI l a t := by
    unfold chgI
    by_cases hm : mayV l a t = true
    · rw [if_pos hm, if_pos hm, made_ref hm]
    · rw [if_neg hm, if_neg hm]
  rw [e1] at ho
  obtain ⟨A, c, hv⟩ := ho.len
  exact ⟨A, c, by rw [he, hv], by rw [← hv]; exact ho, hb⟩
theorem refPost_own {l : List Int} {a t : Int} {w w' : World} {e : Ending} (h : RefPost l a t w e w') : ∃ A c, e = .returned (.tuple #[.slice A (chgI l a t).length c, .int .i64 (if mayV l a t then 0 else 2)]) ∧ Own 1 i64Row 3 w.heap.size w' (.slice A (chgI l a t).length c) (chgI l a t) ∧ Below w.heap.size w w' := by
  obtain ⟨v', he, ho, hb⟩ := h
  have ho : Own 1 i64Row 3 w.heap.size w' v' (chgI l a t) := ho
  obtain ⟨A, c, hv⟩ := ho.len
  exact ⟨A, c, by rw [he, hv], by rw [← hv]; exact ho, hb⟩

set_option maxRecDepth 100000 in
set_option maxHeartbeats 4000000 in
theorem groupTells1 (ms ys : List Int) (vx vy : Value) (a t : Int) (w : World) (hx : Sl 1 i64Row w.heap.size w vx ms) (hy : Sl 1 i64Row w.heap.size w vy ys) (hG : errTypeIs w) (hsm : ms.length + ys.length ≤ 1000) :
    Calls Tryz.prog 7 #[vx, vy, .int .i64 a, .int .i64 t] w fun e w' => e = .returned (.bool true) ∧ Below w.heap.size w w' := by
  have HG := Lib.hid hG
  have HX := Lib.hid hx
  have HY := Lib.hid hy
  obtain ⟨A, cx, rfl, -⟩ := id hx
  obtain ⟨B, cy, rfl, -⟩ := id hy
  have h0 : (ms.length : Int) + (ys.length : Int) ≤ 1000 := by omega
  have d0 : decide ((1000 : Int) < (ms.length : Int) + (ys.length : Int)) = false := decide_eq_false (by omega)
  have L1 := Lib.hid (lentIntsF ms (.slice A ms.length cx) w HX.out (by omega))
  have L2 : Hid (∀ w1, Below w.heap.size w w1 → Calls Tryz.prog 49 #[.slice B ys.length cy] w1 fun e w' => ∃ g cp, e = .returned (.slice (some ⟨g, 0, none⟩) ys.length cp) ∧ w1.heap.size ≤ g ∧ Lnt 1 i64Row marks w'.heap.size w' (.slice (some ⟨g, 0, none⟩) ys.length cp) ys ∧ Below w1.heap.size w1 w') := fun w1 hb => lentIntsF ys _ w1 (HY.out.later hb) (by omega)
  clear hG hx hy
  go_enter Tryz.func7, Tryz.ntmps7
  go_upto_region 4 with (first
    | (go_at_call 49; with_reducible refine L1.out.mono ?_; rintro e w1 ⟨gx, bx, rfl, hgx, hlx, hb1⟩; have HB1 := Lib.hid hb1; have HLX1 := Lib.hid hlx; clear hb1 hlx)
    | (go_at_call 49; with_reducible refine (L2.out w1 HB1.out).mono ?_; rintro e w3 ⟨gy, by3, rfl, hgy, hly, hb3⟩))
  have HB3 := Lib.hid (below_call HB1.out hb3)
  have HLX := Lib.hid (HLX1.out.later hb3)
  have HLY := Lib.hid hly
  have HX3 := Lib.hid (HX.out.later HB3.out)
  have HY3 := Lib.hid (HY.out.later HB3.out)
  have HG3 := Lib.hid (errType_later HG.out HB3.out)
  have HSX := Lib.hid (show Sl 1 i64Row w3.heap.size w3 _ ms from HLX.out.sl)
  have HSY := Lib.hid (show Sl 1 i64Row w3.heap.size w3 _ ys from HLY.out.sl)
  clear L1 L2 HB1 HLX1 hgx hgy hb3 hly
  obtain ⟨r1, hr1⟩ : ∃ r : Int, (if mayV ms a t then (0 : Int) else 2) = r := ⟨_, rfl⟩
  obtain ⟨wo, hwo⟩ : ∃ r : Bool, wonV ms ys = r := ⟨_, rfl⟩
  obtain ⟨io, hio⟩ : ∃ r : Bool, ms.contains a = r := ⟨_, rfl⟩
  obtain ⟨ch, hch⟩ : ∃ r, chgI ms a t = r := ⟨_, rfl⟩
  have z1 : ch.length ≤ 7 := by rw [← hch]; exact chgI_len _ _ _
  have CG : Hid (∀ v, Below w3.heap.size w3 v → Calls Tryz.prog 50 #[.slice (some ⟨gx, 0, none⟩) ms.length bx, .int .i64 a, .int .i64 t] v (fun e w' => ∃ A c, e = .returned (.tuple #[.slice A ch.length c, .int .i64 r1]) ∧ Own 1 i64Row 3 v.heap.size w' (.slice A ch.length c) ch ∧ Below v.heap.size v w')) := fun v hv => by
    have h := (groupChange ms a t _ v (HSX.out.later hv) (by omega) (errType_later HG3.out hv)).mono fun e w' h => chgPost_own h
    rw [hch, hr1] at h
    exact h
  have CF : Hid (∀ v, Below w3.heap.size w3 v → Calls Tryz.prog 51 #[.slice A ms.length cx, .int .i64 a, .int .i64 t] v (fun e w' => ∃ A c, e = .returned (.tuple #[.slice A ch.length c, .int .i64 r1]) ∧ Own 1 i64Row 3 v.heap.size w' (.slice A ch.length c) ch ∧ Below v.heap.size v w')) := fun v hv => by
    have h := (refChange ms a t _ v (HX3.out.later hv) (by omega)).mono fun e w' h => refPost_own h
    rw [hch, hr1] at h
    exact h
  have WG : Hid (∀ v, Below w3.heap.size w3 v → Calls Tryz.prog 53 #[.slice (some ⟨gx, 0, none⟩) ms.length bx, .slice (some ⟨gy, 0, none⟩) ys.length by3] v (fun e w' => e = .returned (.bool wo) ∧ v = w')) := fun v hv => by
    have h := groupWon ms ys _ _ v (HSX.out.later hv) (HSY.out.later hv) (by omega)
    rw [hwo] at h; exact h
  have WF : Hid (∀ v, Below w3.heap.size w3 v → Calls Tryz.prog 54 #[.slice A ms.length cx, .slice B ys.length cy] v (fun e w' => e = .returned (.bool wo) ∧ v = w')) := fun v hv => by
    have h := refWon ms ys _ _ v (HX3.out.later hv) (HY3.out.later hv) (by omega)
    rw [hwo] at h; exact h
  have NG : Hid (∀ v, Below w3.heap.size w3 v → Calls Tryz.prog 55 #[.slice (some ⟨gx, 0, none⟩) ms.length bx, .int .i64 a] v (fun e w' => e = .returned (.bool io) ∧ v = w')) := fun v hv => by
    have h := groupIn ms a _ v (HSX.out.later hv)
    rw [hio] at h; exact h
  have NF : Hid (∀ v, Below w3.heap.size w3 v → Calls Tryz.prog 56 #[.slice A ms.length cx, .int .i64 a] v (fun e w' => e = .returned (.bool io) ∧ v = w')) := fun v hv => by
    have h := refIn ms a _ v (HX3.out.later hv)
    rw [hio] at h; exact h
  have KI : Hid (∀ v, Below w3.heap.size w3 v → Calls Tryz.prog 57 #[.slice (some ⟨gx, 0, none⟩) ms.length bx, .slice A ms.length cx] v (fun e w' => e = .returned (.bool true) ∧ Below v.heap.size v w')) := fun v hv =>
    (keptInts ms _ _ v (HLX.out.later hv) (HX3.out.later hv) (by omega)).mono fun _ _ ⟨he, hw⟩ => ⟨he, by obtain ⟨n, rfl⟩ := hw; exact below_drewN (Below.refl _ _) n⟩
  have KY : Hid (∀ v, Below w3.heap.size w3 v → Calls Tryz.prog 57 #[.slice (some ⟨gy, 0, none⟩) ys.length by3, .slice B ys.length cy] v (fun e w' => e = .returned (.bool true) ∧ Below v.heap.size v w')) := fun v hv =>
    (keptInts ys _ _ v (HLY.out.later hv) (HY3.out.later hv) (by omega)).mono fun _ _ ⟨he, hw⟩ => ⟨he, by obtain ⟨n, rfl⟩ := hw; exact below_drewN (Below.refl _ _) n⟩
  clear hr1 hwo hio hch
  go_upto_region 5 with (go_at_call 50; with_reducible refine (CG.out w3 (Below.refl _ _)).mono ?_; rintro e w4 ⟨Ac, cc, rfl, ho, hb⟩; have HC := Lib.hid ho; have HB4 := Lib.hid hb; clear ho hb)
  have HB34 := Lib.hid HB4.out
  go_upto_region 6 with (go_at_call 51; with_reducible refine (CF.out w4 HB34.out).mono ?_; rintro e w5 ⟨Ad, cd, rfl, ho, hb⟩; have HD := Lib.hid ho; have HB5 := Lib.hid hb; clear ho hb)
  have HB35 := Lib.hid (below_call HB34.out HB5.out)
  go_upto_region 7 with (go_at_call 50; with_reducible refine (CG.out w5 HB35.out).mono ?_; rintro e w6 ⟨Ae, ce, rfl, ho, hb⟩; have HE := Lib.hid ho; have HB6 := Lib.hid hb; clear ho hb)
  have HB36 := Lib.hid (below_call HB35.out HB6.out)
  have hs3 : w3.heap.size ≤ w4.heap.size := HB4.out.size
  have hs4 : w4.heap.size ≤ w5.heap.size := HB5.out.size
  have hs5 : w5.heap.size ≤ w6.heap.size := HB6.out.size
  have HB46 := Lib.hid (below_call HB5.out HB6.out)
  have c6 := Lib.hid ((HC.out.later HB46.out).h)
  have d6 := Lib.hid ((HD.out.later HB6.out).sl i64Row_length)
  have e6 := Lib.hid (HE.out.h)
  have s6 := Lib.hid ((HC.out.later HB46.out).sl i64Row_length)
  have rc : Hid (∀ x, blkH (.slice Ac ch.length cc) = some x → w3.heap.size ≤ x ∧ x < w4.heap.size) := fun x hx => HC.out.h.block hx
  have re : Hid (∀ x, blkH (.slice Ae ch.length ce) = some x → w5.heap.size ≤ x ∧ x < w6.heap.size) := fun x hx => HE.out.h.block hx
  have SI : Hid (∀ v, Below w6.heap.size w6 v → Calls Tryz.prog 52 #[.slice Ac ch.length cc, .slice Ad ch.length cd] v (fun e w' => e = .returned (.bool true) ∧ Below v.heap.size v w')) := fun v hv =>
    (sameInts ch _ _ v (s6.out.later hv) (d6.out.later hv)).mono fun _ _ ⟨he, n, hn⟩ => ⟨he, by subst hn; exact below_drewN (Below.refl _ _) n⟩
  have API : Hid (∀ v, Below w6.heap.size w6 v → Calls Tryz.prog 58 #[.slice (some ⟨v.heap.size, 0, none⟩) 2 2] (v.alloc (.cells #[.slice Ac ch.length cc, .slice Ae ch.length ce] 70)) (fun e w' => e = .returned (.bool true) ∧ Below w3.heap.size v w')) := fun v hv => by
    have hsv := hv.size
    have hf := (fams2 (out := []) (base := w3.heap.size) (c6.out) (e6.out.imp (fun h => h.less (by omega)) id) (fun x h1 h2 => by have := rc.out x h1; have := re.out x h2; omega)
      (fun x h1 h2 => by simp at h2) (fun x h1 h2 => by simp at h2)).later hv
    have hb := below_new v (.cells #[.slice Ac ch.length cc, .slice Ae ch.length ce] 70)
    refine (apartInts w3.heap.size 2 [] _ _ v.heap.size 0 2 _ ((hf.more (Nat.le_refl _)).later hb) (fun j hj => ?_) (by simp) (by omega) (by omega) (fun j hj => ?_) (by simp; omega) (fun p hp => by simp at hp)).mono (fun e w' h => ⟨h.1, (hb.mono (by omega)).trans h.2.low⟩)
    · rcases (by omega : j = 0 ∨ j = 1) with rfl | rfl <;> (rw [World.cell?_alloc_new]; rfl)
    · rcases (by omega : j = 0 ∨ j = 1) with rfl | rfl <;> (show ch.length ≤ 100000; omega)
  have HL := Lib.hid (Below.refl w6.heap.size w6)
  have HB := Lib.hid HB36.out
  clear HC HD HE HB4 HB5 HB6 HB34 HB35 HB46 rc re c6 d6 e6 s6 HLX HLY HSX HSY hs4 hs5 CG CF
  go_upto_region 9 with (first
    | (go_at_call 52; with_reducible refine (SI.out _ HL.out).mono ?_; rintro e wk ⟨rfl, hk⟩; replace HL := Lib.hid (below_call HL.out hk); replace HB := Lib.hid (below_call HB.out hk); clear hk)
    | (go_at_call 53; with_reducible refine (WG.out _ HB.out).mono ?_; rintro e wk ⟨rfl, rfl⟩)
    | (go_at_call 54; with_reducible refine (WF.out _ HB.out).mono ?_; rintro e wk ⟨rfl, rfl⟩)
    | (go_at_call 55; with_reducible refine (NG.out _ HB.out).mono ?_; rintro e wk ⟨rfl, rfl⟩)
    | (go_at_call 56; with_reducible refine (NF.out _ HB.out).mono ?_; rintro e wk ⟨rfl, rfl⟩))
  go_wp2_with (first
    | (go_at_call 57; with_reducible refine (KI.out _ HB.out).mono ?_; rintro e wk ⟨rfl, hk⟩; (try replace HL := Lib.hid (below_call HL.out hk)); replace HB := Lib.hid (below_call HB.out hk); clear hk)
    | (go_at_call 57; with_reducible refine (KY.out _ HB.out).mono ?_; rintro e wk ⟨rfl, hk⟩; (try replace HL := Lib.hid (below_call HL.out hk)); replace HB := Lib.hid (below_call HB.out hk); clear hk)
    | (go_at_call 58; refine (API.out _ HL.out).mono ?_; rintro e wk ⟨rfl, hk⟩; replace HB := Lib.hid (HB.out.trans hk); clear HL hk)
    | (go_at_call 48; refine (awake22 _ (errType_later HG3.out HB.out)).mono ?_; rintro e wk ⟨rfl, hk⟩; replace HB := Lib.hid (HB.out.trans (hk.mono HB.out.size)); clear hk))
  go_ret
  exact ⟨rfl, below_call HB3.out HB.out⟩

set_option maxRecDepth 100000 in
set_option maxHeartbeats 4000000 in
theorem groupTells (ms ys : List Int) (vx vy : Value) (a t : Int) (w : World) (hx : Sl 1 i64Row w.heap.size w vx ms) (hy : Sl 1 i64Row w.heap.size w vy ys) (z1 : ms.length ≤ 140737488351232) (z2 : ys.length ≤ 140737488351232) (hG : errTypeIs w) :
    Calls Tryz.prog 7 #[vx, vy, .int .i64 a, .int .i64 t] w fun e w' => e = .returned (.bool true) ∧ Below w.heap.size w w' := by
  by_cases hsm : ms.length + ys.length ≤ 1000
  · exact groupTells1 ms ys vx vy a t w hx hy hG hsm
  obtain ⟨A, cx, rfl, -⟩ := id hx
  obtain ⟨B, cy, rfl, -⟩ := id hy
  have HG := Lib.hid hG
  have w1 : wrap64 ((ms.length : Int) + (ys.length : Int)) = (ms.length : Int) + (ys.length : Int) := by unfold wrap64; omega
  have d0 : decide ((1000 : Int) < (ms.length : Int) + (ys.length : Int)) = true := decide_eq_true (by omega)
  have d1 : (1000 : Int) < (ms.length : Int) + (ys.length : Int) := by omega
  clear hsm hx hy hG
  go_enter Tryz.func7, Tryz.ntmps7
  go_wp2_with (go_at_call 48; refine (awake22 _ HG.out).mono ?_; rintro e wk ⟨rfl, hk⟩; have HK := Lib.hid hk; clear hk)
  go_ret
  exact ⟨rfl, HK.out⟩
end Go.Proofs.YthadfdpdillemaaGreatDoor
