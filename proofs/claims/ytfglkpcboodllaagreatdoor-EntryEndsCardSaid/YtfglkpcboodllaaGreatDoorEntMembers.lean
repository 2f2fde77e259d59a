/-
  limpetlaw17's EntryMembers: true.
-/
import Derived.Test.YtfglkpcboodllaaGreatDoorApart
import Derived.Test.YtfglkpcboodllaaGreatDoorEntRef2
import Derived.Test.YtfglkpcboodllaaGreatDoorKitBytes
import Derived.Test.YtfglkpcboodllaaGreatDoorKitSameInts
import Derived.Test.YtfglkpcboodllaaGreatDoorEntAwake2
set_option linter.unusedVariables false
set_option linter.unusedSimpArgs false
namespace Go.Proofs.YtfglkpcboodllaaGreatDoor
open Go.RowKit

set_option maxRecDepth 100000 in
set_option maxHeartbeats 1000000 in
theorem members_big (ms bs : List Int) (vx vy : Value) (w : World) (hx : Sl 1 i64Row w.heap.size w vx ms) (hy : Sl 1 u8Row w.heap.size w vy bs) (hbb : ∀ x ∈ bs, 0 ≤ x ∧ x ≤ 255) (hG : errTypeIs w) (zx : ms.length ≤ 140737488351232) (zy : bs.length ≤ 140737488351232) (hbig : 4000 < ms.length + bs.length) :
    Calls Tryz.prog 10 #[vx, vy] w fun e w' => e = .returned (.bool true) ∧ Below w.heap.size w w' := by
  have HG := Lib.hid hG
  obtain ⟨A, cx, rfl, -⟩ := id hx
  obtain ⟨B, cy, rfl, -⟩ := id hy
  have h0 : (4000 : Int) < (ms.length : Int) + (bs.length : Int) := by omega
  have d0 : decide ((4000 : Int) < (ms.length : Int) + (bs.length : Int)) = true := decide_eq_true h0
  clear hG hx hy
  go_enter Tryz.func10, Tryz.ntmps10
  go_wp2_with (first
    | (go_at_call 11; refine (awake _ HG.out).mono ?_; rintro e w3 ⟨rfl, hb3⟩))
  go_ret
  exact ⟨rfl, hb3⟩

def bytL (ms : List Int) : List Int := if memRight ms then ms else []
def memL (bs : List Int) : List Int := if memOk bs then bs else []
theorem bytPost_own {ms : List Int} {w w' : World} {e : Ending} (h : BytPost ms w e w') : ∃ A c, e = .returned (.tuple #[.slice A (bytL ms).length c, .int .i64 (if memRight ms then 0 else 2)]) ∧ Own 1 u8Row 5 w.heap.size w' (.slice A (bytL ms).length c) (bytL ms) ∧ Below w.heap.size w w' := by
  obtain ⟨v', he, ho, hb⟩ := h
  unfold bytL
  cases hm : memRight ms with
  | true =>
    rw [hm] at ho
    obtain ⟨A, c, hv⟩ := ho.1.len
    refine ⟨A, c, ?_, ?_, hb⟩
    · rw [he, hv, hm]; rfl
    · rw [if_pos rfl, ← hv]; exact ho.1
  | false =>
    rw [hm] at ho
    have hv : v' = .slice none 0 0 := ho
    refine ⟨none, 0, ?_, ?_, hb⟩
    · rw [he, hv, hm]; rfl
    · exact Own.nil_ _ _ _ _ _
theorem memPost_own {bs : List Int} {w w' : World} {e : Ending} (h : MemPost bs w e w') : ∃ A c, e = .returned (.tuple #[.slice A (memL bs).length c, .int .i64 (if memOk bs then 0 else 4)]) ∧ Own 1 i64Row 3 w.heap.size w' (.slice A (memL bs).length c) (memL bs) ∧ Below w.heap.size w w' := by
  obtain ⟨v', he, ho, hb⟩ := h
  unfold memL
  cases hm : memOk bs with
  | true =>
    rw [hm] at ho
    obtain ⟨A, c, hv⟩ := Own.len ho
    refine ⟨A, c, ?_, ?_, hb⟩
    · rw [he, hv, hm]; rfl
    · rw [if_pos rfl, ← hv]; exact ho
  | false =>
    rw [hm] at ho
    have hv : v' = .slice none 0 0 := ho
    refine ⟨none, 0, ?_, ?_, hb⟩
    · rw [he, hv, hm]; rfl
    · exact Own.nil_ _ _ _ _ _
theorem bytL_len (ms : List Int) (h : ms.length ≤ 4000) : (bytL ms).length ≤ 4000 := by unfold bytL; split; (exact h); (simp)
theorem memL_len (ms : List Int) (h : ms.length ≤ 4000) : (memL ms).length ≤ 4000 := by unfold memL; split; (exact h); (simp)

set_option maxRecDepth 100000 in
set_option maxHeartbeats 4000000 in
theorem members_one (ms bs : List Int) (vx vy : Value) (w : World) (hx : Sl 1 i64Row w.heap.size w vx ms) (hy : Sl 1 u8Row w.heap.size w vy bs) (hbb : ∀ x ∈ bs, 0 ≤ x ∧ x ≤ 255) (hG : errTypeIs w) (hsm : ms.length + bs.length ≤ 4000) :
    Calls Tryz.prog 10 #[vx, vy] w fun e w' => e = .returned (.bool true) ∧ Below w.heap.size w w' := by
  have HG := Lib.hid hG
  have HX := Lib.hid hx
  have HY := Lib.hid hy
  have HBB := Lib.hid hbb
  have z1 := bytL_len ms (by omega)
  have z2 := memL_len bs (by omega)
  obtain ⟨A, cx, rfl, -⟩ := id hx
  obtain ⟨B, cy, rfl, -⟩ := id hy
  have h0 : (ms.length : Int) + (bs.length : Int) ≤ 4000 := by omega
  have d0 : decide ((4000 : Int) < (ms.length : Int) + (bs.length : Int)) = false := decide_eq_false (by omega)
  clear hG hx hy hbb
  go_enter Tryz.func10, Tryz.ntmps10
  -- what is lent
  go_upto_region 4 with (first
    | (go_at_call 61; refine (lentIntsF ms _ w HX.out (by omega)).mono ?_; rintro e w1 ⟨gx, bx, rfl, hgx, hlx, hb1⟩; have HB1 := Lib.hid hb1; have HLX1 := Lib.hid hlx; clear hb1 hlx)
    | (go_at_call 62; refine (lentBytes bs _ w1 (HY.out.later HB1.out) (by omega)).mono ?_; rintro e w3 ⟨gy, by3, rfl, hgy, hly, hb3⟩))
  have HB3 := Lib.hid (below_call HB1.out hb3)
  have HLX := Lib.hid (HLX1.out.later hb3)
  have HLY := Lib.hid hly
  have HX3 := Lib.hid (HX.out.later HB3.out)
  have HY3 := Lib.hid (HY.out.later HB3.out)
  have HG3 := Lib.hid (errType_later HG.out HB3.out)
  have HSX := Lib.hid (show Sl 1 i64Row w3.heap.size w3 _ ms from HLX.out.sl)
  have HSY := Lib.hid (show Sl 1 u8Row w3.heap.size w3 _ bs from HLY.out.sl)
  clear HB1 HLX1 hgx hgy hb3 hly
  obtain ⟨r1, hr1⟩ : ∃ r : Int, (if memRight ms then (0 : Int) else 2) = r := ⟨_, rfl⟩
  obtain ⟨r2, hr2⟩ : ∃ r : Int, (if memOk bs then (0 : Int) else 4) = r := ⟨_, rfl⟩
  obtain ⟨mr, hmr⟩ : ∃ r : Bool, memRight ms = r := ⟨_, rfl⟩
  have HR1 := Lib.hid hr1
  have HR2 := Lib.hid hr2
  have HMR := Lib.hid hmr
  clear hr1 hr2 hmr
  go_upto_region 5 with (go_at_call 63; refine (entBytes ms _ w3 HSX.out).mono ?_; rintro e w4 hp; obtain ⟨Ac, cc, rfl, ho, hb⟩ := bytPost_own hp; rw [HR1.out]; have HC := Lib.hid ho; have HB4 := Lib.hid hb; clear hp ho hb)
  have HB34 := Lib.hid HB4.out
  go_upto_region 6 with (go_at_call 64; refine (refBytes ms _ w4 (HX3.out.later HB4.out)).mono ?_; rintro e w5 hp; obtain ⟨Ad, cd, rfl, ho, hb⟩ := bytPost_own hp; rw [HR1.out]; have HD := Lib.hid ho; have HB5 := Lib.hid hb; clear hp ho hb)
  have HB35 := Lib.hid (below_call HB34.out HB5.out)
  go_upto_region 7 with (go_at_call 65; refine (entMembers bs HBB.out _ w5 (HSY.out.later HB35.out)).mono ?_; rintro e w6 hp; obtain ⟨Al, cl, rfl, ho, hb⟩ := memPost_own hp; rw [HR2.out]; have HLl := Lib.hid ho; have HB6 := Lib.hid hb; clear hp ho hb)
  have HB36 := Lib.hid (below_call HB35.out HB6.out)
  go_upto_region 8 with (go_at_call 66; refine (refMembers bs HBB.out _ w6 (HY3.out.later HB36.out)).mono ?_; rintro e w7 hp; obtain ⟨Am, cm, rfl, ho, hb⟩ := memPost_own hp; rw [HR2.out]; have HM := Lib.hid ho; have HB7 := Lib.hid hb; clear hp ho hb)
  have HB37 := Lib.hid (below_call HB36.out HB7.out)
  go_upto_region 9 with (go_at_call 63; refine (entBytes ms _ w7 (HSX.out.later HB37.out)).mono ?_; rintro e w8 hp; obtain ⟨Ae, ce, rfl, ho, hb⟩ := bytPost_own hp; rw [HR1.out]; have HC2 := Lib.hid ho; have HB8 := Lib.hid hb; clear hp ho hb)
  have HB38 := Lib.hid (below_call HB37.out HB8.out)
  go_upto_region 10 with (go_at_call 65; refine (entMembers bs HBB.out _ w8 (HSY.out.later HB38.out)).mono ?_; rintro e w9 hp; obtain ⟨Af, cf, rfl, ho, hb⟩ := memPost_own hp; rw [HR2.out]; have HL2 := Lib.hid ho; have HB9 := Lib.hid hb; clear hp ho hb)
  have HB39 := Lib.hid (below_call HB38.out HB9.out)
  have hs3 : w3.heap.size ≤ w4.heap.size := HB4.out.size
  have hs4 : w4.heap.size ≤ w5.heap.size := HB5.out.size
  have hs5 : w5.heap.size ≤ w6.heap.size := HB6.out.size
  have hs6 : w6.heap.size ≤ w7.heap.size := HB7.out.size
  have hs7 : w7.heap.size ≤ w8.heap.size := HB8.out.size
  have hs8 : w8.heap.size ≤ w9.heap.size := HB9.out.size
  have HB89 := Lib.hid HB9.out
  have HB79 := Lib.hid (below_call HB8.out HB9.out)
  have HB69 := Lib.hid (below_call HB7.out HB79.out)
  have HB59 := Lib.hid (below_call HB6.out HB69.out)
  have HB49 := Lib.hid (below_call HB5.out HB59.out)
  -- all in the last world
  have c9 := Lib.hid ((HC.out.later HB49.out).h)
  have d9 := Lib.hid ((HD.out.later HB59.out).sl u8Row_length)
  have l9 := Lib.hid ((HLl.out.later HB69.out).h)
  have m9 := Lib.hid ((HM.out.later HB79.out).sl i64Row_length)
  have e9 := Lib.hid ((HC2.out.later HB89.out).h)
  have f9 := Lib.hid (HL2.out.h)
  have rc : Hid (∀ x, blkH (.slice Ac (bytL ms).length cc) = some x → w3.heap.size ≤ x ∧ x < w4.heap.size) := fun x hx => HC.out.h.block hx
  have rl : Hid (∀ x, blkH (.slice Al (memL bs).length cl) = some x → w5.heap.size ≤ x ∧ x < w6.heap.size) := fun x hx => HLl.out.h.block hx
  have re : Hid (∀ x, blkH (.slice Ae (bytL ms).length ce) = some x → w7.heap.size ≤ x ∧ x < w8.heap.size) := fun x hx => HC2.out.h.block hx
  have rf : Hid (∀ x, blkH (.slice Af (memL bs).length cf) = some x → w8.heap.size ≤ x ∧ x < w9.heap.size) := fun x hx => HL2.out.h.block hx
  obtain ⟨E, hE⟩ : ∃ E : List Nat, E = (blkH (.slice Al (memL bs).length cl)).toList ++ (blkH (.slice Af (memL bs).length cf)).toList := ⟨_, rfl⟩
  have hE1 : ∀ x, x ∈ E ↔ blkH (.slice Al (memL bs).length cl) = some x ∨ blkH (.slice Af (memL bs).length cf) = some x := fun x => by rw [hE]; simp [Option.mem_toList]
  have HEE := Lib.hid hE1
  have APB : Hid (∀ v, Below w9.heap.size w9 v → Calls Tryz.prog 73 #[.slice (some ⟨v.heap.size, 0, none⟩) 2 2] (v.alloc (.cells #[.slice Ac (bytL ms).length cc, .slice Ae (bytL ms).length ce] 26)) (fun e w' => e = .returned (.bool true) ∧ Kp w3.heap.size E v w')) := fun v hv => by
    have hsv := hv.size
    have hf := (fams2 (out := E) (base := w3.heap.size) (c9.out) (e9.out.imp (fun h => h.less (by omega)) id) (fun x h1 h2 => by have := rc.out x h1; have := re.out x h2; omega)
      (fun x h1 h2 => by have := rc.out x h1; rcases (HEE.out x).1 h2 with h | h; (have := rl.out x h; omega); (have := rf.out x h; omega))
      (fun x h1 h2 => by have := re.out x h1; rcases (HEE.out x).1 h2 with h | h; (have := rl.out x h; omega); (have := rf.out x h; omega))).later hv
    have hb := below_new v (.cells #[.slice Ac (bytL ms).length cc, .slice Ae (bytL ms).length ce] 26)
    refine (apartBytes w3.heap.size 2 E _ _ v.heap.size 0 2 _ ((hf.more (Nat.le_refl _)).later hb) (fun j hj => ?_) (by simp) (by omega) (by omega) (fun j hj => ?_) (by simp; omega) (fun p hp => ?_)).mono (fun e w' h => ⟨h.1, ⟨(hb.mono (by omega)).trans h.2.low, fun p hp hs => (h.2.ext p hp (by simp; omega)).trans (Below.heap_alloc v _ p hs)⟩⟩)
    · rcases (by omega : j = 0 ∨ j = 1) with rfl | rfl <;> (rw [World.cell?_alloc_new]; rfl)
    · rcases (by omega : j = 0 ∨ j = 1) with rfl | rfl <;> (show (bytL ms).length ≤ 100000; omega)
    · rcases (HEE.out p).1 hp with h | h
      · have := rl.out p h; simp; omega
      · have := rf.out p h; simp; omega
  have API : Hid (∀ v, Kp w3.heap.size E w9 v → Calls Tryz.prog 74 #[.slice (some ⟨v.heap.size, 0, none⟩) 2 2] (v.alloc (.cells #[.slice Al (memL bs).length cl, .slice Af (memL bs).length cf] 22)) (fun e w' => e = .returned (.bool true) ∧ Below w3.heap.size v w')) := fun v hv => by
    have hsv := hv.low.size
    have hf := (fams2 (out := []) (base := w3.heap.size) ((l9.out.stay (w' := v) fun x hx => hv.ext x ((HEE.out x).2 (.inl hx)) (by have := rl.out x hx; omega)).imp (fun h => h.less (by omega)) id) ((f9.out.stay (w' := v) fun x hx => hv.ext x ((HEE.out x).2 (.inr hx)) (by have := rf.out x hx; omega)).imp (fun h => h.less (by omega)) id) (fun x h1 h2 => by have := rl.out x h1; have := rf.out x h2; omega)
      (fun x h1 h2 => by simp at h2) (fun x h1 h2 => by simp at h2))
    have hb := below_new v (.cells #[.slice Al (memL bs).length cl, .slice Af (memL bs).length cf] 22)
    refine (apartInts w3.heap.size 2 [] _ _ v.heap.size 0 2 _ ((hf.more (Nat.le_refl _)).later hb) (fun j hj => ?_) (by simp) (by omega) (by omega) (fun j hj => ?_) (by simp; omega) (fun p hp => by simp at hp)).mono (fun e w' h => ⟨h.1, (hb.mono (by omega)).trans h.2.low⟩)
    · rcases (by omega : j = 0 ∨ j = 1) with rfl | rfl <;> (rw [World.cell?_alloc_new]; rfl)
    · rcases (by omega : j = 0 ∨ j = 1) with rfl | rfl <;> (show (memL bs).length ≤ 100000; omega)
  have KI : Hid (∀ v, Below w3.heap.size w3 v → Calls Tryz.prog 71 #[.slice (some ⟨gx, 0, none⟩) ms.length bx, .slice A ms.length cx] v (fun e w' => e = .returned (.bool true) ∧ Below v.heap.size v w')) := fun v hv =>
    (keptInts ms _ _ v (HLX.out.later hv) (HX3.out.later hv) (by omega)).mono fun _ _ ⟨he, hw⟩ => ⟨he, by obtain ⟨n, rfl⟩ := hw; exact below_drewN (Below.refl _ _) n⟩
  have KB : Hid (∀ v, Below w3.heap.size w3 v → Calls Tryz.prog 72 #[.slice (some ⟨gy, 0, none⟩) bs.length by3, .slice B bs.length cy] v (fun e w' => e = .returned (.bool true) ∧ Below v.heap.size v w')) := fun v hv =>
    keptBytes bs _ _ v (HLY.out.later hv) (HY3.out.later hv) (by omega)
  have SB : Hid (∀ v, Below w9.heap.size w9 v → Calls Tryz.prog 69 #[.slice Ac (bytL ms).length cc, .slice Ad (bytL ms).length cd] v (fun e w' => e = .returned (.bool true) ∧ Below v.heap.size v w')) := fun v hv =>
    (sameBytes (bytL ms) _ _ v ((c9.out.sl u8Row_length).later hv) (d9.out.later hv)).mono fun _ _ ⟨he, n, hn⟩ => ⟨he, by subst hn; exact below_drewN (Below.refl _ _) n⟩
  have SI : Hid (∀ v, Below w9.heap.size w9 v → Calls Tryz.prog 70 #[.slice Al (memL bs).length cl, .slice Am (memL bs).length cm] v (fun e w' => e = .returned (.bool true) ∧ Below v.heap.size v w')) := fun v hv =>
    (sameInts (memL bs) _ _ v ((l9.out.sl i64Row_length).later hv) (m9.out.later hv)).mono fun _ _ ⟨he, n, hn⟩ => ⟨he, by subst hn; exact below_drewN (Below.refl _ _) n⟩
  have ER : Hid (∀ v, Below w9.heap.size w9 v → Calls Tryz.prog 67 #[.slice (some ⟨gx, 0, none⟩) ms.length bx] v (fun e w' => e = .returned (.bool mr) ∧ Below v.heap.size v w')) := fun v hv => by
    have h := entryRight ms _ v (HSX.out.later (below_call HB39.out hv)); rw [HMR.out] at h; exact h.mono fun _ _ ⟨he, hw⟩ => ⟨he, by subst hw; exact Below.refl _ _⟩
  have RR : Hid (∀ v, Below w9.heap.size w9 v → Calls Tryz.prog 68 #[.slice A ms.length cx] v (fun e w' => e = .returned (.bool mr) ∧ Below v.heap.size v w')) := fun v hv => by
    have h := refRight ms _ v (HX3.out.later (below_call HB39.out hv)); rw [HMR.out] at h; exact h.mono fun _ _ ⟨he, hw⟩ => ⟨he, by subst hw; exact Below.refl _ _⟩
  have HL := Lib.hid (Below.refl w9.heap.size w9)
  have HB := Lib.hid HB39.out
  clear HC HD HLl HM HC2 HL2 HB4 HB5 HB6 HB7 HB8 HB9 HB34 HB35 HB36 HB37 HB38 HB89 HB79 HB69 HB59 HB49 rc rl re rf hE hE1 HEE c9 d9 l9 m9 e9 f9 HR1 HR2 HMR HSX HSY hs3 hs4 hs5 hs6 hs7 hs8
  go_upto_region 12 with (first
    | (go_at_call 67; refine (ER.out _ HL.out).mono ?_; rintro e wk ⟨rfl, hk⟩; replace HL := Lib.hid (below_call HL.out hk); clear hk)
    | (go_at_call 68; refine (RR.out _ HL.out).mono ?_; rintro e wk ⟨rfl, hk⟩; replace HL := Lib.hid (below_call HL.out hk); clear hk)
    | (go_at_call 69; refine (SB.out _ HL.out).mono ?_; rintro e wk ⟨rfl, hk⟩; replace HL := Lib.hid (below_call HL.out hk); clear hk)
    | (go_at_call 70; refine (SI.out _ HL.out).mono ?_; rintro e wk ⟨rfl, hk⟩; replace HL := Lib.hid (below_call HL.out hk); clear hk))
  replace HB := Lib.hid (below_call HB39.out HL.out)
  have hs39 : w3.heap.size ≤ w9.heap.size := HB39.out.size
  go_wp2_with (first
    | (go_at_call 71; refine (KI.out _ HB.out).mono ?_; rintro e wk ⟨rfl, hk⟩; replace HL := Lib.hid (below_call HL.out hk); replace HB := Lib.hid (below_call HB.out hk); clear hk)
    | (go_at_call 73; refine (APB.out _ HL.out).mono ?_; rintro e wk ⟨rfl, hk⟩; have HK := Lib.hid (show Kp w3.heap.size E w9 _ from ⟨(HL.out.mono hs39).trans hk.low, fun p hp hs => (hk.ext p hp (Nat.lt_of_lt_of_le hs HL.out.size)).trans (HL.out.block p hs)⟩); replace HB := Lib.hid (HB.out.trans hk.low); clear HL hk)
    | (go_at_call 74; refine (API.out _ HK.out).mono ?_; rintro e wk ⟨rfl, hk⟩; replace HB := Lib.hid (HB.out.trans hk); clear HK hk)
    | (go_at_call 72; refine (KB.out _ HB.out).mono ?_; rintro e wk ⟨rfl, hk⟩; (try replace HL := Lib.hid (below_call HL.out hk)); replace HB := Lib.hid (HB.out.trans (hk.mono HB.out.size)); clear hk)
    | (go_at_call 11; refine (awake _ (errType_later HG3.out HB.out)).mono ?_; rintro e wk ⟨rfl, hk⟩; replace HB := Lib.hid (HB.out.trans (hk.mono HB.out.size)); clear hk))
  go_ret
  exact ⟨rfl, below_call HB3.out HB.out⟩
end Go.Proofs.YtfglkpcboodllaaGreatDoor
