/-
  GroupSmall: the last texts in one (GroupBods, SlCut, GroupTells, RefGroupOf, GroupLogs, GroupSmall).
-/
import Derived.Test.YthadfdpdillemaaGreatDoorEntMath
import Derived.Test.YthadfdpdillemaaGreatDoorAppend
import Derived.Test.YthadfdpdillemaaGreatDoorBase
import Derived.Test.YthadfdpdillemaaGreatDoorRefGroup
import Derived.Test.YthadfdpdillemaaGreatDoorGroupChange
import Derived.Test.YthadfdpdillemaaGreatDoorGroupMeets
import Derived.Test.YthadfdpdillemaaGreatDoorKitInts
import Derived.Test.YthadfdpdillemaaGreatDoorKitSameInts
import Derived.Test.YthadfdpdillemaaGreatDoorApart
import Derived.Test.YthadfdpdillemaaGreatDoorGroupLogMath
import Derived.Test.YthadfdpdillemaaGreatDoorGroupOf
import Derived.Test.YthadfdpdillemaaGreatDoorEntRef
import Derived.Test.YthadfdpdillemaaGreatDoorGroupOf2
import Derived.Test.YthadfdpdillemaaGreatDoorKitEnt
import Derived.Test.YthadfdpdillemaaGreatDoorKitEnts2
set_option linter.unusedVariables false
namespace Go.Proofs.YthadfdpdillemaaGreatDoor
open Go.RowKit

def Bods (W : World) (g : Nat) : Prop := g < W.heap.size ∧ ∀ j, j < 7 → ∃ (A : Option Addr) (c : Nat) (D : List Int), W.cell? ⟨g, j, none⟩ = some (.slice A D.length c) ∧ Sl 1 u8Row W.heap.size W (.slice A D.length c) D ∧ (∀ y ∈ D, 0 ≤ y ∧ y ≤ 255) ∧ D.length ≤ 7
theorem Bods.later {W W' : World} {g : Nat} (h : Bods W g) (hb : Below W.heap.size W W') : Bods W' g := by
  refine ⟨Nat.lt_of_lt_of_le h.1 hb.size, fun j hj => ?_⟩
  obtain ⟨A, c, D, h1, h2, h3, h4⟩ := h.2 j hj
  exact ⟨A, c, D, (hb.cell (p := ⟨g, j, none⟩) h.1).trans h1, h2.later hb, h3, h4⟩
theorem box_u8 {w : World} {n : Nat} {cs : Array Value} (l : List Int) (h : Box w n cs 5) (hcs : cs = (l.flatMap u8Row).toArray) (hl : l.length ≤ 1000) : Sl 1 u8Row w.heap.size w (.slice (some ⟨n, 0, none⟩) l.length l.length) l :=
  Box.sl u8Row_length l h hcs (by unfold maxLen; omega)
theorem bods_made (w : World) (t : TypeId) : Bods (((((((w.alloc (.cells #[.int .u8 1] 5)).alloc (.cells #[.int .u8 2, .int .u8 3] 5)).alloc (.cells #[.int .u8 3, .int .u8 2] 5)).alloc (.cells #[.int .u8 0] 5)).alloc (.cells #[.int .u8 1, .int .u8 2, .int .u8 3, .int .u8 4, .int .u8 5, .int .u8 6, .int .u8 7] 5)).alloc (.cells #[.int .u8 8] 5)).alloc (.cells #[.slice none 0 0, .slice (some ⟨w.heap.size, 0, none⟩) 1 1, .slice (some ⟨w.heap.size + 1, 0, none⟩) 2 2, .slice (some ⟨w.heap.size + 1 + 1, 0, none⟩) 2 2, .slice (some ⟨w.heap.size + 1 + 1 + 1, 0, none⟩) 1 1, .slice (some ⟨w.heap.size + 1 + 1 + 1 + 1, 0, none⟩) 7 7, .slice (some ⟨w.heap.size + 1 + 1 + 1 + 1 + 1, 0, none⟩) 1 1] t)) (w.heap.size + 1 + 1 + 1 + 1 + 1 + 1) := by
  obtain ⟨w1, h1⟩ : ∃ z, z = w.alloc (.cells #[.int .u8 1] 5) := ⟨_, rfl⟩
  obtain ⟨w2, h2⟩ : ∃ z, z = w1.alloc (.cells #[.int .u8 2, .int .u8 3] 5) := ⟨_, rfl⟩
  obtain ⟨w3, h3⟩ : ∃ z, z = w2.alloc (.cells #[.int .u8 3, .int .u8 2] 5) := ⟨_, rfl⟩
  obtain ⟨w4, h4⟩ : ∃ z, z = w3.alloc (.cells #[.int .u8 0] 5) := ⟨_, rfl⟩
  obtain ⟨w5, h5⟩ : ∃ z, z = w4.alloc (.cells #[.int .u8 1, .int .u8 2, .int .u8 3, .int .u8 4, .int .u8 5, .int .u8 6, .int .u8 7] 5) := ⟨_, rfl⟩
  obtain ⟨w6, h6⟩ : ∃ z, z = w5.alloc (.cells #[.int .u8 8] 5) := ⟨_, rfl⟩
  have s1 : w1.heap.size = w.heap.size + 1 := by rw [h1]; simp
  have s2 : w2.heap.size = w.heap.size + 1 + 1 := by rw [h2, World.size_alloc, s1]
  have s3 : w3.heap.size = w.heap.size + 1 + 1 + 1 := by rw [h3, World.size_alloc, s2]
  have s4 : w4.heap.size = w.heap.size + 1 + 1 + 1 + 1 := by rw [h4, World.size_alloc, s3]
  have s5 : w5.heap.size = w.heap.size + 1 + 1 + 1 + 1 + 1 := by rw [h5, World.size_alloc, s4]
  have s6 : w6.heap.size = w.heap.size + 1 + 1 + 1 + 1 + 1 + 1 := by rw [h6, World.size_alloc, s5]
  have b1 : Box w1 w.heap.size #[.int .u8 1] 5 := by rw [h1]; exact Box.new _ _ _
  have b2 : Box w2 (w.heap.size + 1) #[.int .u8 2, .int .u8 3] 5 := by rw [h2, ← s1]; exact Box.new _ _ _
  have b3 : Box w3 (w.heap.size + 1 + 1) #[.int .u8 3, .int .u8 2] 5 := by rw [h3, ← s2]; exact Box.new _ _ _
  have b4 : Box w4 (w.heap.size + 1 + 1 + 1) #[.int .u8 0] 5 := by rw [h4, ← s3]; exact Box.new _ _ _
  have b5 : Box w5 (w.heap.size + 1 + 1 + 1 + 1) #[.int .u8 1, .int .u8 2, .int .u8 3, .int .u8 4, .int .u8 5, .int .u8 6, .int .u8 7] 5 := by rw [h5, ← s4]; exact Box.new _ _ _
  have b6 : Box w6 (w.heap.size + 1 + 1 + 1 + 1 + 1) #[.int .u8 8] 5 := by rw [h6, ← s5]; exact Box.new _ _ _
  have q2 : Below w1.heap.size w1 w2 := by rw [h2]; exact below_new _ _
  have q3 : Below w2.heap.size w2 w3 := by rw [h3]; exact below_new _ _
  have q4 : Below w3.heap.size w3 w4 := by rw [h4]; exact below_new _ _
  have q5 : Below w4.heap.size w4 w5 := by rw [h5]; exact below_new _ _
  have q6 : Below w5.heap.size w5 w6 := by rw [h6]; exact below_new _ _
  rw [← h1, ← h2, ← h3, ← h4, ← h5, ← h6, ← s6]
  generalize hcs : (#[.slice none 0 0, .slice (some ⟨w.heap.size, 0, none⟩) 1 1, .slice (some ⟨w.heap.size + 1, 0, none⟩) 2 2, .slice (some ⟨w.heap.size + 1 + 1, 0, none⟩) 2 2, .slice (some ⟨w.heap.size + 1 + 1 + 1, 0, none⟩) 1 1, .slice (some ⟨w.heap.size + 1 + 1 + 1 + 1, 0, none⟩) 7 7, .slice (some ⟨w.heap.size + 1 + 1 + 1 + 1 + 1, 0, none⟩) 1 1] : Array Value) = cs
  have q7 : Below w6.heap.size w6 (w6.alloc (.cells cs t)) := below_new _ _
  have bx := Box.new w6 cs t
  have c6 := below_call q6 q7
  have c5 := below_call q5 c6
  have c4 := below_call q4 c5
  have c3 := below_call q3 c4
  have c2 := below_call q2 c3
  refine ⟨by rw [World.size_alloc]; omega, fun j hj => ?_⟩
  rw [bx.cell]
  rcases (show j = 0 ∨ j = 1 ∨ j = 2 ∨ j = 3 ∨ j = 4 ∨ j = 5 ∨ j = 6 by omega) with rfl | rfl | rfl | rfl | rfl | rfl | rfl
  · exact ⟨none, 0, [], by rw [← hcs]; rfl, Sl.nil_ _ _ _ _, by simp, by simp⟩
  · exact ⟨_, 1, [1], by rw [← hcs]; rfl, box_u8 [1] (b1.later c2) rfl (by simp), by simp, by simp⟩
  · exact ⟨_, 2, [2, 3], by rw [← hcs]; rfl, box_u8 [2, 3] (b2.later c3) rfl (by simp), by simp, by simp⟩
  · exact ⟨_, 2, [3, 2], by rw [← hcs]; rfl, box_u8 [3, 2] (b3.later c4) rfl (by simp), by simp, by simp⟩
  · exact ⟨_, 1, [0], by rw [← hcs]; rfl, box_u8 [0] (b4.later c5) rfl (by simp), by simp, by simp⟩
  · exact ⟨_, 7, [1, 2, 3, 4, 5, 6, 7], by rw [← hcs]; rfl, box_u8 [1, 2, 3, 4, 5, 6, 7] (b5.later c6) rfl (by simp), by simp, by simp⟩
  · exact ⟨_, 1, [8], by rw [← hcs]; rfl, box_u8 [8] (b6.later q7) rfl (by simp), by simp, by simp⟩
end Go.Proofs.YthadfdpdillemaaGreatDoor
set_option linter.unusedVariables false
namespace Go.Proofs.YthadfdpdillemaaGreatDoor
open Go.RowKit

section
variable {α : Type} {k : Nat} {row : α → List Value} {B : Nat} {w : World} {l : List α}
theorem Sl.take_ {A : Option Addr} {n c j : Nat} (h : Sl k row B w (.slice A n c) l) (hj : j ≤ l.length) : Sl k row B w (.slice A j c) (l.take j) := by
  obtain ⟨A', c', hv, h1, h2, h0, h3⟩ := h
  simp only [Value.slice.injEq] at hv
  obtain ⟨rfl, rfl, rfl⟩ := hv
  have e : (l.take j).length = j := by rw [List.length_take]; omega
  refine ⟨A, c, by rw [e], by omega, h2, h0, fun hne => ?_⟩
  obtain ⟨b, off, hA, hb, hc⟩ := h3 (by intro hl; subst hl; simp at hne)
  refine ⟨b, off, hA, hb, fun i x hx j' u hu => hc i x ?_ j' u hu⟩
  have hi := (List.getElem?_eq_some_iff.1 hx).1
  rw [List.getElem?_take] at hx
  split at hx
  · exact hx
  · cases hx
theorem Sl.drop_ {b off n c j : Nat} (h : Sl k row B w (.slice (some ⟨b, off, none⟩) n c) l) (hj : j ≤ l.length) : Sl k row B w (.slice (some ⟨b, off + j * k, none⟩) (l.length - j) (c - j)) (l.drop j) := by
  obtain ⟨A', c', hv, h1, h2, h0, h3⟩ := h
  simp only [Value.slice.injEq] at hv
  obtain ⟨rfl, rfl, rfl⟩ := hv
  have e : (l.drop j).length = l.length - j := by rw [List.length_drop]
  refine ⟨_, c - j, by rw [e], by omega, by omega, fun h => by simp at h, fun hne => ?_⟩
  obtain ⟨b', off', hA, hb, hc⟩ := h3 (by intro hl; subst hl; simp at hne)
  simp only [Option.some.injEq, Addr.mk.injEq, and_true] at hA
  obtain ⟨rfl, rfl⟩ := hA
  refine ⟨b, off + j * k, rfl, hb, fun i x hx j' u hu => ?_⟩
  rw [List.getElem?_drop] at hx
  have := hc (j + i) x hx j' u hu
  rw [Nat.add_mul] at this
  rw [show off + j * k + i * k + j' = off + (j * k + i * k) + j' by omega]; exact this
/-- l[j:], as a walk tells it. -/
theorem Sl.drop2 {ad : Addr} {n c j : Nat} (h : Sl k row B w (.slice (some ad) n c) l) (hj : j ≤ l.length) : Sl k row B w (.slice (if c = j then some ad else some (ad.add (j * k))) (l.length - j) (c - j)) (l.drop j) := by
  obtain ⟨A', c', hv, h1, h2, h0, h3⟩ := h
  simp only [Value.slice.injEq] at hv
  obtain ⟨rfl, rfl, rfl⟩ := hv
  have e : (l.drop j).length = l.length - j := by rw [List.length_drop]
  refine ⟨_, c - j, by rw [e], by omega, by omega, fun h => by split at h <;> simp at h, fun hne => ?_⟩
  have hlt : j < l.length := by
    have : 0 < (l.drop j).length := List.length_pos_iff.2 hne
    omega
  obtain ⟨b', off', hA, hb, hc⟩ := h3 (by intro hl; subst hl; simp at hlt)
  simp only [Option.some.injEq] at hA
  subst hA
  refine ⟨b', off' + j * k, by rw [if_neg (by omega), Addr.add_lit], hb, fun i x hx j' u hu => ?_⟩
  rw [List.getElem?_drop] at hx
  have := hc (j + i) x hx j' u hu
  rw [Nat.add_mul] at this
  rw [show off' + j * k + i * k + j' = off' + (j * k + i * k) + j' by omega]; exact this
end
end Go.Proofs.YthadfdpdillemaaGreatDoor
set_option linter.unusedVariables false
set_option linter.unusedSimpArgs false
namespace Go.Proofs.YthadfdpdillemaaGreatDoor
open Go.RowKit

/-- What a change makes. -/
def chgI (l : List Int) (a t : Int) : List Int := if mayV l a t then refV l a t else []
theorem chgI_len (l : List Int) (a t : Int) : (chgI l a t).length ≤ 7 := by
  unfold chgI
  split
  · exact Nat.le_trans (List.length_filter_le _ _) (Nat.le_refl 7)
  · simp
theorem chgPost_own {l : List Int} {a t : Int} {w w' : World} {e : Ending} (h : ChgPost l a t w e w') : ∃ A c, e = .returned (.tuple #[.slice A (chgI l a t).length c, .int .i64 (if mayV l a t then 0 else 2)]) ∧ Own 1 i64Row 3 w.heap.size w' (.slice A (chgI l a t).length c) (chgI l a t) ∧ Below w.heap.size w w' := by
  obtain ⟨v', he, ho, hb⟩ := h
  have e1 : (if mayV l a t then madeV l a t else []) = chgI l a t := by
    unfold chgI
    by_cases hm : mayV l a t = true
    · rw [if_pos hm, if_pos hm, made_ref hm]
    · rw [if_neg hm, if_neg hm]
  rw [e1] at ho
  obtain ⟨A, c, hv⟩ := ho.len
  exact ⟨A, c, by rw [he, hv], by rw [← hv]; exact ho, hb⟩
theorem refPost_own {l : List Int} {a t : Int} {w w' : World} {e : Ending} (h : RefPost l a t w e w') : ∃ A c, e = .returned (.tuple #[.slice A (chgI l a t).length c, .int .i64 (if mayV l a t then 0 else 2)]) ∧ Own 1 i64Row 3 w.heap.size w' (.slice A (chgI l a t).length c) (chgI l a t) ∧ Below w.heap.size w w' := by
  obtain ⟨v', he, ho, hb⟩ := h
  have ho : Own 1 i64Row 3 w.heap.size w' v' (chgI l a t) := ho
  obtain ⟨A, c, hv⟩ := ho.len
  exact ⟨A, c, by rw [he, hv], by rw [← hv]; exact ho, hb⟩

set_option maxRecDepth 100000 in
set_option maxHeartbeats 4000000 in
theorem groupTells1 (ms ys : List Int) (vx vy : Value) (a t : Int) (w : World) (hx : Sl 1 i64Row w.heap.size w vx ms) (hy : Sl 1 i64Row w.heap.size w vy ys) (hG : errTypeIs w) (hsm : ms.length + ys.length ≤ 1000) :
    Calls Tryz.prog 7 #[vx, vy, .int .i64 a, .int .i64 t] w fun e w' => e = .returned (.bool true) ∧ Below w.heap.size w w' := by
  have HG := Lib.hid hG
  have HX := Lib.hid hx
  have HY := Lib.hid hy
  obtain ⟨A, cx, rfl, -⟩ := id hx
  obtain ⟨B, cy, rfl, -⟩ := id hy
  have h0 : (ms.length : Int) + (ys.length : Int) ≤ 1000 := by omega
  have d0 : decide ((1000 : Int) < (ms.length : Int) + (ys.length : Int)) = false := decide_eq_false (by omega)
  have L1 := Lib.hid (lentIntsF ms (.slice A ms.length cx) w HX.out (by omega))
  have L2 : Hid (∀ w1, Below w.heap.size w w1 → Calls Tryz.prog 49 #[.slice B ys.length cy] w1 fun e w' => ∃ g cp, e = .returned (.slice (some ⟨g, 0, none⟩) ys.length cp) ∧ w1.heap.size ≤ g ∧ Lnt 1 i64Row marks w'.heap.size w' (.slice (some ⟨g, 0, none⟩) ys.length cp) ys ∧ Below w1.heap.size w1 w') := fun w1 hb => lentIntsF ys _ w1 (HY.out.later hb) (by omega)
  clear hG hx hy
  go_enter Tryz.func7, Tryz.ntmps7
  go_upto_region 4 with (first
    | (go_at_call 49; with_reducible refine L1.out.mono ?_; rintro e w1 ⟨gx, bx, rfl, hgx, hlx, hb1⟩; have HB1 := Lib.hid hb1; have HLX1 := Lib.hid hlx; clear hb1 hlx)
    | (go_at_call 49; with_reducible refine (L2.out w1 HB1.out).mono ?_; rintro e w3 ⟨gy, by3, rfl, hgy, hly, hb3⟩))
  have HB3 := Lib.hid (below_call HB1.out hb3)
  have HLX := Lib.hid (HLX1.out.later hb3)
  have HLY := Lib.hid hly
  have HX3 := Lib.hid (HX.out.later HB3.out)
  have HY3 := Lib.hid (HY.out.later HB3.out)
  have HG3 := Lib.hid (errType_later HG.out HB3.out)
  have HSX := Lib.hid (show Sl 1 i64Row w3.heap.size w3 _ ms from HLX.out.sl)
  have HSY := Lib.hid (show Sl 1 i64Row w3.heap.size w3 _ ys from HLY.out.sl)
  clear L1 L2 HB1 HLX1 hgx hgy hb3 hly
  obtain ⟨r1, hr1⟩ : ∃ r : Int, (if mayV ms a t then (0 : Int) else 2) = r := ⟨_, rfl⟩
  obtain ⟨wo, hwo⟩ : ∃ r : Bool, wonV ms ys = r := ⟨_, rfl⟩
  obtain ⟨io, hio⟩ : ∃ r : Bool, ms.contains a = r := ⟨_, rfl⟩
  obtain ⟨ch, hch⟩ : ∃ r, chgI ms a t = r := ⟨_, rfl⟩
  have z1 : ch.length ≤ 7 := by rw [← hch]; exact chgI_len _ _ _
  have CG : Hid (∀ v, Below w3.heap.size w3 v → Calls Tryz.prog 50 #[.slice (some ⟨gx, 0, none⟩) ms.length bx, .int .i64 a, .int .i64 t] v (fun e w' => ∃ A c, e = .returned (.tuple #[.slice A ch.length c, .int .i64 r1]) ∧ Own 1 i64Row 3 v.heap.size w' (.slice A ch.length c) ch ∧ Below v.heap.size v w')) := fun v hv => by
    have h := (groupChange ms a t _ v (HSX.out.later hv) (by omega) (errType_later HG3.out hv)).mono fun e w' h => chgPost_own h
    rw [hch, hr1] at h
    exact h
  have CF : Hid (∀ v, Below w3.heap.size w3 v → Calls Tryz.prog 51 #[.slice A ms.length cx, .int .i64 a, .int .i64 t] v (fun e w' => ∃ A c, e = .returned (.tuple #[.slice A ch.length c, .int .i64 r1]) ∧ Own 1 i64Row 3 v.heap.size w' (.slice A ch.length c) ch ∧ Below v.heap.size v w')) := fun v hv => by
    have h := (refChange ms a t _ v (HX3.out.later hv) (by omega)).mono fun e w' h => refPost_own h
    rw [hch, hr1] at h
    exact h
  have WG : Hid (∀ v, Below w3.heap.size w3 v → Calls Tryz.prog 53 #[.slice (some ⟨gx, 0, none⟩) ms.length bx, .slice (some ⟨gy, 0, none⟩) ys.length by3] v (fun e w' => e = .returned (.bool wo) ∧ v = w')) := fun v hv => by
    have h := groupWon ms ys _ _ v (HSX.out.later hv) (HSY.out.later hv) (by omega)
    rw [hwo] at h; exact h
  have WF : Hid (∀ v, Below w3.heap.size w3 v → Calls Tryz.prog 54 #[.slice A ms.length cx, .slice B ys.length cy] v (fun e w' => e = .returned (.bool wo) ∧ v = w')) := fun v hv => by
    have h := refWon ms ys _ _ v (HX3.out.later hv) (HY3.out.later hv) (by omega)
    rw [hwo] at h; exact h
  have NG : Hid (∀ v, Below w3.heap.size w3 v → Calls Tryz.prog 55 #[.slice (some ⟨gx, 0, none⟩) ms.length bx, .int .i64 a] v (fun e w' => e = .returned (.bool io) ∧ v = w')) := fun v hv => by
    have h := groupIn ms a _ v (HSX.out.later hv)
    rw [hio] at h; exact h
  have NF : Hid (∀ v, Below w3.heap.size w3 v → Calls Tryz.prog 56 #[.slice A ms.length cx, .int .i64 a] v (fun e w' => e = .returned (.bool io) ∧ v = w')) := fun v hv => by
    have h := refIn ms a _ v (HX3.out.later hv)
    rw [hio] at h; exact h
  have KI : Hid (∀ v, Below w3.heap.size w3 v → Calls Tryz.prog 57 #[.slice (some ⟨gx, 0, none⟩) ms.length bx, .slice A ms.length cx] v (fun e w' => e = .returned (.bool true) ∧ Below v.heap.size v w')) := fun v hv =>
    (keptInts ms _ _ v (HLX.out.later hv) (HX3.out.later hv) (by omega)).mono fun _ _ ⟨he, hw⟩ => ⟨he, by obtain ⟨n, rfl⟩ := hw; exact below_drewN (Below.refl _ _) n⟩
  have KY : Hid (∀ v, Below w3.heap.size w3 v → Calls Tryz.prog 57 #[.slice (some ⟨gy, 0, none⟩) ys.length by3, .slice B ys.length cy] v (fun e w' => e = .returned (.bool true) ∧ Below v.heap.size v w')) := fun v hv =>
    (keptInts ys _ _ v (HLY.out.later hv) (HY3.out.later hv) (by omega)).mono fun _ _ ⟨he, hw⟩ => ⟨he, by obtain ⟨n, rfl⟩ := hw; exact below_drewN (Below.refl _ _) n⟩
  clear hr1 hwo hio hch
  go_upto_region 5 with (go_at_call 50; with_reducible refine (CG.out w3 (Below.refl _ _)).mono ?_; rintro e w4 ⟨Ac, cc, rfl, ho, hb⟩; have HC := Lib.hid ho; have HB4 := Lib.hid hb; clear ho hb)
  have HB34 := Lib.hid HB4.out
  go_upto_region 6 with (go_at_call 51; with_reducible refine (CF.out w4 HB34.out).mono ?_; rintro e w5 ⟨Ad, cd, rfl, ho, hb⟩; have HD := Lib.hid ho; have HB5 := Lib.hid hb; clear ho hb)
  have HB35 := Lib.hid (below_call HB34.out HB5.out)
  go_upto_region 7 with (go_at_call 50; with_reducible refine (CG.out w5 HB35.out).mono ?_; rintro e w6 ⟨Ae, ce, rfl, ho, hb⟩; have HE := Lib.hid ho; have HB6 := Lib.hid hb; clear ho hb)
  have HB36 := Lib.hid (below_call HB35.out HB6.out)
  have hs3 : w3.heap.size ≤ w4.heap.size := HB4.out.size
  have hs4 : w4.heap.size ≤ w5.heap.size := HB5.out.size
  have hs5 : w5.heap.size ≤ w6.heap.size := HB6.out.size
  have HB46 := Lib.hid (below_call HB5.out HB6.out)
  have c6 := Lib.hid ((HC.out.later HB46.out).h)
  have d6 := Lib.hid ((HD.out.later HB6.out).sl i64Row_length)
  have e6 := Lib.hid (HE.out.h)
  have s6 := Lib.hid ((HC.out.later HB46.out).sl i64Row_length)
  have rc : Hid (∀ x, blkH (.slice Ac ch.length cc) = some x → w3.heap.size ≤ x ∧ x < w4.heap.size) := fun x hx => HC.out.h.block hx
  have re : Hid (∀ x, blkH (.slice Ae ch.length ce) = some x → w5.heap.size ≤ x ∧ x < w6.heap.size) := fun x hx => HE.out.h.block hx
  have SI : Hid (∀ v, Below w6.heap.size w6 v → Calls Tryz.prog 52 #[.slice Ac ch.length cc, .slice Ad ch.length cd] v (fun e w' => e = .returned (.bool true) ∧ Below v.heap.size v w')) := fun v hv =>
    (sameInts ch _ _ v (s6.out.later hv) (d6.out.later hv)).mono fun _ _ ⟨he, n, hn⟩ => ⟨he, by subst hn; exact below_drewN (Below.refl _ _) n⟩
  have API : Hid (∀ v, Below w6.heap.size w6 v → Calls Tryz.prog 58 #[.slice (some ⟨v.heap.size, 0, none⟩) 2 2] (v.alloc (.cells #[.slice Ac ch.length cc, .slice Ae ch.length ce] 70)) (fun e w' => e = .returned (.bool true) ∧ Below w3.heap.size v w')) := fun v hv => by
    have hsv := hv.size
    have hf := (fams2 (out := []) (base := w3.heap.size) (c6.out) (e6.out.imp (fun h => h.less (by omega)) id) (fun x h1 h2 => by have := rc.out x h1; have := re.out x h2; omega)
      (fun x h1 h2 => by simp at h2) (fun x h1 h2 => by simp at h2)).later hv
    have hb := below_new v (.cells #[.slice Ac ch.length cc, .slice Ae ch.length ce] 70)
    refine (apartInts w3.heap.size 2 [] _ _ v.heap.size 0 2 _ ((hf.more (Nat.le_refl _)).later hb) (fun j hj => ?_) (by simp) (by omega) (by omega) (fun j hj => ?_) (by simp; omega) (fun p hp => by simp at hp)).mono (fun e w' h => ⟨h.1, (hb.mono (by omega)).trans h.2.low⟩)
    · rcases (by omega : j = 0 ∨ j = 1) with rfl | rfl <;> (rw [World.cell?_alloc_new]; rfl)
    · rcases (by omega : j = 0 ∨ j = 1) with rfl | rfl <;> (show ch.length ≤ 100000; omega)
  have HL := Lib.hid (Below.refl w6.heap.size w6)
  have HB := Lib.hid HB36.out
  clear HC HD HE HB4 HB5 HB6 HB34 HB35 HB46 rc re c6 d6 e6 s6 HLX HLY HSX HSY hs4 hs5 CG CF
  go_upto_region 9 with (first
    | (go_at_call 52; with_reducible refine (SI.out _ HL.out).mono ?_; rintro e wk ⟨rfl, hk⟩; replace HL := Lib.hid (below_call HL.out hk); replace HB := Lib.hid (below_call HB.out hk); clear hk)
    | (go_at_call 53; with_reducible refine (WG.out _ HB.out).mono ?_; rintro e wk ⟨rfl, rfl⟩)
    | (go_at_call 54; with_reducible refine (WF.out _ HB.out).mono ?_; rintro e wk ⟨rfl, rfl⟩)
    | (go_at_call 55; with_reducible refine (NG.out _ HB.out).mono ?_; rintro e wk ⟨rfl, rfl⟩)
    | (go_at_call 56; with_reducible refine (NF.out _ HB.out).mono ?_; rintro e wk ⟨rfl, rfl⟩))
  go_wp2_with (first
    | (go_at_call 57; with_reducible refine (KI.out _ HB.out).mono ?_; rintro e wk ⟨rfl, hk⟩; (try replace HL := Lib.hid (below_call HL.out hk)); replace HB := Lib.hid (below_call HB.out hk); clear hk)
    | (go_at_call 57; with_reducible refine (KY.out _ HB.out).mono ?_; rintro e wk ⟨rfl, hk⟩; (try replace HL := Lib.hid (below_call HL.out hk)); replace HB := Lib.hid (below_call HB.out hk); clear hk)
    | (go_at_call 58; refine (API.out _ HL.out).mono ?_; rintro e wk ⟨rfl, hk⟩; replace HB := Lib.hid (HB.out.trans hk); clear HL hk)
    | (go_at_call 48; refine (awake22 _ (errType_later HG3.out HB.out)).mono ?_; rintro e wk ⟨rfl, hk⟩; replace HB := Lib.hid (HB.out.trans (hk.mono HB.out.size)); clear hk))
  go_ret
  exact ⟨rfl, below_call HB3.out HB.out⟩

set_option maxRecDepth 100000 in
set_option maxHeartbeats 4000000 in
theorem groupTells (ms ys : List Int) (vx vy : Value) (a t : Int) (w : World) (hx : Sl 1 i64Row w.heap.size w vx ms) (hy : Sl 1 i64Row w.heap.size w vy ys) (z1 : ms.length ≤ 140737488351232) (z2 : ys.length ≤ 140737488351232) (hG : errTypeIs w) :
    Calls Tryz.prog 7 #[vx, vy, .int .i64 a, .int .i64 t] w fun e w' => e = .returned (.bool true) ∧ Below w.heap.size w w' := by
  by_cases hsm : ms.length + ys.length ≤ 1000
  · exact groupTells1 ms ys vx vy a t w hx hy hG hsm
  obtain ⟨A, cx, rfl, -⟩ := id hx
  obtain ⟨B, cy, rfl, -⟩ := id hy
  have HG := Lib.hid hG
  have w1 : wrap64 ((ms.length : Int) + (ys.length : Int)) = (ms.length : Int) + (ys.length : Int) := by unfold wrap64; omega
  have d0 : decide ((1000 : Int) < (ms.length : Int) + (ys.length : Int)) = true := decide_eq_true (by omega)
  have d1 : (1000 : Int) < (ms.length : Int) + (ys.length : Int) := by omega
  clear hsm hx hy hG
  go_enter Tryz.func7, Tryz.ntmps7
  go_wp2_with (go_at_call 48; refine (awake22 _ HG.out).mono ?_; rintro e wk ⟨rfl, hk⟩; have HK := Lib.hid hk; clear hk)
  go_ret
  exact ⟨rfl, HK.out⟩
end Go.Proofs.YthadfdpdillemaaGreatDoor
set_option linter.unusedVariables false
set_option linter.unusedSimpArgs false
namespace Go.Proofs.YthadfdpdillemaaGreatDoor
open Go.RowKit

theorem grpS_no {s : List Int × Int} {x : Ent} (h : grpE x = false) : grpS s x = s := by unfold grpS; rw [if_neg (by rw [h]; simp)]
theorem grpS_yes {s : List Int × Int} {x : Ent} (h : grpE x = true) : grpS s x = (x.bd, x.idx) := by unfold grpS; rw [if_pos h]

set_option maxRecDepth 100000 in
set_option maxHeartbeats 8000000 in
theorem refOfG (base : List Int) (l : List Ent) (v vl : Value) (w : World) (h : Sl 1 i64Row w.heap.size w v base) (hl : Sl 4 entRow w.heap.size w vl l) (hin : ∀ x ∈ l, EntIn w.heap.size w x) (hb : base.length ≤ 1000000) (hn : l.length ≤ 1000000) :
    Calls Tryz.prog 61 #[v, vl] w fun e w' => ∃ v', e = .returned (.tuple #[v', .int .i64 (grpV base l).2]) ∧ Own 1 i64Row 3 w.heap.size w' v' (grpV base l).1 ∧ Below w.heap.size w w' := by
  obtain ⟨A, cap, rfl, -⟩ := id h
  obtain ⟨Al, capl, rfl, hlc, -, -, hA⟩ := id hl
  have HH := Lib.hid h
  have HA := Lib.hid hA
  have HIN := Lib.hid hin
  clear h hl hA hin
  go_enter Tryz.func61, Tryz.ntmps61
  go_wp2_with (at_builtin; refine wpList_append_all _ rfl (.tmp 11) (.tmp 12) 70 rfl w.heap.size 3 _ 1 8 Tryz.underlying70 intInfo rfl (Nat.succ_pos 0) i64Row i64Row_length i64Row_one [] _ rfl (Own.made 1 i64Row 3 w) base w.heap.size _ (HH.out.below (below_new _ _)) rfl (by unfold maxLen; simp; omega) (by simp; omega) (by simp) ?_; intro v' w' h1 h2 h3 h4 h5; have HO := Lib.hid h1; have HB2 := Lib.hid ((below_new w (.cells #[] 3)).trans h2); clear h2 h3 h4 h5 h1)
  go_loopw [6, 7, 8] (fun m a i wr => ∃ k : Nat, k ≤ l.length ∧ i = .int .i64 (k : Int) ∧ a = .int .i64 (grpV base (l.take k)).2 ∧ Own 1 i64Row 3 w.heap.size wr m (grpV base (l.take k)).1 ∧ Below w.heap.size w wr) (fun _ _ i _ => l.length - (intOf i).toNat)
  case atStart => exact ⟨0, by omega, rfl, rfl, HO.out, HB2.out⟩
  case round =>
    obtain ⟨k, hk, rfl, rfl, hown, hB⟩ := hrel
    by_cases hlt : k < l.length
    · obtain ⟨b, off, rfl, hb, hcell⟩ := HA.out (by intro h; subst h; simp at hlt)
      obtain ⟨x, hx⟩ : ∃ x, l[k]? = some x := ⟨_, List.getElem?_eq_getElem hlt⟩
      have HST := Lib.hid (grp_take (base := base) hx)
      obtain ⟨S, hS⟩ : ∃ S, grpV base (l.take k) = S := ⟨_, rfl⟩
      rw [hS] at HST hown
      rw [hS]
      obtain ⟨s1, s2⟩ := S
      have c0 := (hB.cell (p := ⟨b, off + k * 4, none⟩) hb).trans (hcell k x hx 0 _ rfl)
      have c2 := (hB.cell (p := ⟨b, off + k * 4 + 2, none⟩) hb).trans (hcell k x hx 2 _ rfl)
      have c3 := (hB.cell (p := ⟨b, off + k * 4 + 3, none⟩) hb).trans (hcell k x hx 3 _ rfl)
      have hz := hB.size
      have hbr : b < wr.heap.size := by omega
      have i0 : (0 : Int) ≤ (k : Int) := by omega
      have i1 : (k : Int) < (l.length : Int) := by omega
      have HX := Lib.hid hx
      have HO2 := Lib.hid hown
      have HB3 := Lib.hid hB
      have HCE := Lib.hid hcell
      have hxin := HIN.out x (List.mem_of_getElem? hx)
      have HBD := Lib.hid ((hxin.1.below hB).more (show w.heap.size ≤ wr.heap.size by omega))
      have CM := Lib.hid (refMembers x.bd hxin.2 _ wr HBD.out)
      clear hcell hx hown hB hS hxin
      by_cases hkd : x.knd = 3
      · have e1 : (x.knd != 3) = false := by simpa using hkd
        cases hm : memOk x.bd with
        | true =>
          have HST2 := Lib.hid (show grpV base (l.take (k + 1)) = (x.bd, x.idx) by rw [HST.out]; exact grpS_yes (by unfold grpE; rw [hm, decide_eq_true hkd]; rfl))
          have HM := Lib.hid hm
          clear hm hkd
          go_upto_region 8 with (go_at_call 110; refine CM.out.mono ?_; rintro e w6 ⟨v6, rfl, ho, hb6⟩; rw [if_pos HM.out] at ho; rw [if_pos HM.out]; have HO6 := Lib.hid ho; have HB6 := Lib.hid (below_call HB3.out hb6); clear ho hb6)
          have c0' := (HB6.out.cell (p := ⟨b, off + k * 4, none⟩) hb).trans (HCE.out k x HX.out 0 _ rfl)
          go_wp2_with fail
          go_roundw
          case rel => exact ⟨k + 1, by omega, by go_num, by rw [HST2.out], by rw [HST2.out]; exact HO6.out.less hz, HB6.out⟩
          case measure => simp [intOf]; omega
        | false =>
          have HST2 := Lib.hid (show grpV base (l.take (k + 1)) = (s1, s2) by rw [HST.out]; exact grpS_no (by unfold grpE; rw [hm]; rfl))
          have HM := Lib.hid hm
          clear hm hkd
          go_wp2_with (go_at_call 110; refine CM.out.mono ?_; rintro e w6 ⟨v6, rfl, ho, hb6⟩; rw [HM.out] at ho; rw [HM.out]; have HB6 := Lib.hid (below_call HB3.out hb6); have HO6 := Lib.hid (HO2.out.later hb6); clear ho hb6)
          go_roundw
          case rel => exact ⟨k + 1, by omega, by go_num, by rw [HST2.out], by rw [HST2.out]; exact HO6.out, HB6.out⟩
          case measure => simp [intOf]; omega
      · have e1 : (x.knd != 3) = true := by simpa using hkd
        have HST2 := Lib.hid (show grpV base (l.take (k + 1)) = (s1, s2) by rw [HST.out]; exact grpS_no (by unfold grpE; rw [decide_eq_false hkd]; simp))
        clear hkd
        go_wp2_with fail
        go_roundw
        case rel => exact ⟨k + 1, by omega, by go_num, by rw [HST2.out], by rw [HST2.out]; exact HO2.out, HB3.out⟩
        case measure => simp [intOf]; omega
    · have hkl : k = l.length := by omega
      have HK := Lib.hid (show grpV base (l.take k) = grpV base l by rw [hkl, List.take_length])
      rw [HK.out] at hown
      rw [HK.out]
      have HO2 := Lib.hid hown
      have HB3 := Lib.hid hB
      clear hown hB hkl
      go_wp2_with fail
      go_ret2
      exact ⟨_, rfl, HO2.out, HB3.out⟩
end Go.Proofs.YthadfdpdillemaaGreatDoor
set_option linter.unusedVariables false
set_option linter.unusedSimpArgs false
namespace Go.Proofs.YthadfdpdillemaaGreatDoor
open Go.RowKit

theorem ownPair {w w' : World} {e : Ending} {L : List Int} {n : Int} (h : ∃ v', e = .returned (.tuple #[v', .int .i64 n]) ∧ Own 1 i64Row 3 w.heap.size w' v' L ∧ Below w.heap.size w w') : ∃ A c, e = .returned (.tuple #[.slice A L.length c, .int .i64 n]) ∧ Own 1 i64Row 3 w.heap.size w' (.slice A L.length c) L ∧ Below w.heap.size w w' := by
  obtain ⟨v', he, ho, hb⟩ := h
  obtain ⟨A, c, hv⟩ := ho.len
  exact ⟨A, c, by rw [he, hv], by rw [← hv]; exact ho, hb⟩
theorem grp_len (base : List Int) (l : List Ent) (h : base.length ≤ 1000) : (grpV base l).1.length ≤ 1000 := by
  have key : ∀ (m : List Ent) (s : List Int × Int), s.1.length ≤ 1000 → (m.foldl grpS s).1.length ≤ 1000 := by
    intro m
    induction m with
    | nil => intro s h; exact h
    | cons y m ih =>
      intro s h
      rw [List.foldl_cons]
      refine ih _ ?_
      unfold grpS
      split
      · rename_i hg
        unfold grpE at hg
        rw [Bool.and_eq_true] at hg
        have := memOk_len hg.1
        show y.bd.length ≤ 1000
        omega
      · exact h
  exact key l _ h

set_option maxRecDepth 100000 in
set_option maxHeartbeats 2000000 in
theorem groupLogs1 (base : List Int) (l : List Ent) (vx vl : Value) (w : World) (hx : Sl 1 i64Row w.heap.size w vx base) (hl : Sl 4 entRow w.heap.size w vl l) (hin : ∀ x ∈ l, EntIn w.heap.size w x ∧ x.bd.length ≤ 140737488351232) (hG : errTypeIs w) (hs1 : base.length ≤ 1000) (hs2 : sizeE l ≤ 1000) :
    Calls Tryz.prog 8 #[vx, vl] w fun e w' => e = .returned (.bool true) ∧ Below w.heap.size w w' := by
  have hll : l.length ≤ 1000 := Nat.le_trans (sizeE_len l) hs2
  have HSM := Lib.hid (show ∀ x ∈ l, x.bd.length ≤ 1000000 from fun x hx => by have := sizeE_mem hx; omega)
  have HG := Lib.hid hG
  have HX := Lib.hid hx
  have HL := Lib.hid hl
  have HIN := Lib.hid hin
  obtain ⟨A, cx, rfl, -⟩ := id hx
  obtain ⟨Al, capl, rfl, -⟩ := id hl
  have CE : Hid (Calls Tryz.prog 59 #[.slice Al l.length capl, .int .i64 1000] w fun e w' => ∃ n : Nat, e = .returned (.int .i64 n) ∧ (n : Int) ≤ 1000 ∧ w = w') := (entriesOf l 1000 _ w hl (fun x hx => (hin x hx).2) (by omega)).mono fun e w' ⟨n, he, hn, hw⟩ => ⟨n, he, by omega, hw⟩
  have h0 : (base.length : Int) ≤ 1000 := by omega
  have d0 : decide ((1000 : Int) < (base.length : Int)) = false := decide_eq_false (by omega)
  have L1 := Lib.hid (lentIntsF base (.slice A base.length cx) w hx (by omega))
  have L2 : Hid (∀ w1, Below w.heap.size w w1 → Calls Tryz.prog 13 #[.slice Al l.length capl] w1 (LentsPost l w1)) := fun w1 hb => lentEntries l _ w1 (HL.out.later hb) (fun x hx => ⟨(HIN.out x hx).1.later hb, HSM.out x hx⟩) (by omega)
  clear hG hx hl hin
  go_enter Tryz.func8, Tryz.ntmps8
  go_upto_region 4 with (first
    | (go_at_call 59; with_reducible refine CE.out.mono ?_; rintro e w2 ⟨n, rfl, hn, rfl⟩)
    | (go_at_call 49; with_reducible refine L1.out.mono ?_; rintro e w1 ⟨gx, bx, rfl, hgx, hlx, hb1⟩; have HB1 := Lib.hid hb1; have HLX1 := Lib.hid hlx; clear hb1 hlx)
    | (go_at_call 13; (with_reducible refine (L2.out w1 HB1.out).mono ?_); rintro e w3 ⟨g, cm, m, rfl, hg, hm, hlm, hbm, hb3⟩))
  have HB3 := Lib.hid (below_call HB1.out hb3)
  have HLX := Lib.hid (HLX1.out.later hb3)
  have HX3 := Lib.hid (HX.out.later HB3.out)
  have HL3 := Lib.hid (HL.out.later HB3.out)
  have HG3 := Lib.hid (errType_later HG.out HB3.out)
  have HLM := Lib.hid hlm
  have HBM := Lib.hid hbm
  have HM := Lib.hid hm
  have HIN3 := Lib.hid (show ∀ x ∈ l, EntIn w3.heap.size w3 x from fun x hx => (HIN.out x hx).1.later HB3.out)
  have HBY : Hid (∀ x ∈ m, ∀ y ∈ x.bd, 0 ≤ y ∧ y ≤ 255) := by
    intro x hx
    obtain ⟨i, hi⟩ := List.getElem?_of_mem hx
    obtain ⟨A2, c2, h2⟩ := keys_at hm.symm hi
    have h3 := (HIN3.out _ (List.mem_of_getElem? h2)).2
    exact h3
  have HMN := Lib.hid (show ∀ x ∈ m, EntIn w3.heap.size w3 x from fun x hx => ⟨(HBM.out x hx).sl, HBY.out x hx⟩)
  have hml := keys_length hm
  have HMS := Lib.hid (show Sl 4 entRow w3.heap.size w3 (.slice (some ⟨g, 0, none⟩) l.length cm) m from HLM.out.sl)
  have HSX := Lib.hid (show Sl 1 i64Row w3.heap.size w3 _ base from HLX.out.sl)
  have HGV := Lib.hid (show grpV base m = grpV base l from grp_key hm)
  clear L1 L2 CE HB1 HLX1 hgx hb3 hlm hbm hm hg
  obtain ⟨ch, hch⟩ : ∃ r, (grpV base l).1 = r := ⟨_, rfl⟩
  obtain ⟨at_, hat⟩ : ∃ r, (grpV base l).2 = r := ⟨_, rfl⟩
  have z1 : ch.length ≤ 1000 := by rw [← hch]; exact grp_len _ _ (by omega)
  have CG : Hid (∀ v, Below w3.heap.size w3 v → Calls Tryz.prog 60 #[.slice (some ⟨gx, 0, none⟩) base.length bx, .slice (some ⟨g, 0, none⟩) l.length cm] v (fun e w' => ∃ A c, e = .returned (.tuple #[.slice A ch.length c, .int .i64 at_]) ∧ Own 1 i64Row 3 v.heap.size w' (.slice A ch.length c) ch ∧ Below v.heap.size v w')) := fun v hv => by
    have h := (groupOf base m _ _ v (HSX.out.later hv) (HMS.out.later hv) (fun x hx => (HMN.out x hx).later hv) (by omega) (by omega)).mono fun e w' h => ownPair h
    rw [HGV.out, hch, hat] at h
    exact h
  have CF : Hid (∀ v, Below w3.heap.size w3 v → Calls Tryz.prog 61 #[.slice A base.length cx, .slice Al l.length capl] v (fun e w' => ∃ A c, e = .returned (.tuple #[.slice A ch.length c, .int .i64 at_]) ∧ Own 1 i64Row 3 v.heap.size w' (.slice A ch.length c) ch ∧ Below v.heap.size v w')) := fun v hv => by
    have h := (refOfG base l _ _ v (HX3.out.later hv) (HL3.out.later hv) (fun x hx => (HIN3.out x hx).later hv) (by omega) (by omega)).mono fun e w' h => ownPair h
    rw [hch, hat] at h
    exact h
  have KI : Hid (∀ v, Below w3.heap.size w3 v → Calls Tryz.prog 57 #[.slice (some ⟨gx, 0, none⟩) base.length bx, .slice A base.length cx] v (fun e w' => e = .returned (.bool true) ∧ Below v.heap.size v w')) := fun v hv =>
    (keptInts base _ _ v (HLX.out.later hv) (HX3.out.later hv) (by omega)).mono fun _ _ ⟨he, hw⟩ => ⟨he, by obtain ⟨n, rfl⟩ := hw; exact below_drewN (Below.refl _ _) n⟩
  have KE : Hid (∀ v, Below w3.heap.size w3 v → Calls Tryz.prog 25 #[.slice (some ⟨g, 0, none⟩) l.length cm, .slice Al l.length capl] v (fun e w' => e = .returned (.bool true) ∧ Below v.heap.size v w')) := fun v hv =>
    keptEntries l m _ _ v HM.out (HLM.out.later hv) (fun x hx => (HBM.out x hx).later hv) (HL3.out.later hv) (fun x hx => ⟨(HIN3.out x hx).later hv, HSM.out x hx⟩) (by omega)
  clear hch hat hml
  go_upto_region 5 with (go_at_call 60; with_reducible refine (CG.out w3 (Below.refl _ _)).mono ?_; rintro e w4 ⟨Ac, cc, rfl, ho, hb⟩; have HC := Lib.hid ho; have HB4 := Lib.hid hb; clear ho hb)
  have HB34 := Lib.hid HB4.out
  go_upto_region 6 with (go_at_call 61; with_reducible refine (CF.out w4 HB34.out).mono ?_; rintro e w5 ⟨Ad, cd, rfl, ho, hb⟩; have HD := Lib.hid ho; have HB5 := Lib.hid hb; clear ho hb)
  have HB35 := Lib.hid (below_call HB34.out HB5.out)
  go_upto_region 7 with (go_at_call 60; with_reducible refine (CG.out w5 HB35.out).mono ?_; rintro e w6 ⟨Ae, ce, rfl, ho, hb⟩; have HE := Lib.hid ho; have HB6 := Lib.hid hb; clear ho hb)
  have HB36 := Lib.hid (below_call HB35.out HB6.out)
  have hs3 : w3.heap.size ≤ w4.heap.size := HB4.out.size
  have hs4 : w4.heap.size ≤ w5.heap.size := HB5.out.size
  have hs5 : w5.heap.size ≤ w6.heap.size := HB6.out.size
  have HB46 := Lib.hid (below_call HB5.out HB6.out)
  have c6 := Lib.hid ((HC.out.later HB46.out).h)
  have d6 := Lib.hid ((HD.out.later HB6.out).sl i64Row_length)
  have e6 := Lib.hid (HE.out.h)
  have s6 := Lib.hid ((HC.out.later HB46.out).sl i64Row_length)
  have rc : Hid (∀ x, blkH (.slice Ac ch.length cc) = some x → w3.heap.size ≤ x ∧ x < w4.heap.size) := fun x hx => HC.out.h.block hx
  have re : Hid (∀ x, blkH (.slice Ae ch.length ce) = some x → w5.heap.size ≤ x ∧ x < w6.heap.size) := fun x hx => HE.out.h.block hx
  have SI : Hid (∀ v, Below w6.heap.size w6 v → Calls Tryz.prog 52 #[.slice Ac ch.length cc, .slice Ad ch.length cd] v (fun e w' => e = .returned (.bool true) ∧ Below v.heap.size v w')) := fun v hv =>
    (sameInts ch _ _ v (s6.out.later hv) (d6.out.later hv)).mono fun _ _ ⟨he, n, hn⟩ => ⟨he, by subst hn; exact below_drewN (Below.refl _ _) n⟩
  have API : Hid (∀ v, Below w6.heap.size w6 v → Calls Tryz.prog 58 #[.slice (some ⟨v.heap.size, 0, none⟩) 2 2] (v.alloc (.cells #[.slice Ac ch.length cc, .slice Ae ch.length ce] 70)) (fun e w' => e = .returned (.bool true) ∧ Below w3.heap.size v w')) := fun v hv => by
    have hsv := hv.size
    have hf := (fams2 (out := []) (base := w3.heap.size) (c6.out) (e6.out.imp (fun h => h.less (by omega)) id) (fun x h1 h2 => by have := rc.out x h1; have := re.out x h2; omega)
      (fun x h1 h2 => by simp at h2) (fun x h1 h2 => by simp at h2)).later hv
    have hb := below_new v (.cells #[.slice Ac ch.length cc, .slice Ae ch.length ce] 70)
    refine (apartInts w3.heap.size 2 [] _ _ v.heap.size 0 2 _ ((hf.more (Nat.le_refl _)).later hb) (fun j hj => ?_) (by simp) (by omega) (by omega) (fun j hj => ?_) (by simp; omega) (fun p hp => by simp at hp)).mono (fun e w' h => ⟨h.1, (hb.mono (by omega)).trans h.2.low⟩)
    · rcases (by omega : j = 0 ∨ j = 1) with rfl | rfl <;> (rw [World.cell?_alloc_new]; rfl)
    · rcases (by omega : j = 0 ∨ j = 1) with rfl | rfl <;> (show ch.length ≤ 100000; omega)
  have HQ := Lib.hid (Below.refl w6.heap.size w6)
  have HB := Lib.hid HB36.out
  clear HC HD HE HB4 HB5 HB6 HB34 HB35 HB46 rc re c6 d6 e6 s6 HLX HSX hs4 hs5 CG CF HMN HMS HBY HGV
  go_wp2_with (first
    | (go_at_call 52; with_reducible refine (SI.out _ HQ.out).mono ?_; rintro e wk ⟨rfl, hk⟩; replace HQ := Lib.hid (below_call HQ.out hk); replace HB := Lib.hid (below_call HB.out hk); clear hk)
    | (go_at_call 57; with_reducible refine (KI.out _ HB.out).mono ?_; rintro e wk ⟨rfl, hk⟩; (try replace HQ := Lib.hid (below_call HQ.out hk)); replace HB := Lib.hid (below_call HB.out hk); clear hk)
    | (go_at_call 25; with_reducible refine (KE.out _ HB.out).mono ?_; rintro e wk ⟨rfl, hk⟩; (try replace HQ := Lib.hid (below_call HQ.out hk)); replace HB := Lib.hid (below_call HB.out hk); clear hk)
    | (go_at_call 58; refine (API.out _ HQ.out).mono ?_; rintro e wk ⟨rfl, hk⟩; replace HB := Lib.hid (HB.out.trans hk); clear HQ hk)
    | (go_at_call 48; refine (awake22 _ (errType_later HG3.out HB.out)).mono ?_; rintro e wk ⟨rfl, hk⟩; replace HB := Lib.hid (HB.out.trans (hk.mono HB.out.size)); clear hk))
  go_ret
  exact ⟨rfl, below_call HB3.out HB.out⟩

set_option maxRecDepth 100000 in
set_option maxHeartbeats 2000000 in
theorem groupLogs (base : List Int) (l : List Ent) (vx vl : Value) (w : World) (hx : Sl 1 i64Row w.heap.size w vx base) (hl : Sl 4 entRow w.heap.size w vl l) (hin : ∀ x ∈ l, EntIn w.heap.size w x ∧ x.bd.length ≤ 140737488351232) (z1 : base.length ≤ 140737488351232) (hG : errTypeIs w) :
    Calls Tryz.prog 8 #[vx, vl] w fun e w' => e = .returned (.bool true) ∧ Below w.heap.size w w' := by
  by_cases hs1 : base.length ≤ 1000
  · by_cases hs2 : sizeE l ≤ 1000
    · exact groupLogs1 base l vx vl w hx hl hin hG hs1 hs2
    · obtain ⟨A, cx, rfl, -⟩ := id hx
      obtain ⟨Al, capl, rfl, -⟩ := id hl
      have CE : Hid (Calls Tryz.prog 59 #[.slice Al l.length capl, .int .i64 1000] w fun e w' => ∃ n : Nat, e = .returned (.int .i64 n) ∧ (1000 : Int) < (n : Int) ∧ w = w') := (entriesOf l 1000 _ w hl (fun x hx => (hin x hx).2) (by omega)).mono fun e w' ⟨n, he, hn, hw⟩ => ⟨n, he, by omega, hw⟩
      have HG := Lib.hid hG
      have d0 : decide ((1000 : Int) < (base.length : Int)) = false := decide_eq_false (by omega)
      have d1 : (base.length : Int) ≤ 1000 := by omega
      clear hs2 hx hl hin hG
      go_enter Tryz.func8, Tryz.ntmps8
      go_wp2_with (first
        | (go_at_call 59; with_reducible refine CE.out.mono ?_; rintro e w2 ⟨n, rfl, hn, rfl⟩)
        | (go_at_call 48; refine (awake22 _ HG.out).mono ?_; rintro e wk ⟨rfl, hk⟩; have HK := Lib.hid hk; clear hk))
      go_ret
      exact ⟨rfl, HK.out⟩
  obtain ⟨A, cx, rfl, -⟩ := id hx
  obtain ⟨Al, capl, rfl, -⟩ := id hl
  have HG := Lib.hid hG
  have d0 : decide ((1000 : Int) < (base.length : Int)) = true := decide_eq_true (by omega)
  have d1 : (1000 : Int) < (base.length : Int) := by omega
  clear hs1 hx hl hin hG
  go_enter Tryz.func8, Tryz.ntmps8
  go_wp2_with (go_at_call 48; refine (awake22 _ HG.out).mono ?_; rintro e wk ⟨rfl, hk⟩; have HK := Lib.hid hk; clear hk)
  go_ret
  exact ⟨rfl, HK.out⟩
end Go.Proofs.YthadfdpdillemaaGreatDoor
set_option linter.unusedVariables false
set_option linter.unusedSimpArgs false
namespace Go.Proofs.YthadfdpdillemaaGreatDoor
open Go.RowKit

set_option maxRecDepth 100000 in
set_option maxHeartbeats 2000000 in
theorem groupSmall (w : World) (hG : errTypeIs w) : Calls Tryz.prog 9 #[] w fun e w' => e = .returned (.bool true) ∧ Below w.heap.size w w' := by
  have HG := Lib.hid hG
  clear hG
  go_enter Tryz.func9, Tryz.ntmps9
  go_wp2_with fail
  go_loopw [1] (fun n wr => ∃ i : Nat, i ≤ 128 ∧ n = .int .i64 (i : Int) ∧ Below w.heap.size w wr) (fun n _ => 129 - (intOf n).toNat)
  case atStart => exact ⟨0, by omega, rfl, Below.refl _ _⟩
  case round =>
    obtain ⟨n, hn, rfl, hB0⟩ := hrel
    have HB0 := Lib.hid hB0
    clear hB0
    by_cases hlt : n < 128
    · have d0 : decide ((n : Int) < 128) = true := decide_eq_true (by omega)
      have i0 : (n : Int) < 128 := by omega
      obtain ⟨W, hW⟩ : ∃ W, W = wr := ⟨_, rfl⟩
      rw [← hW] at HB0
      rw [← hW]
      clear hW
      go_wp2_with fail
      go_loopw [2, 3] (fun o j wr => ∃ (k : Nat) (L : List Int), k ≤ 7 ∧ j = .int .i64 (k : Int) ∧ L.length ≤ k ∧ Own 1 i64Row 3 W.heap.size wr o L ∧ Below W.heap.size W wr) (fun _ j _ => 8 - (intOf j).toNat)
      case atStart => exact ⟨0, [], by omega, rfl, by simp, Own.nil_ _ _ _ _ _, Below.refl _ _⟩
      case round =>
        obtain ⟨k, L, hk, rfl, hL, hown, hB⟩ := hrel
        obtain ⟨Ao, co, rfl⟩ := hown.len
        have HO := Lib.hid hown
        have HB := Lib.hid hB
        have hz := hB.size
        clear hown hB
        by_cases hk7 : k < 7
        · have d1 : decide ((k : Int) < 7) = true := decide_eq_true (by omega)
          have k1 : (k : Int) < 7 := by omega
          have k0 : (0 : Int) ≤ (k : Int) := by omega
          go_upto_region 9 with fail
          rotate_left
          · exact ⟨⟨k + 1, L, by omega, by go_num, by omega, HO.out, HB.out⟩, by simp [intOf]; omega⟩
          go_wp2_with (at_builtin; refine wpList_append_row _ rfl (.tmp 26) (.tmp 29) 70 rfl W.heap.size 3 _ 1 8 Tryz.underlying70 intInfo rfl (Nat.succ_pos 0) i64Row i64Row_length i64Row_one _ _ rfl HO.out ((k : Int) + 1) _ rfl 3 _ rfl rfl (by omega) (by omega) hz ?_; intro v' w' p1 p2 p3 p4 p5)
          have HP := Lib.hid p1
          have HB2 := Lib.hid (HB.out.trans p2)
          clear p1 p2 p3 p4 p5
          go_roundw
          case rel => exact ⟨k + 1, L ++ [(k : Int) + 1], by omega, by go_num, by simp; omega, HP.out, HB2.out⟩
          case measure => simp [intOf]; omega
        · have d1 : decide ((k : Int) < 7) = false := decide_eq_false (by omega)
          have k1 : (7 : Int) ≤ (k : Int) := by omega
          have hL7 : L.length ≤ 7 := by omega
          obtain ⟨W2, hW2⟩ : ∃ W2, W2 = wr := ⟨_, rfl⟩
          rw [← hW2] at HO HB
          rw [← hW2]
          clear hW2 hz
          have HSL := Lib.hid (HO.out.sl i64Row_length)
          have HB1 := Lib.hid (below_call HB0.out HB.out)
          have HG2 := Lib.hid (errType_later HG.out HB1.out)
          clear hL hk7
          go_wp2_with fail
          clear k1 d1
          go_loopw [4] (fun o wr => ∃ a : Int, -1 ≤ a ∧ a ≤ 9 ∧ o = .int .i64 a ∧ Below W2.heap.size W2 wr) (fun o _ => (10 - intOf o).toNat)
          case atStart => exact ⟨-1, by omega, by omega, rfl, Below.refl _ _⟩
          case round =>
            obtain ⟨a, a0, a1, rfl, hB⟩ := hrel
            have HBa := Lib.hid hB
            clear hB
            by_cases ha : a < 9
            · have d2 : decide (a < 9) = true := decide_eq_true ha
              have A1 : Hid (∀ wv, Below W2.heap.size W2 wv → Calls Tryz.prog 7 #[.slice Ao L.length co, .slice (some ⟨wv.heap.size, 0, none⟩) 4 4, .int .i64 a, .int .i64 0] (wv.alloc (.cells #[.int .i64 a, .int .i64 1, .int .i64 3, .int .i64 a] 3)) fun e w' => e = .returned (.bool true) ∧ Below W2.heap.size W2 w') := fun wv hv => (groupTells L [a, 1, 3, a] _ _ a 0 _ ((HSL.out.later hv).alloc _) (box_ints [a, 1, 3, a] (Box.new wv _ 3) rfl (by simp)) (by omega) (by simp) (errType_later HG2.out (below_call hv (below_new wv _)))).mono fun e w' h => ⟨h.1, below_call (below_call hv (below_new wv _)) h.2⟩
              have A2 : Hid (∀ wv, Below W2.heap.size W2 wv → Calls Tryz.prog 7 #[.slice Ao L.length co, .slice (some ⟨wv.heap.size, 0, none⟩) 3 3, .int .i64 0, .int .i64 a] (wv.alloc (.cells #[.int .i64 2, .int .i64 5, .int .i64 5] 3)) fun e w' => e = .returned (.bool true) ∧ Below W2.heap.size W2 w') := fun wv hv => (groupTells L [2, 5, 5] _ _ 0 a _ ((HSL.out.later hv).alloc _) (box_ints [2, 5, 5] (Box.new wv _ 3) rfl (by simp)) (by omega) (by simp) (errType_later HG2.out (below_call hv (below_new wv _)))).mono fun e w' h => ⟨h.1, below_call (below_call hv (below_new wv _)) h.2⟩
              have A3 : Hid (∀ wv, Below W2.heap.size W2 wv → Calls Tryz.prog 7 #[.slice Ao L.length co, .slice Ao L.length co, .int .i64 a, .int .i64 (8 - a)] wv fun e w' => e = .returned (.bool true) ∧ Below W2.heap.size W2 w') := fun wv hv => (groupTells L L _ _ a (8 - a) _ (HSL.out.later hv) (HSL.out.later hv) (by omega) (by omega) (errType_later HG2.out hv)).mono fun e w' h => ⟨h.1, below_call hv h.2⟩
              go_wp2_with (first
                | (go_at_call 7; (with_reducible refine (A1.out wr HBa.out).mono ?_); rintro e w3 ⟨rfl, hb⟩; have HB3 := Lib.hid hb; clear hb)
                | (go_at_call 7; (with_reducible refine (A2.out w3 HB3.out).mono ?_); rintro e w4 ⟨rfl, hb⟩; have HB4 := Lib.hid hb; clear hb)
                | (go_at_call 7; (with_reducible refine (A3.out w4 HB4.out).mono ?_); rintro e w5 ⟨rfl, hb⟩; have HB5 := Lib.hid hb; clear hb))
              go_roundw
              case rel => exact ⟨a + 1, by omega, by omega, by go_num, HB5.out⟩
              case measure => simp [intOf]; omega
            · have d2 : decide (a < 9) = false := decide_eq_false ha
              have a2 : (9 : Int) ≤ a := by omega
              go_wp2_with fail
              go_loopw [5] (fun o wr => ∃ m : Nat, m ≤ 128 ∧ o = .int .i64 (m : Int) ∧ Below W2.heap.size W2 wr) (fun o _ => 129 - (intOf o).toNat)
              case atStart => exact ⟨0, by omega, rfl, HBa.out⟩
              case round =>
                obtain ⟨m, hm, rfl, hB⟩ := hrel
                have HBm := Lib.hid hB
                clear hB HBa d2 a2 ha a0 a1
                by_cases hm1 : m < 128
                · have d3 : decide ((m : Int) < 128) = true := decide_eq_true (by omega)
                  have m1 : (m : Int) < 128 := by omega
                  obtain ⟨W3, hW3⟩ : ∃ W3, W3 = wr := ⟨_, rfl⟩
                  rw [← hW3] at HBm
                  rw [← hW3]
                  clear hW3
                  go_wp2_with fail
                  go_loopw [6, 7] (fun o j wr => ∃ (i : Int) (Y : List Int), -1 ≤ i ∧ i ≤ 6 ∧ j = .int .i64 i ∧ (Y.length : Int) ≤ 6 - i ∧ Own 1 i64Row 3 W3.heap.size wr o Y ∧ Below W3.heap.size W3 wr) (fun _ j _ => (intOf j + 1).toNat)
                  case atStart => exact ⟨6, [], by omega, by omega, rfl, by simp, Own.nil_ _ _ _ _ _, Below.refl _ _⟩
                  case round =>
                    obtain ⟨i, Y, i1, i2, rfl, hY, hown, hB⟩ := hrel
                    obtain ⟨Ay, cy, rfl⟩ := hown.len
                    have HO := Lib.hid hown
                    have HB := Lib.hid hB
                    have hz := hB.size
                    clear hown hB
                    by_cases hi0 : 0 ≤ i
                    · have d4 : decide (0 ≤ i) = true := decide_eq_true hi0
                      go_upto_region 23 with fail
                      rotate_left
                      · exact ⟨⟨i - 1, Y, by omega, by omega, by go_num, by omega, HO.out, HB.out⟩, by simp [intOf]; omega⟩
                      go_wp2_with (at_builtin; refine wpList_append_row _ rfl (.tmp 71) (.tmp 74) 70 rfl W3.heap.size 3 _ 1 8 Tryz.underlying70 intInfo rfl (Nat.succ_pos 0) i64Row i64Row_length i64Row_one _ _ rfl HO.out (i + 1) _ rfl 3 _ rfl rfl (by omega) (by omega) hz ?_; intro v' w' p1 p2 p3 p4 p5)
                      have HP := Lib.hid p1
                      have HB2 := Lib.hid (HB.out.trans p2)
                      clear p1 p2 p3 p4 p5
                      go_roundw
                      case rel => exact ⟨i - 1, Y ++ [i + 1], by omega, by omega, by go_num, by simp; omega, HP.out, HB2.out⟩
                      case measure => simp [intOf]; omega
                    · have d4 : decide (0 ≤ i) = false := decide_eq_false hi0
                      have i3 : i < 0 := by omega
                      have hY7 : Y.length ≤ 7 := by omega
                      have HBw := Lib.hid (below_call HBm.out HB.out)
                      obtain ⟨wo, hwo⟩ : ∃ b, wonV L Y = b := ⟨_, rfl⟩
                      have CW := Lib.hid (groupWon L Y _ _ wr (HSL.out.later HBw.out) (HO.out.sl i64Row_length) (by omega))
                      have CV := Lib.hid (refWon L Y _ _ wr (HSL.out.later HBw.out) (HO.out.sl i64Row_length) (by omega))
                      rw [hwo] at CW CV
                      clear hwo
                      go_wp2_with (first
                        | (go_at_call 53; (with_reducible refine CW.out.mono ?_); rintro e w5 ⟨rfl, rfl⟩)
                        | (go_at_call 54; (with_reducible refine CV.out.mono ?_); rintro e w5 ⟨rfl, rfl⟩))
                      go_roundw
                      case rel => exact ⟨m + 1, by omega, by go_num, HBw.out⟩
                      case measure => simp [intOf]; omega
                · have d3 : decide ((m : Int) < 128) = false := decide_eq_false (by omega)
                  have m1 : (128 : Int) ≤ (m : Int) := by omega
                  have HBn := Lib.hid (below_call HB1.out HBm.out)
                  clear hm1
                  go_wp2_with fail
                  go_roundw
                  case rel => exact ⟨n + 1, by omega, by go_num, HBn.out⟩
                  case measure => simp [intOf]; omega
    · have d0 : decide ((n : Int) < 128) = false := decide_eq_false (by omega)
      have i0 : (128 : Int) ≤ (n : Int) := by omega
      clear hlt i0
      have HBE := Lib.hid (bods_made wr 77)
      have HBC : Hid (Below wr.heap.size wr (((((((wr.alloc (.cells #[.int .u8 1] 5)).alloc (.cells #[.int .u8 2, .int .u8 3] 5)).alloc (.cells #[.int .u8 3, .int .u8 2] 5)).alloc (.cells #[.int .u8 0] 5)).alloc (.cells #[.int .u8 1, .int .u8 2, .int .u8 3, .int .u8 4, .int .u8 5, .int .u8 6, .int .u8 7] 5)).alloc (.cells #[.int .u8 8] 5)).alloc (.cells #[.slice none 0 0, .slice (some ⟨wr.heap.size, 0, none⟩) 1 1, .slice (some ⟨wr.heap.size + 1, 0, none⟩) 2 2, .slice (some ⟨wr.heap.size + 1 + 1, 0, none⟩) 2 2, .slice (some ⟨wr.heap.size + 1 + 1 + 1, 0, none⟩) 1 1, .slice (some ⟨wr.heap.size + 1 + 1 + 1 + 1, 0, none⟩) 7 7, .slice (some ⟨wr.heap.size + 1 + 1 + 1 + 1 + 1, 0, none⟩) 1 1] 77))) := below_call (below_call (below_call (below_call (below_call (below_call (below_new _ _) (below_new _ _)) (below_new _ _)) (below_new _ _)) (below_new _ _)) (below_new _ _)) (below_new _ _)
      go_upto_region 27 with fail
      obtain ⟨W5, hW5⟩ : ∃ z, z = (((((((wr.alloc (.cells #[.int .u8 1] 5)).alloc (.cells #[.int .u8 2, .int .u8 3] 5)).alloc (.cells #[.int .u8 3, .int .u8 2] 5)).alloc (.cells #[.int .u8 0] 5)).alloc (.cells #[.int .u8 1, .int .u8 2, .int .u8 3, .int .u8 4, .int .u8 5, .int .u8 6, .int .u8 7] 5)).alloc (.cells #[.int .u8 8] 5)).alloc (.cells #[.slice none 0 0, .slice (some ⟨wr.heap.size, 0, none⟩) 1 1, .slice (some ⟨wr.heap.size + 1, 0, none⟩) 2 2, .slice (some ⟨wr.heap.size + 1 + 1, 0, none⟩) 2 2, .slice (some ⟨wr.heap.size + 1 + 1 + 1, 0, none⟩) 1 1, .slice (some ⟨wr.heap.size + 1 + 1 + 1 + 1, 0, none⟩) 7 7, .slice (some ⟨wr.heap.size + 1 + 1 + 1 + 1 + 1, 0, none⟩) 1 1] 77)) := ⟨_, rfl⟩
      rw [← hW5] at HBE HBC
      rw [← hW5]
      clear hW5
      obtain ⟨g, hg⟩ : ∃ g, g = wr.heap.size + 1 + 1 + 1 + 1 + 1 + 1 := ⟨_, rfl⟩
      rw [← hg] at HBE
      rw [← hg]
      clear hg
      have HB05 := Lib.hid (below_call HB0.out HBC.out)
      clear HBC HB0
      go_wp2_with fail
      go_loopw [9] (fun o wr => ∃ p : Nat, p ≤ 9261 ∧ o = .int .i64 (p : Int) ∧ Below W5.heap.size W5 wr) (fun o _ => 9262 - (intOf o).toNat)
      case atStart => exact ⟨0, by omega, rfl, Below.refl _ _⟩
      case round =>
        obtain ⟨p, hp, rfl, hB5⟩ := hrel
        have HB5 := Lib.hid hB5
        clear hB5
        by_cases hp1 : p < 9261
        · have d5 : decide ((p : Int) < 9261) = true := decide_eq_true (by omega)
          have p1 : (p : Int) < 9261 := by omega
          obtain ⟨W6, hW6⟩ : ∃ z, z = wr := ⟨_, rfl⟩
          rw [← hW6] at HB5
          rw [← hW6]
          clear hW6
          have HBD := Lib.hid (HBE.out.later HB5.out)
          have hgW : g < W6.heap.size := HBD.out.1
          go_wp2_with fail
          go_loopw [10, 11, 12] (fun o q j wr => ∃ (i q0 : Nat) (L : List Ent), i ≤ 3 ∧ j = .int .i64 (i : Int) ∧ q = .int .i64 (q0 : Int) ∧ q0 ≤ 9261 ∧ L.length = i ∧ (∀ x ∈ L, EntIn W6.heap.size W6 x ∧ x.bd.length ≤ 7) ∧ Own 4 entRow 79 W6.heap.size wr o L ∧ Below W6.heap.size W6 wr) (fun _ _ j _ => 4 - (intOf j).toNat)
          case atStart => exact ⟨0, p, [], by omega, rfl, rfl, by omega, rfl, by simp, Own.nil_ _ _ _ _ _, Below.refl _ _⟩
          case round =>
            obtain ⟨i, q, L, hi, rfl, rfl, hq, hL, hin, hown, hB⟩ := hrel
            obtain ⟨Ao, co, rfl⟩ := hown.len
            have HLN := Lib.hid hL
            have HIN := Lib.hid hin
            have HO := Lib.hid hown
            have HB := Lib.hid hB
            have hz := hB.size
            have hL3 : L.length ≤ 3 := by omega
            clear hown hB hin hL
            by_cases hi3 : i < 3
            · have d6 : decide ((i : Int) < 3) = true := decide_eq_true (by omega)
              have i3 : (i : Int) < 3 := by omega
              have hj : q / 3 % 7 < 7 := Nat.mod_lt _ (by omega)
              obtain ⟨A9, c9, D, k9, s9, b9, l9⟩ := HBD.out.2 (q / 3 % 7) hj
              have c0 := (HB.out.cell (p := ⟨g, q / 3 % 7, none⟩) hgW).trans k9
              have HEI : Hid (Sl 1 u8Row W6.heap.size W6 (.slice A9 D.length c9) D ∧ (∀ y ∈ D, 0 ≤ y ∧ y ≤ 255)) := ⟨s9, b9⟩
              clear k9 s9 b9
              have HIN2 : Hid (∀ x ∈ L ++ [⟨10 * (i : Int), 0, (q : Int) % 3 + 1, A9, c9, D⟩], EntIn W6.heap.size W6 x ∧ x.bd.length ≤ 7) := by
                intro x hx
                rcases List.mem_append.1 hx with hx | hx
                · exact HIN.out x hx
                · simp only [List.mem_singleton] at hx
                  subst hx
                  exact ⟨HEI.out, l9⟩
              have HL9 := Lib.hid l9
              clear l9
              go_wp2_with (at_builtin; refine wpList_append_row _ rfl (.tmp 99) (.tmp 112) 28 rfl W6.heap.size 79 _ 4 48 Tryz.underlying28 entInfo rfl (Nat.succ_pos 3) entRow entRow_length entRow_one _ _ rfl HO.out ⟨10 * (i : Int), 0, (q : Int) % 3 + 1, A9, c9, D⟩ _ rfl 79 _ rfl rfl (by omega) (by omega) hz ?_; intro v' w' p1_ p2 p3 p4 p5)
              have HP := Lib.hid p1_
              have HB2 := Lib.hid (HB.out.trans p2)
              clear p1_ p2 p3 p4 p5
              go_roundw
              case rel => exact ⟨i + 1, q / 21, _, by omega, by go_num, by go_num, by omega, by rw [List.length_append, HLN.out]; rfl, HIN2.out, HP.out, HB2.out⟩
              case measure => simp [intOf]; omega
            · have d6 : decide ((i : Int) < 3) = false := decide_eq_false (by omega)
              have i3 : (3 : Int) ≤ (i : Int) := by omega
              obtain ⟨A8, c8, hv8, k8, -, -, hA8⟩ := HO.out.sl entRow_length
              simp only [Value.slice.injEq] at hv8
              obtain ⟨hv1, -, hv2⟩ := hv8
              obtain ⟨b, off, hAb, -, -⟩ := hA8 (by intro h; rw [h] at HLN; have := HLN.out; simp at this; omega)
              rw [hv1, hAb] at HO
              rw [hv1, hAb]
              have kc : L.length ≤ co := by rw [hv2]; exact k8
              have hL33 : 3 ≤ L.length := by have := HLN.out; omega
              clear hA8 k8 hv1 hv2 hAb
              have hp4 : p % 4 ≤ L.length := by have := Nat.mod_lt p (show 4 > 0 by omega); omega
              have hpc : p % 4 ≤ co := by omega
              have HSL := Lib.hid (HO.out.sl entRow_length)
              have HB6 := Lib.hid (below_call HB5.out HB.out)
              have HBR := Lib.hid (below_call HB05.out HB6.out)
              have G1 : Hid (Calls Tryz.prog 8 #[.slice (some ⟨wr.heap.size, 0, none⟩) 2 2, .slice (some ⟨b, off, none⟩) (p % 4) co] (wr.alloc (.cells #[.int .i64 4, .int .i64 5] 3)) fun e w' => e = .returned (.bool true) ∧ Below wr.heap.size wr w') := (groupLogs [4, 5] (L.take (p % 4)) _ _ _ (box_ints [4, 5] (Box.new wr _ 3) rfl (by simp)) ((HSL.out.take_ hp4).alloc _) (fun x hx => ⟨(((HIN.out x (List.mem_of_mem_take hx)).1.later HB.out)).later (below_new _ _), by have := (HIN.out x (List.mem_of_mem_take hx)).2; omega⟩) (by simp) (errType_later HG.out (below_call HBR.out (below_new _ _)))).mono fun e w' h => ⟨h.1, below_call (below_new wr _) h.2⟩
              have G2 : Hid (∀ wv, Below wr.heap.size wr wv → Calls Tryz.prog 8 #[.slice none 0 0, .slice (some ⟨b, off, none⟩) L.length co] wv fun e w' => e = .returned (.bool true) ∧ Below wr.heap.size wr w') := fun wv hv => (groupLogs [] L _ _ wv (Sl.nil_ _ _ _ _) (HSL.out.later hv) (fun x hx => ⟨((HIN.out x hx).1.later HB.out).later hv, by have := (HIN.out x hx).2; omega⟩) (by simp) (errType_later HG.out (below_call HBR.out hv))).mono fun e w' h => ⟨h.1, below_call hv h.2⟩
              clear hL3 hq
              go_wp2_with (first
                | (go_at_call 8; (with_reducible refine G1.out.mono ?_); rintro e w8 ⟨rfl, hb⟩; have H8 := Lib.hid hb; clear hb)
                | (go_at_call 8; (with_reducible refine (G2.out w8 H8.out).mono ?_); rintro e w9 ⟨rfl, hb⟩; have H9 := Lib.hid hb; clear hb)
                | (go_at_call 8; (with_reducible refine (G2.out wr (Below.refl _ _)).mono ?_); rintro e w9 ⟨rfl, hb⟩; have H9 := Lib.hid hb; clear hb))
              all_goals exact ⟨⟨p + 1, by omega, by go_num, below_call HB6.out H9.out⟩, by simp [intOf]; omega⟩
        · have d5 : decide ((p : Int) < 9261) = false := decide_eq_false (by omega)
          have p1 : (9261 : Int) ≤ (p : Int) := by omega
          have F1 : Hid (∀ wv, Below w.heap.size w wv → Calls Tryz.prog 7 #[.slice (some ⟨wv.heap.size, 0, none⟩) 2 2, .slice (some ⟨wv.heap.size + 1, 0, none⟩) 2 2, .int .i64 3, .int .i64 0] ((wv.alloc (.cells #[.int .i64 2, .int .i64 1] 3)).alloc (.cells #[.int .i64 1, .int .i64 2] 3)) fun e w' => e = .returned (.bool true) ∧ Below w.heap.size w w') := fun wv hv => by
            have hb := below_call (below_call hv (below_new wv (.cells #[.int .i64 2, .int .i64 1] 3))) (below_new _ (.cells #[.int .i64 1, .int .i64 2] 3))
            have h : Calls Tryz.prog 7 #[.slice (some ⟨wv.heap.size, 0, none⟩) 2 2, .slice (some ⟨(wv.alloc (.cells #[.int .i64 2, .int .i64 1] 3)).heap.size, 0, none⟩) 2 2, .int .i64 3, .int .i64 0] ((wv.alloc (.cells #[.int .i64 2, .int .i64 1] 3)).alloc (.cells #[.int .i64 1, .int .i64 2] 3)) fun e w' => e = .returned (.bool true) ∧ Below w.heap.size w w' := (groupTells [2, 1] [1, 2] _ _ 3 0 _ (box_ints [2, 1] ((Box.new wv _ 3).alloc _) rfl (by simp)) (box_ints [1, 2] (Box.new _ _ 3) rfl (by simp)) (by simp) (by simp) (errType_later HG.out hb)).mono fun e w' h => ⟨h.1, below_call hb h.2⟩
            rw [World.size_alloc] at h
            exact h
          have F2 : Hid (∀ wv, Below w.heap.size w wv → Calls Tryz.prog 7 #[.slice (some ⟨wv.heap.size, 0, none⟩) 3 3, .slice (some ⟨wv.heap.size + 1, 0, none⟩) 1 1, .int .i64 0, .int .i64 1] ((wv.alloc (.cells #[.int .i64 1, .int .i64 1, .int .i64 1] 3)).alloc (.cells #[.int .i64 1] 3)) fun e w' => e = .returned (.bool true) ∧ Below w.heap.size w w') := fun wv hv => by
            have hb := below_call (below_call hv (below_new wv (.cells #[.int .i64 1, .int .i64 1, .int .i64 1] 3))) (below_new _ (.cells #[.int .i64 1] 3))
            have h : Calls Tryz.prog 7 #[.slice (some ⟨wv.heap.size, 0, none⟩) 3 3, .slice (some ⟨(wv.alloc (.cells #[.int .i64 1, .int .i64 1, .int .i64 1] 3)).heap.size, 0, none⟩) 1 1, .int .i64 0, .int .i64 1] ((wv.alloc (.cells #[.int .i64 1, .int .i64 1, .int .i64 1] 3)).alloc (.cells #[.int .i64 1] 3)) fun e w' => e = .returned (.bool true) ∧ Below w.heap.size w w' := (groupTells [1, 1, 1] [1] _ _ 0 1 _ (box_ints [1, 1, 1] ((Box.new wv _ 3).alloc _) rfl (by simp)) (box_ints [1] (Box.new _ _ 3) rfl (by simp)) (by simp) (by simp) (errType_later HG.out hb)).mono fun e w' h => ⟨h.1, below_call hb h.2⟩
            rw [World.size_alloc] at h
            exact h
          have F3 : Hid (∀ wv, Below w.heap.size w wv → Calls Tryz.prog 7 #[.slice none 0 0, .slice none 0 0, .int .i64 9223372036854775807, .int .i64 0] wv fun e w' => e = .returned (.bool true) ∧ Below w.heap.size w w') := fun wv hv => (groupTells [] [] _ _ 9223372036854775807 0 wv (Sl.nil_ _ _ _ _) (Sl.nil_ _ _ _ _) (by simp) (by simp) (errType_later HG.out hv)).mono fun e w' h => ⟨h.1, below_call hv h.2⟩
          have F4 : Hid (∀ wv, Below w.heap.size w wv → Calls Tryz.prog 7 #[.slice (some ⟨wv.heap.size, 0, none⟩) 1 1, .slice none 0 0, .int .i64 (-9223372036854775808), .int .i64 0] (wv.alloc (.cells #[.int .i64 1] 3)) fun e w' => e = .returned (.bool true) ∧ Below w.heap.size w w') := fun wv hv => (groupTells [1] [] _ _ (-9223372036854775808) 0 _ (box_ints [1] (Box.new wv _ 3) rfl (by simp)) (Sl.nil_ _ _ _ _) (by simp) (by simp) (errType_later HG.out (below_call hv (below_new _ _)))).mono fun e w' h => ⟨h.1, below_call (below_call hv (below_new _ _)) h.2⟩
          have HBF := Lib.hid (below_call HB05.out HB5.out)
          go_wp2_with (first
            | (go_at_call 7; (with_reducible refine (F1.out wr HBF.out).mono ?_); rintro e w7 ⟨rfl, hb⟩; have H7 := Lib.hid hb; clear hb)
            | (go_at_call 7; (with_reducible refine (F2.out w7 H7.out).mono ?_); rintro e w8 ⟨rfl, hb⟩; have H8 := Lib.hid hb; clear hb)
            | (go_at_call 7; (with_reducible refine (F3.out w8 H8.out).mono ?_); rintro e w9 ⟨rfl, hb⟩; have H9 := Lib.hid hb; clear hb)
            | (go_at_call 7; (with_reducible refine (F4.out w9 H9.out).mono ?_); rintro e w10 ⟨rfl, hb⟩; have H10 := Lib.hid hb; clear hb)
            | (go_at_call 48; refine (awake22 _ (errType_later HG.out H10.out)).mono ?_; rintro e w11 ⟨rfl, hb⟩; have H11 := Lib.hid (below_call H10.out hb); clear hb))
          go_ret
          exact ⟨rfl, H11.out⟩
end Go.Proofs.YthadfdpdillemaaGreatDoor
