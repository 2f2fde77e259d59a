/-
  Merged: HealAwake, HealRec.
-/
import Derived.Test.YtglkgmijhdkhpaaDoorHa37
import Derived.Test.YtglkgmijhdkhpaaDoorHa9
import Derived.Test.YtglkgmijhdkhpaaDoorHa22
import Derived.Test.YtglkgmijhdkhpaaDoorHa18
/-
  limpetlaw24's awake: true.
-/
set_option linter.unusedVariables false
set_option linter.unusedSimpArgs false
namespace Go.Proofs.YtglkgmijhdkhpaaDoor
open Go.RowKit

def awkRot : List Idt := [⟨4, 0, 0⟩, ⟨5, 2, 2⟩]
def awkRec : Rec := ⟨⟨5, 2, 2, none, 0, []⟩, ⟨4, 1, 1⟩⟩
theorem awk24_wants : WantsV awkRot 9 = [⟨5, 2, 2⟩] := rfl
theorem awk24_take : takeV awkRot [awkRec] = [awkRec] := rfl
theorem awk24_left : leftV awkRot [awkRec] = [⟨4, 1, 1⟩] := rfl
theorem recIn_awk (w : World) : RecIn w awkRec := ⟨⟨⟨Sl.nil_ _ _ _ _, by intro x hx; simp [awkRec] at hx⟩, by simp [awkRec]⟩, by unfold H64 awkRec; simp⟩
set_option maxRecDepth 100000 in
set_option maxHeartbeats 2000000 in
theorem awake24 (w : World) (hG : errTypeIs w) : Calls Tryd.prog 5 #[] w fun e w' => e = .returned (.bool true) ∧ Below w.heap.size w w' := by
  have HB0 := Lib.hid (below_new w (.cells #[.int .i64 4, .int .i64 0, .int .i64 0, .int .i64 5, .int .i64 2, .int .i64 2] 31))
  have HS0 := Lib.hid (Box.sl idRow_length awkRot (Box.new w #[.int .i64 4, .int .i64 0, .int .i64 0, .int .i64 5, .int .i64 2, .int .i64 2] 31) rfl (by unfold maxLen awkRot; simp))
  obtain ⟨W, hW⟩ : ∃ z, z = w.alloc (.cells #[.int .i64 4, .int .i64 0, .int .i64 0, .int .i64 5, .int .i64 2, .int .i64 2] 31) := ⟨_, rfl⟩
  obtain ⟨g0, hg0⟩ : ∃ z, z = w.heap.size := ⟨_, rfl⟩
  have HE := Lib.hid hW
  have HE2 := Lib.hid hg0
  rw [← hW] at HB0 HS0
  rw [← hg0] at HS0
  have HG := Lib.hid (errType_later hG HB0.out)
  have C1 : Hid (Calls Tryd.prog 9 #[.slice (some ⟨g0, 0, none⟩) 2 2, .int .i64 9] W fun e w' => ∃ b o c, e = .returned (.slice (some ⟨b, o, none⟩) 1 c) ∧ (1 : Int) ≤ (c : Int) ∧ w'.cell? ⟨b, o, none⟩ = some (.int .i64 5) ∧ b < w'.heap.size ∧ Below W.heap.size W w') := by
    refine (healWants awkRot _ 9 W HS0.out (by unfold awkRot; simp)).mono ?_
    rintro e w' ⟨v0, A, m, c, rfl, hm, -, -, hs, hb⟩
    rw [awk24_wants] at hm hs
    obtain ⟨b, off, c2, h1, h2, -, h3, hc⟩ := hs.cellAt (by simp)
    subst hm
    simp only [Value.slice.injEq] at h1
    obtain ⟨rfl, -, rfl⟩ := h1
    exact ⟨b, off, 1, rfl, by omega, by simpa using hc 0 _ rfl 0 _ rfl, h3, hb⟩
  have C2 : Hid (∀ (V : World), Below W.heap.size W V → Calls Tryd.prog 7 #[.slice (some ⟨g0, 0, none⟩) 2 2, .slice (some ⟨V.heap.size, 0, none⟩) 1 1] (V.alloc (.cells #[.int .i64 5, .int .i64 2, .int .i64 2, .slice none 0 0, .int .i64 4, .int .i64 1, .int .i64 1] 37)) fun e w' => ∃ g c m, e = .returned (.slice g 1 c) ∧ Sl 7 recRow w'.heap.size w' (.slice g 1 c) m ∧ m.length = 1 ∧ leftV awkRot m = [⟨4, 1, 1⟩] ∧ Below V.heap.size V w') := fun V hV => by
    have hb1 := below_new V (.cells #[.int .i64 5, .int .i64 2, .int .i64 2, .slice none 0 0, .int .i64 4, .int .i64 1, .int .i64 1] 37)
    refine (healTake awkRot [awkRec] _ _ _ ((HS0.out.later hV).later hb1) (Box.sl recRow_length [awkRec] (Box.new V _ 37) rfl (by unfold maxLen; simp)) (fun r hr => by simp at hr; subst hr; exact recIn_awk _) (errType_later (errType_later HG.out hV) hb1) (by unfold awkRot; simp)).mono ?_
    rintro e w' ⟨A, c, m, rfl, hr, hb⟩
    rw [awk24_take] at hr
    have hl := hr.len
    simp at hl
    have hk : leftV awkRot m = leftV awkRot [awkRec] := by rw [← left_nrm awkRot m, hr.key, left_nrm]
    refine ⟨A, c, m, by rw [hl], by have := hr.own.sl recRow_length; rw [hl] at this; exact this, hl, by rw [hk]; rfl, below_call hb1 hb⟩
  have C3 : Hid (∀ (V : World) (A : Option Addr) (c : Nat) (m : List Rec), Below W.heap.size W V → Sl 7 recRow V.heap.size V (.slice A 1 c) m → m.length = 1 → leftV awkRot m = [⟨4, 1, 1⟩] → Calls Tryd.prog 13 #[.slice (some ⟨g0, 0, none⟩) 2 2, .slice A 1 c] V fun e w' => ∃ g c, e = .returned (.slice (some ⟨g, 0, none⟩) 1 c) ∧ (1 : Int) ≤ (c : Int) ∧ w'.cell? ⟨g, 0, none⟩ = some (.int .i64 4) ∧ w'.cell? ⟨g, 1, none⟩ = some (.int .i64 1) ∧ w'.cell? ⟨g, 2, none⟩ = some (.int .i64 1) ∧ Below V.heap.size V w') := fun V A c m hV hs hm hlv => by
    refine (healLeft awkRot m _ _ V (HS0.out.later hV) hs (by rw [hm]; unfold awkRot; simp)).mono ?_
    rintro e w' ⟨v, rfl, ho, hb⟩
    rw [hlv] at ho
    obtain ⟨g, c, hv, -, -, -⟩ := ho.place (by simp)
    have hs := ho.sl idRow_length
    rw [hv] at hs
    obtain ⟨b, off, c2, h1, h2, -, -, hc⟩ := hs.cellAt (by simp)
    simp only [Value.slice.injEq, Option.some.injEq, Addr.mk.injEq, and_true] at h1
    obtain ⟨⟨rfl, rfl⟩, -, rfl⟩ := h1
    exact ⟨g, c, by rw [hv]; rfl, by simp at h2; omega, by simpa using hc 0 _ rfl 0 _ rfl, by simpa using hc 0 _ rfl 1 _ rfl, by simpa using hc 0 _ rfl 2 _ rfl, hb⟩
  clear hW hg0 hG
  go_enter Tryd.func5, Tryd.ntmps5
  go_upto_region 2 with fail
  rw [← HE.out, ← HE2.out]
  go_wp2_with (first
    | (go_at_call 9; (with_reducible refine C1.out.mono ?_); rintro e w2 ⟨b2, o2, c2, rfl, hc2, hx2, hs2, hb⟩; have HX2 := Lib.hid hx2; have HZ2 := Lib.hid hs2; have HB2 := Lib.hid hb; clear hx2 hs2 hb)
    | (go_at_call 19; (with_reducible refine (of24 5 2 2 4 1 1 w2).mono ?_); rintro e w3 ⟨rfl, hb⟩; have HB3 := Lib.hid (HB2.out.trans (hb.mono HB2.out.size)); have HX3 := Lib.hid (cell_later hb HX2.out); clear hb)
    | (go_at_call 7; (with_reducible refine (C2.out w3 HB3.out).mono ?_); rintro e w4 ⟨g4, c4, m4, rfl, hs, hm, hlv, hb⟩; have HB4 := Lib.hid (HB3.out.trans (hb.mono HB3.out.size)); have HX4 := Lib.hid (cell_later hb HX3.out); have HS4 := Lib.hid hs; have HM4 := Lib.hid hm; have HL4 := Lib.hid hlv; clear hs hm hlv hb)
    | (go_at_call 13; (with_reducible refine (C3.out w4 g4 c4 m4 HB4.out HS4.out HM4.out HL4.out).mono ?_); rintro e w5 ⟨g5, c5, rfl, hc5, y0, y1, y2, hb⟩; have x5 := cell_later hb HX4.out; have HB5 := Lib.hid (HB4.out.trans (hb.mono HB4.out.size)); clear hb))
  go_ret
  exact ⟨rfl, below_call HB0.out HB5.out⟩
end Go.Proofs.YtglkgmijhdkhpaaDoor
/-
  RECORDS that were given, taken: what they are.
-/
set_option linter.unusedVariables false
set_option linter.unusedSimpArgs false
namespace Go.Proofs.YtglkgmijhdkhpaaDoor
open Go.RowKit

/-- What is taken. -/
structure TookOk (rot : List Idt) (m : List Rec) : Prop where
  mem : ∀ x ∈ m, goodE x.e = true ∧ ofE x.e ∈ wantsV rot ∧ x.a.idx = x.e.idx - 1
  ord : m.Pairwise fun x y => x.e.idx < y.e.idx
  len : m.length ≤ rot.length
theorem took_ok {rot : List Idt} {l m : List Rec} (h : m.map nrmR = (takeV rot l).map nrmR) : TookOk rot m := by
  have h2 : m.map nrmR = takeV rot (l.map nrmR) := h.trans (take_nrm rot l).symm
  refine ⟨fun x hx => ?_, ?_, ?_⟩
  · have hm : nrmR x ∈ takeV rot (l.map nrmR) := by rw [← h2]; exact List.mem_map_of_mem hx
    have hg := give_mem hm
    have ha := goodR_ahead hg.2.1
    exact ⟨ha.1, hg.2.2, ha.2.1⟩
  · have ho := take_order rot (l.map nrmR)
    rw [← h2, List.pairwise_map] at ho
    exact ho
  · have h3 := congrArg List.length h2
    rw [List.length_map] at h3
    have h4 := give_len (l.map nrmR) (wantsV rot) rot.length
    have h5 := wants_len rot
    have h6 : (takeV rot (l.map nrmR)).length ≤ (wantsV rot).length := h4
    omega
theorem gave_ok {want : List Idt} {l m : List Rec} {most : Int} (h : m.map nrmR = (giveV l want most).map nrmR) : (∀ x ∈ m, ofE x.e ∈ want) ∧ (m.length : Int) ≤ max most 0 := by
  have h2 : m.map nrmR = giveV (l.map nrmR) want most := h.trans (give_nrm l want most).symm
  refine ⟨fun x hx => ?_, ?_⟩
  · have hm : nrmR x ∈ giveV (l.map nrmR) want most := by rw [← h2]; exact List.mem_map_of_mem hx
    exact (give_mem hm).2.2
  · have h3 := congrArg List.length h2
    rw [List.length_map] at h3
    have := give_le (l.map nrmR) want most
    omega
theorem WantsV_all (rot : List Idt) : WantsV rot rot.length = wantsV rot := by
  unfold WantsV
  have := wants_len rot
  rw [show (min (((wantsV rot).length : Int)) (max (rot.length : Int) 0)).toNat = (wantsV rot).length by omega, List.take_length]
theorem rec_from {x : Rec} {l m : List Rec} {want : List Idt} {most : Int} (h : m.map nrmR = (giveV l want most).map nrmR) (hx : x ∈ m) : ∃ y ∈ l, y.e.idx = x.e.idx ∧ y.e.trm = x.e.trm ∧ y.e.knd = x.e.knd ∧ y.e.bd = x.e.bd ∧ y.a = x.a := by
  have hm : nrmR x ∈ (giveV l want most).map nrmR := by rw [← h]; exact List.mem_map_of_mem hx
  obtain ⟨y, hy, hxy⟩ := List.mem_map.1 hm
  have h1 : nrmE y.e = nrmE x.e := congrArg Rec.e hxy
  exact ⟨y, (give_mem hy).1, (congrArg Ent.idx h1 : _), (congrArg Ent.trm h1 : _), (congrArg Ent.knd h1 : _), (congrArg Ent.bd h1 : _), (congrArg Rec.a hxy : _)⟩
theorem rec_in {B : Nat} {w V : World} {v : Value} {l m : List Rec} {want : List Idt} {most : Int} (h : RecRs B w v (giveV l want most) m) (hl : ∀ r ∈ l, ∀ y ∈ r.e.bd, 0 ≤ y ∧ y ≤ 255) (hV : Below w.heap.size w V) : ∀ x ∈ m, EntIn V.heap.size V x.e := fun x hx => by
  obtain ⟨i, hi⟩ := List.mem_iff_getElem?.1 hx
  have h1 := h.bod.own i x.e (by rw [List.getElem?_map, hi]; rfl)
  obtain ⟨y, hy, -, -, -, hbd, -⟩ := rec_from h.key hx
  exact ⟨(h1.sl u8Row_length).later hV, by rw [← hbd]; exact hl y hy⟩

end Go.Proofs.YtglkgmijhdkhpaaDoor
