/-
  Merged: HealAwake, Law24.
-/
import Derived.Test.YtglkgmijhdkhpaaGreatDoorHt32
import Derived.Test.YtglkgmijhdkhpaaGreatDoorHt4
import Derived.Test.YtglkgmijhdkhpaaGreatDoorHt27
/-
  limpetlaw24's awake: true.
-/
set_option linter.unusedVariables false
set_option linter.unusedSimpArgs false
namespace Go.Proofs.YtglkgmijhdkhpaaGreatDoor
open Go.RowKit

def awkRot : List Idt := [⟨4, 0, 0⟩, ⟨5, 2, 2⟩]
def awkRec : Rec := ⟨⟨5, 2, 2, none, 0, []⟩, ⟨4, 1, 1⟩⟩
theorem awk24_wants : WantsV awkRot 9 = [⟨5, 2, 2⟩] := rfl
theorem awk24_take : takeV awkRot [awkRec] = [awkRec] := rfl
theorem awk24_left : leftV awkRot [awkRec] = [⟨4, 1, 1⟩] := rfl
theorem recIn_awk (w : World) : RecIn w awkRec := ⟨⟨⟨Sl.nil_ _ _ _ _, by intro x hx; simp [awkRec] at hx⟩, by simp [awkRec]⟩, by unfold H64 awkRec; simp⟩
set_option maxRecDepth 100000 in
set_option maxHeartbeats 2000000 in
theorem awake24 (w : World) (hG : errTypeIs w) : Calls Tryz.prog 6 #[] w fun e w' => e = .returned (.bool true) ∧ Below w.heap.size w w' := by
  have HB0 := Lib.hid (below_new w (.cells #[.int .i64 4, .int .i64 0, .int .i64 0, .int .i64 5, .int .i64 2, .int .i64 2] 42))
  have HS0 := Lib.hid (Box.sl idRow_length awkRot (Box.new w #[.int .i64 4, .int .i64 0, .int .i64 0, .int .i64 5, .int .i64 2, .int .i64 2] 42) rfl (by unfold maxLen awkRot; simp))
  obtain ⟨W, hW⟩ : ∃ z, z = w.alloc (.cells #[.int .i64 4, .int .i64 0, .int .i64 0, .int .i64 5, .int .i64 2, .int .i64 2] 42) := ⟨_, rfl⟩
  obtain ⟨g0, hg0⟩ : ∃ z, z = w.heap.size := ⟨_, rfl⟩
  have HE := Lib.hid hW
  have HE2 := Lib.hid hg0
  rw [← hW] at HB0 HS0
  rw [← hg0] at HS0
  have HG := Lib.hid (errType_later hG HB0.out)
  have C1 : Hid (Calls Tryz.prog 9 #[.slice (some ⟨g0, 0, none⟩) 2 2, .int .i64 9] W fun e w' => ∃ b o c, e = .returned (.slice (some ⟨b, o, none⟩) 1 c) ∧ (1 : Int) ≤ (c : Int) ∧ w'.cell? ⟨b, o, none⟩ = some (.int .i64 5) ∧ b < w'.heap.size ∧ Below W.heap.size W w') := by
    refine (healWants awkRot _ 9 W HS0.out (by unfold awkRot; simp)).mono ?_
    rintro e w' ⟨v0, A, m, c, rfl, hm, -, -, hs, hb⟩
    rw [awk24_wants] at hm hs
    obtain ⟨b, off, c2, h1, h2, -, h3, hc⟩ := hs.cellAt (by simp)
    subst hm
    simp only [Value.slice.injEq] at h1
    obtain ⟨rfl, -, rfl⟩ := h1
    exact ⟨b, off, 1, rfl, by omega, by simpa using hc 0 _ rfl 0 _ rfl, h3, hb⟩
  have C2 : Hid (∀ (V : World), Below W.heap.size W V → Calls Tryz.prog 11 #[.slice (some ⟨g0, 0, none⟩) 2 2, .slice (some ⟨V.heap.size, 0, none⟩) 1 1] (V.alloc (.cells #[.int .i64 5, .int .i64 2, .int .i64 2, .slice none 0 0, .int .i64 4, .int .i64 1, .int .i64 1] 56)) fun e w' => ∃ g c m, e = .returned (.slice g 1 c) ∧ Sl 7 recRow w'.heap.size w' (.slice g 1 c) m ∧ m.length = 1 ∧ leftV awkRot m = [⟨4, 1, 1⟩] ∧ Below V.heap.size V w') := fun V hV => by
    have hb1 := below_new V (.cells #[.int .i64 5, .int .i64 2, .int .i64 2, .slice none 0 0, .int .i64 4, .int .i64 1, .int .i64 1] 56)
    refine (healTake awkRot [awkRec] _ _ _ ((HS0.out.later hV).later hb1) (Box.sl recRow_length [awkRec] (Box.new V _ 56) rfl (by unfold maxLen; simp)) (fun r hr => by simp at hr; subst hr; exact recIn_awk _) (errType_later (errType_later HG.out hV) hb1) (by unfold awkRot; simp)).mono ?_
    rintro e w' ⟨A, c, m, rfl, hr, hb⟩
    rw [awk24_take] at hr
    have hl := hr.len
    simp at hl
    have hk : leftV awkRot m = leftV awkRot [awkRec] := by rw [← left_nrm awkRot m, hr.key, left_nrm]
    refine ⟨A, c, m, by rw [hl], by have := hr.own.sl recRow_length; rw [hl] at this; exact this, hl, by rw [hk]; rfl, below_call hb1 hb⟩
  have C3 : Hid (∀ (V : World) (A : Option Addr) (c : Nat) (m : List Rec), Below W.heap.size W V → Sl 7 recRow V.heap.size V (.slice A 1 c) m → m.length = 1 → leftV awkRot m = [⟨4, 1, 1⟩] → Calls Tryz.prog 18 #[.slice (some ⟨g0, 0, none⟩) 2 2, .slice A 1 c] V fun e w' => ∃ g c, e = .returned (.slice (some ⟨g, 0, none⟩) 1 c) ∧ (1 : Int) ≤ (c : Int) ∧ w'.cell? ⟨g, 0, none⟩ = some (.int .i64 4) ∧ w'.cell? ⟨g, 1, none⟩ = some (.int .i64 1) ∧ w'.cell? ⟨g, 2, none⟩ = some (.int .i64 1) ∧ Below V.heap.size V w') := fun V A c m hV hs hm hlv => by
    refine (healLeft awkRot m _ _ V (HS0.out.later hV) hs (by rw [hm]; unfold awkRot; simp)).mono ?_
    rintro e w' ⟨v, rfl, ho, hb⟩
    rw [hlv] at ho
    obtain ⟨g, c, hv, -, -, -⟩ := ho.place (by simp)
    have hs := ho.sl idRow_length
    rw [hv] at hs
    obtain ⟨b, off, c2, h1, h2, -, -, hc⟩ := hs.cellAt (by simp)
    simp only [Value.slice.injEq, Option.some.injEq, Addr.mk.injEq, and_true] at h1
    obtain ⟨⟨rfl, rfl⟩, -, rfl⟩ := h1
    exact ⟨g, c, by rw [hv]; rfl, by simp at h2; omega, by simpa using hc 0 _ rfl 0 _ rfl, by simpa using hc 0 _ rfl 1 _ rfl, by simpa using hc 0 _ rfl 2 _ rfl, hb⟩
  clear hW hg0 hG
  go_enter Tryz.func6, Tryz.ntmps6
  go_upto_region 2 with fail
  rw [← HE.out, ← HE2.out]
  go_wp2_with (first
    | (go_at_call 9; (with_reducible refine C1.out.mono ?_); rintro e w2 ⟨b2, o2, c2, rfl, hc2, hx2, hs2, hb⟩; have HX2 := Lib.hid hx2; have HZ2 := Lib.hid hs2; have HB2 := Lib.hid hb; clear hx2 hs2 hb)
    | (go_at_call 27; (with_reducible refine (of24 5 2 2 4 1 1 w2).mono ?_); rintro e w3 ⟨rfl, hb⟩; have HB3 := Lib.hid (HB2.out.trans (hb.mono HB2.out.size)); have HX3 := Lib.hid (cell_later hb HX2.out); clear hb)
    | (go_at_call 11; (with_reducible refine (C2.out w3 HB3.out).mono ?_); rintro e w4 ⟨g4, c4, m4, rfl, hs, hm, hlv, hb⟩; have HB4 := Lib.hid (HB3.out.trans (hb.mono HB3.out.size)); have HX4 := Lib.hid (cell_later hb HX3.out); have HS4 := Lib.hid hs; have HM4 := Lib.hid hm; have HL4 := Lib.hid hlv; clear hs hm hlv hb)
    | (go_at_call 18; (with_reducible refine (C3.out w4 g4 c4 m4 HB4.out HS4.out HM4.out HL4.out).mono ?_); rintro e w5 ⟨g5, c5, rfl, hc5, y0, y1, y2, hb⟩; have x5 := cell_later hb HX4.out; have HB5 := Lib.hid (HB4.out.trans (hb.mono HB4.out.size)); clear hb))
  go_ret
  exact ⟨rfl, below_call HB0.out HB5.out⟩
end Go.Proofs.YtglkgmijhdkhpaaGreatDoor
/-
  limpetkit's SameIdents; limpetlaw24's entries, refs, same: contracts.
-/
set_option linter.unusedVariables false
set_option linter.unusedSimpArgs false
namespace Go.Proofs.YtglkgmijhdkhpaaGreatDoor
open Go.RowKit

set_option maxRecDepth 100000 in
set_option maxHeartbeats 2000000 in
theorem sameIdents (l : List Idt) (v v' : Value) (w : World) (h : Sl 3 idRow w.heap.size w v l) (h' : Sl 3 idRow w.heap.size w v' l) :
    Calls Tryz.prog 12 #[v, v'] w fun e w' => e = .returned (.bool true) ∧ Below w.heap.size w w' := by
  obtain ⟨A, c, rfl, hlc, hcm, -, hA⟩ := h
  obtain ⟨A', c', rfl, -, -, -, hA'⟩ := h'
  have hn : l.length ≤ 9223372036854775807 := by unfold maxLen at hcm; omega
  have HA := Lib.hid hA
  have HA' := Lib.hid hA'
  clear hA hA' hcm hlc
  go_enter Tryz.func12, Tryz.ntmps12
  go_wp2_with fail
  go_loopw [5] (fun i wr => ∃ k : Nat, k ≤ l.length ∧ i = .int .i64 (k : Int) ∧ Below w.heap.size w wr) (fun i _ => l.length - (kOf i).toNat)
  case atStart => exact ⟨0, by omega, rfl, Below.refl _ _⟩
  case round =>
    obtain ⟨k, hk, rfl, hb⟩ := hrel
    have HB := Lib.hid hb
    have i0 : (0 : Int) ≤ (k : Int) := by omega
    clear hb
    by_cases hlt : k < l.length
    · have i1 : (k : Int) < (l.length : Int) := by omega
      have d0 : decide ((k : Int) < (l.length : Int)) = true := decide_eq_true i1
      obtain ⟨b, off, rfl, hbb, hcell⟩ := HA.out (by intro h; subst h; simp at hlt)
      obtain ⟨b2, off2, rfl, hbb2, hcell2⟩ := HA'.out (by intro h; subst h; simp at hlt)
      obtain ⟨x, hx⟩ : ∃ x, l[k]? = some x := ⟨_, List.getElem?_eq_getElem hlt⟩
      have c0 : wr.cell? ⟨b, off + k * 3, none⟩ = some (.int .i64 x.idx) := (HB.out.cell (p := ⟨b, off + k * 3 + 0, none⟩) hbb).trans (hcell k x hx 0 _ rfl)
      have c1 : wr.cell? ⟨b, off + k * 3 + 1, none⟩ = some (.int .i64 x.trm) := (HB.out.cell (p := ⟨b, off + k * 3 + 1, none⟩) hbb).trans (hcell k x hx 1 _ rfl)
      have c2 : wr.cell? ⟨b, off + k * 3 + 2, none⟩ = some (.int .i64 x.knd) := (HB.out.cell (p := ⟨b, off + k * 3 + 2, none⟩) hbb).trans (hcell k x hx 2 _ rfl)
      have e0 : wr.cell? ⟨b2, off2 + k * 3, none⟩ = some (.int .i64 x.idx) := (HB.out.cell (p := ⟨b2, off2 + k * 3 + 0, none⟩) hbb2).trans (hcell2 k x hx 0 _ rfl)
      have e1 : wr.cell? ⟨b2, off2 + k * 3 + 1, none⟩ = some (.int .i64 x.trm) := (HB.out.cell (p := ⟨b2, off2 + k * 3 + 1, none⟩) hbb2).trans (hcell2 k x hx 1 _ rfl)
      have e2 : wr.cell? ⟨b2, off2 + k * 3 + 2, none⟩ = some (.int .i64 x.knd) := (HB.out.cell (p := ⟨b2, off2 + k * 3 + 2, none⟩) hbb2).trans (hcell2 k x hx 2 _ rfl)
      clear hcell hcell2 hx
      go_upto_region 6 with fail
      go_region
      go_wp2_with fail
      go_roundw
      case rel => exact ⟨k + 1, by omega, by go_num, by first | exact HB.out | exact HB.out.drew⟩
      case measure => first | (simp [kOf]; done) | (simp [kOf]; omega)
    · have d0 : decide ((k : Int) < (l.length : Int)) = false := decide_eq_false (by omega)
      go_wp2_with fail
      go_ret
      exact ⟨rfl, HB.out⟩

set_option maxRecDepth 100000 in
set_option maxHeartbeats 2000000 in
theorem entries24 (l : List Rec) (v : Value) (w : World) (h : Sl 7 recRow w.heap.size w v l) (hn : l.length ≤ 100000) :
    Calls Tryz.prog 26 #[v] w fun e w' => ∃ A c, e = .returned (.slice A l.length c) ∧ Own 4 entRow 54 w.heap.size w' (.slice A l.length c) (l.map Rec.e) ∧ Below w.heap.size w w' := by
  obtain ⟨A, c, rfl, -, -, -, hA⟩ := h
  have HA := Lib.hid hA
  clear hA
  go_enter Tryz.func26, Tryz.ntmps26
  go_wp2_with fail
  go_loopw [3, 4] (fun o i wr => ∃ (k : Nat) (ov : Value), ov = o ∧ k ≤ l.length ∧ i = .int .i64 (k : Int) ∧ Own 4 entRow 54 w.heap.size wr ov ((l.take k).map Rec.e) ∧ Below w.heap.size w wr) (fun _ i _ => l.length - (kOf i).toNat)
  case atStart => exact ⟨0, _, rfl, by omega, rfl, Own.nil_ _ _ _ _ _, Below.refl _ _⟩
  case round =>
    obtain ⟨k, ov, rfl, hk, rfl, ho, hb⟩ := hrel
    have HO := Lib.hid ho
    have HB := Lib.hid hb
    have hz := hb.size
    have i0 : (0 : Int) ≤ (k : Int) := by omega
    have hll : ((l.take k).map Rec.e).length ≤ 100000 := by rw [List.length_map, List.length_take]; omega
    clear ho hb
    by_cases hlt : k < l.length
    · have i1 : (k : Int) < (l.length : Int) := by omega
      have d0 : decide ((k : Int) < (l.length : Int)) = true := decide_eq_true i1
      obtain ⟨b, off, rfl, hbb, hcell⟩ := HA.out (by intro h; subst h; simp at hlt)
      obtain ⟨x, hx⟩ : ∃ x, l[k]? = some x := ⟨_, List.getElem?_eq_getElem hlt⟩
      have c0 : wr.cell? ⟨b, off + k * 7, none⟩ = some (.int .i64 x.e.idx) := (HB.out.cell (p := ⟨b, off + k * 7 + 0, none⟩) hbb).trans (hcell k x hx 0 _ rfl)
      have c1 : wr.cell? ⟨b, off + k * 7 + 1, none⟩ = some (.int .i64 x.e.trm) := (HB.out.cell (p := ⟨b, off + k * 7 + 1, none⟩) hbb).trans (hcell k x hx 1 _ rfl)
      have c2 : wr.cell? ⟨b, off + k * 7 + 2, none⟩ = some (.int .i64 x.e.knd) := (HB.out.cell (p := ⟨b, off + k * 7 + 2, none⟩) hbb).trans (hcell k x hx 2 _ rfl)
      have c3 : wr.cell? ⟨b, off + k * 7 + 3, none⟩ = some (.slice x.e.ba x.e.bd.length x.e.bc) := (HB.out.cell (p := ⟨b, off + k * 7 + 3, none⟩) hbb).trans (hcell k x hx 3 _ rfl)
      have HT := Lib.hid (show (l.take (k + 1)).map Rec.e = (l.take k).map Rec.e ++ [x.e] by rw [take_at hx, List.map_append]; rfl)
      clear hcell hx
      go_wp2_with (at_builtin; refine wpList_append_row _ rfl (.tmp 11) (.tmp 17) 48 rfl w.heap.size 54 _ 4 48 Tryz.underlying48 entInfo rfl (Nat.succ_pos 3) entRow entRow_length entRow_one _ _ rfl HO.out (x.e) _ rfl 54 _ rfl rfl (by omega) (by omega) hz ?_; intro v' w' p1 p2 p3 p4 p5; have P1 := Lib.hid p1; have P2 := Lib.hid p2; clear p1 p2 p3 p4 p5)
      go_roundw
      case rel => exact ⟨k + 1, _, rfl, by omega, by go_num, by rw [HT.out]; exact P1.out, HB.out.trans P2.out⟩
      case measure => first | (simp [kOf]; done) | (simp [kOf]; omega)
    · have d0 : decide ((k : Int) < (l.length : Int)) = false := decide_eq_false (by omega)
      have hke : k = l.length := by omega
      have HF := Lib.hid (show Own 4 entRow 54 w.heap.size wr ov (l.map Rec.e) by have h := HO.out; rw [hke, List.take_length] at h; exact h)
      clear hke
      obtain ⟨A9, c9, hv9⟩ := HF.out.len
      rw [List.length_map] at hv9
      subst hv9
      go_wp2_with fail
      go_ret
      exact ⟨A9, c9, rfl, HF.out, HB.out⟩

theorem rrecInfo : (Tryz.prog.info? 76).map (fun i => (i.zero, i.size, i.bytes)) = some (some (.agg #[.int .i64 0, .int .i64 0, .int .i64 0, .slice none 0 0, .int .i64 0, .int .i64 0, .int .i64 0]), 7, 72) := by kernel_rfl
set_option maxRecDepth 100000 in
set_option maxHeartbeats 4000000 in
theorem refs24 (l : List Rec) (v : Value) (w : World) (h : Sl 7 recRow w.heap.size w v l) (hn : l.length ≤ 100000) :
    Calls Tryz.prog 16 #[v] w fun e w' => ∃ A c, e = .returned (.slice A l.length c) ∧ Own 7 recRow 76 w.heap.size w' (.slice A l.length c) l ∧ Below w.heap.size w w' := by
  obtain ⟨A, c, rfl, -, -, -, hA⟩ := h
  have HA := Lib.hid hA
  clear hA
  go_enter Tryz.func16, Tryz.ntmps16
  go_wp2_with fail
  go_loopw [3, 4] (fun o i wr => ∃ (k : Nat) (ov : Value), ov = o ∧ k ≤ l.length ∧ i = .int .i64 (k : Int) ∧ Own 7 recRow 76 w.heap.size wr ov (l.take k) ∧ Below w.heap.size w wr) (fun _ i _ => l.length - (kOf i).toNat)
  case atStart => exact ⟨0, _, rfl, by omega, rfl, Own.nil_ _ _ _ _ _, Below.refl _ _⟩
  case round =>
    obtain ⟨k, ov, rfl, hk, rfl, ho, hb⟩ := hrel
    have HO := Lib.hid ho
    have HB := Lib.hid hb
    have hz := hb.size
    have i0 : (0 : Int) ≤ (k : Int) := by omega
    have hll : (l.take k).length ≤ 100000 := by rw [List.length_take]; omega
    clear ho hb
    by_cases hlt : k < l.length
    · have i1 : (k : Int) < (l.length : Int) := by omega
      have d0 : decide ((k : Int) < (l.length : Int)) = true := decide_eq_true i1
      obtain ⟨b, off, rfl, hbb, hcell⟩ := HA.out (by intro h; subst h; simp at hlt)
      obtain ⟨x, hx⟩ : ∃ x, l[k]? = some x := ⟨_, List.getElem?_eq_getElem hlt⟩
      have HF : Hid (∀ w', Below w.heap.size w w' → w'.cell? ⟨b, off + k * 7, none⟩ = some (.int .i64 x.e.idx) ∧ w'.cell? ⟨b, off + k * 7 + 1, none⟩ = some (.int .i64 x.e.trm) ∧ w'.cell? ⟨b, off + k * 7 + 2, none⟩ = some (.int .i64 x.e.knd) ∧ w'.cell? ⟨b, off + k * 7 + 3, none⟩ = some (.slice x.e.ba x.e.bd.length x.e.bc) ∧ w'.cell? ⟨b, off + k * 7 + 4, none⟩ = some (.int .i64 x.a.idx) ∧ w'.cell? ⟨b, off + k * 7 + 5, none⟩ = some (.int .i64 x.a.trm) ∧ w'.cell? ⟨b, off + k * 7 + 6, none⟩ = some (.int .i64 x.a.knd) ∧ Below w.heap.size w w') :=
        fun w' q => ⟨(q.cell (p := ⟨b, off + k * 7, none⟩) hbb).trans (hcell k x hx 0 _ rfl), (q.cell (p := ⟨b, off + k * 7 + 1, none⟩) hbb).trans (hcell k x hx 1 _ rfl), (q.cell (p := ⟨b, off + k * 7 + 2, none⟩) hbb).trans (hcell k x hx 2 _ rfl), (q.cell (p := ⟨b, off + k * 7 + 3, none⟩) hbb).trans (hcell k x hx 3 _ rfl), (q.cell (p := ⟨b, off + k * 7 + 4, none⟩) hbb).trans (hcell k x hx 4 _ rfl), (q.cell (p := ⟨b, off + k * 7 + 5, none⟩) hbb).trans (hcell k x hx 5 _ rfl), (q.cell (p := ⟨b, off + k * 7 + 6, none⟩) hbb).trans (hcell k x hx 6 _ rfl), q⟩
      have HT := Lib.hid (take_at hx)
      clear hcell hx
      go_upto_region 5 with fail
      go_region_held3 (fun w' => w'.cell? ⟨b, off + k * 7, none⟩ = some (.int .i64 x.e.idx) ∧ w'.cell? ⟨b, off + k * 7 + 1, none⟩ = some (.int .i64 x.e.trm) ∧ w'.cell? ⟨b, off + k * 7 + 2, none⟩ = some (.int .i64 x.e.knd) ∧ w'.cell? ⟨b, off + k * 7 + 3, none⟩ = some (.slice x.e.ba x.e.bd.length x.e.bc) ∧ w'.cell? ⟨b, off + k * 7 + 4, none⟩ = some (.int .i64 x.a.idx) ∧ w'.cell? ⟨b, off + k * 7 + 5, none⟩ = some (.int .i64 x.a.trm) ∧ w'.cell? ⟨b, off + k * 7 + 6, none⟩ = some (.int .i64 x.a.knd) ∧ Below w.heap.size w w')
        (first | exact HF.out _ HB.out.drew | exact HF.out _ (HB.out.alloc hz _).drew | exact HF.out _ ((HB.out.alloc hz _).drew.trans p2))
        ((refine step_append_row (by rfl) _ _ _ (by rfl) w.heap.size 76 _ 7 72 Tryz.underlying33 rrecInfo rfl (by omega) recRow recRow_length recRow_one _ _ (by rfl) ((HO.out.alloc _).drew) x _ (by rfl) 76 wr.heap.size (by rfl) (heap_alloc_new wr _) (by omega) (by omega) (by simp; omega) ?_; intro g cp w2 p1 p2 p3))
      have HB2 := Lib.hid ((HB.out.alloc hz _).drew.trans p2)
      have hgl2 : (l.take k ++ [x]).length = k + 1 := by rw [List.length_append, List.length_take_of_le (by omega)]; rfl
      rw [hgl2]
      rw [hgl2] at p1
      have HP := Lib.hid p1
      clear p1 p2 p3 hgl2
      go_wp2_with fail
      go_roundw
      case rel => exact ⟨k + 1, _, rfl, by omega, by go_num, by rw [HT.out]; exact HP.out, HB2.out⟩
      case measure => first | (simp [kOf]; done) | (simp [kOf]; omega)
    · have d0 : decide ((k : Int) < (l.length : Int)) = false := decide_eq_false (by omega)
      have hke : k = l.length := by omega
      have HF := Lib.hid (show Own 7 recRow 76 w.heap.size wr ov l by have h := HO.out; rw [hke, List.take_length] at h; exact h)
      clear hke
      obtain ⟨A9, c9, hv9⟩ := HF.out.len
      subst hv9
      go_wp2_with fail
      go_ret
      exact ⟨A9, c9, rfl, HF.out, HB.out⟩

theorem nrm_at {l m : List Rec} (h : l.map nrmR = m.map nrmR) {k : Nat} {x : Rec} (hx : l[k]? = some x) : ∃ y, m[k]? = some y ∧ y.e.idx = x.e.idx ∧ y.e.trm = x.e.trm ∧ y.e.knd = x.e.knd ∧ y.e.bd = x.e.bd ∧ y.a = x.a := by
  have h1 : (l.map nrmR)[k]? = (m.map nrmR)[k]? := by rw [h]
  rw [List.getElem?_map, List.getElem?_map, hx] at h1
  cases hm : m[k]? with
  | none => rw [hm] at h1; simp at h1
  | some y =>
    rw [hm] at h1
    have h2 : nrmR x = nrmR y := by simpa using h1
    have h3 : nrmE x.e = nrmE y.e := congrArg Rec.e h2
    exact ⟨y, rfl, (congrArg Ent.idx h3 : _).symm, (congrArg Ent.trm h3 : _).symm, (congrArg Ent.knd h3 : _).symm, (congrArg Ent.bd h3 : _).symm, (congrArg Rec.a h2 : _).symm⟩
set_option maxRecDepth 100000 in
set_option maxHeartbeats 4000000 in
theorem same24 (l m : List Rec) (v v' : Value) (w : World) (hkey : l.map nrmR = m.map nrmR) (h : Sl 7 recRow w.heap.size w v l) (h' : Sl 7 recRow w.heap.size w v' m) (hb : ∀ x ∈ l, Sl 1 u8Row w.heap.size w x.e.bv x.e.bd) (hb' : ∀ x ∈ m, Sl 1 u8Row w.heap.size w x.e.bv x.e.bd) :
    Calls Tryz.prog 14 #[v, v'] w fun e w' => e = .returned (.bool true) ∧ Below w.heap.size w w' := by
  have hlm : m.length = l.length := by have := congrArg List.length hkey; simpa using this.symm
  obtain ⟨A, c, rfl, hlc, hcm, -, hA⟩ := h
  obtain ⟨A', c', rfl, -, -, -, hA'⟩ := h'
  have hn : l.length ≤ 9223372036854775807 := by unfold maxLen at hcm; omega
  rw [hlm]
  have HLM := Lib.hid hlm
  have HA := Lib.hid hA
  have HA' := Lib.hid hA'
  have HK := Lib.hid hkey
  have HY := Lib.hid hb
  have HY' := Lib.hid hb'
  clear hA hA' hcm hlc hkey hb hb' hlm
  go_enter Tryz.func14, Tryz.ntmps14
  go_wp2_with fail
  go_loopw [5] (fun i wr => ∃ k : Nat, k ≤ l.length ∧ i = .int .i64 (k : Int) ∧ Below w.heap.size w wr) (fun i _ => l.length - (kOf i).toNat)
  case atStart => exact ⟨0, by omega, rfl, Below.refl _ _⟩
  case round =>
    obtain ⟨k, hk, rfl, hb⟩ := hrel
    have HB := Lib.hid hb
    have i0 : (0 : Int) ≤ (k : Int) := by omega
    clear hb
    by_cases hlt : k < l.length
    · have i1 : (k : Int) < (l.length : Int) := by omega
      have d0 : decide ((k : Int) < (l.length : Int)) = true := decide_eq_true i1
      have d0n : decide (k < l.length) = true := decide_eq_true hlt
      obtain ⟨b, off, rfl, hbb, hcell⟩ := HA.out (by intro h; subst h; simp at hlt)
      obtain ⟨b2, off2, rfl, hbb2, hcell2⟩ := HA'.out (by intro h; have := HLM.out; rw [h] at this; simp at this; omega)
      obtain ⟨x, hx⟩ : ∃ x, l[k]? = some x := ⟨_, List.getElem?_eq_getElem hlt⟩
      obtain ⟨y, hy, e1, e2, e3, e4, e5⟩ := nrm_at HK.out hx
      have kx0 : ∀ z : Ext wr, z.wd.cell? ⟨b, off + k * 7, none⟩ = some (.int .i64 x.e.idx) := fun z => (((HB.out.trans (z.low.mono HB.out.size)).cell (p := ⟨b, off + k * 7 + 0, none⟩) hbb).trans (hcell k x hx 0 _ rfl))
      have kx1 : ∀ z : Ext wr, z.wd.cell? ⟨b, off + k * 7 + 1, none⟩ = some (.int .i64 x.e.trm) := fun z => (((HB.out.trans (z.low.mono HB.out.size)).cell (p := ⟨b, off + k * 7 + 1, none⟩) hbb).trans (hcell k x hx 1 _ rfl))
      have kx2 : ∀ z : Ext wr, z.wd.cell? ⟨b, off + k * 7 + 2, none⟩ = some (.int .i64 x.e.knd) := fun z => (((HB.out.trans (z.low.mono HB.out.size)).cell (p := ⟨b, off + k * 7 + 2, none⟩) hbb).trans (hcell k x hx 2 _ rfl))
      have kx3 : ∀ z : Ext wr, z.wd.cell? ⟨b, off + k * 7 + 3, none⟩ = some (.slice x.e.ba x.e.bd.length x.e.bc) := fun z => (((HB.out.trans (z.low.mono HB.out.size)).cell (p := ⟨b, off + k * 7 + 3, none⟩) hbb).trans (hcell k x hx 3 _ rfl))
      have kx4 : ∀ z : Ext wr, z.wd.cell? ⟨b, off + k * 7 + 4, none⟩ = some (.int .i64 x.a.idx) := fun z => (((HB.out.trans (z.low.mono HB.out.size)).cell (p := ⟨b, off + k * 7 + 4, none⟩) hbb).trans (hcell k x hx 4 _ rfl))
      have kx5 : ∀ z : Ext wr, z.wd.cell? ⟨b, off + k * 7 + 5, none⟩ = some (.int .i64 x.a.trm) := fun z => (((HB.out.trans (z.low.mono HB.out.size)).cell (p := ⟨b, off + k * 7 + 5, none⟩) hbb).trans (hcell k x hx 5 _ rfl))
      have kx6 : ∀ z : Ext wr, z.wd.cell? ⟨b, off + k * 7 + 6, none⟩ = some (.int .i64 x.a.knd) := fun z => (((HB.out.trans (z.low.mono HB.out.size)).cell (p := ⟨b, off + k * 7 + 6, none⟩) hbb).trans (hcell k x hx 6 _ rfl))
      have ky0 : ∀ z : Ext wr, z.wd.cell? ⟨b2, off2 + k * 7, none⟩ = some (.int .i64 x.e.idx) := fun z => (((HB.out.trans (z.low.mono HB.out.size)).cell (p := ⟨b2, off2 + k * 7 + 0, none⟩) hbb2).trans (hcell2 k y hy 0 _ rfl)).trans (by rw [e1])
      have ky1 : ∀ z : Ext wr, z.wd.cell? ⟨b2, off2 + k * 7 + 1, none⟩ = some (.int .i64 x.e.trm) := fun z => (((HB.out.trans (z.low.mono HB.out.size)).cell (p := ⟨b2, off2 + k * 7 + 1, none⟩) hbb2).trans (hcell2 k y hy 1 _ rfl)).trans (by rw [e2])
      have ky2 : ∀ z : Ext wr, z.wd.cell? ⟨b2, off2 + k * 7 + 2, none⟩ = some (.int .i64 x.e.knd) := fun z => (((HB.out.trans (z.low.mono HB.out.size)).cell (p := ⟨b2, off2 + k * 7 + 2, none⟩) hbb2).trans (hcell2 k y hy 2 _ rfl)).trans (by rw [e3])
      have ky3 : ∀ z : Ext wr, z.wd.cell? ⟨b2, off2 + k * 7 + 3, none⟩ = some (.slice y.e.ba x.e.bd.length y.e.bc) := fun z => (((HB.out.trans (z.low.mono HB.out.size)).cell (p := ⟨b2, off2 + k * 7 + 3, none⟩) hbb2).trans (hcell2 k y hy 3 _ rfl)).trans (by rw [e4])
      have ky4 : ∀ z : Ext wr, z.wd.cell? ⟨b2, off2 + k * 7 + 4, none⟩ = some (.int .i64 x.a.idx) := fun z => (((HB.out.trans (z.low.mono HB.out.size)).cell (p := ⟨b2, off2 + k * 7 + 4, none⟩) hbb2).trans (hcell2 k y hy 4 _ rfl)).trans (by rw [e5])
      have ky5 : ∀ z : Ext wr, z.wd.cell? ⟨b2, off2 + k * 7 + 5, none⟩ = some (.int .i64 x.a.trm) := fun z => (((HB.out.trans (z.low.mono HB.out.size)).cell (p := ⟨b2, off2 + k * 7 + 5, none⟩) hbb2).trans (hcell2 k y hy 5 _ rfl)).trans (by rw [e5])
      have ky6 : ∀ z : Ext wr, z.wd.cell? ⟨b2, off2 + k * 7 + 6, none⟩ = some (.int .i64 x.a.knd) := fun z => (((HB.out.trans (z.low.mono HB.out.size)).cell (p := ⟨b2, off2 + k * 7 + 6, none⟩) hbb2).trans (hcell2 k y hy 6 _ rfl)).trans (by rw [e5])
      have CS : Hid (∀ z : Ext wr, Calls Tryz.prog 40 #[.agg #[.int .i64 x.e.idx, .int .i64 x.e.trm, .int .i64 x.e.knd, .slice x.e.ba x.e.bd.length x.e.bc], .agg #[.int .i64 x.e.idx, .int .i64 x.e.trm, .int .i64 x.e.knd, .slice y.e.ba x.e.bd.length y.e.bc]] z.wd fun e w' => e = .returned (.bool true) ∧ Below z.wd.heap.size z.wd w') := fun z => by
        have h2 := HY'.out y (List.mem_of_getElem? hy)
        unfold Ent.bv at h2
        rw [e4] at h2
        exact sameEntry x.e y.e.ba y.e.bc z.wd ((HY.out x (List.mem_of_getElem? hx)).later (HB.out.trans (z.low.mono HB.out.size))) (h2.later (HB.out.trans (z.low.mono HB.out.size)))
      clear hcell hcell2 hx hy e1 e2 e3 e4 e5
      go_upto_region 6 with fail
      refine wp_region_ext (by kernel_rfl) (by kernel_rfl) ?_
      repeat (go_big_quiet_step ((rename_i x5; have h5 := x5.low; first
        | (go_at_call 40; exact ext_of x5 (CS.out x5)))))
      refine wpQuiet_nil ?_
      intro _ hw'
      obtain ⟨x9, hw''⟩ := hw'
      subst hw''
      go_wp2_with fail
      go_roundw
      case rel => exact ⟨k + 1, by omega, by go_num, HB.out.trans (x9.low.mono HB.out.size)⟩
      case measure => first | (simp [kOf]; done) | (simp [kOf]; omega)
    · have d0 : decide ((k : Int) < (l.length : Int)) = false := decide_eq_false (by omega)
      have d0n : decide (k < l.length) = false := decide_eq_false hlt
      go_wp2_with fail
      go_ret
      exact ⟨rfl, HB.out⟩

end Go.Proofs.YtglkgmijhdkhpaaGreatDoor
