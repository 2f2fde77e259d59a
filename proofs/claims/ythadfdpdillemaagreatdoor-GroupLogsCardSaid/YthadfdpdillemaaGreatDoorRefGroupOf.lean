/-
  limpetref22.Of: contract.
-/
import Derived.Test.YthadfdpdillemaaGreatDoorGroupLogMath
import Derived.Test.YthadfdpdillemaaGreatDoorGroupOf
import Derived.Test.YthadfdpdillemaaGreatDoorEntRef
set_option linter.unusedVariables false
set_option linter.unusedSimpArgs false
namespace Go.Proofs.YthadfdpdillemaaGreatDoor
open Go.RowKit

theorem grpS_no {s : List Int × Int} {x : Ent} (h : grpE x = false) : grpS s x = s := by unfold grpS; rw [if_neg (by rw [h]; simp)]
theorem grpS_yes {s : List Int × Int} {x : Ent} (h : grpE x = true) : grpS s x = (x.bd, x.idx) := by unfold grpS; rw [if_pos h]

set_option maxRecDepth 100000 in
set_option maxHeartbeats 8000000 in
theorem refOfG (base : List Int) (l : List Ent) (v vl : Value) (w : World) (h : Sl 1 i64Row w.heap.size w v base) (hl : Sl 4 entRow w.heap.size w vl l) (hin : ∀ x ∈ l, EntIn w.heap.size w x) (hb : base.length ≤ 1000000) (hn : l.length ≤ 1000000) :
    Calls Tryz.prog 61 #[v, vl] w fun e w' => ∃ v', e = .returned (.tuple #[v', .int .i64 (grpV base l).2]) ∧ Own 1 i64Row 3 w.heap.size w' v' (grpV base l).1 ∧ Below w.heap.size w w' := by
  obtain ⟨A, cap, rfl, -⟩ := id h
  obtain ⟨Al, capl, rfl, hlc, -, -, hA⟩ := id hl
  have HH := Lib.hid h
  have HA := Lib.hid hA
  have HIN := Lib.hid hin
  clear h hl hA hin
  go_enter Tryz.func61, Tryz.ntmps61
  go_wp2_with (at_builtin; refine wpList_append_all _ rfl (.tmp 11) (.tmp 12) 70 rfl w.heap.size 3 _ 1 8 Tryz.underlying70 intInfo rfl (Nat.succ_pos 0) i64Row i64Row_length i64Row_one [] _ rfl (Own.made 1 i64Row 3 w) base w.heap.size _ (HH.out.below (below_new _ _)) rfl (by unfold maxLen; simp; omega) (by simp; omega) (by simp) ?_; intro v' w' h1 h2 h3 h4 h5; have HO := Lib.hid h1; have HB2 := Lib.hid ((below_new w (.cells #[] 3)).trans h2); clear h2 h3 h4 h5 h1)
  go_loopw [6, 7, 8] (fun m a i wr => ∃ k : Nat, k ≤ l.length ∧ i = .int .i64 (k : Int) ∧ a = .int .i64 (grpV base (l.take k)).2 ∧ Own 1 i64Row 3 w.heap.size wr m (grpV base (l.take k)).1 ∧ Below w.heap.size w wr) (fun _ _ i _ => l.length - (intOf i).toNat)
  case atStart => exact ⟨0, by omega, rfl, rfl, HO.out, HB2.out⟩
  case round =>
    obtain ⟨k, hk, rfl, rfl, hown, hB⟩ := hrel
    by_cases hlt : k < l.length
    · obtain ⟨b, off, rfl, hb, hcell⟩ := HA.out (by intro h; subst h; simp at hlt)
      obtain ⟨x, hx⟩ : ∃ x, l[k]? = some x := ⟨_, List.getElem?_eq_getElem hlt⟩
      have HST := Lib.hid (grp_take (base := base) hx)
      obtain ⟨S, hS⟩ : ∃ S, grpV base (l.take k) = S := ⟨_, rfl⟩
      rw [hS] at HST hown
      rw [hS]
      obtain ⟨s1, s2⟩ := S
      have c0 := (hB.cell (p := ⟨b, off + k * 4, none⟩) hb).trans (hcell k x hx 0 _ rfl)
      have c2 := (hB.cell (p := ⟨b, off + k * 4 + 2, none⟩) hb).trans (hcell k x hx 2 _ rfl)
      have c3 := (hB.cell (p := ⟨b, off + k * 4 + 3, none⟩) hb).trans (hcell k x hx 3 _ rfl)
      have hz := hB.size
      have hbr : b < wr.heap.size := by omega
      have i0 : (0 : Int) ≤ (k : Int) := by omega
      have i1 : (k : Int) < (l.length : Int) := by omega
      have HX := Lib.hid hx
      have HO2 := Lib.hid hown
      have HB3 := Lib.hid hB
      have HCE := Lib.hid hcell
      have hxin := HIN.out x (List.mem_of_getElem? hx)
      have HBD := Lib.hid ((hxin.1.below hB).more (show w.heap.size ≤ wr.heap.size by omega))
      have CM := Lib.hid (refMembers x.bd hxin.2 _ wr HBD.out)
      clear hcell hx hown hB hS hxin
      by_cases hkd : x.knd = 3
      · have e1 : (x.knd != 3) = false := by simpa using hkd
        cases hm : memOk x.bd with
        | true =>
          have HST2 := Lib.hid (show grpV base (l.take (k + 1)) = (x.bd, x.idx) by rw [HST.out]; exact grpS_yes (by unfold grpE; rw [hm, decide_eq_true hkd]; rfl))
          have HM := Lib.hid hm
          clear hm hkd
          go_upto_region 8 with (go_at_call 110; refine CM.out.mono ?_; rintro e w6 ⟨v6, rfl, ho, hb6⟩; rw [if_pos HM.out] at ho; rw [if_pos HM.out]; have HO6 := Lib.hid ho; have HB6 := Lib.hid (below_call HB3.out hb6); clear ho hb6)
          have c0' := (HB6.out.cell (p := ⟨b, off + k * 4, none⟩) hb).trans (HCE.out k x HX.out 0 _ rfl)
          go_wp2_with fail
          go_roundw
          case rel => exact ⟨k + 1, by omega, by go_num, by rw [HST2.out], by rw [HST2.out]; exact HO6.out.less hz, HB6.out⟩
          case measure => simp [intOf]; omega
        | false =>
          have HST2 := Lib.hid (show grpV base (l.take (k + 1)) = (s1, s2) by rw [HST.out]; exact grpS_no (by unfold grpE; rw [hm]; rfl))
          have HM := Lib.hid hm
          clear hm hkd
          go_wp2_with (go_at_call 110; refine CM.out.mono ?_; rintro e w6 ⟨v6, rfl, ho, hb6⟩; rw [HM.out] at ho; rw [HM.out]; have HB6 := Lib.hid (below_call HB3.out hb6); have HO6 := Lib.hid (HO2.out.later hb6); clear ho hb6)
          go_roundw
          case rel => exact ⟨k + 1, by omega, by go_num, by rw [HST2.out], by rw [HST2.out]; exact HO6.out, HB6.out⟩
          case measure => simp [intOf]; omega
      · have e1 : (x.knd != 3) = true := by simpa using hkd
        have HST2 := Lib.hid (show grpV base (l.take (k + 1)) = (s1, s2) by rw [HST.out]; exact grpS_no (by unfold grpE; rw [decide_eq_false hkd]; simp))
        clear hkd
        go_wp2_with fail
        go_roundw
        case rel => exact ⟨k + 1, by omega, by go_num, by rw [HST2.out], by rw [HST2.out]; exact HO2.out, HB3.out⟩
        case measure => simp [intOf]; omega
    · have hkl : k = l.length := by omega
      have HK := Lib.hid (show grpV base (l.take k) = grpV base l by rw [hkl, List.take_length])
      rw [HK.out] at hown
      rw [HK.out]
      have HO2 := Lib.hid hown
      have HB3 := Lib.hid hB
      clear hown hB hkl
      go_wp2_with fail
      go_ret2
      exact ⟨_, rfl, HO2.out, HB3.out⟩
end Go.Proofs.YthadfdpdillemaaGreatDoor
