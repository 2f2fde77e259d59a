/-
  The document's ward (limpetref12: Add, Take): contracts.
-/
import Derived.Test.YtnmlmnhgjnkbhaaWardRef3
import Derived.Test.YtnmlmnhgjnkbhaaWardAdd
set_option linter.unusedVariables false
set_option linter.unusedSimpArgs false
namespace Go.Proofs.Ytnmlmnhgjnkbhaa
open Go.RowKit

def RAddPost (l more : List Wnt) (w : World) (e : Ending) (w' : World) : Prop := ∃ v, e = .returned (.tuple #[v, .int .i64 (if addOk l more = true then 0 else 2)]) ∧ Sl 3 wntRow w'.heap.size w' v (addV l more) ∧ Below w.heap.size w w'
def RTakePost (l : List Wnt) (bs : List Int) (w : World) (e : Ending) (w' : World) : Prop := ∃ v, e = .returned (.tuple #[v, .int .i64 (if rightW l = true then 0 else 2)]) ∧ Sl 3 wntRow w'.heap.size w' v (takeV_ l bs) ∧ Below w.heap.size w w'
set_option maxRecDepth 100000 in
set_option maxHeartbeats 4000000 in
theorem rAdd (l more : List Wnt) (vl vm : Value) (w : World) (hl : Sl 3 wntRow w.heap.size w vl l) (hm : Sl 3 wntRow w.heap.size w vm more) (hn : l.length + more.length ≤ 100000) :
    Calls Try.prog 9 #[vl, vm] w (RAddPost l more w) := by
  obtain ⟨Al, cl, rfl, hlcl, hcml, -, -⟩ := id hl
  obtain ⟨Am, cm, rfl, hlcm, hcmm, -, hA⟩ := id hm
  have HA := Lib.hid hA
  have HL := Lib.hid hl
  have h1 := hl.below (below_new w (.cells #[] 41))
  clear hA hlcl hcml hlcm hcmm hm
  go_enter Try.func9, Try.ntmps9
  go_wp2_with (at_builtin; refine wpList_append_all _ rfl (.tmp 8) (.tmp 9) 22 rfl w.heap.size 41 _ 3 24 Try.underlying22 wantInfo rfl (Nat.succ_pos 2) wntRow wntRow_length wntRow_one [] _ rfl (Own.made _ _ _ _) l w.heap.size _ (h1) rfl (by unfold maxLen; simp; omega) (by simp; omega) (by simp) ?_; intro vin w1 q1 q2 q3 q4 q5)
  have HB1 := Lib.hid ((below_new w (.cells #[] 41)).trans q2)
  have HS1 := Lib.hid (show Sl 3 wntRow w1.heap.size w1 vin l from (show Own 3 wntRow 41 w.heap.size w1 vin l by simpa using q1).sl wntRow_length)
  clear q1 q2 q3 q4 q5 h1 hl
  go_loopw [6, 7] (fun o i wr => ∃ (k : Nat) (ov : Value), ov = o ∧ k ≤ more.length ∧ i = .int .i64 (k : Int) ∧ Sl 3 wntRow wr.heap.size wr ov (addsR l more k) ∧ lowW (more.take k) = false ∧ Below w.heap.size w wr) (fun _ i _ => more.length - (kOf i).toNat)
  case atStart => exact ⟨0, _, rfl, by omega, rfl, HS1.out, rfl, HB1.out⟩
  case round =>
    clear HS1 HB1
    obtain ⟨k, ov, rfl, hk, rfl, hs, hlow, hB⟩ := hrel
    have HS := Lib.hid hs
    have HLOW := Lib.hid hlow
    have HB := Lib.hid hB
    have i0 : (0 : Int) ≤ (k : Int) := by omega
    clear hs hlow hB
    by_cases hlt : k < more.length
    · obtain ⟨b, off, rfl, hb, hcell⟩ := HA.out (by intro h; subst h; simp at hlt)
      obtain ⟨x, hx⟩ : ∃ x, more[k]? = some x := ⟨_, List.getElem?_eq_getElem hlt⟩
      have c0 : wr.cell? ⟨b, off + k * 3, none⟩ = some (.int .i64 x.blk) := (HB.out.cell (p := ⟨b, off + k * 3 + 0, none⟩) hb).trans (hcell k x hx 0 _ rfl)
      have c1 : wr.cell? ⟨b, off + k * 3 + 1, none⟩ = some (.int .i64 x.knd) := (HB.out.cell (p := ⟨b, off + k * 3 + 1, none⟩) hb).trans (hcell k x hx 1 _ rfl)
      have c2 : wr.cell? ⟨b, off + k * 3 + 2, none⟩ = some (.int .i64 x.num) := (HB.out.cell (p := ⟨b, off + k * 3 + 2, none⟩) hb).trans (hcell k x hx 2 _ rfl)
      have i1 : (k : Int) < (more.length : Int) := by omega
      have d0 : decide ((k : Int) < (more.length : Int)) = true := decide_eq_true i1
      have HX := Lib.hid hx
      clear hcell hx
      by_cases hxl : x.blk < 0
      · have g0 : decide (x.blk < 0) = true := decide_eq_true hxl
        have HN := Lib.hid (show addOk l more = false by unfold addOk; rw [low_all HX.out hxl]; simp)
        clear hxl
        go_wp2_with fail
        go_ret2
        exact ⟨.slice none 0 0, by rw [HN.out]; rfl, by unfold addV; rw [HN.out]; exact Sl.nil_ _ _ _ _, HB.out⟩
      · have g0 : decide (x.blk < 0) = false := decide_eq_false hxl
        have HN := Lib.hid (show lowW (more.take (k + 1)) = false by rw [low_step HX.out, HLOW.out, g0]; rfl)
        have HAS := Lib.hid (adds_step (l := l) HX.out)
        have L := Lib.hid (rWith (addsR l more k) ov x wr HS.out (by have := adds_len l more k; omega))
        clear hxl
        go_wp2_with (go_at_call 29; (with_reducible refine L.out.mono ?_); rintro e w3 ⟨v3, rfl, ho3, hb3⟩; have HO3 := Lib.hid (ho3.sl wntRow_length); have HB3 := Lib.hid (below_call HB.out hb3); clear ho3 hb3)
        go_roundw
        case rel => exact ⟨k + 1, _, rfl, by omega, by go_num, by rw [HAS.out]; exact HO3.out, HN.out, HB3.out⟩
        case measure => simp [kOf]; omega
    · have d0 : decide ((k : Int) < (more.length : Int)) = false := decide_eq_false (by omega)
      have hke : k = more.length := by omega
      have HN := Lib.hid (show lowW more = false by have h := HLOW.out; rw [hke, List.take_length] at h; exact h)
      have HSE := Lib.hid (show Sl 3 wntRow wr.heap.size wr ov (addL l more) by have h := HS.out; rw [hke, adds_all] at h; exact h)
      have L := Lib.hid (rRight l _ wr (HL.out.later HB.out))
      clear hke
      cases hr : rightW l with
      | true =>
        rw [hr] at L
        have HK := Lib.hid (show addOk l more = true by unfold addOk; rw [hr, HN.out]; rfl)
        clear hr
        go_wp2_with (go_at_call 17; (with_reducible refine L.out.mono ?_); rintro e w3 ⟨rfl, hb3⟩)
        go_ret2
        exact ⟨ov, by rw [HK.out]; rfl, by unfold addV; rw [HK.out]; exact HSE.out.later hb3, below_call HB.out hb3⟩
      | false =>
        rw [hr] at L
        have HK := Lib.hid (show addOk l more = false by unfold addOk; rw [hr]; rfl)
        clear hr
        go_wp2_with (go_at_call 17; (with_reducible refine L.out.mono ?_); rintro e w3 ⟨rfl, hb3⟩)
        go_ret2
        exact ⟨.slice none 0 0, by rw [HK.out]; rfl, by unfold addV; rw [HK.out]; exact Sl.nil_ _ _ _ _, below_call HB.out hb3⟩

set_option maxRecDepth 100000 in
set_option maxHeartbeats 4000000 in
theorem rTake (l : List Wnt) (bs : List Int) (vl vb : Value) (w : World) (hl : Sl 3 wntRow w.heap.size w vl l) (hb : Sl 1 i64Row w.heap.size w vb bs) (hn : l.length ≤ 100000) :
    Calls Try.prog 11 #[vl, vb] w (RTakePost l bs w) := by
  have HW := Lib.hid (rRight l vl w hl)
  have HBS := Lib.hid hb
  obtain ⟨A, cap, rfl, hlc, hcm, -, hA⟩ := id hl
  obtain ⟨Ab, cb, rfl, -⟩ := id hb
  have HA := Lib.hid hA
  clear hl hb hlc hcm hA
  cases hr : rightW l with
  | false =>
    rw [hr] at HW
    have HR := Lib.hid (show takeV_ l bs = [] by unfold takeV_; rw [hr]; rfl)
    have HR2 := Lib.hid hr
    clear hr
    go_enter Try.func11, Try.ntmps11
    go_wp2_with (go_at_call 17; (with_reducible refine HW.out.mono ?_); rintro e w1 ⟨rfl, hb1⟩)
    go_ret2
    exact ⟨.slice none 0 0, by rw [HR2.out]; rfl, by rw [HR.out]; exact Sl.nil_ _ _ _ _, hb1⟩
  | true =>
    rw [hr] at HW
    have HR := Lib.hid (show takeV_ l bs = takeWd l bs by unfold takeV_; rw [hr]; rfl)
    have HRI := Lib.hid hr
    clear hr
    go_enter Try.func11, Try.ntmps11
    go_wp2_with (go_at_call 17; (with_reducible refine HW.out.mono ?_); rintro e w1 ⟨rfl, hb1⟩; have HB1 := Lib.hid hb1; clear hb1)
    clear HW
    go_loopw [6, 7] (fun o i wr => ∃ (k : Nat) (ov : Value), ov = o ∧ k ≤ l.length ∧ i = .int .i64 (k : Int) ∧ Own 3 wntRow 41 w1.heap.size wr ov (takeWd (l.take k) bs) ∧ Below w1.heap.size w1 wr) (fun _ i _ => l.length - (kOf i).toNat)
    case atStart => exact ⟨0, _, rfl, by omega, rfl, Own.nil_ _ _ _ _ _, Below.refl _ _⟩
    case round =>
      obtain ⟨k, ov, rfl, hk, rfl, hown, hB⟩ := hrel
      have HO := Lib.hid hown
      have HB := Lib.hid hB
      have i0 : (0 : Int) ≤ (k : Int) := by omega
      have hz := hB.size
      clear hown hB
      by_cases hlt : k < l.length
      · obtain ⟨b2, off, rfl, hb2, hcell⟩ := HA.out (by intro h; subst h; simp at hlt)
        obtain ⟨x, hx⟩ : ∃ x, l[k]? = some x := ⟨_, List.getElem?_eq_getElem hlt⟩
        have HBw := Lib.hid (below_call HB1.out HB.out)
        have c0 : wr.cell? ⟨b2, off + k * 3, none⟩ = some (.int .i64 x.blk) := (HBw.out.cell (p := ⟨b2, off + k * 3 + 0, none⟩) hb2).trans (hcell k x hx 0 _ rfl)
        have c1 : wr.cell? ⟨b2, off + k * 3 + 1, none⟩ = some (.int .i64 x.knd) := (HBw.out.cell (p := ⟨b2, off + k * 3 + 1, none⟩) hb2).trans (hcell k x hx 1 _ rfl)
        have c2 : wr.cell? ⟨b2, off + k * 3 + 2, none⟩ = some (.int .i64 x.num) := (HBw.out.cell (p := ⟨b2, off + k * 3 + 2, none⟩) hb2).trans (hcell k x hx 2 _ rfl)
        have i1 : (k : Int) < (l.length : Int) := by omega
        have d0 : decide ((k : Int) < (l.length : Int)) = true := decide_eq_true i1
        have HT := Lib.hid (takeWd_take (bs := bs) hx)
        have L := Lib.hid (rIn bs x.blk _ wr (HBS.out.later HBw.out))
        have hll : (takeWd (l.take k) bs).length ≤ 100000 := by have h1 := take_len (l.take k) bs; have h2 := List.length_take_le k l; omega
        clear hcell hx HBw
        by_cases hin : x.blk ∈ bs
        · have L : Hid (Calls Try.prog 30 #[.slice Ab bs.length cb, .int .i64 x.blk] wr fun e w' => e = .returned (.bool true) ∧ wr = w') := by have h := L.out; rw [decide_eq_true hin] at h; exact h
          have HT2 := Lib.hid (show takeWd (l.take (k + 1)) bs = takeWd (l.take k) bs by rw [HT.out, if_pos hin, List.append_nil])
          clear hin
          go_wp2_with (go_at_call 30; (with_reducible refine L.out.mono ?_); rintro e w3 ⟨rfl, rfl⟩)
          go_roundw
          case rel => exact ⟨k + 1, _, rfl, by omega, by go_num, by rw [HT2.out]; exact HO.out, HB.out⟩
          case measure => simp [kOf]; omega
        · have L : Hid (Calls Try.prog 30 #[.slice Ab bs.length cb, .int .i64 x.blk] wr fun e w' => e = .returned (.bool false) ∧ wr = w') := by have h := L.out; rw [decide_eq_false hin] at h; exact h
          have HT2 := Lib.hid (show takeWd (l.take (k + 1)) bs = takeWd (l.take k) bs ++ [x] by rw [HT.out, if_neg hin])
          clear hin
          go_wp2_with (first
            | (go_at_call 30; (with_reducible refine L.out.mono ?_); rintro e w3 ⟨rfl, rfl⟩)
            | (at_builtin; refine wpList_append_row _ rfl (.tmp 25) (.tmp 30) 22 rfl w1.heap.size 41 _ 3 24 Try.underlying22 wantInfo rfl (Nat.succ_pos 2) wntRow wntRow_length wntRow_one _ _ rfl HO.out x _ rfl 41 _ rfl rfl (by omega) (by omega) hz ?_; intro v' w' p1 p2 p3 p4 p5; have P1 := Lib.hid p1; have P2 := Lib.hid p2; clear p1 p2 p3 p4 p5))
          go_roundw
          case rel => exact ⟨k + 1, _, rfl, by omega, by go_num, by rw [HT2.out]; exact P1.out, HB.out.trans P2.out⟩
          case measure => simp [kOf]; omega
      · have d0 : decide ((k : Int) < (l.length : Int)) = false := decide_eq_false (by omega)
        have hke : k = l.length := by omega
        have HF := Lib.hid (show Own 3 wntRow 41 w1.heap.size wr ov (takeWd l bs) by have h := HO.out; rw [hke, List.take_length] at h; exact h)
        clear hke
        go_wp2_with fail
        go_ret2
        exact ⟨ov, by rw [HRI.out]; rfl, by rw [HR.out]; exact HF.out.sl wntRow_length, below_call HB1.out HB.out⟩
end Go.Proofs.Ytnmlmnhgjnkbhaa
