/-
  ward's Add, Take: contracts.
-/
import Derived.Test.YtnmlmnhgjnkbhaaWardList
import Derived.Test.YtnmlmnhgjnkbhaaWardIdx
set_option linter.unusedVariables false
set_option linter.unusedSimpArgs false
namespace Go.Proofs.Ytnmlmnhgjnkbhaa
open Go.RowKit

theorem listPost_add {l more : List Wnt} {n : Nat} {w : World} {e : Ending} {w' : World} {f : WMap} (h : ListPost f n w e w') (hl : rightW l = true) (hf : f = putF (putF (fun _ => none) l) more) : ∃ v, e = .returned v ∧ Own 3 wntRow 41 w.heap.size w' v (addL l more) ∧ Below w.heap.size w w' := by
  obtain ⟨v, ks, he, ho, h1, h2, -, hb⟩ := h
  rw [add_eq hl hf h1 h2] at ho
  exact ⟨v, he, ho, hb⟩
theorem listPost_take {l : List Wnt} {bs : List Int} {n : Nat} {w : World} {e : Ending} {w' : World} {f : WMap} (h : ListPost f n w e w') (hl : rightW l = true) (hf : f = delF (putF (fun _ => none) l) bs) : ∃ v, e = .returned v ∧ Own 3 wntRow 41 w.heap.size w' v (takeWd l bs) ∧ Below w.heap.size w w' := by
  obtain ⟨v, ks, he, ho, h1, h2, -, hb⟩ := h
  rw [take_eq hl hf h1 h2] at ho
  exact ⟨v, he, ho, hb⟩
/-- What Add tells. -/
def AddPost (l more : List Wnt) (w : World) (e : Ending) (w' : World) : Prop :=
  ∃ v, e = .returned (.tuple #[v, .int .i64 (if addOk l more = true then 0 else 2)]) ∧ Own 3 wntRow 41 w.heap.size w' v (addV l more) ∧ Below w.heap.size w w'
set_option maxHeartbeats 2000000 in
theorem wardAdd (l more : List Wnt) (vl vm : Value) (w : World) (hl : Sl 3 wntRow w.heap.size w vl l) (hm : Sl 3 wntRow w.heap.size w vm more) (jl : ∀ x ∈ l, J64 x.blk) (jm : ∀ x ∈ more, J64 x.blk) (hn : l.length + more.length ≤ 100000) :
    Calls Try.prog 8 #[vl, vm] w (AddPost l more w) := by
  have HL := Lib.hid hl
  have HM := Lib.hid hm
  have JL := Lib.hid jl
  have JM := Lib.hid jm
  have HW := Lib.hid (wardWrong l vl w hl)
  have HC : Hid (∀ w1, Below w.heap.size w w1 → Calls Try.prog 26 #[vm, .func (.func 24) #[] #[]] w1 fun e w' => e = .returned (.bool (lowW more)) ∧ Below w1.heap.size w1 w') := fun w1 hb => wardLowContains (fun x => decide (x.blk < 0)) more vm w1 (hm.later hb) fun x _ W' _ => wardLow x W'
  have hmk := wardMake
  obtain ⟨Al, cl, rfl, -⟩ := id hl
  obtain ⟨Am, cm, rfl, -⟩ := id hm
  clear hl hm jl jm
  cases hr : rightW l with
  | false =>
    rw [hr] at HW
    have HR := Lib.hid (show addOk l more = false by unfold addOk; rw [hr]; rfl)
    clear hr hmk
    go_enter Try.func8, Try.ntmps8
    go_wp2_with (go_at_call 25; (with_reducible refine HW.out.mono ?_); rintro e w1 ⟨rfl, hb1⟩)
    go_ret2
    exact ⟨.slice none 0 0, by rw [HR.out]; rfl, by unfold addV; rw [HR.out]; exact Own.nil_ _ _ _ _ _, hb1⟩
  | true =>
    rw [hr] at HW
    cases hlow : lowW more with
    | true =>
      rw [hlow] at HC
      have HR := Lib.hid (show addOk l more = false by unfold addOk; rw [hr, hlow]; rfl)
      clear hr hmk hlow
      go_enter Try.func8, Try.ntmps8
      go_wp2_with (first
        | (go_at_call 25; (with_reducible refine HW.out.mono ?_); rintro e w1 ⟨rfl, hb1⟩; have HB1 := Lib.hid hb1; clear hb1)
        | (go_at_call 26; (with_reducible refine (HC.out _ HB1.out).mono ?_); rintro e w2 ⟨rfl, hb2⟩; have HB2 := Lib.hid (below_call HB1.out hb2); clear hb2))
      go_ret2
      exact ⟨.slice none 0 0, by rw [HR.out]; rfl, by unfold addV; rw [HR.out]; exact Own.nil_ _ _ _ _ _, HB2.out⟩
    | false =>
      rw [hlow] at HC
      have HR := Lib.hid (show addOk l more = true by unfold addOk; rw [hr, hlow]; rfl)
      have HRI := Lib.hid hr
      clear hr hlow
      go_enter Try.func8, Try.ntmps8
      go_wp2_with (first
        | (go_at_call 25; (with_reducible refine HW.out.mono ?_); rintro e w1 ⟨rfl, hb1⟩; have HB1 := Lib.hid hb1; clear hb1)
        | (go_at_call 26; (with_reducible refine (HC.out _ HB1.out).mono ?_); rintro e w2 ⟨rfl, hb2⟩; have HB2 := Lib.hid (below_call HB1.out hb2); clear hb2; have L1 := Lib.hid (wardPut w2.heap.size w2.heap.size 0 (fun _ => none) l _ _ ((HL.out.later HB2.out).below (below_new w2 (.map #[] 0))) JL.out (MapAt.made w2 _ _) (Nat.le_refl _) (by omega)))
        | (go_at_call 27; (with_reducible refine L1.out.mono ?_); rintro e w3 ⟨rfl, hm3, hb3⟩; have HB3 := Lib.hid ((below_new w2 (.map #[] 0)).trans hb3); have HM3 := Lib.hid hm3; have L2 := Lib.hid (wardPut w2.heap.size w2.heap.size (0 + l.length) _ more _ w3 ((HM.out.later HB2.out).below HB3.out) JM.out HM3.out (Nat.le_refl _) (by omega)); clear hb3 hm3)
        | (go_at_call 27; (with_reducible refine L2.out.mono ?_); rintro e w4 ⟨rfl, hm4, hb4⟩; have HB4 := Lib.hid (HB3.out.trans hb4); have L3 := Lib.hid (wardList w2.heap.size (0 + l.length + more.length) _ w4 hm4 (by omega)); clear hb4 hm4)
        | (go_at_call 28; (with_reducible refine L3.out.mono ?_); rintro e w5 hp; obtain ⟨v5, rfl, ho5, hb5⟩ := listPost_add hp HRI.out rfl; have HO5 := Lib.hid ho5; have HB5 := Lib.hid (below_call (below_call HB2.out HB4.out) hb5); clear hp ho5 hb5))
      go_ret2
      exact ⟨v5, by rw [HR.out]; rfl, by unfold addV; rw [HR.out]; exact HO5.out.less (below_call HB2.out HB4.out).size, HB5.out⟩

/-- What Take tells. -/
def TakePost (l : List Wnt) (bs : List Int) (w : World) (e : Ending) (w' : World) : Prop :=
  ∃ v, e = .returned (.tuple #[v, .int .i64 (if rightW l = true then 0 else 2)]) ∧ Own 3 wntRow 41 w.heap.size w' v (takeV_ l bs) ∧ Below w.heap.size w w'
set_option maxHeartbeats 2000000 in
theorem wardTake (l : List Wnt) (bs : List Int) (vl vb : Value) (w : World) (hl : Sl 3 wntRow w.heap.size w vl l) (hb : Sl 1 i64Row w.heap.size w vb bs) (jl : ∀ x ∈ l, J64 x.blk) (jb : ∀ x ∈ bs, J64 x) (hn : l.length ≤ 100000) :
    Calls Try.prog 10 #[vl, vb] w (TakePost l bs w) := by
  have HL := Lib.hid hl
  have JL := Lib.hid jl
  have JB := Lib.hid jb
  have HW := Lib.hid (wardWrong l vl w hl)
  have hmk := wardMake
  obtain ⟨Al, cl, rfl, -⟩ := id hl
  obtain ⟨Ab, cb, rfl, hlc, hcm, -, hA⟩ := id hb
  have hbn : bs.length ≤ 9223372036854775807 := by unfold maxLen at hcm; omega
  have HA := Lib.hid hA
  clear hl hb jl jb hlc hcm hA
  cases hr : rightW l with
  | false =>
    rw [hr] at HW
    have HR := Lib.hid (show takeV_ l bs = [] by unfold takeV_; rw [hr]; rfl)
    have HR2 := Lib.hid hr
    clear hr hmk
    go_enter Try.func10, Try.ntmps10
    go_wp2_with (go_at_call 25; (with_reducible refine HW.out.mono ?_); rintro e w1 ⟨rfl, hb1⟩)
    go_ret2
    exact ⟨.slice none 0 0, by rw [HR2.out]; rfl, by rw [HR.out]; exact Own.nil_ _ _ _ _ _, hb1⟩
  | true =>
    rw [hr] at HW
    have HR := Lib.hid (show takeV_ l bs = takeWd l bs by unfold takeV_; rw [hr]; rfl)
    have HRI := Lib.hid hr
    clear hr
    go_enter Try.func10, Try.ntmps10
    go_wp2_with (first
      | (go_at_call 25; (with_reducible refine HW.out.mono ?_); rintro e w2 ⟨rfl, hb1⟩; have HB2 := Lib.hid hb1; clear hb1; have L1 := Lib.hid (wardPut w2.heap.size w2.heap.size 0 (fun _ => none) l _ _ ((HL.out.later HB2.out).below (below_new w2 (.map #[] 0))) JL.out (MapAt.made w2 _ _) (Nat.le_refl _) (by omega)))
      | (go_at_call 27; (with_reducible refine L1.out.mono ?_); rintro e w3 ⟨rfl, hm3, hb3⟩; have HB3 := Lib.hid ((below_new w2 (.map #[] 0)).trans hb3); have HM3 := Lib.hid hm3; clear hb3 hm3))
    clear hmk L1
    obtain ⟨gm, hgm⟩ : ∃ z, z = w2.heap.size := ⟨_, rfl⟩
    rw [← hgm] at HM3 HB3
    rw [← hgm]
    have hgw : w.heap.size ≤ gm := by have := HB2.out.size; omega
    have HB4 := Lib.hid (show Below w.heap.size w w3 from HB2.out.trans (HB3.out.mono hgw))
    clear hgm HB2 HB3 HW
    go_loopw [8, 16] (fun _ i wr => ∃ k : Nat, k ≤ bs.length ∧ i = .int .i64 (k : Int) ∧ MapW wr gm (0 + l.length) (delF (putF (fun _ => none) l) (bs.take k)) ∧ Below w.heap.size w wr) (fun _ i _ => bs.length - (kOf i).toNat)
    case atStart => exact ⟨0, by omega, rfl, HM3.out, HB4.out⟩
    case round =>
      clear HM3 HB4
      obtain ⟨k, hk, rfl, hmr, hB⟩ := hrel
      have HMR := Lib.hid hmr
      have HB := Lib.hid hB
      have i0 : (0 : Int) ≤ (k : Int) := by omega
      clear hmr hB
      by_cases hlt : k < bs.length
      · have i1 : (k : Int) < (bs.length : Int) := by omega
        have d0 : decide ((k : Int) < (bs.length : Int)) = true := decide_eq_true i1
        have d0' : decide (k < bs.length) = true := decide_eq_true hlt
        obtain ⟨b2, off, rfl, hb2, hcell⟩ := HA.out (by intro h; subst h; simp at hlt)
        obtain ⟨y, hy⟩ : ∃ y, bs[k]? = some y := ⟨_, List.getElem?_eq_getElem hlt⟩
        have c0 : wr.cell? ⟨b2, off + k, none⟩ = some (.int .i64 y) := by
          have := (HB.out.cell (p := ⟨b2, off + k * 1 + 0, none⟩) hb2).trans (hcell k y hy 0 _ rfl)
          simpa using this
        obtain ⟨w9, hrun, hm9, ht9⟩ := HMR.out.delete intK (t := 50) (e := 41) Try.underlying50 y (JB.out y (List.mem_of_getElem? hy)) 0
        have HM9 := Lib.hid (show MapW w9 gm (0 + l.length) (delF (putF (fun _ => none) l) (bs.take (k + 1))) by rw [delF_take hy]; exact hm9)
        have HB9 := Lib.hid (show Below w.heap.size w w9 from HB.out.trans (grown_below ht9.grown (by have := HB.out.size; omega) (by intro g hg; simp at hg; omega)))
        clear hcell hy hm9 ht9
        go_wp2_with fail
        go_roundw
        case rel => exact ⟨k + 1, by omega, by go_num, HM9.out, HB9.out⟩
        case measure => simp [kOf]; omega
      · have d0 : decide ((k : Int) < (bs.length : Int)) = false := decide_eq_false (by omega)
        have d0' : decide (k < bs.length) = false := decide_eq_false hlt
        have hke : k = bs.length := by omega
        have HF := Lib.hid (show MapW wr gm (0 + l.length) (delF (putF (fun _ => none) l) bs) by have h := HMR.out; rw [hke, List.take_length] at h; exact h)
        have L3 := Lib.hid (wardList gm (0 + l.length) _ wr HF.out (by omega))
        clear hke
        go_wp2_with (go_at_call 28; (with_reducible refine L3.out.mono ?_); rintro e w5 hp; obtain ⟨v5, rfl, ho5, hb5⟩ := listPost_take hp HRI.out rfl; have HO5 := Lib.hid ho5; have HB5 := Lib.hid (below_call HB.out hb5); clear hp ho5 hb5)
        go_ret2
        exact ⟨v5, by rw [HRI.out]; rfl, by rw [HR.out]; exact HO5.out.less HB.out.size, HB5.out⟩
end Go.Proofs.Ytnmlmnhgjnkbhaa
