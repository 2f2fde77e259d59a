/-
  The document's ward (limpetref12: Nums): contract.
-/
import Derived.Test.YtnmlmnhgjnkbhaaWardRef4
import Derived.Test.YtnmlmnhgjnkbhaaWardNums
import Derived.Test.YtnmlmnhgjnkbhaaSlCut
import Derived.Deep.RegionHeld3
set_option linter.unusedVariables false
set_option linter.unusedSimpArgs false
namespace Go.Proofs.Ytnmlmnhgjnkbhaa
open Go.RowKit

theorem own_drewN {α : Type} {k : Nat} {row : α → List Value} {e : TypeId} {base : Nat} {w : World} {v : Value} {l : List α} (h : Own k row e base w v l) (n : Nat) : Own k row e base (w.drewN n) v l := h
def RNumsPost (l : List Wnt) (kd : Int) (w : World) (e : Ending) (w' : World) : Prop := ∃ v, e = .returned (.tuple #[v, .int .i64 (if rightW l = true then 0 else 2)]) ∧ Sl 1 i64Row w'.heap.size w' v (numsR l kd) ∧ Below w.heap.size w w'
/-- Where the number goes in. -/
def AtEnd (out : List Int) (n : Int) (a : Nat) : Prop := a ≤ out.length ∧ AtI out n a ∧ ∀ y, out[a]? = some y → n < y

set_option maxRecDepth 100000 in
set_option maxHeartbeats 8000000 in
theorem rNums (l : List Wnt) (vl : Value) (kd : Int) (w : World) (hl : Sl 3 wntRow w.heap.size w vl l) (hn : l.length ≤ 100000) :
    Calls Try.prog 13 #[vl, .int .i64 kd] w (RNumsPost l kd w) := by
  have HW := Lib.hid (rRight l vl w hl)
  obtain ⟨A, cap, rfl, hlc, hcm, -, hA⟩ := id hl
  have HA := Lib.hid hA
  clear hl hlc hcm hA
  cases hr : rightW l with
  | false =>
    rw [hr] at HW
    have HR := Lib.hid (show numsR l kd = [] by unfold numsR; rw [hr]; rfl)
    have HR2 := Lib.hid hr
    clear hr
    go_enter Try.func13, Try.ntmps13
    go_wp2_with (go_at_call 17; (with_reducible refine HW.out.mono ?_); rintro e w1 ⟨rfl, hb1⟩)
    go_ret2
    exact ⟨.slice none 0 0, by rw [HR2.out]; rfl, by rw [HR.out]; exact Sl.nil_ _ _ _ _, hb1⟩
  | true =>
    rw [hr] at HW
    have HR := Lib.hid (show numsR l kd = numsV l kd by unfold numsR; rw [hr]; rfl)
    have HRI := Lib.hid hr
    clear hr
    go_enter Try.func13, Try.ntmps13
    go_wp2_with (go_at_call 17; (with_reducible refine HW.out.mono ?_); rintro e w1 ⟨rfl, hb1⟩; have HB1 := Lib.hid hb1; clear hb1)
    clear HW
    obtain ⟨base, hbase⟩ : ∃ b, b = w1.heap.size := ⟨_, rfl⟩
    have HBE := Lib.hid hbase
    have HBS := Lib.hid (show w.heap.size ≤ base by have := HB1.out.size; omega)
    clear hbase
    have hbr : Below base w1 w1 := Below.refl _ _
    go_loopw [6, 7, 8, 9] (fun o i _ _ wr => ∃ (k : Nat) (ov : Value) (lst : List Int), ov = o ∧ k ≤ l.length ∧ i = .int .i64 (k : Int) ∧ NumI l kd k lst ∧ Own 1 i64Row 3 base wr ov lst ∧ (lst = [] → ov = .slice none 0 0) ∧ Below base w1 wr) (fun _ i _ _ _ => l.length - (kOf i).toNat)
    case atStart => exact ⟨0, _, [], rfl, by omega, rfl, numI_zero _ _, Own.nil_ _ _ _ _ _, fun _ => rfl, hbr⟩
    case round =>
      clear hbr
      obtain ⟨k, ov, lst, rfl, hk, rfl, hni, hown, hnil, hB⟩ := hrel
      obtain ⟨Ao, co, rfl⟩ := hown.len
      have HNI := Lib.hid hni
      have HO := Lib.hid hown
      have HNIL := Lib.hid hnil
      have HB := Lib.hid hB
      have i0 : (0 : Int) ≤ (k : Int) := by omega
      have hz : base ≤ wr.heap.size := by have := hB.size; have := HBE.out; omega
      have hll : lst.length ≤ 100000 := by have := numI_len hni; omega
      clear hni hown hnil hB
      by_cases hlt : k < l.length
      · obtain ⟨b2, off, rfl, hb2, hcell⟩ := HA.out (by intro h; subst h; simp at hlt)
        obtain ⟨x, hx⟩ : ∃ x, l[k]? = some x := ⟨_, List.getElem?_eq_getElem hlt⟩
        have HCE : Hid (∀ V, Below base w1 V → V.cell? ⟨b2, off + k * 3 + 1, none⟩ = some (.int .i64 x.knd) ∧ V.cell? ⟨b2, off + k * 3 + 2, none⟩ = some (.int .i64 x.num)) := fun V hV =>
          have h := HB1.out.trans (hV.mono HBS.out)
          ⟨(h.cell (p := ⟨b2, off + k * 3 + 1, none⟩) hb2).trans (hcell k x hx 1 _ rfl), (h.cell (p := ⟨b2, off + k * 3 + 2, none⟩) hb2).trans (hcell k x hx 2 _ rfl)⟩
        obtain ⟨c1, c2⟩ := HCE.out _ HB.out
        have i1 : (k : Int) < (l.length : Int) := by omega
        have d0 : decide ((k : Int) < (l.length : Int)) = true := decide_eq_true i1
        have HX := Lib.hid hx
        clear hcell hx
        by_cases hkd : x.knd = kd
        · have e1 : (x.knd == kd) = true := by simpa using hkd
          have HKD := Lib.hid hkd
          clear hkd
          go_wp2_with fail
          go_loopw [8] (fun j wr2 => ∃ (a n : Nat), j = .int .i64 (a : Int) ∧ a ≤ lst.length ∧ AtI lst x.num a ∧ wr2 = wr.drewN n) (fun j _ => lst.length - (kOf j).toNat)
          case atStart => exact ⟨0, 0, rfl, by omega, atI_zero _ _, rfl⟩
          case round =>
            obtain ⟨a, n, rfl, ha, hat, rfl⟩ := hrel
            have HAT := Lib.hid hat
            have j0 : (0 : Int) ≤ (a : Int) := by omega
            clear hat
            by_cases hal : a < lst.length
            · obtain ⟨b3, cp3, h30, hg3, -, -⟩ := HO.out.place (by intro h; subst h; simp at hal)
              simp only [Value.slice.injEq, and_true, true_and] at h30
              obtain ⟨rfl, rfl⟩ := h30
              obtain ⟨b4, o3, c3, h3, h31, h32, h33, h3c⟩ := (HO.out.sl i64Row_length).cellAt (by intro h; subst h; simp at hal)
              simp only [Value.slice.injEq, Option.some.injEq, Addr.mk.injEq, and_true, true_and] at h3
              obtain ⟨⟨rfl, rfl⟩, rfl⟩ := h3
              obtain ⟨y, hy⟩ : ∃ y, lst[a]? = some y := ⟨_, List.getElem?_eq_getElem hal⟩
              have c3' : wr.cell? ⟨b3, a, none⟩ = some (.int .i64 y) := by simpa using h3c a y hy 0 _ rfl
              have j1 : (a : Int) < (lst.length : Int) := by omega
              have d1 : decide ((a : Int) < (lst.length : Int)) = true := decide_eq_true j1
              have HY := Lib.hid hy
              clear h3c hy h31 h33
              by_cases hle : y ≤ x.num
              · have g1 : decide (y ≤ x.num) = true := decide_eq_true hle
                have HA2 := Lib.hid (atI_step HAT.out HY.out hle)
                clear hle
                go_wp2_with fail
                go_quiet (fail)
                go_wp2_with fail
                go_roundw
                case rel => exact ⟨a + 1, _, by go_num, by omega, HA2.out, rfl⟩
                case measure => simp [kOf]; omega
              · have g1 : decide (y ≤ x.num) = false := decide_eq_false hle
                have HAE := Lib.hid (show AtEnd lst x.num a from ⟨ha, HAT.out, fun z hz => by rw [HY.out] at hz; cases hz; omega⟩)
                clear hle
                go_wp2_with fail
                go_quiet (fail)
                have HBV := Lib.hid (below_drewN (below_drewN HB.out n) nq)
                have HOV := Lib.hid (own_drewN (own_drewN HO.out n) nq)
                have hzV : base ≤ ((wr.drewN n).drewN nq).heap.size := hz
                obtain ⟨V, hV⟩ : ∃ z, z = (wr.drewN n).drewN nq := ⟨_, rfl⟩
                rw [← hV] at HBV HOV hzV
                rw [← hV]
                have HE0 := Lib.hid HAE.out
                clear hV c1 c2 HO HB
                have HC := Lib.hid (Own.begin_ i64Row_length (l := lst.take a) (r := lst.drop a) (by rw [List.take_append_drop]; exact HOV.out) (m := a) (by rw [List.length_take]; omega))
                by_cases hca : co = a
                · subst hca
                  have HDK : Hid (Sl 1 i64Row V.heap.size V (.slice (some ⟨b3, 0, none⟩) (lst.length - co) 0) (lst.drop co)) := by
                    have h := (HOV.out.sl i64Row_length).drop2 ha
                    rw [if_pos rfl, Nat.sub_self] at h
                    exact Lib.hid h
                  go_wp2_with (at_builtin; refine wpList_append_all _ rfl (.tmp 44) (.tmp 47) 23 rfl V.heap.size 3 _ 1 8 Try.underlying23 intInfo rfl (Nat.succ_pos 0) i64Row i64Row_length i64Row_one [] _ rfl (Own.made _ _ _ _) (lst.drop co) V.heap.size _ (HDK.out.below (below_new V _)) rfl (by unfold maxLen; first | (simp; done) | (simp; omega)) (by first | (simp; done) | (simp; omega)) (by simp) ?_; intro rv w2 q1 q2 q3 q4 q5; have HR2 := Lib.hid (show Own 1 i64Row 3 V.heap.size w2 rv ((lst.drop co)) by simpa using q1); have HB2 := Lib.hid ((below_new V (.cells #[] 3)).trans q2); clear q1 q2 q3 q4 q5)
                  have hz2 : base ≤ w2.heap.size := by have := HB2.out.size; omega
                  have HBV2 := Lib.hid (HBV.out.trans (HB2.out.mono hzV))
                  have HC2 := Lib.hid (show Own 1 i64Row 3 base w2 (.slice (some ⟨b3, 0, none⟩) co co) (lst.take co) from HC.out.later HB2.out)
                  obtain ⟨c5, c6⟩ := HCE.out _ HBV2.out
                  obtain ⟨rs, hrs⟩ : ∃ z, z = lst.drop co := ⟨_, rfl⟩
                  rw [← hrs] at HR2
                  have hrl : rs.length ≤ 100000 := by rw [hrs]; first | (simp; done) | (simp; omega)
                  have HRS := Lib.hid hrs
                  clear hrs
                  obtain ⟨Ar, cr, rfl⟩ := HR2.out.len
                  have HF : Hid (∀ w', Below base w2 w' → w'.cell? ⟨b2, off + k * 3 + 2, none⟩ = some (.int .i64 x.num) ∧ Below base w2 w') := fun w' q => ⟨(HCE.out _ (HBV2.out.trans q)).2, q⟩
                  go_region_held3 (fun w' => w'.cell? ⟨b2, off + k * 3 + 2, none⟩ = some (.int .i64 x.num) ∧ Below base w2 w')
                    (first | (refine HF.out _ ?_; ((repeat (first | (refine Below.drew ?_) | (refine Below.alloc ?_ (by first | omega | (simp; omega)) _) | (refine below_set ?_ (by omega)))); first | exact Below.refl _ _ | exact PA | exact PB)))
                    (first
                      | (refine (step_append_any rfl (.tmp 51) (.tmp 57) _ rfl base 3 _ 1 8 Try.underlying23 intInfo rfl (Nat.succ_pos 0) i64Row i64Row_length i64Row_one (lst.take co) _ rfl ?_ [x.num] _ ?_ rfl ?_ ?_ ?_ ?_); (focus (first | exact HC2.out.alloc _ | exact (HC2.out.alloc _).drew | exact HC2.out.drew.alloc _)); (focus (exact ⟨_, Box.sl i64Row_length [x.num] (Box.new _ _ _) rfl (by unfold maxLen; simp)⟩)); (focus (first | (simp; done) | (simp; omega) | omega)); (focus omega); (focus (first | (simp; done) | (simp; omega) | omega)); intro v' w' h1 h2 h3 h4 h5; have PA : Below base w2 w' := (Below.trans (by (repeat (first | (refine Below.drew ?_) | (refine Below.alloc ?_ (by first | omega | (simp; omega)) _) | (refine below_set ?_ (by omega)))); exact Below.refl _ _) h2); have sA := PA.size; have HRA : Own 1 i64Row 3 V.heap.size w' (.slice Ar rs.length cr) rs := HR2.out.stay (fun x hx => (h4 x (by have := (HR2.out.block hx).2; simp; omega) (by have := (HR2.out.block hx).1; have := (HOV.out.block (x := b3) rfl).2; simp [Act.eval, Value.ownBlock]; omega)).trans (Below.heap_alloc w2 _ x (HR2.out.block hx).2)))
                      | (refine (step_append_any rfl (.tmp 58) (.tmp 59) _ rfl base 3 _ 1 8 Try.underlying23 intInfo rfl (Nat.succ_pos 0) i64Row i64Row_length i64Row_one (lst.take co ++ [x.num]) _ rfl ?_ rs _ ?_ rfl ?_ ?_ ?_ ?_); (focus (first | exact h1 | exact h1.drew)); (focus (first | exact ⟨_, HRA.sl i64Row_length⟩ | exact ⟨_, HRA.drew.sl i64Row_length⟩)); (focus (first | (simp; done) | (simp; omega) | omega)); (focus omega); (focus (first | (simp; done) | (simp; omega) | omega)); intro v'' w'' h1' h2' h3' h4' h5'; have PB : Below base w2 w'' := (Below.trans (by ((repeat (first | (refine Below.drew ?_) | (refine Below.alloc ?_ (by first | omega | (simp; omega)) _) | (refine below_set ?_ (by omega)))); first | exact Below.refl _ _ | exact PA)) h2'); have sB := PB.size))
                  all_goals go_wp2_with fail
                  all_goals go_roundw
                  case rel => exact ⟨k + 1, _, insN co lst x.num, rfl, by omega, by go_num, numI_ins HX.out HNI.out HKD.out HE0.out.2.1 HE0.out.2.2 HE0.out.1, by have h := h1'; rw [HRS.out] at h; exact h, fun h => by simp [insN] at h, HBV2.out.trans PB⟩
                  case measure => simp [kOf]; omega
                · have hac : a ≤ co := by obtain ⟨g9, c9, h9, h91, -⟩ := (HOV.out.form' (by simp)); simp only [Value.slice.injEq, true_and] at h9; omega
                  have hac' : (a : Int) ≤ (co : Int) := by omega
                  have HDK : Hid (Sl 1 i64Row V.heap.size V (.slice (some ⟨b3, a, none⟩) (lst.length - a) (co - a)) (lst.drop a)) := by
                    have h := (HOV.out.sl i64Row_length).drop_ ha
                    rw [Nat.mul_one, Nat.zero_add] at h
                    exact Lib.hid h
                  go_wp2_with (at_builtin; refine wpList_append_all _ rfl (.tmp 44) (.tmp 47) 23 rfl V.heap.size 3 _ 1 8 Try.underlying23 intInfo rfl (Nat.succ_pos 0) i64Row i64Row_length i64Row_one [] _ rfl (Own.made _ _ _ _) (lst.drop a) V.heap.size _ (HDK.out.below (below_new V _)) rfl (by unfold maxLen; first | (simp; done) | (simp; omega)) (by first | (simp; done) | (simp; omega)) (by simp) ?_; intro rv w2 q1 q2 q3 q4 q5; have HR2 := Lib.hid (show Own 1 i64Row 3 V.heap.size w2 rv ((lst.drop a)) by simpa using q1); have HB2 := Lib.hid ((below_new V (.cells #[] 3)).trans q2); clear q1 q2 q3 q4 q5)
                  have hz2 : base ≤ w2.heap.size := by have := HB2.out.size; omega
                  have HBV2 := Lib.hid (HBV.out.trans (HB2.out.mono hzV))
                  have HC2 := Lib.hid (show Own 1 i64Row 3 base w2 (.slice (some ⟨b3, 0, none⟩) a co) (lst.take a) from HC.out.later HB2.out)
                  obtain ⟨c5, c6⟩ := HCE.out _ HBV2.out
                  obtain ⟨rs, hrs⟩ : ∃ z, z = lst.drop a := ⟨_, rfl⟩
                  rw [← hrs] at HR2
                  have hrl : rs.length ≤ 100000 := by rw [hrs]; first | (simp; done) | (simp; omega)
                  have HRS := Lib.hid hrs
                  clear hrs
                  obtain ⟨Ar, cr, rfl⟩ := HR2.out.len
                  have HF : Hid (∀ w', Below base w2 w' → w'.cell? ⟨b2, off + k * 3 + 2, none⟩ = some (.int .i64 x.num) ∧ Below base w2 w') := fun w' q => ⟨(HCE.out _ (HBV2.out.trans q)).2, q⟩
                  go_region_held3 (fun w' => w'.cell? ⟨b2, off + k * 3 + 2, none⟩ = some (.int .i64 x.num) ∧ Below base w2 w')
                    (first | (refine HF.out _ ?_; ((repeat (first | (refine Below.drew ?_) | (refine Below.alloc ?_ (by first | omega | (simp; omega)) _) | (refine below_set ?_ (by omega)))); first | exact Below.refl _ _ | exact PA | exact PB)))
                    (first
                      | (refine (step_append_any rfl (.tmp 51) (.tmp 57) _ rfl base 3 _ 1 8 Try.underlying23 intInfo rfl (Nat.succ_pos 0) i64Row i64Row_length i64Row_one (lst.take a) _ rfl ?_ [x.num] _ ?_ rfl ?_ ?_ ?_ ?_); (focus (first | exact HC2.out.alloc _ | exact (HC2.out.alloc _).drew | exact HC2.out.drew.alloc _)); (focus (exact ⟨_, Box.sl i64Row_length [x.num] (Box.new _ _ _) rfl (by unfold maxLen; simp)⟩)); (focus (first | (simp; done) | (simp; omega) | omega)); (focus omega); (focus (first | (simp; done) | (simp; omega) | omega)); intro v' w' h1 h2 h3 h4 h5; have PA : Below base w2 w' := (Below.trans (by (repeat (first | (refine Below.drew ?_) | (refine Below.alloc ?_ (by first | omega | (simp; omega)) _) | (refine below_set ?_ (by omega)))); exact Below.refl _ _) h2); have sA := PA.size; have HRA : Own 1 i64Row 3 V.heap.size w' (.slice Ar rs.length cr) rs := HR2.out.stay (fun x hx => (h4 x (by have := (HR2.out.block hx).2; simp; omega) (by have := (HR2.out.block hx).1; have := (HOV.out.block (x := b3) rfl).2; simp [Act.eval, Value.ownBlock]; omega)).trans (Below.heap_alloc w2 _ x (HR2.out.block hx).2)))
                      | (refine (step_append_any rfl (.tmp 58) (.tmp 59) _ rfl base 3 _ 1 8 Try.underlying23 intInfo rfl (Nat.succ_pos 0) i64Row i64Row_length i64Row_one (lst.take a ++ [x.num]) _ rfl ?_ rs _ ?_ rfl ?_ ?_ ?_ ?_); (focus (first | exact h1 | exact h1.drew)); (focus (first | exact ⟨_, HRA.sl i64Row_length⟩ | exact ⟨_, HRA.drew.sl i64Row_length⟩)); (focus (first | (simp; done) | (simp; omega) | omega)); (focus omega); (focus (first | (simp; done) | (simp; omega) | omega)); intro v'' w'' h1' h2' h3' h4' h5'; have PB : Below base w2 w'' := (Below.trans (by ((repeat (first | (refine Below.drew ?_) | (refine Below.alloc ?_ (by first | omega | (simp; omega)) _) | (refine below_set ?_ (by omega)))); first | exact Below.refl _ _ | exact PA)) h2'); have sB := PB.size))
                  all_goals go_wp2_with fail
                  all_goals go_roundw
                  case rel => exact ⟨k + 1, _, insN a lst x.num, rfl, by omega, by go_num, numI_ins HX.out HNI.out HKD.out HE0.out.2.1 HE0.out.2.2 HE0.out.1, by have h := h1'; rw [HRS.out] at h; exact h, fun h => by simp [insN] at h, HBV2.out.trans PB⟩
                  case measure => simp [kOf]; omega
            · have d1 : decide ((a : Int) < (lst.length : Int)) = false := decide_eq_false (by omega)
              have HAE := Lib.hid (show AtEnd lst x.num a from ⟨ha, HAT.out, fun z hz => by have := (List.getElem?_eq_some_iff.1 hz).1; omega⟩)
              by_cases hl0 : lst = []
              · have hov := HNIL.out hl0
                simp only [Value.slice.injEq] at hov
                obtain ⟨rfl, hl00, rfl⟩ := hov
                have HL0 := Lib.hid hl0
                clear hl0 hl00
                go_wp2_with fail
                go_quiet (fail)
                have HBV := Lib.hid (below_drewN (below_drewN HB.out n) nq)
                have HOV := Lib.hid (own_drewN (own_drewN HO.out n) nq)
                have hzV : base ≤ ((wr.drewN n).drewN nq).heap.size := hz
                obtain ⟨V, hV⟩ : ∃ z, z = (wr.drewN n).drewN nq := ⟨_, rfl⟩
                rw [← hV] at HBV HOV hzV
                rw [← hV]
                have HE0 := Lib.hid HAE.out
                clear hV c1 c2 HO HB
                obtain rfl : a = 0 := by have h := ha; rw [HL0.out] at h; simpa using h
                obtain rfl : lst = [] := HL0.out
                simp only [List.length_nil, Int.natCast_zero]
                have HDK := Lib.hid (Sl.nil_ 1 i64Row V.heap.size V)
                go_wp2_with (at_builtin; refine wpList_append_all _ rfl (.tmp 44) (.tmp 47) 23 rfl V.heap.size 3 _ 1 8 Try.underlying23 intInfo rfl (Nat.succ_pos 0) i64Row i64Row_length i64Row_one [] _ rfl (Own.made _ _ _ _) ([] : List Int) V.heap.size _ (HDK.out.below (below_new V _)) rfl (by unfold maxLen; first | (simp; done) | (simp; omega)) (by first | (simp; done) | (simp; omega)) (by simp) ?_; intro rv w2 q1 q2 q3 q4 q5; have HR2 := Lib.hid (show Own 1 i64Row 3 V.heap.size w2 rv (([] : List Int)) by simpa using q1); have HB2 := Lib.hid ((below_new V (.cells #[] 3)).trans q2); clear q1 q2 q3 q4 q5)
                have hz2 : base ≤ w2.heap.size := by have := HB2.out.size; omega
                have HBV2 := Lib.hid (HBV.out.trans (HB2.out.mono hzV))
                have HC2 := Lib.hid (Own.nil_ 1 i64Row 3 base w2)
                obtain ⟨c5, c6⟩ := HCE.out _ HBV2.out
                obtain ⟨rs, hrs⟩ : ∃ z, z = ([] : List Int) := ⟨_, rfl⟩
                rw [← hrs] at HR2
                have hrl : rs.length ≤ 100000 := by rw [hrs]; first | (simp; done) | (simp; omega)
                have HRS := Lib.hid hrs
                clear hrs
                obtain ⟨Ar, cr, rfl⟩ := HR2.out.len
                have HF : Hid (∀ w', Below base w2 w' → w'.cell? ⟨b2, off + k * 3 + 2, none⟩ = some (.int .i64 x.num) ∧ Below base w2 w') := fun w' q => ⟨(HCE.out _ (HBV2.out.trans q)).2, q⟩
                go_region_held3 (fun w' => w'.cell? ⟨b2, off + k * 3 + 2, none⟩ = some (.int .i64 x.num) ∧ Below base w2 w')
                  (first | (refine HF.out _ ?_; ((repeat (first | (refine Below.drew ?_) | (refine Below.alloc ?_ (by first | omega | (simp; omega)) _) | (refine below_set ?_ (by omega)))); first | exact Below.refl _ _ | exact PA | exact PB)))
                  (first
                    | (refine (step_append_any rfl (.tmp 51) (.tmp 57) _ rfl base 3 _ 1 8 Try.underlying23 intInfo rfl (Nat.succ_pos 0) i64Row i64Row_length i64Row_one (([] : List Int)) _ rfl ?_ [x.num] _ ?_ rfl ?_ ?_ ?_ ?_); (focus (first | exact HC2.out.alloc _ | exact (HC2.out.alloc _).drew | exact HC2.out.drew.alloc _)); (focus (exact ⟨_, Box.sl i64Row_length [x.num] (Box.new _ _ _) rfl (by unfold maxLen; simp)⟩)); (focus (first | (simp; done) | (simp; omega) | omega)); (focus omega); (focus (first | (simp; done) | (simp; omega) | omega)); intro v' w' h1 h2 h3 h4 h5; have PA : Below base w2 w' := (Below.trans (by (repeat (first | (refine Below.drew ?_) | (refine Below.alloc ?_ (by first | omega | (simp; omega)) _) | (refine below_set ?_ (by omega)))); exact Below.refl _ _) h2); have sA := PA.size; have HRA : Own 1 i64Row 3 V.heap.size w' (.slice Ar rs.length cr) rs := HR2.out.stay (fun x hx => (h4 x (by have := (HR2.out.block hx).2; simp; omega) (by simp [Act.eval, Value.ownBlock])).trans (Below.heap_alloc w2 _ x (HR2.out.block hx).2)))
                    | (refine (step_append_any rfl (.tmp 58) (.tmp 59) _ rfl base 3 _ 1 8 Try.underlying23 intInfo rfl (Nat.succ_pos 0) i64Row i64Row_length i64Row_one (([] : List Int) ++ [x.num]) _ rfl ?_ rs _ ?_ rfl ?_ ?_ ?_ ?_); (focus (first | exact h1 | exact h1.drew)); (focus (first | exact ⟨_, HRA.sl i64Row_length⟩ | exact ⟨_, HRA.drew.sl i64Row_length⟩)); (focus (first | (simp; done) | (simp; omega) | omega)); (focus omega); (focus (first | (simp; done) | (simp; omega) | omega)); intro v'' w'' h1' h2' h3' h4' h5'; have PB : Below base w2 w'' := (Below.trans (by ((repeat (first | (refine Below.drew ?_) | (refine Below.alloc ?_ (by first | omega | (simp; omega)) _) | (refine below_set ?_ (by omega)))); first | exact Below.refl _ _ | exact PA)) h2'); have sB := PB.size))
                all_goals go_wp2_with fail
                all_goals go_roundw
                case rel => exact ⟨k + 1, _, insN 0 ([] : List Int) x.num, rfl, by omega, by go_num, numI_ins HX.out HNI.out HKD.out HE0.out.2.1 HE0.out.2.2 HE0.out.1, by have h := h1'; rw [HRS.out] at h; exact h, fun h => by simp [insN] at h, HBV2.out.trans PB⟩
                case measure => simp [kOf]; omega
              · obtain ⟨b3, cp3, h30, hg3, -, -⟩ := HO.out.place hl0
                simp only [Value.slice.injEq, and_true, true_and] at h30
                obtain ⟨rfl, rfl⟩ := h30
                clear hl0
                go_wp2_with fail
                go_quiet (fail)
                have HBV := Lib.hid (below_drewN (below_drewN HB.out n) nq)
                have HOV := Lib.hid (own_drewN (own_drewN HO.out n) nq)
                have hzV : base ≤ ((wr.drewN n).drewN nq).heap.size := hz
                obtain ⟨V, hV⟩ : ∃ z, z = (wr.drewN n).drewN nq := ⟨_, rfl⟩
                rw [← hV] at HBV HOV hzV
                rw [← hV]
                have HE0 := Lib.hid HAE.out
                clear hV c1 c2 HO HB
                have HC := Lib.hid (Own.begin_ i64Row_length (l := lst.take a) (r := lst.drop a) (by rw [List.take_append_drop]; exact HOV.out) (m := a) (by rw [List.length_take]; omega))
                by_cases hca : co = a
                · subst hca
                  have HDK : Hid (Sl 1 i64Row V.heap.size V (.slice (some ⟨b3, 0, none⟩) (lst.length - co) 0) (lst.drop co)) := by
                    have h := (HOV.out.sl i64Row_length).drop2 ha
                    rw [if_pos rfl, Nat.sub_self] at h
                    exact Lib.hid h
                  go_wp2_with (at_builtin; refine wpList_append_all _ rfl (.tmp 44) (.tmp 47) 23 rfl V.heap.size 3 _ 1 8 Try.underlying23 intInfo rfl (Nat.succ_pos 0) i64Row i64Row_length i64Row_one [] _ rfl (Own.made _ _ _ _) (lst.drop co) V.heap.size _ (HDK.out.below (below_new V _)) rfl (by unfold maxLen; first | (simp; done) | (simp; omega)) (by first | (simp; done) | (simp; omega)) (by simp) ?_; intro rv w2 q1 q2 q3 q4 q5; have HR2 := Lib.hid (show Own 1 i64Row 3 V.heap.size w2 rv ((lst.drop co)) by simpa using q1); have HB2 := Lib.hid ((below_new V (.cells #[] 3)).trans q2); clear q1 q2 q3 q4 q5)
                  have hz2 : base ≤ w2.heap.size := by have := HB2.out.size; omega
                  have HBV2 := Lib.hid (HBV.out.trans (HB2.out.mono hzV))
                  have HC2 := Lib.hid (show Own 1 i64Row 3 base w2 (.slice (some ⟨b3, 0, none⟩) co co) (lst.take co) from HC.out.later HB2.out)
                  obtain ⟨c5, c6⟩ := HCE.out _ HBV2.out
                  obtain ⟨rs, hrs⟩ : ∃ z, z = lst.drop co := ⟨_, rfl⟩
                  rw [← hrs] at HR2
                  have hrl : rs.length ≤ 100000 := by rw [hrs]; first | (simp; done) | (simp; omega)
                  have HRS := Lib.hid hrs
                  clear hrs
                  obtain ⟨Ar, cr, rfl⟩ := HR2.out.len
                  have HF : Hid (∀ w', Below base w2 w' → w'.cell? ⟨b2, off + k * 3 + 2, none⟩ = some (.int .i64 x.num) ∧ Below base w2 w') := fun w' q => ⟨(HCE.out _ (HBV2.out.trans q)).2, q⟩
                  go_region_held3 (fun w' => w'.cell? ⟨b2, off + k * 3 + 2, none⟩ = some (.int .i64 x.num) ∧ Below base w2 w')
                    (first | (refine HF.out _ ?_; ((repeat (first | (refine Below.drew ?_) | (refine Below.alloc ?_ (by first | omega | (simp; omega)) _) | (refine below_set ?_ (by omega)))); first | exact Below.refl _ _ | exact PA | exact PB)))
                    (first
                      | (refine (step_append_any rfl (.tmp 51) (.tmp 57) _ rfl base 3 _ 1 8 Try.underlying23 intInfo rfl (Nat.succ_pos 0) i64Row i64Row_length i64Row_one (lst.take co) _ rfl ?_ [x.num] _ ?_ rfl ?_ ?_ ?_ ?_); (focus (first | exact HC2.out.alloc _ | exact (HC2.out.alloc _).drew | exact HC2.out.drew.alloc _)); (focus (exact ⟨_, Box.sl i64Row_length [x.num] (Box.new _ _ _) rfl (by unfold maxLen; simp)⟩)); (focus (first | (simp; done) | (simp; omega) | omega)); (focus omega); (focus (first | (simp; done) | (simp; omega) | omega)); intro v' w' h1 h2 h3 h4 h5; have PA : Below base w2 w' := (Below.trans (by (repeat (first | (refine Below.drew ?_) | (refine Below.alloc ?_ (by first | omega | (simp; omega)) _) | (refine below_set ?_ (by omega)))); exact Below.refl _ _) h2); have sA := PA.size; have HRA : Own 1 i64Row 3 V.heap.size w' (.slice Ar rs.length cr) rs := HR2.out.stay (fun x hx => (h4 x (by have := (HR2.out.block hx).2; simp; omega) (by have := (HR2.out.block hx).1; have := (HOV.out.block (x := b3) rfl).2; simp [Act.eval, Value.ownBlock]; omega)).trans (Below.heap_alloc w2 _ x (HR2.out.block hx).2)))
                      | (refine (step_append_any rfl (.tmp 58) (.tmp 59) _ rfl base 3 _ 1 8 Try.underlying23 intInfo rfl (Nat.succ_pos 0) i64Row i64Row_length i64Row_one (lst.take co ++ [x.num]) _ rfl ?_ rs _ ?_ rfl ?_ ?_ ?_ ?_); (focus (first | exact h1 | exact h1.drew)); (focus (first | exact ⟨_, HRA.sl i64Row_length⟩ | exact ⟨_, HRA.drew.sl i64Row_length⟩)); (focus (first | (simp; done) | (simp; omega) | omega)); (focus omega); (focus (first | (simp; done) | (simp; omega) | omega)); intro v'' w'' h1' h2' h3' h4' h5'; have PB : Below base w2 w'' := (Below.trans (by ((repeat (first | (refine Below.drew ?_) | (refine Below.alloc ?_ (by first | omega | (simp; omega)) _) | (refine below_set ?_ (by omega)))); first | exact Below.refl _ _ | exact PA)) h2'); have sB := PB.size))
                  all_goals go_wp2_with fail
                  all_goals go_roundw
                  case rel => exact ⟨k + 1, _, insN co lst x.num, rfl, by omega, by go_num, numI_ins HX.out HNI.out HKD.out HE0.out.2.1 HE0.out.2.2 HE0.out.1, by have h := h1'; rw [HRS.out] at h; exact h, fun h => by simp [insN] at h, HBV2.out.trans PB⟩
                  case measure => simp [kOf]; omega
                · have hac : a ≤ co := by obtain ⟨g9, c9, h9, h91, -⟩ := (HOV.out.form' (by simp)); simp only [Value.slice.injEq, true_and] at h9; omega
                  have hac' : (a : Int) ≤ (co : Int) := by omega
                  have HDK : Hid (Sl 1 i64Row V.heap.size V (.slice (some ⟨b3, a, none⟩) (lst.length - a) (co - a)) (lst.drop a)) := by
                    have h := (HOV.out.sl i64Row_length).drop_ ha
                    rw [Nat.mul_one, Nat.zero_add] at h
                    exact Lib.hid h
                  go_wp2_with (at_builtin; refine wpList_append_all _ rfl (.tmp 44) (.tmp 47) 23 rfl V.heap.size 3 _ 1 8 Try.underlying23 intInfo rfl (Nat.succ_pos 0) i64Row i64Row_length i64Row_one [] _ rfl (Own.made _ _ _ _) (lst.drop a) V.heap.size _ (HDK.out.below (below_new V _)) rfl (by unfold maxLen; first | (simp; done) | (simp; omega)) (by first | (simp; done) | (simp; omega)) (by simp) ?_; intro rv w2 q1 q2 q3 q4 q5; have HR2 := Lib.hid (show Own 1 i64Row 3 V.heap.size w2 rv ((lst.drop a)) by simpa using q1); have HB2 := Lib.hid ((below_new V (.cells #[] 3)).trans q2); clear q1 q2 q3 q4 q5)
                  have hz2 : base ≤ w2.heap.size := by have := HB2.out.size; omega
                  have HBV2 := Lib.hid (HBV.out.trans (HB2.out.mono hzV))
                  have HC2 := Lib.hid (show Own 1 i64Row 3 base w2 (.slice (some ⟨b3, 0, none⟩) a co) (lst.take a) from HC.out.later HB2.out)
                  obtain ⟨c5, c6⟩ := HCE.out _ HBV2.out
                  obtain ⟨rs, hrs⟩ : ∃ z, z = lst.drop a := ⟨_, rfl⟩
                  rw [← hrs] at HR2
                  have hrl : rs.length ≤ 100000 := by rw [hrs]; first | (simp; done) | (simp; omega)
                  have HRS := Lib.hid hrs
                  clear hrs
                  obtain ⟨Ar, cr, rfl⟩ := HR2.out.len
                  have HF : Hid (∀ w', Below base w2 w' → w'.cell? ⟨b2, off + k * 3 + 2, none⟩ = some (.int .i64 x.num) ∧ Below base w2 w') := fun w' q => ⟨(HCE.out _ (HBV2.out.trans q)).2, q⟩
                  go_region_held3 (fun w' => w'.cell? ⟨b2, off + k * 3 + 2, none⟩ = some (.int .i64 x.num) ∧ Below base w2 w')
                    (first | (refine HF.out _ ?_; ((repeat (first | (refine Below.drew ?_) | (refine Below.alloc ?_ (by first | omega | (simp; omega)) _) | (refine below_set ?_ (by omega)))); first | exact Below.refl _ _ | exact PA | exact PB)))
                    (first
                      | (refine (step_append_any rfl (.tmp 51) (.tmp 57) _ rfl base 3 _ 1 8 Try.underlying23 intInfo rfl (Nat.succ_pos 0) i64Row i64Row_length i64Row_one (lst.take a) _ rfl ?_ [x.num] _ ?_ rfl ?_ ?_ ?_ ?_); (focus (first | exact HC2.out.alloc _ | exact (HC2.out.alloc _).drew | exact HC2.out.drew.alloc _)); (focus (exact ⟨_, Box.sl i64Row_length [x.num] (Box.new _ _ _) rfl (by unfold maxLen; simp)⟩)); (focus (first | (simp; done) | (simp; omega) | omega)); (focus omega); (focus (first | (simp; done) | (simp; omega) | omega)); intro v' w' h1 h2 h3 h4 h5; have PA : Below base w2 w' := (Below.trans (by (repeat (first | (refine Below.drew ?_) | (refine Below.alloc ?_ (by first | omega | (simp; omega)) _) | (refine below_set ?_ (by omega)))); exact Below.refl _ _) h2); have sA := PA.size; have HRA : Own 1 i64Row 3 V.heap.size w' (.slice Ar rs.length cr) rs := HR2.out.stay (fun x hx => (h4 x (by have := (HR2.out.block hx).2; simp; omega) (by have := (HR2.out.block hx).1; have := (HOV.out.block (x := b3) rfl).2; simp [Act.eval, Value.ownBlock]; omega)).trans (Below.heap_alloc w2 _ x (HR2.out.block hx).2)))
                      | (refine (step_append_any rfl (.tmp 58) (.tmp 59) _ rfl base 3 _ 1 8 Try.underlying23 intInfo rfl (Nat.succ_pos 0) i64Row i64Row_length i64Row_one (lst.take a ++ [x.num]) _ rfl ?_ rs _ ?_ rfl ?_ ?_ ?_ ?_); (focus (first | exact h1 | exact h1.drew)); (focus (first | exact ⟨_, HRA.sl i64Row_length⟩ | exact ⟨_, HRA.drew.sl i64Row_length⟩)); (focus (first | (simp; done) | (simp; omega) | omega)); (focus omega); (focus (first | (simp; done) | (simp; omega) | omega)); intro v'' w'' h1' h2' h3' h4' h5'; have PB : Below base w2 w'' := (Below.trans (by ((repeat (first | (refine Below.drew ?_) | (refine Below.alloc ?_ (by first | omega | (simp; omega)) _) | (refine below_set ?_ (by omega)))); first | exact Below.refl _ _ | exact PA)) h2'); have sB := PB.size))
                  all_goals go_wp2_with fail
                  all_goals go_roundw
                  case rel => exact ⟨k + 1, _, insN a lst x.num, rfl, by omega, by go_num, numI_ins HX.out HNI.out HKD.out HE0.out.2.1 HE0.out.2.2 HE0.out.1, by have h := h1'; rw [HRS.out] at h; exact h, fun h => by simp [insN] at h, HBV2.out.trans PB⟩
                  case measure => simp [kOf]; omega
        · have e1 : (x.knd == kd) = false := by simpa using hkd
          have HN2 := Lib.hid (numI_skip HX.out HNI.out hkd)
          clear hkd
          go_wp2_with fail
          go_roundw
          case rel => exact ⟨k + 1, _, _, rfl, by omega, by go_num, HN2.out, HO.out, HNIL.out, HB.out⟩
          case measure => simp [kOf]; omega
      · have d0 : decide ((k : Int) < (l.length : Int)) = false := decide_eq_false (by omega)
        have HF := Lib.hid (show lst = numsV l kd from numI_all (by have h := HNI.out; rw [show k = l.length by omega] at h; exact h))
        go_wp2_with fail
        go_ret2
        exact ⟨_, by rw [HRI.out]; rfl, by rw [HR.out, ← HF.out]; exact HO.out.sl i64Row_length, HB1.out.trans (HB.out.mono HBS.out)⟩
end Go.Proofs.Ytnmlmnhgjnkbhaa
