/-
  AbstainHeals: whatever the state, the entry, the numbers: true; the input stays. Condition: errors.errorType holds its value.
-/
import Derived.Test.YtaembglohjgkhaaDoorAbAwake
import Derived.Test.YtaembglohjgkhaaDoorAbHealMath
import Derived.Test.YtaembglohjgkhaaDoorAppend
import Derived.Test.YtaembglohjgkhaaDoorExt
import Derived.Deep.RegionHeld3
import Derived.Deep.DeepCutAuto
set_option linter.unusedVariables false
set_option linter.unusedSimpArgs false
namespace Go.Proofs.YtaembglohjgkhaaDoor
open Go.RowKit

/-- Up to place k each index is 1 or more. -/
def FarTo (l : List Idt) (k : Nat) : Prop := ∀ j x, j < k → l[j]? = some x → 1 ≤ x.idx
theorem farTo_zero {l : List Idt} : FarTo l 0 := fun j x h => absurd h (Nat.not_lt_zero _)
theorem farTo_succ {l : List Idt} {k : Nat} {x : Idt} (h : FarTo l k) (hx : l[k]? = some x) (h1 : 1 ≤ x.idx) : FarTo l (k + 1) := by
  intro j y hj hy
  rcases Nat.lt_or_ge j k with h' | h'
  · exact h j y h' hy
  · obtain rfl : j = k := by omega
    rw [hx] at hy; cases hy; exact h1
theorem farTo_all {l : List Idt} (h : FarTo l l.length) : ∀ x ∈ l, 1 ≤ x.idx := by
  intro x hx
  obtain ⟨i, hi⟩ := List.getElem?_of_mem hx
  exact h i x (List.getElem?_eq_some_iff.1 hi).1 hi

set_option maxRecDepth 100000 in
set_option maxHeartbeats 1000000 in
theorem heals_big (lost : Bool) (self : Int) (ms : List Int) (l : List Idt) (Am Ar : Option Addr) (cm cr : Nat) (p : Idt) (upto from_ upt : Int) (w : World) (hm : Sl 1 i64Row w.heap.size w (.slice Am ms.length cm) ms) (hl : Sl 3 idRow w.heap.size w (.slice Ar l.length cr) l) (hG : errTypeIs w) (hbig : 500 < ms.length + l.length) (z1 : ms.length ≤ 140737488351232) (z2 : l.length ≤ 140737488351232) :
    Calls Tryd.prog 5 #[.agg #[.bool lost, .int .i64 self, .slice Am ms.length cm, .slice Ar l.length cr], .agg #[.int .i64 p.idx, .int .i64 p.trm, .int .i64 p.knd], .int .i64 upto, .int .i64 from_, .int .i64 upt] w fun e w' => e = .returned (.bool true) ∧ Below w.heap.size w w' := by
  have hb : (500 : Int) < (ms.length : Int) + (l.length : Int) := by omega
  have HG := Lib.hid hG
  have HM := Lib.hid hm
  have HL := Lib.hid hl
  clear hG hm hl
  go_enter Tryd.func5, Tryd.ntmps5
  go_wp2_with (go_at_call 6; refine (awake _ (errType_later HG.out (below_call (below_new _ _) (below_new _ _)))).mono ?_; rintro e w1 ⟨rfl, hb1⟩; obtain ⟨p0, p1, P⟩ := boxes2 #[.bool lost, .int .i64 self, .slice Am ms.length cm, .slice Ar l.length cr] #[.int .i64 p.idx, .int .i64 p.trm, .int .i64 p.knd] 25 46 hb1; obtain ⟨k0, -, q0⟩ := p0.facts; obtain ⟨k1, -, q1⟩ := p1.facts; clear hb1)
  go_ret
  exact ⟨rfl, P⟩

set_option maxRecDepth 100000 in
set_option maxHeartbeats 1000000 in
theorem heals_low (lost : Bool) (self : Int) (ms : List Int) (l : List Idt) (Am Ar : Option Addr) (cm cr : Nat) (p : Idt) (upto from_ upt : Int) (w : World) (hm : Sl 1 i64Row w.heap.size w (.slice Am ms.length cm) ms) (hl : Sl 3 idRow w.heap.size w (.slice Ar l.length cr) l) (hG : errTypeIs w) (hsm : ms.length + l.length ≤ 500) (hu : upto < 0) :
    Calls Tryd.prog 5 #[.agg #[.bool lost, .int .i64 self, .slice Am ms.length cm, .slice Ar l.length cr], .agg #[.int .i64 p.idx, .int .i64 p.trm, .int .i64 p.knd], .int .i64 upto, .int .i64 from_, .int .i64 upt] w fun e w' => e = .returned (.bool true) ∧ Below w.heap.size w w' := by
  have hb : (ms.length : Int) + (l.length : Int) ≤ 500 := by omega
  have HG := Lib.hid hG
  have HM := Lib.hid hm
  have HL := Lib.hid hl
  clear hG hm hl
  go_enter Tryd.func5, Tryd.ntmps5
  go_wp2_with (go_at_call 6; refine (awake _ (errType_later HG.out (below_call (below_new _ _) (below_new _ _)))).mono ?_; rintro e w1 ⟨rfl, hb1⟩; obtain ⟨p0, p1, P⟩ := boxes2 #[.bool lost, .int .i64 self, .slice Am ms.length cm, .slice Ar l.length cr] #[.int .i64 p.idx, .int .i64 p.trm, .int .i64 p.knd] 25 46 hb1; obtain ⟨k0, -, q0⟩ := p0.facts; obtain ⟨k1, -, q1⟩ := p1.facts; clear hb1)
  go_ret
  exact ⟨rfl, P⟩

set_option maxRecDepth 100000 in
set_option maxHeartbeats 1000000 in
theorem heals_none (lost : Bool) (self : Int) (ms : List Int) (l : List Idt) (Am Ar : Option Addr) (cm cr : Nat) (p : Idt) (upto from_ upt : Int) (w : World) (hm : Sl 1 i64Row w.heap.size w (.slice Am ms.length cm) ms) (hl : Sl 3 idRow w.heap.size w (.slice Ar l.length cr) l) (hG : errTypeIs w) (hsm : ms.length + l.length ≤ 500) (hu : 0 ≤ upto) (hp : p.idx < 1) :
    Calls Tryd.prog 5 #[.agg #[.bool lost, .int .i64 self, .slice Am ms.length cm, .slice Ar l.length cr], .agg #[.int .i64 p.idx, .int .i64 p.trm, .int .i64 p.knd], .int .i64 upto, .int .i64 from_, .int .i64 upt] w fun e w' => e = .returned (.bool true) ∧ Below w.heap.size w w' := by
  have hb : (ms.length : Int) + (l.length : Int) ≤ 500 := by omega
  have HG := Lib.hid hG
  have HM := Lib.hid hm
  have HL := Lib.hid hl
  clear hG hm hl
  go_enter Tryd.func5, Tryd.ntmps5
  go_wp2_with (go_at_call 6; refine (awake _ (errType_later HG.out (below_call (below_new _ _) (below_new _ _)))).mono ?_; rintro e w1 ⟨rfl, hb1⟩; obtain ⟨p0, p1, P⟩ := boxes2 #[.bool lost, .int .i64 self, .slice Am ms.length cm, .slice Ar l.length cr] #[.int .i64 p.idx, .int .i64 p.trm, .int .i64 p.knd] 25 46 hb1; obtain ⟨k0, -, q0⟩ := p0.facts; obtain ⟨k1, -, q1⟩ := p1.facts; clear hb1)
  go_ret
  exact ⟨rfl, P⟩

set_option maxRecDepth 100000 in
set_option maxHeartbeats 8000000 in
theorem heals_go (lost : Bool) (self : Int) (ms : List Int) (l : List Idt) (Am Ar : Option Addr) (cm cr : Nat) (p : Idt) (upto from_ upt : Int) (w : World) (hm : Sl 1 i64Row w.heap.size w (.slice Am ms.length cm) ms) (hl : Sl 3 idRow w.heap.size w (.slice Ar l.length cr) l) (hG : errTypeIs w) (hsm : ms.length + l.length ≤ 500) (hu : 0 ≤ upto) (hu2 : upto ≤ 9223372036854775807) (hp : 1 ≤ p.idx) :
    Calls Tryd.prog 5 #[.agg #[.bool lost, .int .i64 self, .slice Am ms.length cm, .slice Ar l.length cr], .agg #[.int .i64 p.idx, .int .i64 p.trm, .int .i64 p.knd], .int .i64 upto, .int .i64 from_, .int .i64 upt] w fun e w' => e = .returned (.bool true) ∧ Below w.heap.size w w' := by
  have hb : (ms.length : Int) + (l.length : Int) ≤ 500 := by omega
  obtain ⟨A0, c0', hv0, hlc, hcm, -, hA⟩ := id hl
  simp only [Value.slice.injEq, true_and] at hv0
  obtain ⟨rfl, rfl⟩ := hv0
  clear hcm
  have HG := Lib.hid hG
  have HM := Lib.hid hm
  have HL := Lib.hid hl
  clear hG hm hl
  go_enter Tryd.func5, Tryd.ntmps5
  go_wp2_with (go_at_call 6; refine (awake _ (errType_later HG.out (below_call (below_new _ _) (below_new _ _)))).mono ?_; rintro e w1 ⟨rfl, hb1⟩; obtain ⟨p0, p1, P⟩ := boxes2 #[.bool lost, .int .i64 self, .slice Am ms.length cm, .slice Ar l.length cr] #[.int .i64 p.idx, .int .i64 p.trm, .int .i64 p.knd] 25 46 hb1; obtain ⟨k0, -, q0⟩ := p0.facts; obtain ⟨k1, -, q1⟩ := p1.facts; clear hb1)
  go_loop [11] (fun i => ∃ k : Nat, k ≤ l.length ∧ i = .int .i64 k ∧ FarTo l k) (fun i => l.length - (intOf i).toNat)
  case atStart => exact ⟨0, by omega, rfl, farTo_zero⟩
  case round =>
    obtain ⟨k, hk, rfl, hno⟩ := hrel
    by_cases hlt : k < l.length
    · obtain ⟨b, off, rfl, hbb, hcell⟩ := hA (by intro h; subst h; simp at hlt)
      obtain ⟨x, hx⟩ : ∃ x, l[k]? = some x := ⟨_, List.getElem?_eq_getElem hlt⟩
      have c0 := (P.cell (p := ⟨b, off + k * 3, none⟩) hbb).trans (hcell k x hx 0 _ rfl)
      have HX := Lib.hid hx
      have HN := Lib.hid hno
      have HP := Lib.hid P
      have i0 : (0 : Int) ≤ (k : Int) := by omega
      have i1 : (k : Int) < (l.length : Int) := by omega
      clear hcell hx hA hno P
      by_cases g1 : x.idx < 1
      · have e1 : decide (x.idx < 1) = true := decide_eq_true g1
        go_wp2_with fail
        go_ret
        exact ⟨rfl, HP.out⟩
      · have e1 : decide (x.idx < 1) = false := decide_eq_false g1
        go_wp2_with fail
        go_round
        case rel => exact ⟨k + 1, by omega, by go_num, farTo_succ HN.out HX.out (by omega)⟩
        case measure => simp [intOf]; omega
    · have hk' : k = l.length := by omega
      have HALL := Lib.hid (farTo_all (by rw [← hk']; exact hno))
      clear hno hA hk'
      go_upto_region 11 with fail
      obtain ⟨W, hW⟩ : ∃ W : World, W = w1.alloc (.cells #[.bool lost, .int .i64 self, .slice Am ms.length cm, .slice Ar l.length cr] 25) := ⟨_, rfl⟩
      have zz : w1.heap.size + 1 ≤ W.heap.size := by rw [hW]; simp
      have y0 := p0.lt
      have y1 := p1.lt
      have HB := Lib.hid (below_call P (below_new w1 (.cells #[.bool lost, .int .i64 self, .slice Am ms.length cm, .slice Ar l.length cr] 25)))
      have PS := Lib.hid (p0.alloc (.cells #[.bool lost, .int .i64 self, .slice Am ms.length cm, .slice Ar l.length cr] 25))
      have PI := Lib.hid (p1.alloc (.cells #[.bool lost, .int .i64 self, .slice Am ms.length cm, .slice Ar l.length cr] 25))
      have PT := Lib.hid (Box.new w1 #[.bool lost, .int .i64 self, .slice Am ms.length cm, .slice Ar l.length cr] 25)
      have HL1 := Lib.hid ((HL.out.later P).alloc (.cells #[.bool lost, .int .i64 self, .slice Am ms.length cm, .slice Ar l.length cr] 25))
      have HM1 := Lib.hid ((HM.out.later P).alloc (.cells #[.bool lost, .int .i64 self, .slice Am ms.length cm, .slice Ar l.length cr] 25))
      have HL2 := Lib.hid ((HL.out.later P).below (below_new w1 (.cells #[.bool lost, .int .i64 self, .slice Am ms.length cm, .slice Ar l.length cr] 25)))
      have HM2 := Lib.hid ((HM.out.later P).below (below_new w1 (.cells #[.bool lost, .int .i64 self, .slice Am ms.length cm, .slice Ar l.length cr] 25)))
      rw [← hW] at HB PS PI PT HL1 HM1 HL2 HM2
      rw [← hW]
      have HF : Hid (∀ w', Below w1.heap.size W w' → w'.cell? ⟨w.heap.size, 3, none⟩ = some (.slice Ar l.length cr) ∧ w'.cell? ⟨w.heap.size + 1, 0, none⟩ = some (.int .i64 p.idx) ∧ w'.cell? ⟨w.heap.size + 1, 1, none⟩ = some (.int .i64 p.trm) ∧ w'.cell? ⟨w.heap.size + 1, 2, none⟩ = some (.int .i64 p.knd) ∧ Below w1.heap.size W w') := fun w' q =>
        ⟨(q.cell (p := ⟨w.heap.size, 3, none⟩) y0).trans (PS.out.cell 3), (q.cell (p := ⟨w.heap.size + 1, 0, none⟩) y1).trans (PI.out.cell 0), (q.cell (p := ⟨w.heap.size + 1, 1, none⟩) y1).trans (PI.out.cell 1), (q.cell (p := ⟨w.heap.size + 1, 2, none⟩) y1).trans (PI.out.cell 2), q⟩
      obtain ⟨kt, ft, qt⟩ := PT.out.facts
      clear hW p0 p1 k0 k1 q0 q1 P
      go_cut [] (fun wx => ∃ A n c, Own 3 idRow 46 (w1.heap.size + 1) wx (.slice A n c) (l ++ [p]) ∧ Box wx w1.heap.size #[.bool lost, .int .i64 self, .slice Am ms.length cm, .slice A n c] 25 ∧ Below w1.heap.size W wx)
      case first =>
        have O1 : Own 3 idRow 46 (w1.heap.size + 1) (W.alloc (.cells #[] 46)) (.slice (some ⟨W.heap.size, 0, none⟩) 0 0) [] := (Own.made 3 idRow 46 W).less (by omega)
        have O2 : Own 3 idRow 46 (w1.heap.size + 1) ((W.alloc (.cells #[.int .i64 p.idx, .int .i64 p.trm, .int .i64 p.knd] 46)).alloc (.cells #[] 46)) (.slice (some ⟨W.heap.size + 1, 0, none⟩) 0 0) [] := by
          have := (Own.made 3 idRow 46 (W.alloc (.cells #[.int .i64 p.idx, .int .i64 p.trm, .int .i64 p.knd] 46))).less (base' := w1.heap.size + 1) (by simp; omega)
          simpa using this
        have B1 : Box ((W.alloc (.cells #[.int .i64 p.idx, .int .i64 p.trm, .int .i64 p.knd] 46)).alloc (.cells #[] 46)) W.heap.size #[.int .i64 p.idx, .int .i64 p.trm, .int .i64 p.knd] 46 := (Box.new W _ _).alloc _
        have B2 : Box ((W.alloc (.cells #[] 46)).alloc (.cells #[.int .i64 p.idx, .int .i64 p.trm, .int .i64 p.knd] 46)) (W.heap.size + 1) #[.int .i64 p.idx, .int .i64 p.trm, .int .i64 p.knd] 46 := by
          have := Box.new (W.alloc (.cells #[] 46)) #[.int .i64 p.idx, .int .i64 p.trm, .int .i64 p.knd] 46
          simpa using this
        go_region_held3 (fun w' => w'.cell? ⟨w.heap.size, 3, none⟩ = some (.slice Ar l.length cr) ∧ w'.cell? ⟨w.heap.size + 1, 0, none⟩ = some (.int .i64 p.idx) ∧ w'.cell? ⟨w.heap.size + 1, 1, none⟩ = some (.int .i64 p.trm) ∧ w'.cell? ⟨w.heap.size + 1, 2, none⟩ = some (.int .i64 p.knd) ∧ Below w1.heap.size W w')
          (first | (refine HF.out _ ?_; ((repeat (first | (refine Below.drew ?_) | (refine Below.alloc ?_ (by first | omega | (simp; omega)) _) | (refine below_set ?_ (by omega)))); first | exact Below.refl _ _ | exact PA | exact PB)))
          (first
            | (refine (step_append_all rfl (.tmp 50) (.tmp 52) _ rfl (w1.heap.size + 1) 46 _ 3 24 Tryd.underlying23 identInfo rfl (Nat.succ_pos 2) idRow idRow_length idRow_one  [] _ rfl ?_ l w1.heap.size _ ?_ rfl ?_ ?_ ?_ ?_); (focus (first | exact O1.drew | exact O2.drew | exact (O1.alloc _).drew)); (focus (refine Sl.below HL2.out ?_; ((repeat (first | (refine Below.drew ?_) | (refine Below.alloc ?_ (by first | omega | (simp; omega)) _) | (refine below_set ?_ (by omega)))); first | exact Below.refl _ _ | exact PA | exact PB))); (focus (simp; omega)); (focus omega); (focus (first | (simp; omega) | omega)); intro v' w' h1 h2 h3 h4 h5; have PA1 : Below (w1.heap.size + 1) W w' := (Below.trans (by (repeat (first | (refine Below.drew ?_) | (refine Below.alloc ?_ (by first | omega | (simp; omega)) _) | (refine below_set ?_ (by omega)))); exact Below.refl _ _) h2); have PA : Below w1.heap.size W w' := PA1.mono (by omega); have sA := PA.size; (try have bp : Box w' W.heap.size #[.int .i64 p.idx, .int .i64 p.trm, .int .i64 p.knd] 46 := (h4 W.heap.size (by simp <;> omega) (by simp [Act.eval, Value.ownBlock])).trans B1); (try have bp : Box w' (W.heap.size + 1) #[.int .i64 p.idx, .int .i64 p.trm, .int .i64 p.knd] 46 := (h4 (W.heap.size + 1) (by simp <;> omega) (by simp [Act.eval, Value.ownBlock])).trans B2))
            | (refine (step_append_any rfl (.tmp 53) (.tmp 55) _ rfl (w1.heap.size + 1) 46 _ 3 24 Tryd.underlying23 identInfo rfl (Nat.succ_pos 2) idRow idRow_length idRow_one  l _ rfl ?_ [p] _ ?_ rfl ?_ ?_ ?_ ?_); (focus (first | exact h1 | exact h1.alloc _)); (focus (first | exact ⟨_, Box.sl idRow_length [p] bp rfl (by unfold maxLen; simp)⟩ | exact ⟨_, Box.sl idRow_length [p] (Box.new _ _ _) rfl (by unfold maxLen; simp)⟩)); (focus (simp; omega)); (focus omega); (focus (first | (simp; omega) | omega)); intro v'' w'' h1' h2' h3' h4' h5'; have PB1 : Below (w1.heap.size + 1) W w'' := (Below.trans (by ((repeat (first | (refine Below.drew ?_) | (refine Below.alloc ?_ (by first | omega | (simp; omega)) _) | (refine below_set ?_ (by omega)))); first | exact Below.refl _ _ | exact PA1)) h2'); have PB : Below w1.heap.size W w'' := PB1.mono (by omega); have sB := PB.size; obtain ⟨kt2, ft2, qt2⟩ := (PT.out.below PB1 (by omega)).facts; obtain ⟨A', n', c', rfl⟩ := h1'.form))
        all_goals (go_wp2_with fail; go_meet)
        all_goals exact ⟨A', n', c', h1'.set_below (by omega), (PT.out.below PB1 (by omega)).set_ 3 _, below_set PB (Nat.le_refl _)⟩
      case rest =>
        obtain ⟨A, n, c, hO, hbt, hB⟩ := hcut
        have hT := hO.sl idRow_length
        obtain ⟨A0, c0, e0, -⟩ := id hT
        simp only [Value.slice.injEq] at e0
        obtain ⟨rfl, rfl, rfl⟩ := e0
        have hBz := hB.size
        have PS3 := Lib.hid (PS.out.below (hB.mono (Nat.le_refl _)) y0)
        have PI3 := Lib.hid (PI.out.below (hB.mono (Nat.le_refl _)) y1)
        have PT3 := Lib.hid hbt
        have HL3 := Lib.hid (Sl.more (HL2.out.below hB) (show w1.heap.size ≤ wc.heap.size by omega))
        have HM3 := Lib.hid (Sl.more (HM2.out.below hB) (show w1.heap.size ≤ wc.heap.size by omega))
        have HT3 := Lib.hid hT
        have HB3 := Lib.hid (HB.out.trans (hB.mono (by omega)))
        have HG3 := Lib.hid (errType_later HG.out HB3.out)
        clear hO hbt hT hB hBz kt ft qt
        go_upto_region 12 with fail
        obtain ⟨W, hW⟩ : ∃ W : World, W = wc := ⟨_, rfl⟩
        rw [← hW] at PS3 PI3 PT3 HL3 HM3 HT3 HB3 HG3
        rw [← hW]
        clear hW
        obtain ⟨lp, hlp⟩ : ∃ lp : List Idt, l ++ [p] = lp := ⟨_, rfl⟩
        rw [hlp] at PT3 HT3
        have HLP := Lib.hid hlp
        clear hlp
        cases lost
        · have cs0 : ∀ x : Ext W, x.wd.cell? ⟨w.heap.size, 0, none⟩ = some (.bool false) := PS3.out.ext 0
          have cs1 : ∀ x : Ext W, x.wd.cell? ⟨w.heap.size, 1, none⟩ = some (.int .i64 self) := PS3.out.ext 1
          have cs2 : ∀ x : Ext W, x.wd.cell? ⟨w.heap.size, 2, none⟩ = some (.slice Am ms.length cm) := PS3.out.ext 2
          have cs3 : ∀ x : Ext W, x.wd.cell? ⟨w.heap.size, 3, none⟩ = some (.slice Ar l.length cr) := PS3.out.ext 3
          have ct0 : ∀ x : Ext W, x.wd.cell? ⟨w1.heap.size, 0, none⟩ = some (.bool false) := PT3.out.ext 0
          have ct1 : ∀ x : Ext W, x.wd.cell? ⟨w1.heap.size, 1, none⟩ = some (.int .i64 self) := PT3.out.ext 1
          have ct2 : ∀ x : Ext W, x.wd.cell? ⟨w1.heap.size, 2, none⟩ = some (.slice Am ms.length cm) := PT3.out.ext 2
          have ct3 : ∀ x : Ext W, x.wd.cell? ⟨w1.heap.size, 3, none⟩ = some (.slice A lp.length c) := PT3.out.ext 3
          have cp0 : ∀ x : Ext W, x.wd.cell? ⟨w.heap.size + 1, 0, none⟩ = some (.int .i64 p.idx) := PI3.out.ext 0
          have cp1 : ∀ x : Ext W, x.wd.cell? ⟨w.heap.size + 1, 1, none⟩ = some (.int .i64 p.trm) := PI3.out.ext 1
          have cp2 : ∀ x : Ext W, x.wd.cell? ⟨w.heap.size + 1, 2, none⟩ = some (.int .i64 p.knd) := PI3.out.ext 2
          obtain ⟨a, ha⟩ : ∃ a, acksI false l upto = a := ⟨_, rfl⟩
          obtain ⟨b, hb⟩ : ∃ b, acksI false lp upto = b := ⟨_, rfl⟩
          obtain ⟨lt, hlt⟩ : ∃ b, leadsI false self ms lp = b := ⟨_, rfl⟩
          obtain ⟨f, hf⟩ : ∃ b, firstI l = b := ⟨_, rfl⟩
          have g1 : b ≤ a := by rw [← ha, ← hb]; rw [← HLP.out]; exact heal_acks HALL.out hp hu2
          have g2 : a ≤ upto := by rw [← ha]; exact acks_le HALL.out hu2
          have g3 := Lib.hid (show wholeI false l 1 a = true by rw [← ha]; exact acks_whole HALL.out hu2)
          have g4 := Lib.hid (show lt = 0 → leadsI false self ms l = 0 by rw [← hlt, ← HLP.out]; exact heal_leads)
          have g5 := Lib.hid (show badKind p = true → lt ≠ 0 by rw [← hlt, ← HLP.out]; exact heal_bad)
          have g6 := Lib.hid (show l = [] → f = 0 ∧ a = upto by intro h; subst h; exact ⟨by rw [← hf]; rfl, by rw [← ha]; exact acks_nil⟩)
          have d1 : decide (a < b) = false := by simpa using g1
          have d2 : decide (upto < a) = false := by simpa using g2
          have CVs := Lib.hid (show ∀ x5 : Ext W, Calls Tryd.prog 9 #[.agg #[.bool false, .int .i64 self, .slice Am ms.length cm, .slice Ar l.length cr]] x5.wd (fun e w' => e = .returned (.bool true) ∧ Below x5.wd.heap.size x5.wd w') from fun x5 => votesB false self ms l Am Ar cm cr _ (HM3.out.later x5.low) (HL3.out.later x5.low))
          have CVt := Lib.hid (show ∀ x5 : Ext W, Calls Tryd.prog 9 #[.agg #[.bool false, .int .i64 self, .slice Am ms.length cm, .slice A lp.length c]] x5.wd (fun e w' => e = .returned (.bool true) ∧ Below x5.wd.heap.size x5.wd w') from fun x5 => votesB false self ms lp Am A cm c _ (HM3.out.later x5.low) (HT3.out.later x5.low))
          have CLt := Lib.hid (show ∀ x5 : Ext W, Calls Tryd.prog 11 #[.agg #[.bool false, .int .i64 self, .slice Am ms.length cm, .slice A lp.length c]] x5.wd (fun e w' => e = .returned (.int .i64 lt) ∧ Below x5.wd.heap.size x5.wd w') from fun x5 => by have h := leadsB false self ms lp Am A cm c _ (HM3.out.later x5.low) (HT3.out.later x5.low) (errType_later HG3.out x5.low); rw [hlt] at h; exact h)
          have CAs := Lib.hid (show ∀ x5 : Ext W, Calls Tryd.prog 15 #[.agg #[.bool false, .int .i64 self, .slice Am ms.length cm, .slice Ar l.length cr], .int .i64 upto] x5.wd (fun e w' => e = .returned (.int .i64 a) ∧ Below x5.wd.heap.size x5.wd w') from fun x5 => by have h := acksB false self ms l Am Ar cm cr upto _ (HL3.out.later x5.low); rw [ha] at h; exact h)
          have CAt := Lib.hid (show ∀ x5 : Ext W, Calls Tryd.prog 15 #[.agg #[.bool false, .int .i64 self, .slice Am ms.length cm, .slice A lp.length c], .int .i64 upto] x5.wd (fun e w' => e = .returned (.int .i64 b) ∧ Below x5.wd.heap.size x5.wd w') from fun x5 => by have h := acksB false self ms lp Am A cm c upto _ (HT3.out.later x5.low); rw [hb] at h; exact h)
          have CF := Lib.hid (show ∀ x5 : Ext W, Calls Tryd.prog 13 #[.agg #[.bool false, .int .i64 self, .slice Am ms.length cm, .slice Ar l.length cr]] x5.wd (fun e w' => e = .returned (.int .i64 f) ∧ Below x5.wd.heap.size x5.wd w') from fun x5 => by have h := firstB false self ms l Am Ar cm cr _ (HL3.out.later x5.low); rw [hf] at h; exact h)
          have CW1 := Lib.hid (show ∀ x5 : Ext W, Calls Tryd.prog 17 #[.agg #[.bool false, .int .i64 self, .slice Am ms.length cm, .slice Ar l.length cr], .int .i64 1, .int .i64 a] x5.wd (fun e w' => e = .returned (.bool true) ∧ Below x5.wd.heap.size x5.wd w') from fun x5 => by have h := wholeB false self ms l Am Ar cm cr 1 a _ (HL3.out.later x5.low); rw [g3.out] at h; exact h)
          clear ha hb hlt hf HALL HF HL1 HM1 HL2 HM2 PS PI PT HL HM
          refine wp_region_ext (by kernel_rfl) (by kernel_rfl) ?_
          repeat (go_big_quiet_step ((rename_i x5; have h5 := x5.low; first
            | (go_at_call 15; first | (with_reducible exact ext_of x5 (CAs.out x5)) | (with_reducible exact ext_of x5 (CAt.out x5))))))
          refine wpQuiet_nil ?_
          intro _ hw'
          obtain ⟨x6, hw''⟩ := hw'
          subst hw''
          go_upto_region 13 with fail
          go_cut [103] (fun v wx => v = .bool false ∧ ∃ x : Ext W, wx = x.wd)
          case first =>
            by_cases q1 : lt = 0
            · have d3 : (lt == 0) = true := by simpa using q1
              have e4 := g4.out q1
              have CLs := Lib.hid (show ∀ x5 : Ext W, Calls Tryd.prog 11 #[.agg #[.bool false, .int .i64 self, .slice Am ms.length cm, .slice Ar l.length cr]] x5.wd (fun e w' => e = .returned (.int .i64 0) ∧ Below x5.wd.heap.size x5.wd w') from fun x5 => by have h := leadsB false self ms l Am Ar cm cr _ (HM3.out.later x5.low) (HL3.out.later x5.low) (errType_later HG3.out x5.low); rw [e4] at h; exact h)
              clear e4 q1
              by_cases q2 : wholeI false lp from_ upt = true
              · have e5 := heal_whole (p := p) (by rw [HLP.out]; exact q2)
                have CWt := Lib.hid (show ∀ x5 : Ext W, Calls Tryd.prog 17 #[.agg #[.bool false, .int .i64 self, .slice Am ms.length cm, .slice A lp.length c], .int .i64 from_, .int .i64 upt] x5.wd (fun e w' => e = .returned (.bool true) ∧ Below x5.wd.heap.size x5.wd w') from fun x5 => by have h := wholeB false self ms lp Am A cm c from_ upt _ (HT3.out.later x5.low); rw [q2] at h; exact h)
                have CWs := Lib.hid (show ∀ x5 : Ext W, Calls Tryd.prog 17 #[.agg #[.bool false, .int .i64 self, .slice Am ms.length cm, .slice Ar l.length cr], .int .i64 from_, .int .i64 upt] x5.wd (fun e w' => e = .returned (.bool true) ∧ Below x5.wd.heap.size x5.wd w') from fun x5 => by have h := wholeB false self ms l Am Ar cm cr from_ upt _ (HL3.out.later x5.low); rw [e5] at h; exact h)
                clear q2 e5
                refine wp_region_ext_plain_at x6 ?_
                repeat (go_big_quiet_step ((rename_i x5; have h5 := x5.low; first
                  | (go_at_call 9; first | (with_reducible exact ext_of x5 (CVs.out x5)) | (with_reducible exact ext_of x5 (CVt.out x5)))
                  | (go_at_call 11; first | (with_reducible exact ext_of x5 (CLs.out x5)) | (with_reducible exact ext_of x5 (CLt.out x5)))
                  | (go_at_call 17; first | (with_reducible exact ext_of x5 (CWt.out x5)) | (with_reducible exact ext_of x5 (CWs.out x5))))))
                refine wpQuiet_nil ?_
                intro _ hw'
                obtain ⟨x7, hw''⟩ := hw'
                subst hw''
                go_wp2_with fail
                go_meet
                exact ⟨rfl, x7, rfl⟩
              · have q3 : wholeI false lp from_ upt = false := by simpa using q2
                have CWt := Lib.hid (show ∀ x5 : Ext W, Calls Tryd.prog 17 #[.agg #[.bool false, .int .i64 self, .slice Am ms.length cm, .slice A lp.length c], .int .i64 from_, .int .i64 upt] x5.wd (fun e w' => e = .returned (.bool false) ∧ Below x5.wd.heap.size x5.wd w') from fun x5 => by have h := wholeB false self ms lp Am A cm c from_ upt _ (HT3.out.later x5.low); rw [q3] at h; exact h)
                clear q2 q3
                refine wp_region_ext_plain_at x6 ?_
                repeat (go_big_quiet_step ((rename_i x5; have h5 := x5.low; first
                  | (go_at_call 9; first | (with_reducible exact ext_of x5 (CVs.out x5)) | (with_reducible exact ext_of x5 (CVt.out x5)))
                  | (go_at_call 11; first | (with_reducible exact ext_of x5 (CLs.out x5)) | (with_reducible exact ext_of x5 (CLt.out x5)))
                  | (go_at_call 17; exact ext_of x5 (CWt.out x5)))))
                refine wpQuiet_nil ?_
                intro _ hw'
                obtain ⟨x7, hw''⟩ := hw'
                subst hw''
                go_wp2_with fail
                go_meet
                exact ⟨rfl, x7, rfl⟩
            · have d3 : (lt == 0) = false := by simpa using q1
              clear q1
              by_cases q2 : wholeI false lp from_ upt = true
              · have e5 := heal_whole (p := p) (by rw [HLP.out]; exact q2)
                have CWt := Lib.hid (show ∀ x5 : Ext W, Calls Tryd.prog 17 #[.agg #[.bool false, .int .i64 self, .slice Am ms.length cm, .slice A lp.length c], .int .i64 from_, .int .i64 upt] x5.wd (fun e w' => e = .returned (.bool true) ∧ Below x5.wd.heap.size x5.wd w') from fun x5 => by have h := wholeB false self ms lp Am A cm c from_ upt _ (HT3.out.later x5.low); rw [q2] at h; exact h)
                have CWs := Lib.hid (show ∀ x5 : Ext W, Calls Tryd.prog 17 #[.agg #[.bool false, .int .i64 self, .slice Am ms.length cm, .slice Ar l.length cr], .int .i64 from_, .int .i64 upt] x5.wd (fun e w' => e = .returned (.bool true) ∧ Below x5.wd.heap.size x5.wd w') from fun x5 => by have h := wholeB false self ms l Am Ar cm cr from_ upt _ (HL3.out.later x5.low); rw [e5] at h; exact h)
                clear q2 e5
                refine wp_region_ext_plain_at x6 ?_
                repeat (go_big_quiet_step ((rename_i x5; have h5 := x5.low; first
                  | (go_at_call 9; first | (with_reducible exact ext_of x5 (CVs.out x5)) | (with_reducible exact ext_of x5 (CVt.out x5)))
                  | (go_at_call 11; exact ext_of x5 (CLt.out x5))
                  | (go_at_call 17; first | (with_reducible exact ext_of x5 (CWt.out x5)) | (with_reducible exact ext_of x5 (CWs.out x5))))))
                refine wpQuiet_nil ?_
                intro _ hw'
                obtain ⟨x7, hw''⟩ := hw'
                subst hw''
                go_wp2_with fail
                go_meet
                exact ⟨rfl, x7, rfl⟩
              · have q3 : wholeI false lp from_ upt = false := by simpa using q2
                have CWt := Lib.hid (show ∀ x5 : Ext W, Calls Tryd.prog 17 #[.agg #[.bool false, .int .i64 self, .slice Am ms.length cm, .slice A lp.length c], .int .i64 from_, .int .i64 upt] x5.wd (fun e w' => e = .returned (.bool false) ∧ Below x5.wd.heap.size x5.wd w') from fun x5 => by have h := wholeB false self ms lp Am A cm c from_ upt _ (HT3.out.later x5.low); rw [q3] at h; exact h)
                clear q2 q3
                refine wp_region_ext_plain_at x6 ?_
                repeat (go_big_quiet_step ((rename_i x5; have h5 := x5.low; first
                  | (go_at_call 9; first | (with_reducible exact ext_of x5 (CVs.out x5)) | (with_reducible exact ext_of x5 (CVt.out x5)))
                  | (go_at_call 11; exact ext_of x5 (CLt.out x5))
                  | (go_at_call 17; exact ext_of x5 (CWt.out x5)))))
                refine wpQuiet_nil ?_
                intro _ hw'
                obtain ⟨x7, hw''⟩ := hw'
                subst hw''
                go_wp2_with fail
                go_meet
                exact ⟨rfl, x7, rfl⟩
          case rest =>
            obtain ⟨rfl, x7, rfl⟩ := hcut
            go_upto_region 17 with fail
            refine wp_region_ext_plain_at x7 ?_
            repeat (go_big_quiet_step ((rename_i x5; have h5 := x5.low; first
              | (go_at_call 13; exact ext_of x5 (CF.out x5)))))
            refine wpQuiet_nil ?_
            intro _ hw'
            obtain ⟨x8, hw''⟩ := hw'
            subst hw''
            go_upto_region 18 with fail
            by_cases r0 : a = 0
            · have d0 : (a == 0) = true := by simpa using r0
              clear r0
              by_cases r3 : l = []
              · have r4 := g6.out r3
                have r5 : decide (0 < l.length) = false := by simp [r3]
                have r6 : (f == 0) = true := by simpa using r4.1
                have r7 : (a == upto) = true := by simpa using r4.2
                have r8 : l.length ≤ 0 := by simp [r3]
                clear r3 r4
                by_cases r1 : p.knd = 1
                · have e1 : (p.knd == 1) = true := by simpa using r1
                  clear r1
                  refine wp_region_ext_plain_at x8 ?_
                  repeat (go_big_quiet_step ((rename_i x5; have h5 := x5.low; first
                    | (go_at_call 9; exact ext_of x5 (CVs.out x5))
                    | (go_at_call 11; exact ext_of x5 (CLt.out x5))
                    | (go_at_call 17; exact ext_of x5 (CW1.out x5)))))
                  refine wpQuiet_nil ?_
                  intro _ hw'
                  obtain ⟨x5, hw''⟩ := hw'
                  subst hw''
                  go_wp2_with fail
                  go_ret
                  exact ⟨rfl, HB3.out.trans (x5.low.mono (HB3.out.size))⟩
                · have e1 : (p.knd == 1) = false := by simpa using r1
                  by_cases r2 : p.knd = 2
                  · have e2 : (p.knd == 2) = true := by simpa using r2
                    clear r1 r2
                    refine wp_region_ext_plain_at x8 ?_
                    repeat (go_big_quiet_step ((rename_i x5; have h5 := x5.low; first
                      | (go_at_call 9; exact ext_of x5 (CVs.out x5))
                      | (go_at_call 11; exact ext_of x5 (CLt.out x5))
                      | (go_at_call 17; exact ext_of x5 (CW1.out x5)))))
                    refine wpQuiet_nil ?_
                    intro _ hw'
                    obtain ⟨x5, hw''⟩ := hw'
                    subst hw''
                    go_wp2_with fail
                    go_ret
                    exact ⟨rfl, HB3.out.trans (x5.low.mono (HB3.out.size))⟩
                  · have e2 : (p.knd == 2) = false := by simpa using r2
                    have e3 : (lt != 0) = true := by simpa using g5.out (by simp [badKind, r1, r2])
                    clear r1 r2
                    refine wp_region_ext_plain_at x8 ?_
                    repeat (go_big_quiet_step ((rename_i x5; have h5 := x5.low; first
                      | (go_at_call 9; exact ext_of x5 (CVs.out x5))
                      | (go_at_call 11; exact ext_of x5 (CLt.out x5))
                      | (go_at_call 17; exact ext_of x5 (CW1.out x5)))))
                    refine wpQuiet_nil ?_
                    intro _ hw'
                    obtain ⟨x5, hw''⟩ := hw'
                    subst hw''
                    go_wp2_with fail
                    go_ret
                    exact ⟨rfl, HB3.out.trans (x5.low.mono (HB3.out.size))⟩
              · have r9 : 0 < l.length := by cases l with | nil => exact absurd rfl r3 | cons _ _ => simp
                have r5 : decide (0 < l.length) = true := by simpa using r9
                clear r3
                by_cases r1 : p.knd = 1
                · have e1 : (p.knd == 1) = true := by simpa using r1
                  clear r1
                  refine wp_region_ext_plain_at x8 ?_
                  repeat (go_big_quiet_step ((rename_i x5; have h5 := x5.low; first
                    | (go_at_call 9; exact ext_of x5 (CVs.out x5))
                    | (go_at_call 11; exact ext_of x5 (CLt.out x5))
                    | (go_at_call 17; exact ext_of x5 (CW1.out x5)))))
                  refine wpQuiet_nil ?_
                  intro _ hw'
                  obtain ⟨x5, hw''⟩ := hw'
                  subst hw''
                  go_wp2_with fail
                  go_ret
                  exact ⟨rfl, HB3.out.trans (x5.low.mono (HB3.out.size))⟩
                · have e1 : (p.knd == 1) = false := by simpa using r1
                  by_cases r2 : p.knd = 2
                  · have e2 : (p.knd == 2) = true := by simpa using r2
                    clear r1 r2
                    refine wp_region_ext_plain_at x8 ?_
                    repeat (go_big_quiet_step ((rename_i x5; have h5 := x5.low; first
                      | (go_at_call 9; exact ext_of x5 (CVs.out x5))
                      | (go_at_call 11; exact ext_of x5 (CLt.out x5))
                      | (go_at_call 17; exact ext_of x5 (CW1.out x5)))))
                    refine wpQuiet_nil ?_
                    intro _ hw'
                    obtain ⟨x5, hw''⟩ := hw'
                    subst hw''
                    go_wp2_with fail
                    go_ret
                    exact ⟨rfl, HB3.out.trans (x5.low.mono (HB3.out.size))⟩
                  · have e2 : (p.knd == 2) = false := by simpa using r2
                    have e3 : (lt != 0) = true := by simpa using g5.out (by simp [badKind, r1, r2])
                    clear r1 r2
                    refine wp_region_ext_plain_at x8 ?_
                    repeat (go_big_quiet_step ((rename_i x5; have h5 := x5.low; first
                      | (go_at_call 9; exact ext_of x5 (CVs.out x5))
                      | (go_at_call 11; exact ext_of x5 (CLt.out x5))
                      | (go_at_call 17; exact ext_of x5 (CW1.out x5)))))
                    refine wpQuiet_nil ?_
                    intro _ hw'
                    obtain ⟨x5, hw''⟩ := hw'
                    subst hw''
                    go_wp2_with fail
                    go_ret
                    exact ⟨rfl, HB3.out.trans (x5.low.mono (HB3.out.size))⟩
            · have d0 : (a == 0) = false := by simpa using r0
              clear r0
              by_cases r3 : l = []
              · have r4 := g6.out r3
                have r5 : decide (0 < l.length) = false := by simp [r3]
                have r6 : (f == 0) = true := by simpa using r4.1
                have r7 : (a == upto) = true := by simpa using r4.2
                have r8 : l.length ≤ 0 := by simp [r3]
                clear r3 r4
                by_cases r1 : p.knd = 1
                · have e1 : (p.knd == 1) = true := by simpa using r1
                  clear r1
                  refine wp_region_ext_plain_at x8 ?_
                  repeat (go_big_quiet_step ((rename_i x5; have h5 := x5.low; first
                    | (go_at_call 9; exact ext_of x5 (CVs.out x5))
                    | (go_at_call 11; exact ext_of x5 (CLt.out x5))
                    | (go_at_call 17; exact ext_of x5 (CW1.out x5)))))
                  refine wpQuiet_nil ?_
                  intro _ hw'
                  obtain ⟨x5, hw''⟩ := hw'
                  subst hw''
                  go_wp2_with fail
                  go_ret
                  exact ⟨rfl, HB3.out.trans (x5.low.mono (HB3.out.size))⟩
                · have e1 : (p.knd == 1) = false := by simpa using r1
                  by_cases r2 : p.knd = 2
                  · have e2 : (p.knd == 2) = true := by simpa using r2
                    clear r1 r2
                    refine wp_region_ext_plain_at x8 ?_
                    repeat (go_big_quiet_step ((rename_i x5; have h5 := x5.low; first
                      | (go_at_call 9; exact ext_of x5 (CVs.out x5))
                      | (go_at_call 11; exact ext_of x5 (CLt.out x5))
                      | (go_at_call 17; exact ext_of x5 (CW1.out x5)))))
                    refine wpQuiet_nil ?_
                    intro _ hw'
                    obtain ⟨x5, hw''⟩ := hw'
                    subst hw''
                    go_wp2_with fail
                    go_ret
                    exact ⟨rfl, HB3.out.trans (x5.low.mono (HB3.out.size))⟩
                  · have e2 : (p.knd == 2) = false := by simpa using r2
                    have e3 : (lt != 0) = true := by simpa using g5.out (by simp [badKind, r1, r2])
                    clear r1 r2
                    refine wp_region_ext_plain_at x8 ?_
                    repeat (go_big_quiet_step ((rename_i x5; have h5 := x5.low; first
                      | (go_at_call 9; exact ext_of x5 (CVs.out x5))
                      | (go_at_call 11; exact ext_of x5 (CLt.out x5))
                      | (go_at_call 17; exact ext_of x5 (CW1.out x5)))))
                    refine wpQuiet_nil ?_
                    intro _ hw'
                    obtain ⟨x5, hw''⟩ := hw'
                    subst hw''
                    go_wp2_with fail
                    go_ret
                    exact ⟨rfl, HB3.out.trans (x5.low.mono (HB3.out.size))⟩
              · have r9 : 0 < l.length := by cases l with | nil => exact absurd rfl r3 | cons _ _ => simp
                have r5 : decide (0 < l.length) = true := by simpa using r9
                clear r3
                by_cases r1 : p.knd = 1
                · have e1 : (p.knd == 1) = true := by simpa using r1
                  clear r1
                  refine wp_region_ext_plain_at x8 ?_
                  repeat (go_big_quiet_step ((rename_i x5; have h5 := x5.low; first
                    | (go_at_call 9; exact ext_of x5 (CVs.out x5))
                    | (go_at_call 11; exact ext_of x5 (CLt.out x5))
                    | (go_at_call 17; exact ext_of x5 (CW1.out x5)))))
                  refine wpQuiet_nil ?_
                  intro _ hw'
                  obtain ⟨x5, hw''⟩ := hw'
                  subst hw''
                  go_wp2_with fail
                  go_ret
                  exact ⟨rfl, HB3.out.trans (x5.low.mono (HB3.out.size))⟩
                · have e1 : (p.knd == 1) = false := by simpa using r1
                  by_cases r2 : p.knd = 2
                  · have e2 : (p.knd == 2) = true := by simpa using r2
                    clear r1 r2
                    refine wp_region_ext_plain_at x8 ?_
                    repeat (go_big_quiet_step ((rename_i x5; have h5 := x5.low; first
                      | (go_at_call 9; exact ext_of x5 (CVs.out x5))
                      | (go_at_call 11; exact ext_of x5 (CLt.out x5))
                      | (go_at_call 17; exact ext_of x5 (CW1.out x5)))))
                    refine wpQuiet_nil ?_
                    intro _ hw'
                    obtain ⟨x5, hw''⟩ := hw'
                    subst hw''
                    go_wp2_with fail
                    go_ret
                    exact ⟨rfl, HB3.out.trans (x5.low.mono (HB3.out.size))⟩
                  · have e2 : (p.knd == 2) = false := by simpa using r2
                    have e3 : (lt != 0) = true := by simpa using g5.out (by simp [badKind, r1, r2])
                    clear r1 r2
                    refine wp_region_ext_plain_at x8 ?_
                    repeat (go_big_quiet_step ((rename_i x5; have h5 := x5.low; first
                      | (go_at_call 9; exact ext_of x5 (CVs.out x5))
                      | (go_at_call 11; exact ext_of x5 (CLt.out x5))
                      | (go_at_call 17; exact ext_of x5 (CW1.out x5)))))
                    refine wpQuiet_nil ?_
                    intro _ hw'
                    obtain ⟨x5, hw''⟩ := hw'
                    subst hw''
                    go_wp2_with fail
                    go_ret
                    exact ⟨rfl, HB3.out.trans (x5.low.mono (HB3.out.size))⟩
        · have cs0 : ∀ x : Ext W, x.wd.cell? ⟨w.heap.size, 0, none⟩ = some (.bool true) := PS3.out.ext 0
          have cs1 : ∀ x : Ext W, x.wd.cell? ⟨w.heap.size, 1, none⟩ = some (.int .i64 self) := PS3.out.ext 1
          have cs2 : ∀ x : Ext W, x.wd.cell? ⟨w.heap.size, 2, none⟩ = some (.slice Am ms.length cm) := PS3.out.ext 2
          have cs3 : ∀ x : Ext W, x.wd.cell? ⟨w.heap.size, 3, none⟩ = some (.slice Ar l.length cr) := PS3.out.ext 3
          have ct0 : ∀ x : Ext W, x.wd.cell? ⟨w1.heap.size, 0, none⟩ = some (.bool true) := PT3.out.ext 0
          have ct1 : ∀ x : Ext W, x.wd.cell? ⟨w1.heap.size, 1, none⟩ = some (.int .i64 self) := PT3.out.ext 1
          have ct2 : ∀ x : Ext W, x.wd.cell? ⟨w1.heap.size, 2, none⟩ = some (.slice Am ms.length cm) := PT3.out.ext 2
          have ct3 : ∀ x : Ext W, x.wd.cell? ⟨w1.heap.size, 3, none⟩ = some (.slice A lp.length c) := PT3.out.ext 3
          have cp0 : ∀ x : Ext W, x.wd.cell? ⟨w.heap.size + 1, 0, none⟩ = some (.int .i64 p.idx) := PI3.out.ext 0
          have cp1 : ∀ x : Ext W, x.wd.cell? ⟨w.heap.size + 1, 1, none⟩ = some (.int .i64 p.trm) := PI3.out.ext 1
          have cp2 : ∀ x : Ext W, x.wd.cell? ⟨w.heap.size + 1, 2, none⟩ = some (.int .i64 p.knd) := PI3.out.ext 2
          have CVs := Lib.hid (show ∀ x5 : Ext W, Calls Tryd.prog 9 #[.agg #[.bool true, .int .i64 self, .slice Am ms.length cm, .slice Ar l.length cr]] x5.wd (fun e w' => e = .returned (.bool false) ∧ Below x5.wd.heap.size x5.wd w') from fun x5 => votesB true self ms l Am Ar cm cr _ (HM3.out.later x5.low) (HL3.out.later x5.low))
          have CVt := Lib.hid (show ∀ x5 : Ext W, Calls Tryd.prog 9 #[.agg #[.bool true, .int .i64 self, .slice Am ms.length cm, .slice A lp.length c]] x5.wd (fun e w' => e = .returned (.bool false) ∧ Below x5.wd.heap.size x5.wd w') from fun x5 => votesB true self ms lp Am A cm c _ (HM3.out.later x5.low) (HT3.out.later x5.low))
          have CLs := Lib.hid (show ∀ x5 : Ext W, Calls Tryd.prog 11 #[.agg #[.bool true, .int .i64 self, .slice Am ms.length cm, .slice Ar l.length cr]] x5.wd (fun e w' => e = .returned (.int .i64 10) ∧ Below x5.wd.heap.size x5.wd w') from fun x5 => leads_lost (self := self) (ms := ms) (l := l) ▸ leadsB true self ms l Am Ar cm cr _ (HM3.out.later x5.low) (HL3.out.later x5.low) (errType_later HG3.out x5.low))
          have CLt := Lib.hid (show ∀ x5 : Ext W, Calls Tryd.prog 11 #[.agg #[.bool true, .int .i64 self, .slice Am ms.length cm, .slice A lp.length c]] x5.wd (fun e w' => e = .returned (.int .i64 10) ∧ Below x5.wd.heap.size x5.wd w') from fun x5 => leads_lost (self := self) (ms := ms) (l := lp) ▸ leadsB true self ms lp Am A cm c _ (HM3.out.later x5.low) (HT3.out.later x5.low) (errType_later HG3.out x5.low))
          have CAs := Lib.hid (show ∀ x5 : Ext W, Calls Tryd.prog 15 #[.agg #[.bool true, .int .i64 self, .slice Am ms.length cm, .slice Ar l.length cr], .int .i64 upto] x5.wd (fun e w' => e = .returned (.int .i64 0) ∧ Below x5.wd.heap.size x5.wd w') from fun x5 => acks_lost (l := l) (upto := upto) ▸ acksB true self ms l Am Ar cm cr upto _ (HL3.out.later x5.low))
          have CAt := Lib.hid (show ∀ x5 : Ext W, Calls Tryd.prog 15 #[.agg #[.bool true, .int .i64 self, .slice Am ms.length cm, .slice A lp.length c], .int .i64 upto] x5.wd (fun e w' => e = .returned (.int .i64 0) ∧ Below x5.wd.heap.size x5.wd w') from fun x5 => acks_lost (l := lp) (upto := upto) ▸ acksB true self ms lp Am A cm c upto _ (HT3.out.later x5.low))
          have CWs := Lib.hid (show ∀ x5 : Ext W, Calls Tryd.prog 17 #[.agg #[.bool true, .int .i64 self, .slice Am ms.length cm, .slice Ar l.length cr], .int .i64 from_, .int .i64 upt] x5.wd (fun e w' => e = .returned (.bool false) ∧ Below x5.wd.heap.size x5.wd w') from fun x5 => whole_lost (l := l) (a := from_) (b := upt) ▸ wholeB true self ms l Am Ar cm cr from_ upt _ (HL3.out.later x5.low))
          have CWt := Lib.hid (show ∀ x5 : Ext W, Calls Tryd.prog 17 #[.agg #[.bool true, .int .i64 self, .slice Am ms.length cm, .slice A lp.length c], .int .i64 from_, .int .i64 upt] x5.wd (fun e w' => e = .returned (.bool false) ∧ Below x5.wd.heap.size x5.wd w') from fun x5 => whole_lost (l := lp) (a := from_) (b := upt) ▸ wholeB true self ms lp Am A cm c from_ upt _ (HT3.out.later x5.low))
          have d1 : decide (upto < 0) = false := by simpa using hu
          clear HALL HF HL1 HM1 HL2 HM2 PS PI PT HL HM
          refine wp_region_ext (by kernel_rfl) (by kernel_rfl) ?_
          repeat (go_big_quiet_step ((rename_i x5; have h5 := x5.low; first
            | (go_at_call 15; first | (with_reducible exact ext_of x5 (CAs.out x5)) | (with_reducible exact ext_of x5 (CAt.out x5))))))
          refine wpQuiet_nil ?_
          intro _ hw'
          obtain ⟨x6, hw''⟩ := hw'
          subst hw''
          go_upto_region 13 with fail
          refine wp_region_ext_plain_at x6 ?_
          repeat (go_big_quiet_step ((rename_i x5; have h5 := x5.low; first
            | (go_at_call 9; first | (with_reducible exact ext_of x5 (CVs.out x5)) | (with_reducible exact ext_of x5 (CVt.out x5)))
            | (go_at_call 11; first | (with_reducible exact ext_of x5 (CLs.out x5)) | (with_reducible exact ext_of x5 (CLt.out x5)))
            | (go_at_call 15; first | (with_reducible exact ext_of x5 (CAs.out x5)) | (with_reducible exact ext_of x5 (CAt.out x5)))
            | (go_at_call 17; first | (with_reducible exact ext_of x5 (CWs.out x5)) | (with_reducible exact ext_of x5 (CWt.out x5))))))
          refine wpQuiet_nil ?_
          intro _ hw'
          obtain ⟨x7, hw''⟩ := hw'
          subst hw''
          go_upto_region 16 with fail
          refine wp_region_ext_plain_at x7 ?_
          repeat (go_big_quiet_step ((rename_i x5; have h5 := x5.low; first
            | (go_at_call 9; first | (with_reducible exact ext_of x5 (CVs.out x5)) | (with_reducible exact ext_of x5 (CVt.out x5)))
            | (go_at_call 11; first | (with_reducible exact ext_of x5 (CLs.out x5)) | (with_reducible exact ext_of x5 (CLt.out x5)))
            | (go_at_call 15; first | (with_reducible exact ext_of x5 (CAs.out x5)) | (with_reducible exact ext_of x5 (CAt.out x5)))
            | (go_at_call 17; first | (with_reducible exact ext_of x5 (CWs.out x5)) | (with_reducible exact ext_of x5 (CWt.out x5))))))
          refine wpQuiet_nil ?_
          intro _ hw'
          obtain ⟨x5, hw''⟩ := hw'
          subst hw''
          go_wp2_with fail
          go_ret
          exact ⟨rfl, HB3.out.trans (x5.low.mono (HB3.out.size))⟩
end Go.Proofs.YtaembglohjgkhaaDoor
