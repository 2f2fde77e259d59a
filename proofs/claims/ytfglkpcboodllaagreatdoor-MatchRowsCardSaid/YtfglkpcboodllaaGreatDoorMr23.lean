/-
  limpetref20's End, last, shown, has, below: contracts.
-/
import Derived.Test.YtfglkpcboodllaaGreatDoorMr21
import Derived.Test.YtfglkpcboodllaaGreatDoorMr22
import Derived.Test.YtfglkpcboodllaaGreatDoorMr11
set_option linter.unusedVariables false
set_option linter.unusedSimpArgs false
namespace Go.Proofs.YtfglkpcboodllaaGreatDoor
open Go.RowKit

set_option maxHeartbeats 1000000 in
theorem ref20End (b : Idt) (l : List Idt) (A : Option Addr) (c : Nat) (w : World) (h : Sl 3 idRow w.heap.size w (.slice A l.length c) l) :
    Calls Tryz.prog 24 #[.agg #[.int .i64 b.idx, .int .i64 b.trm, .int .i64 b.knd, .slice A l.length c]] w fun e w' => e = .returned (.agg #[.int .i64 (endV b l).idx, .int .i64 (endV b l).trm, .int .i64 (endV b l).knd]) ∧ Below w.heap.size w w' := by
  obtain ⟨A', cap, hv, hlc, hcm, -, hA⟩ := h
  simp only [Value.slice.injEq] at hv
  obtain ⟨rfl, -, rfl⟩ := hv
  have hn : l.length ≤ 9223372036854775807 := by unfold maxLen at hcm; omega
  clear hcm
  by_cases h0 : l.length = 0
  · have hl0 : l = [] := List.eq_nil_of_length_eq_zero h0
    subst hl0
    clear hA h0
    go_enter Tryz.func24, Tryz.ntmps24
    go_wp2_with fail
    refine bodyPost_ret (v := .agg #[.int .i64 b.idx, .int .i64 b.trm, .int .i64 b.knd]) (by simp [results, Tryz.results24, go_sem]) rfl ⟨rfl, ?_⟩
    first | exact below_call (below_new _ _) (below_new _ _) | (repeat (first | exact Below.refl _ _ | refine Below.alloc ?_ (by simp) _ | refine below_set ?_ (by simp)))
  · obtain ⟨x, hx⟩ : ∃ x, l[l.length - 1]? = some x := ⟨_, List.getElem?_eq_getElem (by omega)⟩
    obtain ⟨bb, off, rfl, hb, hcell⟩ := hA (by intro h; subst h; simp at h0)
    have c0 : w.cell? ⟨bb, off + (l.length - 1) * 3, none⟩ = _ := hcell (l.length - 1) x hx 0 _ rfl
    have c1 := hcell (l.length - 1) x hx 1 _ rfl
    have c2 := hcell (l.length - 1) x hx 2 _ rfl
    have HE := Lib.hid (endV_at (b := b) hx)
    obtain ⟨j, hj⟩ : ∃ j, j = l.length - 1 := ⟨_, rfl⟩
    rw [← hj] at c0 c1 c2
    have e1 : IntKind.i64.wrap ((l.length : Int) - 1) = (j : Int) := by rw [IntWalk.i64_in _ (by omega)]; omega
    have e2 : (l.length : Int) - 1 = (j : Int) := by omega
    have d0 : ((l.length : Int) == 0) = false := by rw [beq_eq_false_iff_ne]; omega
    have i0 : (0 : Int) ≤ (j : Int) := by omega
    have i1 : (j : Int) < (l.length : Int) := by omega
    clear hcell hx hA h0 hj
    go_enter Tryz.func24, Tryz.ntmps24
    go_wp2_with fail
    refine bodyPost_ret (v := .agg #[.int .i64 x.idx, .int .i64 x.trm, .int .i64 x.knd]) (by simp [results, Tryz.results24, go_sem]) rfl ⟨by rw [HE.out], ?_⟩
    first | exact below_call (below_new _ _) (below_new _ _) | (repeat (first | exact Below.refl _ _ | refine Below.alloc ?_ (by simp) _ | refine below_set ?_ (by simp)))


theorem Below.use {B : Nat} {w w' : World} {p : Prop} (h : Below B w w') (f : Below B w w' → w.heap.size ≤ w'.heap.size → p) : p := f h h.size
theorem Box.use2 {w : World} {n : Nat} {cs : Array Value} {t : TypeId} {p : Prop} (h : Box w n cs t) (f : (∀ i, w.cell? ⟨n, i, none⟩ = cs[i]?) → (∀ i, w.frozen? ⟨n, i, none⟩ = false) → n < w.heap.size → Box w n cs t → p) : p := f h.cell h.free h.lt h
theorem atG {b : Idt} {l : List Idt} {i : Int} {w w' : World} {e : Ending} (hp : AtPost b l i w e w') : e = .returned (.tuple #[.agg #[.int .i64 (atP (atV b l i)).idx, .int .i64 (atP (atV b l i)).trm, .int .i64 (atP (atV b l i)).knd], .bool (atV b l i).isSome]) ∧ Below w.heap.size w w' := by
  unfold AtPost at hp
  cases h : atV b l i with
  | none => rw [h] at hp; exact hp
  | some p => rw [h] at hp; exact hp

set_option maxHeartbeats 1000000 in
theorem ref20Last (b : Idt) (l : List Idt) (A : Option Addr) (c : Nat) (w : World) (h0 : -9223372036854775808 ≤ b.idx + (l.length : Int)) (h1 : b.idx + (l.length : Int) ≤ 9223372036854775807) :
    Calls Tryz.prog 84 #[.agg #[.int .i64 b.idx, .int .i64 b.trm, .int .i64 b.knd, .slice A l.length c]] w fun e w' => e = .returned (.int .i64 (lastI b l)) ∧ Below w.heap.size w w' := by
  have w1 : wrap64 (b.idx + (l.length : Int)) = b.idx + (l.length : Int) := by unfold wrap64; omega
  have w2 : IntKind.i64.wrap (b.idx + (l.length : Int)) = b.idx + (l.length : Int) := IntWalk.i64_in _ (by omega)
  go_enter Tryz.func84, Tryz.ntmps84
  go_wp2_with fail
  go_ret
  exact ⟨rfl, below_new _ _⟩

set_option maxRecDepth 100000 in
set_option maxHeartbeats 4000000 in
theorem ref20Shown (b : Idt) (l : List Idt) (A : Option Addr) (c : Nat) (es : List Ent) (Ae : Option Addr) (ce : Nat) (a : Int) (w : World) (h : Sl 3 idRow w.heap.size w (.slice A l.length c) l) (he : Sl 4 entRow w.heap.size w (.slice Ae es.length ce) es) (hb : I64 b.idx) (hix : ∀ x ∈ es, I64 x.idx) :
    Calls Tryz.prog 85 #[.agg #[.int .i64 b.idx, .int .i64 b.trm, .int .i64 b.knd, .slice A l.length c], .slice Ae es.length ce, .int .i64 a] w fun e w' => e = .returned (.bool (shownR b l es a)) ∧ Below w.heap.size w w' := by
  have HX0 := Lib.hid (Box.new w #[.int .i64 b.idx, .int .i64 b.trm, .int .i64 b.knd, .slice A l.length c] 48)
  have HB0 := Lib.hid (below_new w (.cells #[.int .i64 b.idx, .int .i64 b.trm, .int .i64 b.knd, .slice A l.length c] 48))
  obtain ⟨gv, hgv⟩ : ∃ g, g = w.heap.size := ⟨_, rfl⟩
  obtain ⟨W, hW⟩ : ∃ W, W = w.alloc (.cells #[.int .i64 b.idx, .int .i64 b.trm, .int .i64 b.knd, .slice A l.length c] 48) := ⟨_, rfl⟩
  have HE := Lib.hid hW
  have HN := Lib.hid hgv
  rw [← hgv, ← hW] at HX0
  rw [← hW] at HB0
  have HSs := Lib.hid (show Sl 3 idRow W.heap.size W (.slice A l.length c) l from h.later HB0.out)
  have HEs := Lib.hid (show Sl 4 entRow W.heap.size W (.slice Ae es.length ce) es from he.later HB0.out)
  have HBb := hb
  have HIX := Lib.hid hix
  obtain ⟨Ae', ce', hve, hec, hem, -, -⟩ := id he
  simp only [Value.slice.injEq] at hve
  obtain ⟨rfl, -, rfl⟩ := hve
  have hln : es.length ≤ 9223372036854775807 := by unfold maxLen at hem; omega
  clear h he hW hgv hix hb hec hem
  go_enter Tryz.func85, Tryz.ntmps85
  go_wp2_with fail
  rw [← HE.out, ← HN.out]
  go_loopw [7] (fun i wr => ∃ k : Nat, k ≤ es.length ∧ i = .int .i64 (k : Int) ∧ shownR b l (es.take k) a = false ∧ Below W.heap.size W wr) (fun i _ => es.length - (intOf i).toNat)
  case atStart => exact ⟨0, by omega, rfl, by simp [shownR], Below.refl _ _⟩
  case round =>
    obtain ⟨k, hk, rfl, hsh, hB⟩ := hrel
    have HB := Lib.hid hB
    have HS := Lib.hid hsh
    clear hB hsh
    have i0 : (0 : Int) ≤ (k : Int) := by omega
    by_cases hlt : k < es.length
    · have i1 : (k : Int) < (es.length : Int) := by omega
      have d0 : decide ((k : Int) < (es.length : Int)) = true := decide_eq_true i1
      have d0' : decide (k < es.length) = true := decide_eq_true hlt
      obtain ⟨x, hxx⟩ : ∃ x, es[k]? = some x := ⟨_, List.getElem?_eq_getElem hlt⟩
      obtain ⟨eb, off, cap3, e3, hlc3, hcm3, hb3, hcell⟩ := (HEs.out.later HB.out).cellAt (by intro h; subst h; simp at hlt)
      simp only [Value.slice.injEq] at e3
      obtain ⟨rfl, -, rfl⟩ := e3
      have HI := HIX.out x (List.mem_of_getElem? hxx)
      have HXr := Lib.hid (HX0.out.later HB.out)
      have HSr := Lib.hid (HSs.out.later HB.out)
      have HCE : Hid (∀ w', Below wr.heap.size wr w' → w'.cell? ⟨eb, off + k * 4, none⟩ = some (.int .i64 x.idx) ∧ w'.cell? ⟨eb, off + k * 4 + 1, none⟩ = some (.int .i64 x.trm)) := fun w' q => ⟨(q.cell (p := ⟨eb, off + k * 4 + 0, none⟩) hb3).trans (hcell k x hxx 0 _ rfl), (q.cell (p := ⟨eb, off + k * 4 + 1, none⟩) hb3).trans (hcell k x hxx 1 _ rfl)⟩
      have HF : Hid (∀ w', Below wr.heap.size wr w' → w'.cell? ⟨gv, 0, none⟩ = some (.int .i64 b.idx) ∧ w'.cell? ⟨gv, 1, none⟩ = some (.int .i64 b.trm) ∧ w'.cell? ⟨gv, 2, none⟩ = some (.int .i64 b.knd) ∧ w'.cell? ⟨gv, 3, none⟩ = some (.slice A l.length c) ∧ w'.cell? ⟨eb, off + k * 4, none⟩ = some (.int .i64 x.idx) ∧ Below wr.heap.size wr w') := fun w' q => ⟨(HXr.out.later q).cell 0, (HXr.out.later q).cell 1, (HXr.out.later q).cell 2, (HXr.out.later q).cell 3, (HCE.out w' q).1, q⟩
      obtain ⟨q, hq⟩ : ∃ q, atP (atV b l x.idx) = q := ⟨_, rfl⟩
      obtain ⟨s, hs⟩ : ∃ s, (atV b l x.idx).isSome = s := ⟨_, rfl⟩
      have HAT : Hid (∀ w1 w2 e, AtPost b l x.idx w1 e w2 → e = .returned (.tuple #[.agg #[.int .i64 q.idx, .int .i64 q.trm, .int .i64 q.knd], .bool s]) ∧ Below w1.heap.size w1 w2) := fun w1 w2 e hp => by have h := atG hp; rw [hq, hs] at h; exact h
      have HCND : Hid ((decide (a < x.idx) && showsE b l x) = (decide (a < x.idx) && (decide (b.idx < x.idx) && (s && (q.trm == x.trm))))) := by
        unfold showsE
        cases ha : atV b l x.idx with
        | none => rw [ha] at hs; simp only [Option.isSome_none] at hs; subst hs; simp; exact trivial
        | some p =>
          rw [ha] at hs hq
          simp only [Option.isSome_some, atP, Option.getD_some] at hs hq
          subst hs; subst hq
          simp only [Bool.true_and]
          rw [Bool.and_comm (decide (p.trm = x.trm))]
          rfl
      have HXX := Lib.hid hxx
      clear hcell hxx hq hs
      go_upto_region 4 with fail
      go_cut [8, 9] (fun pv sv wx => ∃ gi, pv = .pointer (some ⟨gi, 0, none⟩) ∧ sv = .bool s ∧ Box wx gi #[.int .i64 q.idx, .int .i64 q.trm, .int .i64 q.knd] 25 ∧ Below wr.heap.size wr wx)
      case first =>
        go_region_held3 (fun w' => w'.cell? ⟨gv, 0, none⟩ = some (.int .i64 b.idx) ∧ w'.cell? ⟨gv, 1, none⟩ = some (.int .i64 b.trm) ∧ w'.cell? ⟨gv, 2, none⟩ = some (.int .i64 b.knd) ∧ w'.cell? ⟨gv, 3, none⟩ = some (.slice A l.length c) ∧ w'.cell? ⟨eb, off + k * 4, none⟩ = some (.int .i64 x.idx) ∧ Below wr.heap.size wr w')
          (first | (refine HF.out _ ?_; ((repeat (first | (with_reducible refine Below.drew ?_) | (with_reducible refine Below.alloc ?_ (by first | omega | (simp; done) | (simp; omega)) _) | (with_reducible refine below_set ?_ (by first | omega | (simp; done) | (simp; omega))))); first | exact PA | exact Below.refl _ _)))
          (first | (go_at_call 20; (with_reducible refine (ref20At b l A c x.idx _ (HSr.out.later ?_) HBb HI).mono ?_); (focus (((repeat (first | (with_reducible refine Below.drew ?_) | (with_reducible refine Below.alloc ?_ (by first | omega | (simp; done) | (simp; omega)) _) | (with_reducible refine below_set ?_ (by first | omega | (simp; done) | (simp; omega))))); first | exact PA | exact Below.refl _ _))); rintro e wl hp; obtain ⟨rfl, hbl⟩ := HAT.out _ _ _ hp; (refine Below.use (w := wr) (w' := wl) (B := wr.heap.size) ?_ ?_); (focus (refine below_call ?_ hbl; ((repeat (first | (with_reducible refine Below.drew ?_) | (with_reducible refine Below.alloc ?_ (by first | omega | (simp; done) | (simp; omega)) _) | (with_reducible refine below_set ?_ (by first | omega | (simp; done) | (simp; omega))))); first | exact PA | exact Below.refl _ _))); intro PA hz; (first | (refine Box.use2 (w := wl) (n := wr.heap.size) (cs := #[.int .i64 0, .int .i64 0, .int .i64 0]) (t := 25) ?_ ?_; (focus (refine Box.later ?_ hbl; exact Box.new wr #[.int .i64 0, .int .i64 0, .int .i64 0] 25)); intro kx fx zx bx) | skip)))
        all_goals (go_wp2_with fail; go_meet)
        all_goals first
          | exact ⟨wr.heap.size, rfl, rfl, Box.set3 bx _ _ _, below_set (below_set (below_set PA (Nat.le_refl _)) (Nat.le_refl _)) (Nat.le_refl _)⟩
          | exact ⟨wl.heap.size, rfl, rfl, Box.new _ _ _, PA.alloc hz _⟩
      case rest =>
        obtain ⟨gi, rfl, rfl, hbi, hBc⟩ := hcut
        have HXc := Lib.hid (HXr.out.later hBc)
        have HBc := Lib.hid hBc
        have ka0 : ∀ zw : Ext wc, zw.wd.cell? ⟨gv, 0, none⟩ = some (.int .i64 b.idx) := HXc.out.ext 0
        have ke0 : ∀ zw : Ext wc, zw.wd.cell? ⟨eb, off + k * 4, none⟩ = some (.int .i64 x.idx) := fun zw => (HCE.out zw.wd (below_call HBc.out zw.low)).1
        have ke1 : ∀ zw : Ext wc, zw.wd.cell? ⟨eb, off + k * 4 + 1, none⟩ = some (.int .i64 x.trm) := fun zw => (HCE.out zw.wd (below_call HBc.out zw.low)).2
        have ki1 : ∀ zw : Ext wc, zw.wd.cell? ⟨gi, 1, none⟩ = some (.int .i64 q.trm) := hbi.ext 1
        clear hbi hBc
        by_cases c1 : a < x.idx
        · have g1 : decide (a < x.idx) = true := decide_eq_true c1
          by_cases c2 : b.idx < x.idx
          · have g2 : decide (b.idx < x.idx) = true := decide_eq_true c2
            cases s with
            | true =>
              by_cases c3 : q.trm = x.trm
              · have g3 : (q.trm == x.trm) = true := by simpa using c3
                have HYE : Hid ((decide (a < x.idx) && showsE b l x) = true) := by rw [HCND.out]; simp [g1, g2, g3]; exact trivial
                clear c1 c2 c3
                go_upto_region 5 with fail
                refine wp_region_ext (by kernel_rfl) (by kernel_rfl) ?_
                repeat (go_big_quiet_step (fail))
                refine wpQuiet_nil ?_
                intro _ hw'
                obtain ⟨x9, hw''⟩ := hw'
                subst hw''
                go_wp2_with fail
                go_ret
                exact ⟨ret_bool (shownR_stop HXX.out HYE.out).symm, below_call HB0.out (below_call HB.out (below_call HBc.out x9.low))⟩
              · have g3 : (q.trm == x.trm) = false := by simpa using c3
                have HNO : Hid ((decide (a < x.idx) && showsE b l x) = false) := by rw [HCND.out]; simp [g3]; exact trivial
                clear c1 c2 c3
                go_upto_region 5 with fail
                refine wp_region_ext (by kernel_rfl) (by kernel_rfl) ?_
                repeat (go_big_quiet_step (fail))
                refine wpQuiet_nil ?_
                intro _ hw'
                obtain ⟨x9, hw''⟩ := hw'
                subst hw''
                go_wp2_with fail
                go_roundw
                case rel => exact ⟨k + 1, by omega, by go_num, shownR_step HXX.out HNO.out HS.out, below_call HB.out (below_call HBc.out x9.low)⟩
                case measure => simp [intOf]; omega
            | false =>
              have HNO : Hid ((decide (a < x.idx) && showsE b l x) = false) := by rw [HCND.out]; simp; exact trivial
              clear c1 c2
              go_upto_region 5 with fail
              refine wp_region_ext (by kernel_rfl) (by kernel_rfl) ?_
              repeat (go_big_quiet_step (fail))
              refine wpQuiet_nil ?_
              intro _ hw'
              obtain ⟨x9, hw''⟩ := hw'
              subst hw''
              go_wp2_with fail
              go_roundw
              case rel => exact ⟨k + 1, by omega, by go_num, shownR_step HXX.out HNO.out HS.out, below_call HB.out (below_call HBc.out x9.low)⟩
              case measure => simp [intOf]; omega
          · have g2 : decide (b.idx < x.idx) = false := decide_eq_false c2
            have HNO : Hid ((decide (a < x.idx) && showsE b l x) = false) := by rw [HCND.out]; simp [g2]; exact trivial
            clear c1 c2
            go_upto_region 5 with fail
            refine wp_region_ext (by kernel_rfl) (by kernel_rfl) ?_
            repeat (go_big_quiet_step (fail))
            refine wpQuiet_nil ?_
            intro _ hw'
            obtain ⟨x9, hw''⟩ := hw'
            subst hw''
            go_wp2_with fail
            go_roundw
            case rel => exact ⟨k + 1, by omega, by go_num, shownR_step HXX.out HNO.out HS.out, below_call HB.out (below_call HBc.out x9.low)⟩
            case measure => simp [intOf]; omega
        · have g1 : decide (a < x.idx) = false := decide_eq_false c1
          have HNO : Hid ((decide (a < x.idx) && showsE b l x) = false) := by rw [HCND.out]; simp [g1]; exact trivial
          clear c1
          go_upto_region 5 with fail
          refine wp_region_ext (by kernel_rfl) (by kernel_rfl) ?_
          repeat (go_big_quiet_step (fail))
          refine wpQuiet_nil ?_
          intro _ hw'
          obtain ⟨x9, hw''⟩ := hw'
          subst hw''
          go_wp2_with fail
          go_roundw
          case rel => exact ⟨k + 1, by omega, by go_num, shownR_step HXX.out HNO.out HS.out, below_call HB.out (below_call HBc.out x9.low)⟩
          case measure => simp [intOf]; omega
    · have d0 : decide ((k : Int) < (es.length : Int)) = false := decide_eq_false (by omega)
      have d0' : decide (k < es.length) = false := decide_eq_false hlt
      have hke : k = es.length := by omega
      have HFN := Lib.hid (show shownR b l es a = false by have h := HS.out; rw [hke, List.take_length] at h; exact h)
      clear hke
      go_wp2_with fail
      go_ret
      exact ⟨ret_bool HFN.out.symm, below_call HB0.out HB.out⟩

set_option maxRecDepth 100000 in
set_option maxHeartbeats 4000000 in
theorem ref20Has (b : Idt) (l : List Idt) (A : Option Addr) (c : Nat) (es : List Ent) (Ae : Option Addr) (ce : Nat) (x : Ent) (w : World) (h : Sl 3 idRow w.heap.size w (.slice A l.length c) l) (he : Sl 4 entRow w.heap.size w (.slice Ae es.length ce) es) (hb : I64 b.idx) (hix : ∀ x ∈ es, I64 x.idx) (hx : I64 x.idx) (h0 : -9223372036854775808 ≤ b.idx + (l.length : Int)) (h1 : b.idx + (l.length : Int) ≤ 9223372036854775807) :
    Calls Tryz.prog 87 #[.agg #[.int .i64 b.idx, .int .i64 b.trm, .int .i64 b.knd, .slice A l.length c], .agg #[.int .i64 x.idx, .int .i64 x.trm, .int .i64 x.knd, .slice x.ba x.bd.length x.bc], .slice Ae es.length ce] w fun e w' => e = .returned (.int .i64 (hasR b l es x.idx x.trm)) ∧ Below w.heap.size w w' := by
  have BW : Below w.heap.size w ((w.alloc (.cells #[.int .i64 b.idx, .int .i64 b.trm, .int .i64 b.knd, .slice A l.length c] 48)).alloc (.cells #[.int .i64 x.idx, .int .i64 x.trm, .int .i64 x.knd, .slice x.ba x.bd.length x.bc] 28)) := below_call (below_new _ _) (below_new _ _)
  have HX0 := Lib.hid ((Box.new w #[.int .i64 b.idx, .int .i64 b.trm, .int .i64 b.knd, .slice A l.length c] 48).alloc (.cells #[.int .i64 x.idx, .int .i64 x.trm, .int .i64 x.knd, .slice x.ba x.bd.length x.bc] 28))
  have HX1 := Lib.hid (Box.new (w.alloc (.cells #[.int .i64 b.idx, .int .i64 b.trm, .int .i64 b.knd, .slice A l.length c] 48)) #[.int .i64 x.idx, .int .i64 x.trm, .int .i64 x.knd, .slice x.ba x.bd.length x.bc] 28)
  rw [World.size_alloc] at HX1
  obtain ⟨W, hW⟩ : ∃ W, W = (w.alloc (.cells #[.int .i64 b.idx, .int .i64 b.trm, .int .i64 b.knd, .slice A l.length c] 48)).alloc (.cells #[.int .i64 x.idx, .int .i64 x.trm, .int .i64 x.knd, .slice x.ba x.bd.length x.bc] 28) := ⟨_, rfl⟩
  have HE := Lib.hid hW
  rw [← hW] at HX0 HX1 BW
  have HB0 := Lib.hid BW
  have HSs := Lib.hid (h.later BW)
  have HEs := Lib.hid (he.later BW)
  have HIX := Lib.hid hix
  obtain ⟨q, hq⟩ : ∃ q, atP (atV b l x.idx) = q := ⟨_, rfl⟩
  obtain ⟨s, hs⟩ : ∃ s, (atV b l x.idx).isSome = s := ⟨_, rfl⟩
  have HAT : Hid (∀ w1 w2 e, AtPost b l x.idx w1 e w2 → e = .returned (.tuple #[.agg #[.int .i64 q.idx, .int .i64 q.trm, .int .i64 q.knd], .bool s]) ∧ Below w1.heap.size w1 w2) := fun w1 w2 e hp => by have h := atG hp; rw [hq, hs] at h; exact h
  obtain ⟨sw, hsw⟩ : ∃ sw, shownR b l es x.idx = sw := ⟨_, rfl⟩
  have HSW := Lib.hid hsw
  have HHAS : Hid (hasR b l es x.idx x.trm = if lastI b l < x.idx then 3 else if s = true then (if q.trm = x.trm then 1 else 2) else if sw = true then 1 else 4) := by
    unfold hasR
    cases ha : atV b l x.idx with
    | none => rw [ha] at hs; simp only [Option.isSome_none] at hs; subst hs; rw [hsw]; simp; exact trivial
    | some p =>
      rw [ha] at hs hq
      simp only [Option.isSome_some, atP, Option.getD_some] at hs hq
      subst hs; subst hq; simp; exact trivial
  obtain ⟨k0, f0, z0⟩ := HX0.out.facts
  obtain ⟨k1, f1, z1⟩ := HX1.out.facts
  clear h he hix hq hs hsw hW BW
  go_enter Tryz.func87, Tryz.ntmps87
  go_upto_region 1 with fail
  rw [← HE.out]
  go_upto_region 2 with (go_at_call 20; (with_reducible refine (ref20At b l A c x.idx _ HSs.out hb hx).mono ?_); rintro e wl hp; obtain ⟨rfl, hbl⟩ := HAT.out _ _ _ hp; have HBl := Lib.hid hbl; clear hp hbl)
  obtain ⟨V, hV⟩ : ∃ V, V = wl.alloc (.cells #[.int .i64 q.idx, .int .i64 q.trm, .int .i64 q.knd] 25) := ⟨_, rfl⟩
  have HXq := Lib.hid (show Box V wl.heap.size #[.int .i64 q.idx, .int .i64 q.trm, .int .i64 q.knd] 25 by rw [hV]; exact Box.new _ _ _)
  have HBV := Lib.hid (show Below W.heap.size W V by rw [hV]; exact below_call HBl.out (below_new _ _))
  rw [← hV]
  obtain ⟨gq, hgq⟩ : ∃ g, g = wl.heap.size := ⟨_, rfl⟩
  rw [← hgq] at HXq
  rw [← hgq]
  clear hV hgq k0 f0 z0 k1 f1 z1
  have HXv := Lib.hid (HX0.out.later HBV.out)
  have HXe := Lib.hid (HX1.out.later HBV.out)
  have a0 : ∀ zw : Ext V, zw.wd.cell? ⟨w.heap.size, 0, none⟩ = some (.int .i64 b.idx) := HXv.out.ext 0
  have a1 : ∀ zw : Ext V, zw.wd.cell? ⟨w.heap.size, 1, none⟩ = some (.int .i64 b.trm) := HXv.out.ext 1
  have a2 : ∀ zw : Ext V, zw.wd.cell? ⟨w.heap.size, 2, none⟩ = some (.int .i64 b.knd) := HXv.out.ext 2
  have a3 : ∀ zw : Ext V, zw.wd.cell? ⟨w.heap.size, 3, none⟩ = some (.slice A l.length c) := HXv.out.ext 3
  have a4 : ∀ zw : Ext V, zw.wd.cell? ⟨w.heap.size + 1, 0, none⟩ = some (.int .i64 x.idx) := HXe.out.ext 0
  by_cases c1 : lastI b l < x.idx
  · have g1 : decide (lastI b l < x.idx) = true := decide_eq_true c1
    have HR := Lib.hid (HHAS.out.trans (if_pos c1))
    clear c1
    refine wp_region_ext (by kernel_rfl) (by kernel_rfl) ?_
    repeat (go_big_quiet_step ((rename_i x5; have h5 := x5.low; first
      | (go_at_call 84; exact ext_of x5 (ref20Last b l A c x5.wd h0 h1)))))
    refine wpQuiet_nil ?_
    intro _ hw'
    obtain ⟨x9, hw''⟩ := hw'
    subst hw''
    have HBX := Lib.hid (below_call HBV.out x9.low)
    obtain ⟨X, hX⟩ : ∃ X, X = x9.wd := ⟨_, rfl⟩
    rw [← hX] at HBX
    have HQX := Lib.hid (show Box X gq #[.int .i64 q.idx, .int .i64 q.trm, .int .i64 q.knd] 25 by rw [hX]; exact HXq.out.later x9.low)
    rw [← hX]
    clear hX a0 a1 a2 a3 a4
    obtain ⟨k0, f0, z0⟩ := (HX0.out.later HBX.out).facts
    obtain ⟨k1, f1, z1⟩ := (HX1.out.later HBX.out).facts
    obtain ⟨k2, f2, z2⟩ := HQX.out.facts
    go_wp2_with fail
    go_ret
    exact ⟨ret_int HR.out.symm, below_call HB0.out HBX.out⟩
  have g1 : decide (lastI b l < x.idx) = false := decide_eq_false c1
  have HHAS2 := Lib.hid (HHAS.out.trans (if_neg c1))
  clear c1
  refine wp_region_ext (by kernel_rfl) (by kernel_rfl) ?_
  repeat (go_big_quiet_step ((rename_i x5; have h5 := x5.low; first
    | (go_at_call 84; exact ext_of x5 (ref20Last b l A c x5.wd h0 h1)))))
  refine wpQuiet_nil ?_
  intro _ hw'
  obtain ⟨x9, hw''⟩ := hw'
  subst hw''
  have HBX := Lib.hid (below_call HBV.out x9.low)
  obtain ⟨X, hX⟩ : ∃ X, X = x9.wd := ⟨_, rfl⟩
  rw [← hX] at HBX
  have HQX := Lib.hid (show Box X gq #[.int .i64 q.idx, .int .i64 q.trm, .int .i64 q.knd] 25 by rw [hX]; exact HXq.out.later x9.low)
  rw [← hX]
  clear hX a0 a1 a2 a3 a4
  obtain ⟨k0, f0, z0⟩ := (HX0.out.later HBX.out).facts
  obtain ⟨k1, f1, z1⟩ := (HX1.out.later HBX.out).facts
  obtain ⟨k2, f2, z2⟩ := HQX.out.facts
  cases s with
  | true =>
    by_cases c3 : q.trm = x.trm
    · have g3 : (q.trm == x.trm) = true := by simpa using c3
      have HR := Lib.hid (HHAS2.out.trans ((if_pos rfl).trans (if_pos c3)))
      clear c3
      go_wp2_with fail
      go_ret
      exact ⟨ret_int HR.out.symm, below_call HB0.out HBX.out⟩
    · have g3 : (q.trm == x.trm) = false := by simpa using c3
      have HR := Lib.hid (HHAS2.out.trans ((if_pos rfl).trans (if_neg c3)))
      clear c3
      go_wp2_with fail
      go_ret
      exact ⟨ret_int HR.out.symm, below_call HB0.out HBX.out⟩
  | false =>
    have HSHO := Lib.hid (show ∀ v, Below W.heap.size W v → Calls Tryz.prog 85 #[.agg #[.int .i64 b.idx, .int .i64 b.trm, .int .i64 b.knd, .slice A l.length c], .slice Ae es.length ce, .int .i64 x.idx] v (fun e w' => e = .returned (.bool sw) ∧ Below v.heap.size v w') from fun v hv => by have h := ref20Shown b l A c es Ae ce x.idx v (HSs.out.later hv) (HEs.out.later hv) hb HIX.out; rw [HSW.out] at h; exact h)
    cases sw with
    | true =>
      have HR := Lib.hid (HHAS2.out.trans ((if_neg (by simp)).trans (if_pos rfl)))
      go_wp2_with (go_at_call 85; (with_reducible refine (HSHO.out X HBX.out).mono ?_); rintro e w9 ⟨rfl, hb9⟩)
      go_ret
      exact ⟨ret_int HR.out.symm, below_call HB0.out (below_call HBX.out hb9)⟩
    | false =>
      have HR := Lib.hid (HHAS2.out.trans ((if_neg (by simp)).trans (if_neg (by simp))))
      go_wp2_with (go_at_call 85; (with_reducible refine (HSHO.out X HBX.out).mono ?_); rintro e w9 ⟨rfl, hb9⟩)
      go_ret
      exact ⟨ret_int HR.out.symm, below_call HB0.out (below_call HBX.out hb9)⟩

set_option maxRecDepth 100000 in
set_option maxHeartbeats 2000000 in
theorem ref20Below (b : Idt) (l : List Idt) (A : Option Addr) (c : Nat) (w : World) (i : Int) (h : Sl 3 idRow w.heap.size w (.slice A l.length c) l) (hb : I64 b.idx) (hi : I64 i) (hbi : b.idx < i) :
    Calls Tryz.prog 86 #[.agg #[.int .i64 b.idx, .int .i64 b.trm, .int .i64 b.knd, .slice A l.length c], .int .i64 i] w fun e w' => e = .returned (.int .i64 (hintV b l i)) ∧ Below w.heap.size w w' := by
  have HXx := Lib.hid (Box.new w #[.int .i64 b.idx, .int .i64 b.trm, .int .i64 b.knd, .slice A l.length c] 48)
  have HB0 := Lib.hid (below_new w (.cells #[.int .i64 b.idx, .int .i64 b.trm, .int .i64 b.knd, .slice A l.length c] 48))
  obtain ⟨gv, hgv⟩ : ∃ g, g = w.heap.size := ⟨_, rfl⟩
  obtain ⟨W, hW⟩ : ∃ W, W = w.alloc (.cells #[.int .i64 b.idx, .int .i64 b.trm, .int .i64 b.knd, .slice A l.length c] 48) := ⟨_, rfl⟩
  have HE := Lib.hid hW
  have HN := Lib.hid hgv
  rw [← hgv, ← hW] at HXx
  rw [← hW] at HB0
  have HSs := Lib.hid (show Sl 3 idRow W.heap.size W (.slice A l.length c) l from h.later HB0.out)
  have hb' := id hb
  have hi' := id hi
  unfold I64 at hb' hi'
  have w0 : wrap64 (i - 1) = i - 1 := by unfold wrap64; omega
  clear h hW hgv
  go_enter Tryz.func86, Tryz.ntmps86
  go_wp2_with fail
  rw [← HE.out, ← HN.out]
  go_loopw [5] (fun v wr => ∃ n : Nat, v = .int .i64 (b.idx + (n : Int)) ∧ b.idx + (n : Int) < i ∧ hintV b l i = hintN b l n ∧ Below W.heap.size W wr) (fun v _ => (intOf v - b.idx).toNat)
  case atStart => exact ⟨(i - b.idx - 1).toNat, by congr 1; omega, by omega, rfl, Below.refl _ _⟩
  case round =>
    obtain ⟨n, rfl, hn, hh, hB⟩ := hrel
    have HB := Lib.hid hB
    have HH := Lib.hid hh
    obtain ⟨kz, fz, zz⟩ := (HXx.out.later hB).facts
    clear hB hh
    cases n with
    | zero =>
      have d0 : decide (b.idx < b.idx + ((0 : Nat) : Int)) = false := decide_eq_false (by omega)
      have d1 : decide (b.idx < b.idx) = false := decide_eq_false (by omega)
      go_wp2_with fail
      go_ret
      refine ⟨?_, below_call HB0.out HB.out⟩
      rw [HH.out]; simp [hintN]
    | succ n =>
      have hn1 : b.idx < b.idx + ((n + 1 : Nat) : Int) := by omega
      obtain ⟨z, hz⟩ : ∃ z : Int, b.idx + ((n + 1 : Nat) : Int) = z := ⟨_, rfl⟩
      have HZ := Lib.hid hz
      rw [hz] at hn hn1
      rw [hz]
      have d0 : decide (b.idx < z) = true := decide_eq_true hn1
      have w2 : wrap64 (z - 1) = z - 1 := by unfold wrap64; omega
      have HI : I64 z := by unfold I64; omega
      cases ha : atV b l z with
      | some p =>
        have HA := Lib.hid ha
        clear ha hz
        go_wp2_with (go_at_call 20; refine (ref20At b l A c z _ (HSs.out.later HB.out) hb HI).mono ?_; rintro e w2 hp; obtain ⟨rfl, hb2⟩ := atS HA.out hp; clear hp)
        go_ret
        refine ⟨?_, below_call HB0.out (below_call HB.out (below_call hb2 (below_new _ _)))⟩
        have hza : (atV b l (b.idx + (n : Int) + 1)).isSome = true := by rw [show b.idx + (n : Int) + 1 = z by have := HZ.out; omega, HA.out]; rfl
        rw [HH.out, hintN, if_pos hza]
        have hzz := HZ.out
        rw [show z = b.idx + (n : Int) + 1 from by rw [← hzz]; push_cast; omega]
        rfl
      | none =>
        have HA := Lib.hid ha
        clear ha hz
        go_wp2_with (go_at_call 20; refine (ref20At b l A c z _ (HSs.out.later HB.out) hb HI).mono ?_; rintro e w2 hp; obtain ⟨rfl, hb2⟩ := atN HA.out hp; clear hp)
        go_roundw
        case rel =>
          have hza : ¬ (atV b l (b.idx + (n : Int) + 1)).isSome = true := by rw [show b.idx + (n : Int) + 1 = z by have := HZ.out; omega, HA.out]; simp
          have := HZ.out
          refine ⟨n, by congr 1; omega, by omega, ?_, below_call HB.out (below_call hb2 (below_new _ _))⟩
          rw [HH.out, hintN, if_neg hza]
        case measure => simp [intOf]; omega
end Go.Proofs.YtfglkpcboodllaaGreatDoor
