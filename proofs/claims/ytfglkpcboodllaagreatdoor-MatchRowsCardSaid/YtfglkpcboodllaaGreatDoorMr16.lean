/-
  match's show: contract.
-/
import Derived.Test.YtfglkpcboodllaaGreatDoorMr15
set_option linter.unusedVariables false
set_option linter.unusedSimpArgs false
namespace Go.Proofs.YtfglkpcboodllaaGreatDoor
open Go.RowKit

theorem Sl.but {α : Type} {k : Nat} {row : α → List Value} {w w' : World} {v : Value} {l : List α} {g : Nat} (h : Sl k row w.heap.size w v l) (hb : But g w w') (hg : ∀ b off n c, v = .slice (some ⟨b, off, none⟩) n c → l ≠ [] → b ≠ g) : Sl k row w'.heap.size w' v l := by
  obtain ⟨A, cap, hv, h1, h2, h0, h3⟩ := h
  refine ⟨A, cap, hv, h1, h2, h0, fun hl => ?_⟩
  obtain ⟨b, off, hA, hb', hc⟩ := h3 hl
  refine ⟨b, off, hA, Nat.lt_of_lt_of_le hb' hb.2.2.2.1, fun i x hx j u hu => ?_⟩
  exact (World.cell?_of_block (a := ⟨b, off + i * k + j, none⟩) (hb.2.2.2.2 b hb' (hg b off _ _ (by rw [hv, hA]) hl))).trans (hc i x hx j u hu)

set_option maxRecDepth 100000 in
set_option maxHeartbeats 8000000 in
theorem fitShow (b : Idt) (l : List Idt) (A : Option Addr) (c : Nat) (es : List Ent) (Ae : Option Addr) (ce : Nat) (gf : Nat) (w0 w : World) (hx : Box w gf #[.int .i64 b.idx, .int .i64 b.trm, .int .i64 b.knd, .slice A l.length c, .slice Ae es.length ce, .int .i64 (0)] 111) (h : Sl 3 idRow gf w (.slice A l.length c) l) (he : Sl 4 entRow gf w (.slice Ae es.length ce) es) (hb : I64 b.idx) (hix : ∀ x ∈ es, I64 x.idx) :
    Calls Tryz.prog 79 #[.pointer (some ⟨gf, 0, none⟩)] w fun e w' => e = .returned (.tuple #[]) ∧ Box w' gf #[.int .i64 b.idx, .int .i64 b.trm, .int .i64 b.knd, .slice A l.length c, .slice Ae es.length ce, .int .i64 (shownV b l 0 es)] 111 ∧ But gf w w' := by
  have HXx := Lib.hid hx
  have HSs := Lib.hid h
  have HEs := Lib.hid he
  have HBb := hb
  have HIX := Lib.hid hix
  have hn : es.length ≤ 9223372036854775807 := by obtain ⟨_, _, _, h1, h2, _⟩ := id he; unfold maxLen at h2; omega
  obtain ⟨kx, fx, zx⟩ := hx.facts
  clear hx h he hix
  go_enter Tryz.func79, Tryz.ntmps79
  go_wp2_with fail
  go_loopw [11] (fun i wr => ∃ k : Nat, k ≤ es.length ∧ i = .int .i64 k ∧ Box wr gf #[.int .i64 b.idx, .int .i64 b.trm, .int .i64 b.knd, .slice A l.length c, .slice Ae es.length ce, .int .i64 (shownV b l 0 (es.take k))] 111 ∧ But gf w wr) (fun i _ => es.length - (intOf i).toNat)
  case atStart => exact ⟨0, by omega, rfl, HXx.out, But.refl _ _⟩
  case round =>
    clear kx fx zx
    obtain ⟨k, hk, rfl, hXr, hBr⟩ := hrel
    have HXr := Lib.hid hXr
    have HBr := Lib.hid hBr
    by_cases hlt : k < es.length
    · have hbel : Below gf w wr := hBr.below (Nat.le_refl _) (Nat.le_of_lt HXx.out.lt)
      obtain ⟨eb, off, cap3, e3, hlc3, hcm3, hb3, hcell⟩ := (HEs.out.below hbel).cellAt (by intro h; subst h; simp at hlt)
      simp only [Value.slice.injEq] at e3
      obtain ⟨rfl, -, rfl⟩ := e3
      obtain ⟨x, hxx⟩ : ∃ x, es[k]? = some x := ⟨_, List.getElem?_eq_getElem hlt⟩
      have HSr := Lib.hid ((HSs.out.below hbel).more (Nat.le_of_lt HXr.out.lt))
      have d0 : decide ((k : Int) < (es.length : Int)) = true := decide_eq_true (by omega)
      have d0' : decide (k < es.length) = true := decide_eq_true hlt
      have i0 : (0 : Int) ≤ (k : Int) := by omega
      have i1 : (k : Int) < (es.length : Int) := by omega
      have k0 : wr.cell? ⟨eb, off + k * 4, none⟩ = some (.int .i64 x.idx) := hcell k x hxx 0 _ rfl
      have k1 : wr.cell? ⟨eb, off + k * 4 + 1, none⟩ = some (.int .i64 x.trm) := hcell k x hxx 1 _ rfl
      have k2 : wr.cell? ⟨eb, off + k * 4 + 2, none⟩ = some (.int .i64 x.knd) := hcell k x hxx 2 _ rfl
      have k3 : wr.cell? ⟨eb, off + k * 4 + 3, none⟩ = some (.slice x.ba x.bd.length x.bc) := hcell k x hxx 3 _ rfl
      have HI := HIX.out x (List.mem_of_getElem? hxx)
      have HS0 := Lib.hid (shownV_take (b := b) (l := l) hxx 0)
      clear hcell hxx hXr hBr hbel
      cases ha : atV b l x.idx with
      | none =>
        have HA := Lib.hid ha
        have HSH := Lib.hid (HS0.out.trans (if_neg (by unfold showsE; rw [ha]; simp)))
        clear ha HS0
        go_upto_region 3 with fail
        have HXA := Lib.hid (HXr.out.alloc (.cells #[.int .i64 x.idx, .int .i64 x.trm, .int .i64 x.knd, .slice x.ba x.bd.length x.bc] 28))
        have HEB := Lib.hid (Box.new wr #[.int .i64 x.idx, .int .i64 x.trm, .int .i64 x.knd, .slice x.ba x.bd.length x.bc] 28)
        have hga : wr.heap.size < (wr.alloc (.cells #[.int .i64 x.idx, .int .i64 x.trm, .int .i64 x.knd, .slice x.ba x.bd.length x.bc] 28)).heap.size := by simp
        have HBA := Lib.hid (below_new wr (.cells #[.int .i64 x.idx, .int .i64 x.trm, .int .i64 x.knd, .slice x.ba x.bd.length x.bc] 28))
        obtain ⟨ge, hge⟩ : ∃ y, y = wr.heap.size := ⟨_, rfl⟩
        obtain ⟨wa, hwa⟩ : ∃ y, y = wr.alloc (.cells #[.int .i64 x.idx, .int .i64 x.trm, .int .i64 x.knd, .slice x.ba x.bd.length x.bc] 28) := ⟨_, rfl⟩
        rw [← hwa] at HXA HEB HBA hga
        rw [← hwa]
        rw [← hge] at HEB hga
        rw [← hge]
        have hgf : gf < wa.heap.size := HXA.out.lt
        have hgg : gf ≠ ge := by have := HXr.out.lt; omega
        clear hwa hge
        have HSA := Lib.hid (HSr.out.later HBA.out)
        have HF : Hid (∀ w', Below wa.heap.size wa w' → (w'.cell? ⟨gf, 0, none⟩ = some (.int .i64 b.idx) ∧ w'.cell? ⟨gf, 1, none⟩ = some (.int .i64 b.trm) ∧ w'.cell? ⟨gf, 2, none⟩ = some (.int .i64 b.knd) ∧ w'.cell? ⟨gf, 3, none⟩ = some (.slice A l.length c) ∧ w'.cell? ⟨ge, 0, none⟩ = some (.int .i64 x.idx) ∧ Below wa.heap.size wa w')) := fun w' q => ⟨cell_later q (HXA.out.cell 0), cell_later q (HXA.out.cell 1), cell_later q (HXA.out.cell 2), cell_later q (HXA.out.cell 3), cell_later q (HEB.out.cell 0), q⟩
        go_cut [4, 5] (fun pv sv wx => ∃ gi, pv = .pointer (some ⟨gi, 0, none⟩) ∧ sv = .bool false ∧ Box wx gi #[.int .i64 0, .int .i64 0, .int .i64 0] 25 ∧ Below wa.heap.size wa wx)
        case first =>
          first | go_region_held3 (fun w' => w'.cell? ⟨gf, 0, none⟩ = some (.int .i64 b.idx) ∧ w'.cell? ⟨gf, 1, none⟩ = some (.int .i64 b.trm) ∧ w'.cell? ⟨gf, 2, none⟩ = some (.int .i64 b.knd) ∧ w'.cell? ⟨gf, 3, none⟩ = some (.slice A l.length c) ∧ w'.cell? ⟨ge, 0, none⟩ = some (.int .i64 x.idx) ∧ Below wa.heap.size wa w')
            (first | (refine HF.out _ ?_; ((repeat (first | (refine Below.drew ?_) | (refine Below.alloc ?_ (by first | omega | (simp; omega) | simp) _) | (refine below_set ?_ (by first | omega | (simp; omega) | simp)))); first | exact Below.refl _ _ | exact PA)))
            (first | (go_at_call 19; refine (matchAt b l A c x.idx _ (HSA.out.later ?_) HBb HI).mono ?_; (focus ((repeat (first | (refine Below.drew ?_) | (refine Below.alloc ?_ (by first | omega | (simp; omega) | simp) _) | (refine below_set ?_ (by first | omega | (simp; omega) | simp)))); exact Below.refl _ _)); rintro e wl hp; obtain ⟨rfl, hbl⟩ := atN HA.out hp; have PA : Below wa.heap.size wa wl := below_call (by ((repeat (first | (refine Below.drew ?_) | (refine Below.alloc ?_ (by first | omega | (simp; omega) | simp) _) | (refine below_set ?_ (by first | omega | (simp; omega) | simp)))); exact Below.refl _ _)) hbl; have hz := PA.size; (try (have bx : Box wl wa.heap.size #[.int .i64 0, .int .i64 0, .int .i64 0] 25 := (by refine Box.later ?_ hbl; exact Box.new wa #[.int .i64 0, .int .i64 0, .int .i64 0] 25); obtain ⟨kx, fx, zx⟩ := bx.facts))))
          all_goals (go_wp2_with fail; go_meet)
          all_goals first
            | exact ⟨wa.heap.size, rfl, rfl, ((bx.set_ 0 _).set_ 1 _).set_ 2 _, below_set (below_set (below_set PA (Nat.le_refl _)) (Nat.le_refl _)) (Nat.le_refl _)⟩
            | exact ⟨wl.heap.size, rfl, rfl, Box.new _ _ _, PA.alloc hz _⟩
        case rest =>
          obtain ⟨gi, rfl, rfl, hbi, hBc⟩ := hcut
          have HXc := Lib.hid (HXA.out.later hBc)
          have HEc := Lib.hid (HEB.out.later hBc)
          have HBc := Lib.hid (below_call HBA.out hBc)
          have ka0 : ∀ zw : Ext wc, zw.wd.cell? ⟨gf, 0, none⟩ = some (.int .i64 b.idx) := HXc.out.ext 0
          have ka1 : ∀ zw : Ext wc, zw.wd.cell? ⟨gf, 1, none⟩ = some (.int .i64 b.trm) := HXc.out.ext 1
          have ka2 : ∀ zw : Ext wc, zw.wd.cell? ⟨gf, 2, none⟩ = some (.int .i64 b.knd) := HXc.out.ext 2
          have ke0 : ∀ zw : Ext wc, zw.wd.cell? ⟨ge, 0, none⟩ = some (.int .i64 x.idx) := HEc.out.ext 0
          have ke1 : ∀ zw : Ext wc, zw.wd.cell? ⟨ge, 1, none⟩ = some (.int .i64 x.trm) := HEc.out.ext 1
          have ke2 : ∀ zw : Ext wc, zw.wd.cell? ⟨ge, 2, none⟩ = some (.int .i64 x.knd) := HEc.out.ext 2
          have ki0 : ∀ zw : Ext wc, zw.wd.cell? ⟨gi, 0, none⟩ = some (.int .i64 (0)) := hbi.ext 0
          have ki1 : ∀ zw : Ext wc, zw.wd.cell? ⟨gi, 1, none⟩ = some (.int .i64 (0)) := hbi.ext 1
          have ki2 : ∀ zw : Ext wc, zw.wd.cell? ⟨gi, 2, none⟩ = some (.int .i64 (0)) := hbi.ext 2
          clear hbi hBc
          go_upto_region 4 with fail
          refine wp_region_ext (by kernel_rfl) (by kernel_rfl) ?_
          repeat (go_big_quiet_step (fail))
          refine wpQuiet_nil ?_
          intro _ hw'
          obtain ⟨x9, hw''⟩ := hw'
          subst hw''
          clear ka0 ka1 ka2 ke0 ke1 ke2 ki0 ki1 ki2
          have HX9 := Lib.hid (HXc.out.later x9.low)
          have HE9 := Lib.hid (HEc.out.later x9.low)
          have HB9 := Lib.hid (below_call HBc.out x9.low)
          go_wp2_with fail
          go_roundw
          case rel => exact ⟨k + 1, by omega, by go_num, by rw [HSH.out]; exact HX9.out, HBr.out.trans (But.of_below HB9.out)⟩
          case measure => simp [intOf]; omega
      | some p =>
        have HA := Lib.hid ha
        by_cases c1 : p.trm = x.trm
        · by_cases c2 : b.idx < x.idx
          · have HSH := Lib.hid (HS0.out.trans (if_pos (showsE_iff.2 ⟨c2, p, ha, c1⟩)))
            have e1 : (p.trm == x.trm) = true := by simpa using c1
            have e2 : decide (b.idx < x.idx) = true := decide_eq_true c2
            clear ha c1 HS0
            go_upto_region 3 with fail
            have HXA := Lib.hid (HXr.out.alloc (.cells #[.int .i64 x.idx, .int .i64 x.trm, .int .i64 x.knd, .slice x.ba x.bd.length x.bc] 28))
            have HEB := Lib.hid (Box.new wr #[.int .i64 x.idx, .int .i64 x.trm, .int .i64 x.knd, .slice x.ba x.bd.length x.bc] 28)
            have hga : wr.heap.size < (wr.alloc (.cells #[.int .i64 x.idx, .int .i64 x.trm, .int .i64 x.knd, .slice x.ba x.bd.length x.bc] 28)).heap.size := by simp
            have HBA := Lib.hid (below_new wr (.cells #[.int .i64 x.idx, .int .i64 x.trm, .int .i64 x.knd, .slice x.ba x.bd.length x.bc] 28))
            obtain ⟨ge, hge⟩ : ∃ y, y = wr.heap.size := ⟨_, rfl⟩
            obtain ⟨wa, hwa⟩ : ∃ y, y = wr.alloc (.cells #[.int .i64 x.idx, .int .i64 x.trm, .int .i64 x.knd, .slice x.ba x.bd.length x.bc] 28) := ⟨_, rfl⟩
            rw [← hwa] at HXA HEB HBA hga
            rw [← hwa]
            rw [← hge] at HEB hga
            rw [← hge]
            have hgf : gf < wa.heap.size := HXA.out.lt
            have hgg : gf ≠ ge := by have := HXr.out.lt; omega
            clear hwa hge
            have HSA := Lib.hid (HSr.out.later HBA.out)
            have HF : Hid (∀ w', Below wa.heap.size wa w' → (w'.cell? ⟨gf, 0, none⟩ = some (.int .i64 b.idx) ∧ w'.cell? ⟨gf, 1, none⟩ = some (.int .i64 b.trm) ∧ w'.cell? ⟨gf, 2, none⟩ = some (.int .i64 b.knd) ∧ w'.cell? ⟨gf, 3, none⟩ = some (.slice A l.length c) ∧ w'.cell? ⟨ge, 0, none⟩ = some (.int .i64 x.idx) ∧ Below wa.heap.size wa w')) := fun w' q => ⟨cell_later q (HXA.out.cell 0), cell_later q (HXA.out.cell 1), cell_later q (HXA.out.cell 2), cell_later q (HXA.out.cell 3), cell_later q (HEB.out.cell 0), q⟩
            go_cut [4, 5] (fun pv sv wx => ∃ gi, pv = .pointer (some ⟨gi, 0, none⟩) ∧ sv = .bool true ∧ Box wx gi #[.int .i64 p.idx, .int .i64 p.trm, .int .i64 p.knd] 25 ∧ Below wa.heap.size wa wx)
            case first =>
              first | go_region_held3 (fun w' => w'.cell? ⟨gf, 0, none⟩ = some (.int .i64 b.idx) ∧ w'.cell? ⟨gf, 1, none⟩ = some (.int .i64 b.trm) ∧ w'.cell? ⟨gf, 2, none⟩ = some (.int .i64 b.knd) ∧ w'.cell? ⟨gf, 3, none⟩ = some (.slice A l.length c) ∧ w'.cell? ⟨ge, 0, none⟩ = some (.int .i64 x.idx) ∧ Below wa.heap.size wa w')
                (first | (refine HF.out _ ?_; ((repeat (first | (refine Below.drew ?_) | (refine Below.alloc ?_ (by first | omega | (simp; omega) | simp) _) | (refine below_set ?_ (by first | omega | (simp; omega) | simp)))); first | exact Below.refl _ _ | exact PA)))
                (first | (go_at_call 19; refine (matchAt b l A c x.idx _ (HSA.out.later ?_) HBb HI).mono ?_; (focus ((repeat (first | (refine Below.drew ?_) | (refine Below.alloc ?_ (by first | omega | (simp; omega) | simp) _) | (refine below_set ?_ (by first | omega | (simp; omega) | simp)))); exact Below.refl _ _)); rintro e wl hp; obtain ⟨rfl, hbl⟩ := atS HA.out hp; have PA : Below wa.heap.size wa wl := below_call (by ((repeat (first | (refine Below.drew ?_) | (refine Below.alloc ?_ (by first | omega | (simp; omega) | simp) _) | (refine below_set ?_ (by first | omega | (simp; omega) | simp)))); exact Below.refl _ _)) hbl; have hz := PA.size; (try (have bx : Box wl wa.heap.size #[.int .i64 0, .int .i64 0, .int .i64 0] 25 := (by refine Box.later ?_ hbl; exact Box.new wa #[.int .i64 0, .int .i64 0, .int .i64 0] 25); obtain ⟨kx, fx, zx⟩ := bx.facts))))
              all_goals (go_wp2_with fail; go_meet)
              all_goals first
                | exact ⟨wa.heap.size, rfl, rfl, ((bx.set_ 0 _).set_ 1 _).set_ 2 _, below_set (below_set (below_set PA (Nat.le_refl _)) (Nat.le_refl _)) (Nat.le_refl _)⟩
                | exact ⟨wl.heap.size, rfl, rfl, Box.new _ _ _, PA.alloc hz _⟩
            case rest =>
              obtain ⟨gi, rfl, rfl, hbi, hBc⟩ := hcut
              have HXc := Lib.hid (HXA.out.later hBc)
              have HEc := Lib.hid (HEB.out.later hBc)
              have HBc := Lib.hid (below_call HBA.out hBc)
              have ka0 : ∀ zw : Ext wc, zw.wd.cell? ⟨gf, 0, none⟩ = some (.int .i64 b.idx) := HXc.out.ext 0
              have ka1 : ∀ zw : Ext wc, zw.wd.cell? ⟨gf, 1, none⟩ = some (.int .i64 b.trm) := HXc.out.ext 1
              have ka2 : ∀ zw : Ext wc, zw.wd.cell? ⟨gf, 2, none⟩ = some (.int .i64 b.knd) := HXc.out.ext 2
              have ke0 : ∀ zw : Ext wc, zw.wd.cell? ⟨ge, 0, none⟩ = some (.int .i64 x.idx) := HEc.out.ext 0
              have ke1 : ∀ zw : Ext wc, zw.wd.cell? ⟨ge, 1, none⟩ = some (.int .i64 x.trm) := HEc.out.ext 1
              have ke2 : ∀ zw : Ext wc, zw.wd.cell? ⟨ge, 2, none⟩ = some (.int .i64 x.knd) := HEc.out.ext 2
              have ki0 : ∀ zw : Ext wc, zw.wd.cell? ⟨gi, 0, none⟩ = some (.int .i64 (p.idx)) := hbi.ext 0
              have ki1 : ∀ zw : Ext wc, zw.wd.cell? ⟨gi, 1, none⟩ = some (.int .i64 (p.trm)) := hbi.ext 1
              have ki2 : ∀ zw : Ext wc, zw.wd.cell? ⟨gi, 2, none⟩ = some (.int .i64 (p.knd)) := hbi.ext 2
              clear hbi hBc
              go_upto_region 4 with fail
              refine wp_region_ext (by kernel_rfl) (by kernel_rfl) ?_
              repeat (go_big_quiet_step (fail))
              refine wpQuiet_nil ?_
              intro _ hw'
              obtain ⟨x9, hw''⟩ := hw'
              subst hw''
              clear ka0 ka1 ka2 ke0 ke1 ke2 ki0 ki1 ki2
              have HX9 := Lib.hid (HXc.out.later x9.low)
              have HE9 := Lib.hid (HEc.out.later x9.low)
              have HB9 := Lib.hid (below_call HBc.out x9.low)
              obtain ⟨kx, fx, zx⟩ := HX9.out.facts
              obtain ⟨ky, fy, zy⟩ := HE9.out.facts
              go_wp2_with fail
              go_roundw
              case rel => exact ⟨k + 1, by omega, by go_num, by rw [HSH.out]; exact HX9.out.set_ 5 _, (HBr.out.trans (But.of_below HB9.out)).trans (But.set_ _)⟩
              case measure => simp [intOf]; omega
          · have HSH := Lib.hid (HS0.out.trans (if_neg (fun hh => c2 (showsE_iff.1 hh).1)))
            have e1 : (p.trm == x.trm) = true := by simpa using c1
            have e2 : decide (b.idx < x.idx) = false := decide_eq_false c2
            clear ha c1 HS0
            go_upto_region 3 with fail
            have HXA := Lib.hid (HXr.out.alloc (.cells #[.int .i64 x.idx, .int .i64 x.trm, .int .i64 x.knd, .slice x.ba x.bd.length x.bc] 28))
            have HEB := Lib.hid (Box.new wr #[.int .i64 x.idx, .int .i64 x.trm, .int .i64 x.knd, .slice x.ba x.bd.length x.bc] 28)
            have hga : wr.heap.size < (wr.alloc (.cells #[.int .i64 x.idx, .int .i64 x.trm, .int .i64 x.knd, .slice x.ba x.bd.length x.bc] 28)).heap.size := by simp
            have HBA := Lib.hid (below_new wr (.cells #[.int .i64 x.idx, .int .i64 x.trm, .int .i64 x.knd, .slice x.ba x.bd.length x.bc] 28))
            obtain ⟨ge, hge⟩ : ∃ y, y = wr.heap.size := ⟨_, rfl⟩
            obtain ⟨wa, hwa⟩ : ∃ y, y = wr.alloc (.cells #[.int .i64 x.idx, .int .i64 x.trm, .int .i64 x.knd, .slice x.ba x.bd.length x.bc] 28) := ⟨_, rfl⟩
            rw [← hwa] at HXA HEB HBA hga
            rw [← hwa]
            rw [← hge] at HEB hga
            rw [← hge]
            have hgf : gf < wa.heap.size := HXA.out.lt
            have hgg : gf ≠ ge := by have := HXr.out.lt; omega
            clear hwa hge
            have HSA := Lib.hid (HSr.out.later HBA.out)
            have HF : Hid (∀ w', Below wa.heap.size wa w' → (w'.cell? ⟨gf, 0, none⟩ = some (.int .i64 b.idx) ∧ w'.cell? ⟨gf, 1, none⟩ = some (.int .i64 b.trm) ∧ w'.cell? ⟨gf, 2, none⟩ = some (.int .i64 b.knd) ∧ w'.cell? ⟨gf, 3, none⟩ = some (.slice A l.length c) ∧ w'.cell? ⟨ge, 0, none⟩ = some (.int .i64 x.idx) ∧ Below wa.heap.size wa w')) := fun w' q => ⟨cell_later q (HXA.out.cell 0), cell_later q (HXA.out.cell 1), cell_later q (HXA.out.cell 2), cell_later q (HXA.out.cell 3), cell_later q (HEB.out.cell 0), q⟩
            go_cut [4, 5] (fun pv sv wx => ∃ gi, pv = .pointer (some ⟨gi, 0, none⟩) ∧ sv = .bool true ∧ Box wx gi #[.int .i64 p.idx, .int .i64 p.trm, .int .i64 p.knd] 25 ∧ Below wa.heap.size wa wx)
            case first =>
              first | go_region_held3 (fun w' => w'.cell? ⟨gf, 0, none⟩ = some (.int .i64 b.idx) ∧ w'.cell? ⟨gf, 1, none⟩ = some (.int .i64 b.trm) ∧ w'.cell? ⟨gf, 2, none⟩ = some (.int .i64 b.knd) ∧ w'.cell? ⟨gf, 3, none⟩ = some (.slice A l.length c) ∧ w'.cell? ⟨ge, 0, none⟩ = some (.int .i64 x.idx) ∧ Below wa.heap.size wa w')
                (first | (refine HF.out _ ?_; ((repeat (first | (refine Below.drew ?_) | (refine Below.alloc ?_ (by first | omega | (simp; omega) | simp) _) | (refine below_set ?_ (by first | omega | (simp; omega) | simp)))); first | exact Below.refl _ _ | exact PA)))
                (first | (go_at_call 19; refine (matchAt b l A c x.idx _ (HSA.out.later ?_) HBb HI).mono ?_; (focus ((repeat (first | (refine Below.drew ?_) | (refine Below.alloc ?_ (by first | omega | (simp; omega) | simp) _) | (refine below_set ?_ (by first | omega | (simp; omega) | simp)))); exact Below.refl _ _)); rintro e wl hp; obtain ⟨rfl, hbl⟩ := atS HA.out hp; have PA : Below wa.heap.size wa wl := below_call (by ((repeat (first | (refine Below.drew ?_) | (refine Below.alloc ?_ (by first | omega | (simp; omega) | simp) _) | (refine below_set ?_ (by first | omega | (simp; omega) | simp)))); exact Below.refl _ _)) hbl; have hz := PA.size; (try (have bx : Box wl wa.heap.size #[.int .i64 0, .int .i64 0, .int .i64 0] 25 := (by refine Box.later ?_ hbl; exact Box.new wa #[.int .i64 0, .int .i64 0, .int .i64 0] 25); obtain ⟨kx, fx, zx⟩ := bx.facts))))
              all_goals (go_wp2_with fail; go_meet)
              all_goals first
                | exact ⟨wa.heap.size, rfl, rfl, ((bx.set_ 0 _).set_ 1 _).set_ 2 _, below_set (below_set (below_set PA (Nat.le_refl _)) (Nat.le_refl _)) (Nat.le_refl _)⟩
                | exact ⟨wl.heap.size, rfl, rfl, Box.new _ _ _, PA.alloc hz _⟩
            case rest =>
              obtain ⟨gi, rfl, rfl, hbi, hBc⟩ := hcut
              have HXc := Lib.hid (HXA.out.later hBc)
              have HEc := Lib.hid (HEB.out.later hBc)
              have HBc := Lib.hid (below_call HBA.out hBc)
              have ka0 : ∀ zw : Ext wc, zw.wd.cell? ⟨gf, 0, none⟩ = some (.int .i64 b.idx) := HXc.out.ext 0
              have ka1 : ∀ zw : Ext wc, zw.wd.cell? ⟨gf, 1, none⟩ = some (.int .i64 b.trm) := HXc.out.ext 1
              have ka2 : ∀ zw : Ext wc, zw.wd.cell? ⟨gf, 2, none⟩ = some (.int .i64 b.knd) := HXc.out.ext 2
              have ke0 : ∀ zw : Ext wc, zw.wd.cell? ⟨ge, 0, none⟩ = some (.int .i64 x.idx) := HEc.out.ext 0
              have ke1 : ∀ zw : Ext wc, zw.wd.cell? ⟨ge, 1, none⟩ = some (.int .i64 x.trm) := HEc.out.ext 1
              have ke2 : ∀ zw : Ext wc, zw.wd.cell? ⟨ge, 2, none⟩ = some (.int .i64 x.knd) := HEc.out.ext 2
              have ki0 : ∀ zw : Ext wc, zw.wd.cell? ⟨gi, 0, none⟩ = some (.int .i64 (p.idx)) := hbi.ext 0
              have ki1 : ∀ zw : Ext wc, zw.wd.cell? ⟨gi, 1, none⟩ = some (.int .i64 (p.trm)) := hbi.ext 1
              have ki2 : ∀ zw : Ext wc, zw.wd.cell? ⟨gi, 2, none⟩ = some (.int .i64 (p.knd)) := hbi.ext 2
              clear hbi hBc
              go_upto_region 4 with fail
              refine wp_region_ext (by kernel_rfl) (by kernel_rfl) ?_
              repeat (go_big_quiet_step (fail))
              refine wpQuiet_nil ?_
              intro _ hw'
              obtain ⟨x9, hw''⟩ := hw'
              subst hw''
              clear ka0 ka1 ka2 ke0 ke1 ke2 ki0 ki1 ki2
              have HX9 := Lib.hid (HXc.out.later x9.low)
              have HE9 := Lib.hid (HEc.out.later x9.low)
              have HB9 := Lib.hid (below_call HBc.out x9.low)
              go_wp2_with fail
              go_roundw
              case rel => exact ⟨k + 1, by omega, by go_num, by rw [HSH.out]; exact HX9.out, HBr.out.trans (But.of_below HB9.out)⟩
              case measure => simp [intOf]; omega
        · have HSH := Lib.hid (HS0.out.trans (if_neg (fun hh => by obtain ⟨-, q, hq, hqt⟩ := showsE_iff.1 hh; rw [ha] at hq; injection hq with hq; subst hq; exact c1 hqt)))
          have e1 : (p.trm == x.trm) = false := by simpa using c1
          clear ha HS0
          go_upto_region 3 with fail
          have HXA := Lib.hid (HXr.out.alloc (.cells #[.int .i64 x.idx, .int .i64 x.trm, .int .i64 x.knd, .slice x.ba x.bd.length x.bc] 28))
          have HEB := Lib.hid (Box.new wr #[.int .i64 x.idx, .int .i64 x.trm, .int .i64 x.knd, .slice x.ba x.bd.length x.bc] 28)
          have hga : wr.heap.size < (wr.alloc (.cells #[.int .i64 x.idx, .int .i64 x.trm, .int .i64 x.knd, .slice x.ba x.bd.length x.bc] 28)).heap.size := by simp
          have HBA := Lib.hid (below_new wr (.cells #[.int .i64 x.idx, .int .i64 x.trm, .int .i64 x.knd, .slice x.ba x.bd.length x.bc] 28))
          obtain ⟨ge, hge⟩ : ∃ y, y = wr.heap.size := ⟨_, rfl⟩
          obtain ⟨wa, hwa⟩ : ∃ y, y = wr.alloc (.cells #[.int .i64 x.idx, .int .i64 x.trm, .int .i64 x.knd, .slice x.ba x.bd.length x.bc] 28) := ⟨_, rfl⟩
          rw [← hwa] at HXA HEB HBA hga
          rw [← hwa]
          rw [← hge] at HEB hga
          rw [← hge]
          have hgf : gf < wa.heap.size := HXA.out.lt
          have hgg : gf ≠ ge := by have := HXr.out.lt; omega
          clear hwa hge
          have HSA := Lib.hid (HSr.out.later HBA.out)
          have HF : Hid (∀ w', Below wa.heap.size wa w' → (w'.cell? ⟨gf, 0, none⟩ = some (.int .i64 b.idx) ∧ w'.cell? ⟨gf, 1, none⟩ = some (.int .i64 b.trm) ∧ w'.cell? ⟨gf, 2, none⟩ = some (.int .i64 b.knd) ∧ w'.cell? ⟨gf, 3, none⟩ = some (.slice A l.length c) ∧ w'.cell? ⟨ge, 0, none⟩ = some (.int .i64 x.idx) ∧ Below wa.heap.size wa w')) := fun w' q => ⟨cell_later q (HXA.out.cell 0), cell_later q (HXA.out.cell 1), cell_later q (HXA.out.cell 2), cell_later q (HXA.out.cell 3), cell_later q (HEB.out.cell 0), q⟩
          go_cut [4, 5] (fun pv sv wx => ∃ gi, pv = .pointer (some ⟨gi, 0, none⟩) ∧ sv = .bool true ∧ Box wx gi #[.int .i64 p.idx, .int .i64 p.trm, .int .i64 p.knd] 25 ∧ Below wa.heap.size wa wx)
          case first =>
            first | go_region_held3 (fun w' => w'.cell? ⟨gf, 0, none⟩ = some (.int .i64 b.idx) ∧ w'.cell? ⟨gf, 1, none⟩ = some (.int .i64 b.trm) ∧ w'.cell? ⟨gf, 2, none⟩ = some (.int .i64 b.knd) ∧ w'.cell? ⟨gf, 3, none⟩ = some (.slice A l.length c) ∧ w'.cell? ⟨ge, 0, none⟩ = some (.int .i64 x.idx) ∧ Below wa.heap.size wa w')
              (first | (refine HF.out _ ?_; ((repeat (first | (refine Below.drew ?_) | (refine Below.alloc ?_ (by first | omega | (simp; omega) | simp) _) | (refine below_set ?_ (by first | omega | (simp; omega) | simp)))); first | exact Below.refl _ _ | exact PA)))
              (first | (go_at_call 19; refine (matchAt b l A c x.idx _ (HSA.out.later ?_) HBb HI).mono ?_; (focus ((repeat (first | (refine Below.drew ?_) | (refine Below.alloc ?_ (by first | omega | (simp; omega) | simp) _) | (refine below_set ?_ (by first | omega | (simp; omega) | simp)))); exact Below.refl _ _)); rintro e wl hp; obtain ⟨rfl, hbl⟩ := atS HA.out hp; have PA : Below wa.heap.size wa wl := below_call (by ((repeat (first | (refine Below.drew ?_) | (refine Below.alloc ?_ (by first | omega | (simp; omega) | simp) _) | (refine below_set ?_ (by first | omega | (simp; omega) | simp)))); exact Below.refl _ _)) hbl; have hz := PA.size; (try (have bx : Box wl wa.heap.size #[.int .i64 0, .int .i64 0, .int .i64 0] 25 := (by refine Box.later ?_ hbl; exact Box.new wa #[.int .i64 0, .int .i64 0, .int .i64 0] 25); obtain ⟨kx, fx, zx⟩ := bx.facts))))
            all_goals (go_wp2_with fail; go_meet)
            all_goals first
              | exact ⟨wa.heap.size, rfl, rfl, ((bx.set_ 0 _).set_ 1 _).set_ 2 _, below_set (below_set (below_set PA (Nat.le_refl _)) (Nat.le_refl _)) (Nat.le_refl _)⟩
              | exact ⟨wl.heap.size, rfl, rfl, Box.new _ _ _, PA.alloc hz _⟩
          case rest =>
            obtain ⟨gi, rfl, rfl, hbi, hBc⟩ := hcut
            have HXc := Lib.hid (HXA.out.later hBc)
            have HEc := Lib.hid (HEB.out.later hBc)
            have HBc := Lib.hid (below_call HBA.out hBc)
            have ka0 : ∀ zw : Ext wc, zw.wd.cell? ⟨gf, 0, none⟩ = some (.int .i64 b.idx) := HXc.out.ext 0
            have ka1 : ∀ zw : Ext wc, zw.wd.cell? ⟨gf, 1, none⟩ = some (.int .i64 b.trm) := HXc.out.ext 1
            have ka2 : ∀ zw : Ext wc, zw.wd.cell? ⟨gf, 2, none⟩ = some (.int .i64 b.knd) := HXc.out.ext 2
            have ke0 : ∀ zw : Ext wc, zw.wd.cell? ⟨ge, 0, none⟩ = some (.int .i64 x.idx) := HEc.out.ext 0
            have ke1 : ∀ zw : Ext wc, zw.wd.cell? ⟨ge, 1, none⟩ = some (.int .i64 x.trm) := HEc.out.ext 1
            have ke2 : ∀ zw : Ext wc, zw.wd.cell? ⟨ge, 2, none⟩ = some (.int .i64 x.knd) := HEc.out.ext 2
            have ki0 : ∀ zw : Ext wc, zw.wd.cell? ⟨gi, 0, none⟩ = some (.int .i64 (p.idx)) := hbi.ext 0
            have ki1 : ∀ zw : Ext wc, zw.wd.cell? ⟨gi, 1, none⟩ = some (.int .i64 (p.trm)) := hbi.ext 1
            have ki2 : ∀ zw : Ext wc, zw.wd.cell? ⟨gi, 2, none⟩ = some (.int .i64 (p.knd)) := hbi.ext 2
            clear hbi hBc
            go_upto_region 4 with fail
            refine wp_region_ext (by kernel_rfl) (by kernel_rfl) ?_
            repeat (go_big_quiet_step (fail))
            refine wpQuiet_nil ?_
            intro _ hw'
            obtain ⟨x9, hw''⟩ := hw'
            subst hw''
            clear ka0 ka1 ka2 ke0 ke1 ke2 ki0 ki1 ki2
            have HX9 := Lib.hid (HXc.out.later x9.low)
            have HE9 := Lib.hid (HEc.out.later x9.low)
            have HB9 := Lib.hid (below_call HBc.out x9.low)
            go_wp2_with fail
            go_roundw
            case rel => exact ⟨k + 1, by omega, by go_num, by rw [HSH.out]; exact HX9.out, HBr.out.trans (But.of_below HB9.out)⟩
            case measure => simp [intOf]; omega
    · have d0 : decide ((k : Int) < (es.length : Int)) = false := decide_eq_false (by omega)
      have d0' : decide (k < es.length) = false := decide_eq_false hlt
      have hkl : k = es.length := by omega
      clear hXr hBr
      go_wp2_with fail
      go_end0
      exact ⟨rfl, by have := HXr.out; rw [hkl, List.take_length] at this; exact this, HBr.out⟩
end Go.Proofs.YtfglkpcboodllaaGreatDoor
