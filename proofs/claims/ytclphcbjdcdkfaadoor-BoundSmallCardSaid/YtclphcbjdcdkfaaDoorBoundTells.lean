/-
  BoundTells: true. Condition: errors.errorType holds its value.
-/
import Derived.Test.YtclphcbjdcdkfaaDoorBoundAwake
import Derived.Test.YtclphcbjdcdkfaaDoorBoundApp
import Derived.Test.YtclphcbjdcdkfaaDoorRef21
set_option linter.unusedVariables false
set_option linter.unusedSimpArgs false
namespace Go.Proofs.YtclphcbjdcdkfaaDoor
open Go.RowKit

theorem keptIntsB (l : List Int) (v v' : Value) (w : World) (h : Lnt 1 i64Row marks w.heap.size w v l) (h' : Sl 1 i64Row w.heap.size w v' l) (hn : l.length ≤ 1000000) :
    Calls Tryd.prog 28 #[v, v'] w fun e w' => e = .returned (.bool true) ∧ Below w.heap.size w w' :=
  (keptInts l v v' w h h' hn).mono fun _ _ ⟨he, hw⟩ => ⟨he, by obtain ⟨n, rfl⟩ := hw; exact below_drewN (Below.refl _ _) n⟩

set_option maxRecDepth 100000 in
set_option maxHeartbeats 4000000 in
theorem boundTells (l : List Int) (v : Value) (c t : Int) (a : Idt) (ap ro ma : Int) (w : World) (h : Sl 1 i64Row w.heap.size w v l) (hn : l.length ≤ 140737488351232) (hro : I64 ro) (hma : I64 ma) (hG : errTypeIs w) :
    Calls Tryd.prog 6 #[v, .int .i64 c, .int .i64 t, .agg #[.int .i64 a.idx, .int .i64 a.trm, .int .i64 a.knd], .int .i64 ap, .int .i64 ro, .int .i64 ma] w fun e w' => e = .returned (.bool true) ∧ Below w.heap.size w w' := by
  have HL := Lib.hid h
  have HG := Lib.hid hG
  have HX0 := Lib.hid (Box.new w #[.int .i64 a.idx, .int .i64 a.trm, .int .i64 a.knd] 24)
  have HB0 := Lib.hid (below_new w (.cells #[.int .i64 a.idx, .int .i64 a.trm, .int .i64 a.knd] 24))
  have HNN := Lib.hid hn
  obtain ⟨A, cap, rfl, -⟩ := id h
  clear h hG
  by_cases hs : 300 < l.length
  · have d0 : decide ((300 : Int) < (l.length : Int)) = true := decide_eq_true (by omega)
    have d1 : decide (300 < l.length) = true := decide_eq_true hs
    have d2 : (300 : Int) < (l.length : Int) := by omega
    go_enter Tryd.func6, Tryd.ntmps6
    go_wp2_with (go_at_call 20; refine (awake21 _ (errType_later HG.out HB0.out)).mono ?_; rintro e w2 ⟨rfl, hb2⟩)
    go_ret
    exact ⟨rfl, below_call HB0.out hb2⟩
  · have d0 : decide ((300 : Int) < (l.length : Int)) = false := decide_eq_false (by omega)
    have d1 : decide (300 < l.length) = false := decide_eq_false hs
    have d2 : (l.length : Int) ≤ 300 := by omega
    have CA := Lib.hid (fun W : World => appliesB c ap ro ma hro hma W)
    have CR := Lib.hid (fun W : World => rApplies c ap ro ma hro hma W)
    obtain ⟨p, hp⟩ : ∃ p, (appV c ap ro ma).1 = p := ⟨_, rfl⟩
    obtain ⟨q, hq⟩ : ∃ q, (appV c ap ro ma).2 = q := ⟨_, rfl⟩
    rw [hp, hq] at CA CR
    clear hp hq
    go_enter Tryd.func6, Tryd.ntmps6
    go_upto_region 6 with (first
      | (go_at_call 22; refine (lentIntsF l _ _ (HL.out.later HB0.out) (by omega)).mono ?_; rintro e w1 ⟨gx, cx, rfl, -, hx, hb1⟩; have HX1 := Lib.hid hx; have HB1 := Lib.hid (below_call HB0.out hb1); have HA1 := Lib.hid (HX0.out.later hb1); clear hx hb1)
      | (go_at_call 23; refine (CA.out _).mono ?_; rintro e w2 ⟨rfl, hb2⟩; have HX2 := Lib.hid (HX1.out.later hb2); have HB2 := Lib.hid (below_call HB1.out hb2); have HA2 := Lib.hid (HA1.out.later hb2); clear hb2)
      | (go_at_call 24; refine (CR.out _).mono ?_; rintro e w3 ⟨rfl, hb3⟩; have HX3 := Lib.hid (HX2.out.later hb3); have HB3 := Lib.hid (below_call HB2.out hb3); have HA3 := Lib.hid (HA2.out.later hb3); clear hb3))
    obtain ⟨g, hg⟩ : ∃ g, w.heap.size = g := ⟨_, rfl⟩
    have HL3 := Lib.hid (HL.out.later HB3.out)
    have HG3 := Lib.hid (errType_later HG.out HB3.out)
    rw [hg] at HA3 ⊢
    have k0 : ∀ zw : Ext w3, zw.wd.cell? ⟨g, 0, none⟩ = some (.int .i64 a.idx) := HA3.out.ext 0
    have k1 : ∀ zw : Ext w3, zw.wd.cell? ⟨g, 1, none⟩ = some (.int .i64 a.trm) := HA3.out.ext 1
    have k2 : ∀ zw : Ext w3, zw.wd.cell? ⟨g, 2, none⟩ = some (.int .i64 a.knd) := HA3.out.ext 2
    have C1 := Lib.hid (fun x : Ext w3 => ext_of x (majB l _ x.wd (HX3.out.later x.low).sl (by omega)))
    have C2 := Lib.hid (fun x : Ext w3 => ext_of x (rMajority l _ x.wd (HL3.out.later x.low) (by omega)))
    have C3 := Lib.hid (fun x : Ext w3 => ext_of x (ofB c t a l _ x.wd (HX3.out.later x.low).sl (by omega) (errType_later HG3.out x.low)))
    have C4 := Lib.hid (fun x : Ext w3 => ext_of x (rOf c t a l _ x.wd (HL3.out.later x.low) (by omega)))
    have C5 := Lib.hid (fun x : Ext w3 => ext_of x (keptIntsB l _ _ x.wd (HX3.out.later x.low) (HL3.out.later x.low) (by omega)))
    have C6 := Lib.hid (fun x : Ext w3 => ext_of x (awake21 x.wd (errType_later HG3.out x.low)))
    obtain ⟨m, hm⟩ : ∃ m, medI l = m := ⟨_, rfl⟩
    rw [hm] at C1 C2 C3 C4
    obtain ⟨o, ho⟩ : ∃ o, ofI c t m a = o := ⟨_, rfl⟩
    rw [ho] at C3 C4
    clear hm ho hg
    refine wp_region_ext (by kernel_rfl) (by kernel_rfl) ?_
    repeat (go_big_quiet_step ((rename_i x5; first
      | (go_at_call 21; exact C1.out x5)
      | (go_at_call 25; exact C2.out x5)
      | (go_at_call 26; exact C3.out x5)
      | (go_at_call 27; exact C4.out x5)
      | (go_at_call 28; exact C5.out x5)
      | (go_at_call 20; exact C6.out x5))))
    refine wpQuiet_nil ?_
    intro _ hw'
    obtain ⟨x5, hw''⟩ := hw'
    subst hw''
    go_wp2_with fail
    go_ret
    exact ⟨rfl, HB3.out.trans (x5.low.mono HB3.out.size)⟩
end Go.Proofs.YtclphcbjdcdkfaaDoor
