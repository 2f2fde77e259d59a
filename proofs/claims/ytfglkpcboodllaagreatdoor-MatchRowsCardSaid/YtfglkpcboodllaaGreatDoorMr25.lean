/-
  limpetref20's Fit: contracts.
-/
import Derived.Test.YtfglkpcboodllaaGreatDoorMr23
import Derived.Test.YtfglkpcboodllaaGreatDoorMr24
import Derived.Test.YtfglkpcboodllaaGreatDoorMr19
set_option linter.unusedVariables false
set_option linter.unusedSimpArgs false
namespace Go.Proofs.YtfglkpcboodllaaGreatDoor
open Go.RowKit

set_option maxRecDepth 100000 in
set_option maxHeartbeats 8000000 in
theorem ref20FitWrong (b p : Idt) (l : List Idt) (A : Option Addr) (c : Nat) (es : List Ent) (Ae : Option Addr) (ce : Nat) (w : World) (h : Sl 3 idRow w.heap.size w (.slice A l.length c) l) (he : Sl 4 entRow w.heap.size w (.slice Ae es.length ce) es) (hein : ∀ x ∈ es, EntIn w.heap.size w x) (hn : es.length ≤ 100000) (hb : I64 b.idx) (hp : I64 p.idx) (hin : ∀ q ∈ l, I64 q.idx) (hix : ∀ x ∈ es, I64 x.idx) (hr : rightV b l = false) :
    Calls Tryz.prog 17 #[.agg #[.int .i64 b.idx, .int .i64 b.trm, .int .i64 b.knd, .slice A l.length c], .agg #[.int .i64 p.idx, .int .i64 p.trm, .int .i64 p.knd], .slice Ae es.length ce] w fun e w' => e = .returned (.tuple #[.agg #[.bool false, .int .i64 0, .int .i64 0, .slice none 0 0, .slice none 0 0], .int .i64 2]) ∧ Below w.heap.size w w' := by
  obtain ⟨W0, hW0⟩ : ∃ W0 : World, W0 = ((w.alloc (.cells #[.int .i64 b.idx, .int .i64 b.trm, .int .i64 b.knd, .slice A l.length c] 48)).alloc (.cells #[.int .i64 p.idx, .int .i64 p.trm, .int .i64 p.knd] 25)).alloc (.cells #[.bool false, .int .i64 0, .int .i64 0, .slice none 0 0, .slice none 0 0] 45) := ⟨_, rfl⟩
  have B0 : Below w.heap.size w W0 := by rw [hW0]; exact below_call (below_call (below_new _ _) (below_new _ _)) (below_new _ _)
  have X0 : Box W0 w.heap.size #[.int .i64 b.idx, .int .i64 b.trm, .int .i64 b.knd, .slice A l.length c] 48 := by rw [hW0]; exact ((Box.new _ _ _).alloc _).alloc _
  have X1 : Box W0 (w.heap.size + 1) #[.int .i64 p.idx, .int .i64 p.trm, .int .i64 p.knd] 25 := by
    have := (Box.new (w.alloc (.cells #[.int .i64 b.idx, .int .i64 b.trm, .int .i64 b.knd, .slice A l.length c] 48)) #[.int .i64 p.idx, .int .i64 p.trm, .int .i64 p.knd] 25).alloc (.cells #[.bool false, .int .i64 0, .int .i64 0, .slice none 0 0, .slice none 0 0] 45)
    rw [hW0]; simpa using this
  have X2 : Box W0 (w.heap.size + 1 + 1) #[.bool false, .int .i64 0, .int .i64 0, .slice none 0 0, .slice none 0 0] 45 := by
    have := Box.new ((w.alloc (.cells #[.int .i64 b.idx, .int .i64 b.trm, .int .i64 b.knd, .slice A l.length c] 48)).alloc (.cells #[.int .i64 p.idx, .int .i64 p.trm, .int .i64 p.knd] 25)) #[.bool false, .int .i64 0, .int .i64 0, .slice none 0 0, .slice none 0 0] 45
    rw [hW0]; simpa using this
  have HB0 := Lib.hid B0
  have HX0 := Lib.hid X0
  have HX1 := Lib.hid X1
  have HX2 := Lib.hid X2
  have HSl := Lib.hid (h.later B0)
  have HEs := Lib.hid (he.later B0)
  have HEI := Lib.hid (show ∀ x ∈ es, EntIn W0.heap.size W0 x from fun x hx => (hein x hx).later B0)
  have HIN := Lib.hid hin
  have HIX := Lib.hid hix
  have HR := Lib.hid hr
  obtain ⟨k0, f0, z0⟩ := X0.facts
  obtain ⟨k1, f1, z1⟩ := X1.facts
  clear h he hein hin hix hr B0 X0 X1 X2
  go_enter Tryz.func17, Tryz.ntmps17
  go_wp2_with fail
  rw [← hW0]
  clear hW0
  go_wp2_with (go_at_call 22; (with_reducible refine (ref20Right b l A c _ HSl.out hb HIN.out).mono ?_); rintro e w1 ⟨rfl, hb1⟩; rw [HR.out]; obtain ⟨k1a, f1a, z1a⟩ := (HX1.out.later hb1).facts; obtain ⟨k2a, f2a, z2a⟩ := (HX2.out.later hb1).facts; have HB1 := Lib.hid hb1; clear k0 f0 z0 k1 f1 z1)
  refine bodyPost_box ((HX2.out.later HB1.out).set5 _ _ _ _ _) (below_set5 (below_call HB0.out HB1.out) (n := w.heap.size + 1 + 1) (by omega) _ _ _ _ _) ?_
  intro wz hz1 hz2
  obtain ⟨kz, -, -⟩ := hz1.facts
  exact bodyPost_ret (v := .tuple #[.agg #[.bool false, .int .i64 0, .int .i64 0, .slice none 0 0, .slice none 0 0], .int .i64 2]) (by simp [results, Tryz.results17, go_sem, kz]) rfl ⟨rfl, hz2⟩

set_option maxRecDepth 100000 in
set_option maxHeartbeats 8000000 in
theorem ref20FitNone (b p : Idt) (l : List Idt) (A : Option Addr) (c : Nat) (es : List Ent) (Ae : Option Addr) (ce : Nat) (w : World) (h : Sl 3 idRow w.heap.size w (.slice A l.length c) l) (he : Sl 4 entRow w.heap.size w (.slice Ae es.length ce) es) (hein : ∀ x ∈ es, EntIn w.heap.size w x) (hn : es.length ≤ 100000) (hb : I64 b.idx) (hp : I64 p.idx) (hin : ∀ q ∈ l, I64 q.idx) (hix : ∀ x ∈ es, I64 x.idx) (hr : rightV b l = true) (hf : folE p es ≠ 0) :
    Calls Tryz.prog 17 #[.agg #[.int .i64 b.idx, .int .i64 b.trm, .int .i64 b.knd, .slice A l.length c], .agg #[.int .i64 p.idx, .int .i64 p.trm, .int .i64 p.knd], .slice Ae es.length ce] w fun e w' => e = .returned (.tuple #[.agg #[.bool false, .int .i64 0, .int .i64 0, .slice none 0 0, .slice none 0 0], .int .i64 2]) ∧ Below w.heap.size w w' := by
  obtain ⟨ff, hff⟩ : ∃ f, folE p es = f := ⟨_, rfl⟩
  have HF := Lib.hid hff
  rw [hff] at hf
  have g1 : (ff != 0) = true := by simpa using hf
  clear hff
  obtain ⟨W0, hW0⟩ : ∃ W0 : World, W0 = ((w.alloc (.cells #[.int .i64 b.idx, .int .i64 b.trm, .int .i64 b.knd, .slice A l.length c] 48)).alloc (.cells #[.int .i64 p.idx, .int .i64 p.trm, .int .i64 p.knd] 25)).alloc (.cells #[.bool false, .int .i64 0, .int .i64 0, .slice none 0 0, .slice none 0 0] 45) := ⟨_, rfl⟩
  have B0 : Below w.heap.size w W0 := by rw [hW0]; exact below_call (below_call (below_new _ _) (below_new _ _)) (below_new _ _)
  have X0 : Box W0 w.heap.size #[.int .i64 b.idx, .int .i64 b.trm, .int .i64 b.knd, .slice A l.length c] 48 := by rw [hW0]; exact ((Box.new _ _ _).alloc _).alloc _
  have X1 : Box W0 (w.heap.size + 1) #[.int .i64 p.idx, .int .i64 p.trm, .int .i64 p.knd] 25 := by
    have := (Box.new (w.alloc (.cells #[.int .i64 b.idx, .int .i64 b.trm, .int .i64 b.knd, .slice A l.length c] 48)) #[.int .i64 p.idx, .int .i64 p.trm, .int .i64 p.knd] 25).alloc (.cells #[.bool false, .int .i64 0, .int .i64 0, .slice none 0 0, .slice none 0 0] 45)
    rw [hW0]; simpa using this
  have X2 : Box W0 (w.heap.size + 1 + 1) #[.bool false, .int .i64 0, .int .i64 0, .slice none 0 0, .slice none 0 0] 45 := by
    have := Box.new ((w.alloc (.cells #[.int .i64 b.idx, .int .i64 b.trm, .int .i64 b.knd, .slice A l.length c] 48)).alloc (.cells #[.int .i64 p.idx, .int .i64 p.trm, .int .i64 p.knd] 25)) #[.bool false, .int .i64 0, .int .i64 0, .slice none 0 0, .slice none 0 0] 45
    rw [hW0]; simpa using this
  have HB0 := Lib.hid B0
  have HX0 := Lib.hid X0
  have HX1 := Lib.hid X1
  have HX2 := Lib.hid X2
  have HSl := Lib.hid (h.later B0)
  have HEs := Lib.hid (he.later B0)
  have HEI := Lib.hid (show ∀ x ∈ es, EntIn W0.heap.size W0 x from fun x hx => (hein x hx).later B0)
  have HIN := Lib.hid hin
  have HIX := Lib.hid hix
  have HR := Lib.hid hr
  obtain ⟨k0, f0, z0⟩ := X0.facts
  obtain ⟨k1, f1, z1⟩ := X1.facts
  clear h he hein hin hix hr B0 X0 X1 X2
  go_enter Tryz.func17, Tryz.ntmps17
  go_wp2_with fail
  rw [← hW0]
  clear hW0
  go_wp2_with (first | (go_at_call 22; (with_reducible refine (ref20Right b l A c _ HSl.out hb HIN.out).mono ?_); rintro e w1 ⟨rfl, hb1⟩; rw [HR.out]; obtain ⟨k1a, f1a, z1a⟩ := (HX1.out.later hb1).facts; obtain ⟨k2a, f2a, z2a⟩ := (HX2.out.later hb1).facts; have HB1 := Lib.hid hb1; clear k0 f0 z0 k1 f1 z1) | (go_at_call 58; (with_reducible refine (refFollows p es _ _ (HEs.out.later HB1.out) (fun x hx => (HEI.out x hx).later HB1.out)).mono ?_); rw [HF.out]; rintro e w2 ⟨rfl, hb2⟩; have HB2 := Lib.hid (below_call HB1.out hb2); obtain ⟨k0b, f0b, z0b⟩ := (HX0.out.later HB2.out).facts; obtain ⟨k1b, f1b, z1b⟩ := (HX1.out.later HB2.out).facts; obtain ⟨k2b, f2b, z2b⟩ := (HX2.out.later HB2.out).facts; clear k1a f1a z1a k2a f2a z2a hb1 hb2))
  refine bodyPost_box ((HX2.out.later HB2.out).set5 _ _ _ _ _) (below_set5 (below_call HB0.out HB2.out) (n := w.heap.size + 1 + 1) (by omega) _ _ _ _ _) ?_
  intro wz hz1 hz2
  obtain ⟨kz, -, -⟩ := hz1.facts
  exact bodyPost_ret (v := .tuple #[.agg #[.bool false, .int .i64 0, .int .i64 0, .slice none 0 0, .slice none 0 0], .int .i64 2]) (by simp [results, Tryz.results17, go_sem, kz]) rfl ⟨rfl, hz2⟩

set_option maxRecDepth 100000 in
set_option maxHeartbeats 8000000 in
theorem ref20FitNo (b p : Idt) (l : List Idt) (A : Option Addr) (c : Nat) (es : List Ent) (Ae : Option Addr) (ce : Nat) (w : World) (h : Sl 3 idRow w.heap.size w (.slice A l.length c) l) (he : Sl 4 entRow w.heap.size w (.slice Ae es.length ce) es) (hein : ∀ x ∈ es, EntIn w.heap.size w x) (hn : es.length ≤ 100000) (hb : I64 b.idx) (hp : I64 p.idx) (hin : ∀ q ∈ l, I64 q.idx) (hix : ∀ x ∈ es, I64 x.idx) (hr : rightV b l = true) (hf : folE p es = 0) (hk : fitK b l (shownV b l 0 es) p.idx p.trm ≠ 0) :
    Calls Tryz.prog 17 #[.agg #[.int .i64 b.idx, .int .i64 b.trm, .int .i64 b.knd, .slice A l.length c], .agg #[.int .i64 p.idx, .int .i64 p.trm, .int .i64 p.knd], .slice Ae es.length ce] w fun e w' => e = .returned (.tuple #[.agg #[.bool false, .int .i64 (fitH b l p.idx), .int .i64 0, .slice none 0 0, .slice none 0 0], .int .i64 0]) ∧ Below w.heap.size w w' := by
  have hb0 := (rightV_head hr).1
  have hb1 := (rightV_head hr).2.1
  have hb2 := (rightV_head hr).2.2
  have L0 : -9223372036854775808 ≤ b.idx + (l.length : Int) := by omega
  have L1 : b.idx + (l.length : Int) ≤ 9223372036854775807 := by omega
  have HF := Lib.hid hf
  by_cases c1 : lastI b l < p.idx
  · have g1 : decide (lastI b l < p.idx) = true := decide_eq_true c1
    have HFH := Lib.hid (show fitH b l p.idx = lastI b l from if_pos c1)
    clear c1 hf hk hb1 hb2
    obtain ⟨W0, hW0⟩ : ∃ W0 : World, W0 = ((w.alloc (.cells #[.int .i64 b.idx, .int .i64 b.trm, .int .i64 b.knd, .slice A l.length c] 48)).alloc (.cells #[.int .i64 p.idx, .int .i64 p.trm, .int .i64 p.knd] 25)).alloc (.cells #[.bool false, .int .i64 0, .int .i64 0, .slice none 0 0, .slice none 0 0] 45) := ⟨_, rfl⟩
    have B0 : Below w.heap.size w W0 := by rw [hW0]; exact below_call (below_call (below_new _ _) (below_new _ _)) (below_new _ _)
    have X0 : Box W0 w.heap.size #[.int .i64 b.idx, .int .i64 b.trm, .int .i64 b.knd, .slice A l.length c] 48 := by rw [hW0]; exact ((Box.new _ _ _).alloc _).alloc _
    have X1 : Box W0 (w.heap.size + 1) #[.int .i64 p.idx, .int .i64 p.trm, .int .i64 p.knd] 25 := by
      have := (Box.new (w.alloc (.cells #[.int .i64 b.idx, .int .i64 b.trm, .int .i64 b.knd, .slice A l.length c] 48)) #[.int .i64 p.idx, .int .i64 p.trm, .int .i64 p.knd] 25).alloc (.cells #[.bool false, .int .i64 0, .int .i64 0, .slice none 0 0, .slice none 0 0] 45)
      rw [hW0]; simpa using this
    have X2 : Box W0 (w.heap.size + 1 + 1) #[.bool false, .int .i64 0, .int .i64 0, .slice none 0 0, .slice none 0 0] 45 := by
      have := Box.new ((w.alloc (.cells #[.int .i64 b.idx, .int .i64 b.trm, .int .i64 b.knd, .slice A l.length c] 48)).alloc (.cells #[.int .i64 p.idx, .int .i64 p.trm, .int .i64 p.knd] 25)) #[.bool false, .int .i64 0, .int .i64 0, .slice none 0 0, .slice none 0 0] 45
      rw [hW0]; simpa using this
    have HB0 := Lib.hid B0
    have HX0 := Lib.hid X0
    have HX1 := Lib.hid X1
    have HX2 := Lib.hid X2
    have HSl := Lib.hid (h.later B0)
    have HEs := Lib.hid (he.later B0)
    have HEI := Lib.hid (show ∀ x ∈ es, EntIn W0.heap.size W0 x from fun x hx => (hein x hx).later B0)
    have HIN := Lib.hid hin
    have HIX := Lib.hid hix
    have HR := Lib.hid hr
    obtain ⟨k0, f0, z0⟩ := X0.facts
    obtain ⟨k1, f1, z1⟩ := X1.facts
    clear h he hein hin hix hr B0 X0 X1 X2
    go_enter Tryz.func17, Tryz.ntmps17
    go_wp2_with fail
    rw [← hW0]
    clear hW0
    go_upto_region 3 with (first | (go_at_call 22; (with_reducible refine (ref20Right b l A c _ HSl.out hb HIN.out).mono ?_); rintro e w1 ⟨rfl, hb1⟩; rw [HR.out]; obtain ⟨k1a, f1a, z1a⟩ := (HX1.out.later hb1).facts; obtain ⟨k2a, f2a, z2a⟩ := (HX2.out.later hb1).facts; have HB1 := Lib.hid hb1; clear k0 f0 z0 k1 f1 z1) | (go_at_call 58; (with_reducible refine (refFollows p es _ _ (HEs.out.later HB1.out) (fun x hx => (HEI.out x hx).later HB1.out)).mono ?_); rw [HF.out]; rintro e w2 ⟨rfl, hb2⟩; have HB2 := Lib.hid (below_call HB1.out hb2); obtain ⟨k0b, f0b, z0b⟩ := (HX0.out.later HB2.out).facts; obtain ⟨k1b, f1b, z1b⟩ := (HX1.out.later HB2.out).facts; obtain ⟨k2b, f2b, z2b⟩ := (HX2.out.later HB2.out).facts; clear k1a f1a z1a k2a f2a z2a hb1 hb2))
    have a0 : ∀ zw : Ext w2, zw.wd.cell? ⟨w.heap.size, 0, none⟩ = some (.int .i64 b.idx) := (HX0.out.later HB2.out).ext 0
    have a1 : ∀ zw : Ext w2, zw.wd.cell? ⟨w.heap.size, 1, none⟩ = some (.int .i64 b.trm) := (HX0.out.later HB2.out).ext 1
    have a2 : ∀ zw : Ext w2, zw.wd.cell? ⟨w.heap.size, 2, none⟩ = some (.int .i64 b.knd) := (HX0.out.later HB2.out).ext 2
    have a3 : ∀ zw : Ext w2, zw.wd.cell? ⟨w.heap.size, 3, none⟩ = some (.slice A l.length c) := (HX0.out.later HB2.out).ext 3
    have a4 : ∀ zw : Ext w2, zw.wd.cell? ⟨w.heap.size + 1, 0, none⟩ = some (.int .i64 p.idx) := (HX1.out.later HB2.out).ext 0
    refine wp_region_ext (by kernel_rfl) (by kernel_rfl) ?_
    repeat (go_big_quiet_step ((rename_i x5; have h5 := x5.low; first
      | (go_at_call 84; exact ext_of x5 (ref20Last b l A c x5.wd L0 L1)))))
    refine wpQuiet_nil ?_
    intro _ hw'
    obtain ⟨x9, hw''⟩ := hw'
    subst hw''
    have HB3 := Lib.hid (below_call HB2.out x9.low)
    obtain ⟨w3, hw3⟩ : ∃ y, y = x9.wd := ⟨_, rfl⟩
    rw [← hw3] at HB3
    rw [← hw3]
    clear hw3 a0 a1 a2 a3 a4 k0b f0b z0b k1b f1b z1b k2b f2b z2b
    obtain ⟨k0c, f0c, z0c⟩ := (HX0.out.later HB3.out).facts
    obtain ⟨k1c, f1c, z1c⟩ := (HX1.out.later HB3.out).facts
    go_wp2_with (go_at_call 84; (with_reducible refine (ref20Last b l A c _ L0 L1).mono ?_); rintro e w6 ⟨rfl, hb6⟩; have HB6 := Lib.hid (below_call HB3.out hb6); obtain ⟨k2e, f2e, z2e⟩ := (HX2.out.later HB6.out).facts; clear hb6 k0c f0c z0c k1c f1c z1c)
    refine bodyPost_box ((HX2.out.later HB6.out).set5 _ _ _ _ _) (below_set5 (below_call HB0.out HB6.out) (n := w.heap.size + 1 + 1) (by omega) _ _ _ _ _) ?_
    intro wz hz1 hz2
    obtain ⟨kz, -, -⟩ := hz1.facts
    exact bodyPost_ret (v := .tuple #[.agg #[.bool false, .int .i64 (lastI b l), .int .i64 0, .slice none 0 0, .slice none 0 0], .int .i64 0]) (by simp [results, Tryz.results17, go_sem, kz]) rfl ⟨by rw [HFH.out], hz2⟩
  have g1 : decide (lastI b l < p.idx) = false := decide_eq_false c1
  have HFH := Lib.hid (show fitH b l p.idx = hintV b l p.idx from if_neg c1)
  obtain ⟨q, hq⟩ : ∃ q, atP (atV b l p.idx) = q := ⟨_, rfl⟩
  obtain ⟨s, hs⟩ : ∃ s, (atV b l p.idx).isSome = s := ⟨_, rfl⟩
  have HAT : Hid (∀ w1 w2 e, AtPost b l p.idx w1 e w2 → e = .returned (.tuple #[.agg #[.int .i64 q.idx, .int .i64 q.trm, .int .i64 q.knd], .bool s]) ∧ Below w1.heap.size w1 w2) := fun w1 w2 e hp => by have h := atG hp; rw [hq, hs] at h; exact h
  obtain ⟨sw, hsw⟩ : ∃ sw, shownR b l es p.idx = sw := ⟨_, rfl⟩
  have HSW := Lib.hid hsw
  have HCN : Hid ((b.idx < p.idx ∧ ((∃ r, atV b l p.idx = some r ∧ r.trm ≠ p.trm) ∨ (atV b l p.idx = none ∧ shownR b l es p.idx = false))) ↔ (b.idx < p.idx ∧ if s = true then q.trm ≠ p.trm else sw = false)) := by
    cases ha : atV b l p.idx with
    | none => rw [ha] at hs; simp only [Option.isSome_none] at hs; subst hs; rw [hsw]; simp; exact trivial
    | some r =>
      rw [ha] at hs hq
      simp only [Option.isSome_some, atP, Option.getD_some] at hs hq
      subst hs; subst hq; simp; exact trivial
  have hcn := HCN.out.1 (Classical.byContradiction fun hno => hk ((prev_fit hb0 hf c1).2 hno))
  have hbp := hcn.1
  have e1 : decide (b.idx < p.idx) = true := decide_eq_true hbp
  have HC6 := Lib.hid hcn.2
  clear hcn HCN c1 hf hk hq hs hsw
  obtain ⟨W0, hW0⟩ : ∃ W0 : World, W0 = ((w.alloc (.cells #[.int .i64 b.idx, .int .i64 b.trm, .int .i64 b.knd, .slice A l.length c] 48)).alloc (.cells #[.int .i64 p.idx, .int .i64 p.trm, .int .i64 p.knd] 25)).alloc (.cells #[.bool false, .int .i64 0, .int .i64 0, .slice none 0 0, .slice none 0 0] 45) := ⟨_, rfl⟩
  have B0 : Below w.heap.size w W0 := by rw [hW0]; exact below_call (below_call (below_new _ _) (below_new _ _)) (below_new _ _)
  have X0 : Box W0 w.heap.size #[.int .i64 b.idx, .int .i64 b.trm, .int .i64 b.knd, .slice A l.length c] 48 := by rw [hW0]; exact ((Box.new _ _ _).alloc _).alloc _
  have X1 : Box W0 (w.heap.size + 1) #[.int .i64 p.idx, .int .i64 p.trm, .int .i64 p.knd] 25 := by
    have := (Box.new (w.alloc (.cells #[.int .i64 b.idx, .int .i64 b.trm, .int .i64 b.knd, .slice A l.length c] 48)) #[.int .i64 p.idx, .int .i64 p.trm, .int .i64 p.knd] 25).alloc (.cells #[.bool false, .int .i64 0, .int .i64 0, .slice none 0 0, .slice none 0 0] 45)
    rw [hW0]; simpa using this
  have X2 : Box W0 (w.heap.size + 1 + 1) #[.bool false, .int .i64 0, .int .i64 0, .slice none 0 0, .slice none 0 0] 45 := by
    have := Box.new ((w.alloc (.cells #[.int .i64 b.idx, .int .i64 b.trm, .int .i64 b.knd, .slice A l.length c] 48)).alloc (.cells #[.int .i64 p.idx, .int .i64 p.trm, .int .i64 p.knd] 25)) #[.bool false, .int .i64 0, .int .i64 0, .slice none 0 0, .slice none 0 0] 45
    rw [hW0]; simpa using this
  have HB0 := Lib.hid B0
  have HX0 := Lib.hid X0
  have HX1 := Lib.hid X1
  have HX2 := Lib.hid X2
  have HSl := Lib.hid (h.later B0)
  have HEs := Lib.hid (he.later B0)
  have HEI := Lib.hid (show ∀ x ∈ es, EntIn W0.heap.size W0 x from fun x hx => (hein x hx).later B0)
  have HIN := Lib.hid hin
  have HIX := Lib.hid hix
  have HR := Lib.hid hr
  obtain ⟨k0, f0, z0⟩ := X0.facts
  obtain ⟨k1, f1, z1⟩ := X1.facts
  clear h he hein hin hix hr B0 X0 X1 X2
  go_enter Tryz.func17, Tryz.ntmps17
  go_wp2_with fail
  rw [← hW0]
  clear hW0
  go_upto_region 3 with (first | (go_at_call 22; (with_reducible refine (ref20Right b l A c _ HSl.out hb HIN.out).mono ?_); rintro e w1 ⟨rfl, hb1⟩; rw [HR.out]; obtain ⟨k1a, f1a, z1a⟩ := (HX1.out.later hb1).facts; obtain ⟨k2a, f2a, z2a⟩ := (HX2.out.later hb1).facts; have HB1 := Lib.hid hb1; clear k0 f0 z0 k1 f1 z1) | (go_at_call 58; (with_reducible refine (refFollows p es _ _ (HEs.out.later HB1.out) (fun x hx => (HEI.out x hx).later HB1.out)).mono ?_); rw [HF.out]; rintro e w2 ⟨rfl, hb2⟩; have HB2 := Lib.hid (below_call HB1.out hb2); obtain ⟨k0b, f0b, z0b⟩ := (HX0.out.later HB2.out).facts; obtain ⟨k1b, f1b, z1b⟩ := (HX1.out.later HB2.out).facts; obtain ⟨k2b, f2b, z2b⟩ := (HX2.out.later HB2.out).facts; clear k1a f1a z1a k2a f2a z2a hb1 hb2))
  have a0 : ∀ zw : Ext w2, zw.wd.cell? ⟨w.heap.size, 0, none⟩ = some (.int .i64 b.idx) := (HX0.out.later HB2.out).ext 0
  have a1 : ∀ zw : Ext w2, zw.wd.cell? ⟨w.heap.size, 1, none⟩ = some (.int .i64 b.trm) := (HX0.out.later HB2.out).ext 1
  have a2 : ∀ zw : Ext w2, zw.wd.cell? ⟨w.heap.size, 2, none⟩ = some (.int .i64 b.knd) := (HX0.out.later HB2.out).ext 2
  have a3 : ∀ zw : Ext w2, zw.wd.cell? ⟨w.heap.size, 3, none⟩ = some (.slice A l.length c) := (HX0.out.later HB2.out).ext 3
  have a4 : ∀ zw : Ext w2, zw.wd.cell? ⟨w.heap.size + 1, 0, none⟩ = some (.int .i64 p.idx) := (HX1.out.later HB2.out).ext 0
  refine wp_region_ext (by kernel_rfl) (by kernel_rfl) ?_
  repeat (go_big_quiet_step ((rename_i x5; have h5 := x5.low; first
    | (go_at_call 84; exact ext_of x5 (ref20Last b l A c x5.wd L0 L1)))))
  refine wpQuiet_nil ?_
  intro _ hw'
  obtain ⟨x9, hw''⟩ := hw'
  subst hw''
  have HB3 := Lib.hid (below_call HB2.out x9.low)
  obtain ⟨w3, hw3⟩ : ∃ y, y = x9.wd := ⟨_, rfl⟩
  rw [← hw3] at HB3
  rw [← hw3]
  clear hw3 a0 a1 a2 a3 a4 k0b f0b z0b k1b f1b z1b k2b f2b z2b
  obtain ⟨k0c, f0c, z0c⟩ := (HX0.out.later HB3.out).facts
  obtain ⟨k1c, f1c, z1c⟩ := (HX1.out.later HB3.out).facts
  go_upto_region 6 with (go_at_call 20; (with_reducible refine (ref20At b l A c p.idx _ (HSl.out.later HB3.out) hb hp).mono ?_); rintro e w4 hp4; obtain ⟨rfl, hb4⟩ := HAT.out _ _ _ hp4; have HB4 := Lib.hid (below_call HB3.out hb4); clear hp4 hb4 k0c f0c z0c k1c f1c z1c)
  have HXq := Lib.hid (Box.new w4 #[.int .i64 q.idx, .int .i64 q.trm, .int .i64 q.knd] 25)
  have HB5 := Lib.hid (below_call HB4.out (below_new w4 (.cells #[.int .i64 q.idx, .int .i64 q.trm, .int .i64 q.knd] 25)))
  obtain ⟨gq, hgq⟩ : ∃ g, g = w4.heap.size := ⟨_, rfl⟩
  obtain ⟨w5, hw5⟩ : ∃ y, y = w4.alloc (.cells #[.int .i64 q.idx, .int .i64 q.trm, .int .i64 q.knd] 25) := ⟨_, rfl⟩
  rw [← hw5] at HXq HB5
  rw [← hgq] at HXq
  rw [← hw5, ← hgq]
  clear hw5 hgq
  obtain ⟨k0d, f0d, z0d⟩ := (HX0.out.later HB5.out).facts
  obtain ⟨k1d, f1d, z1d⟩ := (HX1.out.later HB5.out).facts
  obtain ⟨kqd, fqd, zqd⟩ := HXq.out.facts
  have HSHO := Lib.hid (show ∀ v, Below W0.heap.size W0 v → Calls Tryz.prog 85 #[.agg #[.int .i64 b.idx, .int .i64 b.trm, .int .i64 b.knd, .slice A l.length c], .slice Ae es.length ce, .int .i64 p.idx] v (fun e w' => e = .returned (.bool sw) ∧ Below v.heap.size v w') from fun v hv => by have h := ref20Shown b l A c es Ae ce p.idx v (HSl.out.later hv) (HEs.out.later hv) hb HIX.out; rw [HSW.out] at h; exact h)
  go_cut [66] (fun v wx => v = .bool true ∧ Below w5.heap.size w5 wx)
  case first =>
    cases s with
    | true =>
      have g6 : (q.trm != p.trm) = true := by have h := HC6.out; rw [if_pos rfl] at h; simpa using h
      go_wp2_with fail
      go_meet
      exact ⟨rfl, Below.refl _ _⟩
    | false =>
      have g6 : sw = false := by have h := HC6.out; rw [if_neg (by simp)] at h; exact h
      subst g6
      go_wp2_with (go_at_call 85; (with_reducible refine (HSHO.out w5 HB5.out).mono ?_); rintro e w9 ⟨rfl, hb9⟩)
      go_meet
      exact ⟨rfl, hb9⟩
  case rest =>
    obtain ⟨rfl, hb7⟩ := hcut
    have HB7 := Lib.hid (below_call HB5.out hb7)
    clear hb7 k0d f0d z0d k1d f1d z1d kqd fqd zqd
    obtain ⟨k0e, f0e, z0e⟩ := (HX0.out.later HB7.out).facts
    obtain ⟨k1e, f1e, z1e⟩ := (HX1.out.later HB7.out).facts
    go_wp2_with (go_at_call 86; (with_reducible refine (ref20Below b l A c _ p.idx (HSl.out.later HB7.out) hb hp hbp).mono ?_); rintro e w8 ⟨rfl, hb8⟩; have HB8 := Lib.hid (below_call HB7.out hb8); obtain ⟨k2e, f2e, z2e⟩ := (HX2.out.later HB8.out).facts; clear hb8 k0e f0e z0e k1e f1e z1e)
    refine bodyPost_box ((HX2.out.later HB8.out).set5 _ _ _ _ _) (below_set5 (below_call HB0.out HB8.out) (n := w.heap.size + 1 + 1) (by omega) _ _ _ _ _) ?_
    intro wz hz1 hz2
    obtain ⟨kz, -, -⟩ := hz1.facts
    exact bodyPost_ret (v := .tuple #[.agg #[.bool false, .int .i64 (hintV b l p.idx), .int .i64 0, .slice none 0 0, .slice none 0 0], .int .i64 0]) (by simp [results, Tryz.results17, go_sem, kz]) rfl ⟨by rw [HFH.out], hz2⟩

/-- What the document makes of an append that fits. -/
def RefYes (q : Pln) (w : World) (e : Ending) (w' : World) : Prop :=
  ∃ A1 c1 A2 c2, e = .returned (.tuple #[.agg #[.bool true, .int .i64 q.idx, .int .i64 q.cut, .slice A1 q.same.length c1, .slice A2 q.add.length c2], .int .i64 0]) ∧ Own 4 entRow 28 w.heap.size w' (.slice A1 q.same.length c1) q.same ∧ Own 4 entRow 28 w.heap.size w' (.slice A2 q.add.length c2) q.add ∧ Below w.heap.size w w'
theorem bodyPost_two {α β : Type} {k k' : Nat} {row : α → List Value} {row' : β → List Value} {e e' : TypeId} {base base' : Nat} {v v' : Value} {la : List α} {lb : List β} {P : Program} {f : Func} {Q : Ending → World → Prop} {x : Exit} {a : Act} {W w : World} {g B : Nat} {cs : Array Value} {t : TypeId} (hb : Box W g cs t) (hB : Below B w W) (h1 : Own k row e base W v la) (h2 : Own k' row' e' base' W v' lb) (kk : ∀ W', Box W' g cs t → Below B w W' → Own k row e base W' v la → Own k' row' e' base' W' v' lb → bodyPost P f Q x a W') : bodyPost P f Q x a W := kk W hb hB h1 h2
theorem refYes_mk {q : Pln} {w w' : World} {ix cut : Int} {s d : List Ent} {A1 A2 : Option Addr} {c1 c2 : Nat} (hq : q = ⟨ix, cut, s, d⟩) (h1 : Own 4 entRow 28 w.heap.size w' (.slice A1 s.length c1) s) (h2 : Own 4 entRow 28 w.heap.size w' (.slice A2 d.length c2) d) (h3 : Below w.heap.size w w') :
    RefYes q w (.returned (.tuple #[.agg #[.bool true, .int .i64 ix, .int .i64 cut, .slice A1 s.length c1, .slice A2 d.length c2], .int .i64 0])) w' := by
  subst hq; exact ⟨A1, c1, A2, c2, rfl, h1, h2, h3⟩

set_option maxRecDepth 100000 in
set_option maxHeartbeats 8000000 in
theorem ref20FitYes (b p : Idt) (l : List Idt) (A : Option Addr) (c : Nat) (es : List Ent) (Ae : Option Addr) (ce : Nat) (w : World) (h : Sl 3 idRow w.heap.size w (.slice A l.length c) l) (he : Sl 4 entRow w.heap.size w (.slice Ae es.length ce) es) (hein : ∀ x ∈ es, EntIn w.heap.size w x) (hn : es.length ≤ 100000) (hb : I64 b.idx) (hp : I64 p.idx) (hin : ∀ q ∈ l, I64 q.idx) (hix : ∀ x ∈ es, I64 x.idx) (hr : rightV b l = true) (hf : folE p es = 0) (hk : fitK b l (shownV b l 0 es) p.idx p.trm = 0) :
    Calls Tryz.prog 17 #[.agg #[.int .i64 b.idx, .int .i64 b.trm, .int .i64 b.knd, .slice A l.length c], .agg #[.int .i64 p.idx, .int .i64 p.trm, .int .i64 p.knd], .slice Ae es.length ce] w fun e w' => RefYes (planV b l (shownV b l 0 es) es (max p.idx b.idx) []) w e w' := by
  have hb0 := (rightV_head hr).1
  have hb1 := (rightV_head hr).2.1
  have hb2 := (rightV_head hr).2.2
  have L0 : -9223372036854775808 ≤ b.idx + (l.length : Int) := by omega
  have L1 : b.idx + (l.length : Int) ≤ 9223372036854775807 := by omega
  have HF := Lib.hid hf
  have c1 : ¬ lastI b l < p.idx := fun hno => by
    by_cases h0 : p.idx ≤ b.idx
    · unfold lastI at hno; omega
    · rw [fitK_far h0 hno] at hk; cases hk
  have g1 : decide (lastI b l < p.idx) = false := decide_eq_false c1
  obtain ⟨q, hq⟩ : ∃ q, atP (atV b l p.idx) = q := ⟨_, rfl⟩
  obtain ⟨s, hs⟩ : ∃ s, (atV b l p.idx).isSome = s := ⟨_, rfl⟩
  have HAT : Hid (∀ w1 w2 e, AtPost b l p.idx w1 e w2 → e = .returned (.tuple #[.agg #[.int .i64 q.idx, .int .i64 q.trm, .int .i64 q.knd], .bool s]) ∧ Below w1.heap.size w1 w2) := fun w1 w2 e hp => by have h := atG hp; rw [hq, hs] at h; exact h
  obtain ⟨sw, hsw⟩ : ∃ sw, shownR b l es p.idx = sw := ⟨_, rfl⟩
  have HSW := Lib.hid hsw
  have HCN : Hid ((b.idx < p.idx ∧ ((∃ r, atV b l p.idx = some r ∧ r.trm ≠ p.trm) ∨ (atV b l p.idx = none ∧ shownR b l es p.idx = false))) ↔ (b.idx < p.idx ∧ if s = true then q.trm ≠ p.trm else sw = false)) := by
    cases ha : atV b l p.idx with
    | none => rw [ha] at hs; simp only [Option.isSome_none] at hs; subst hs; rw [hsw]; simp; exact trivial
    | some r =>
      rw [ha] at hs hq
      simp only [Option.isSome_some, atP, Option.getD_some] at hs hq
      subst hs; subst hq; simp; exact trivial
  have hcn := fun h => (prev_fit hb0 hf c1).1 hk (HCN.out.2 h)
  have HC6 := Lib.hid hcn
  have hfe : ∀ x ∈ es, b.idx < x.idx → (fitK b l (shownV b l 0 es) x.idx x.trm = 0 ∧ hasR b l es x.idx x.trm = 1) ∨ (fitK b l (shownV b l 0 es) x.idx x.trm = 1 ∧ hasR b l es x.idx x.trm = 3) ∨ (fitK b l (shownV b l 0 es) x.idx x.trm = 2 ∧ hasR b l es x.idx x.trm = 2) ∨ (fitK b l (shownV b l 0 es) x.idx x.trm = 3 ∧ hasR b l es x.idx x.trm = 4) := fun x _ hx => hasR_fit hb0 hf hx
  have HFE := Lib.hid hfe
  obtain ⟨sh, hsh⟩ : ∃ sh, shownV b l 0 es = sh := ⟨_, rfl⟩
  rw [hsh] at HFE
  rw [hsh]
  obtain ⟨mx, hmx⟩ : ∃ mx, max p.idx b.idx = mx := ⟨_, rfl⟩
  rw [hmx]
  have HMX := Lib.hid hmx
  clear hcn HCN c1 hf hk hq hs hsw hfe hsh hmx
  obtain ⟨W0, hW0⟩ : ∃ W0 : World, W0 = ((w.alloc (.cells #[.int .i64 b.idx, .int .i64 b.trm, .int .i64 b.knd, .slice A l.length c] 48)).alloc (.cells #[.int .i64 p.idx, .int .i64 p.trm, .int .i64 p.knd] 25)).alloc (.cells #[.bool false, .int .i64 0, .int .i64 0, .slice none 0 0, .slice none 0 0] 45) := ⟨_, rfl⟩
  have B0 : Below w.heap.size w W0 := by rw [hW0]; exact below_call (below_call (below_new _ _) (below_new _ _)) (below_new _ _)
  have X0 : Box W0 w.heap.size #[.int .i64 b.idx, .int .i64 b.trm, .int .i64 b.knd, .slice A l.length c] 48 := by rw [hW0]; exact ((Box.new _ _ _).alloc _).alloc _
  have X1 : Box W0 (w.heap.size + 1) #[.int .i64 p.idx, .int .i64 p.trm, .int .i64 p.knd] 25 := by
    have := (Box.new (w.alloc (.cells #[.int .i64 b.idx, .int .i64 b.trm, .int .i64 b.knd, .slice A l.length c] 48)) #[.int .i64 p.idx, .int .i64 p.trm, .int .i64 p.knd] 25).alloc (.cells #[.bool false, .int .i64 0, .int .i64 0, .slice none 0 0, .slice none 0 0] 45)
    rw [hW0]; simpa using this
  have X2 : Box W0 (w.heap.size + 1 + 1) #[.bool false, .int .i64 0, .int .i64 0, .slice none 0 0, .slice none 0 0] 45 := by
    have := Box.new ((w.alloc (.cells #[.int .i64 b.idx, .int .i64 b.trm, .int .i64 b.knd, .slice A l.length c] 48)).alloc (.cells #[.int .i64 p.idx, .int .i64 p.trm, .int .i64 p.knd] 25)) #[.bool false, .int .i64 0, .int .i64 0, .slice none 0 0, .slice none 0 0] 45
    rw [hW0]; simpa using this
  have HB0 := Lib.hid B0
  have HX0 := Lib.hid X0
  have HX1 := Lib.hid X1
  have HX2 := Lib.hid X2
  have HSl := Lib.hid (h.later B0)
  have HEs := Lib.hid (he.later B0)
  have HEI := Lib.hid (show ∀ x ∈ es, EntIn W0.heap.size W0 x from fun x hx => (hein x hx).later B0)
  have HIN := Lib.hid hin
  have HIX := Lib.hid hix
  have HR := Lib.hid hr
  obtain ⟨k0, f0, z0⟩ := X0.facts
  obtain ⟨k1, f1, z1⟩ := X1.facts
  clear h he hein hin hix hr B0 X0 X1 X2
  go_enter Tryz.func17, Tryz.ntmps17
  go_wp2_with fail
  rw [← hW0]
  clear hW0
  go_upto_region 3 with (first | (go_at_call 22; (with_reducible refine (ref20Right b l A c _ HSl.out hb HIN.out).mono ?_); rintro e w1 ⟨rfl, hb1⟩; rw [HR.out]; obtain ⟨k1a, f1a, z1a⟩ := (HX1.out.later hb1).facts; obtain ⟨k2a, f2a, z2a⟩ := (HX2.out.later hb1).facts; have HB1 := Lib.hid hb1; clear k0 f0 z0 k1 f1 z1) | (go_at_call 58; (with_reducible refine (refFollows p es _ _ (HEs.out.later HB1.out) (fun x hx => (HEI.out x hx).later HB1.out)).mono ?_); rw [HF.out]; rintro e w2 ⟨rfl, hb2⟩; have HB2 := Lib.hid (below_call HB1.out hb2); obtain ⟨k0b, f0b, z0b⟩ := (HX0.out.later HB2.out).facts; obtain ⟨k1b, f1b, z1b⟩ := (HX1.out.later HB2.out).facts; obtain ⟨k2b, f2b, z2b⟩ := (HX2.out.later HB2.out).facts; clear k1a f1a z1a k2a f2a z2a hb1 hb2))
  have a0 : ∀ zw : Ext w2, zw.wd.cell? ⟨w.heap.size, 0, none⟩ = some (.int .i64 b.idx) := (HX0.out.later HB2.out).ext 0
  have a1 : ∀ zw : Ext w2, zw.wd.cell? ⟨w.heap.size, 1, none⟩ = some (.int .i64 b.trm) := (HX0.out.later HB2.out).ext 1
  have a2 : ∀ zw : Ext w2, zw.wd.cell? ⟨w.heap.size, 2, none⟩ = some (.int .i64 b.knd) := (HX0.out.later HB2.out).ext 2
  have a3 : ∀ zw : Ext w2, zw.wd.cell? ⟨w.heap.size, 3, none⟩ = some (.slice A l.length c) := (HX0.out.later HB2.out).ext 3
  have a4 : ∀ zw : Ext w2, zw.wd.cell? ⟨w.heap.size + 1, 0, none⟩ = some (.int .i64 p.idx) := (HX1.out.later HB2.out).ext 0
  refine wp_region_ext (by kernel_rfl) (by kernel_rfl) ?_
  repeat (go_big_quiet_step ((rename_i x5; have h5 := x5.low; first
    | (go_at_call 84; exact ext_of x5 (ref20Last b l A c x5.wd L0 L1)))))
  refine wpQuiet_nil ?_
  intro _ hw'
  obtain ⟨x9, hw''⟩ := hw'
  subst hw''
  have HB3 := Lib.hid (below_call HB2.out x9.low)
  obtain ⟨w3, hw3⟩ : ∃ y, y = x9.wd := ⟨_, rfl⟩
  rw [← hw3] at HB3
  rw [← hw3]
  clear hw3 a0 a1 a2 a3 a4 k0b f0b z0b k1b f1b z1b k2b f2b z2b
  obtain ⟨k0c, f0c, z0c⟩ := (HX0.out.later HB3.out).facts
  obtain ⟨k1c, f1c, z1c⟩ := (HX1.out.later HB3.out).facts
  go_upto_region 6 with (go_at_call 20; (with_reducible refine (ref20At b l A c p.idx _ (HSl.out.later HB3.out) hb hp).mono ?_); rintro e w4 hp4; obtain ⟨rfl, hb4⟩ := HAT.out _ _ _ hp4; have HB4 := Lib.hid (below_call HB3.out hb4); clear hp4 hb4 k0c f0c z0c k1c f1c z1c)
  have HXq := Lib.hid (Box.new w4 #[.int .i64 q.idx, .int .i64 q.trm, .int .i64 q.knd] 25)
  have HB5 := Lib.hid (below_call HB4.out (below_new w4 (.cells #[.int .i64 q.idx, .int .i64 q.trm, .int .i64 q.knd] 25)))
  obtain ⟨gq, hgq⟩ : ∃ g, g = w4.heap.size := ⟨_, rfl⟩
  obtain ⟨w5, hw5⟩ : ∃ y, y = w4.alloc (.cells #[.int .i64 q.idx, .int .i64 q.trm, .int .i64 q.knd] 25) := ⟨_, rfl⟩
  rw [← hw5] at HXq HB5
  rw [← hgq] at HXq
  rw [← hw5, ← hgq]
  clear hw5 hgq
  obtain ⟨k0d, f0d, z0d⟩ := (HX0.out.later HB5.out).facts
  obtain ⟨k1d, f1d, z1d⟩ := (HX1.out.later HB5.out).facts
  obtain ⟨kqd, fqd, zqd⟩ := HXq.out.facts
  have HSHO := Lib.hid (show ∀ v, Below W0.heap.size W0 v → Calls Tryz.prog 85 #[.agg #[.int .i64 b.idx, .int .i64 b.trm, .int .i64 b.knd, .slice A l.length c], .slice Ae es.length ce, .int .i64 p.idx] v (fun e w' => e = .returned (.bool sw) ∧ Below v.heap.size v w') from fun v hv => by have h := ref20Shown b l A c es Ae ce p.idx v (HSl.out.later hv) (HEs.out.later hv) hb HIX.out; rw [HSW.out] at h; exact h)
  go_cut [66] (fun v wx => v = .bool false ∧ Below w5.heap.size w5 wx)
  case first =>
    by_cases hbp : b.idx < p.idx
    · have e1 : decide (b.idx < p.idx) = true := decide_eq_true hbp
      cases s with
      | true =>
        have g6 : (q.trm != p.trm) = false := by
          cases h : (q.trm != p.trm) with
          | false => rfl
          | true => exact (HC6.out ⟨hbp, by rw [if_pos rfl]; simpa using h⟩).elim
        go_wp2_with fail
        go_meet
        exact ⟨rfl, Below.refl _ _⟩
      | false =>
        have g6 : sw = true := by
          cases h : sw with
          | true => rfl
          | false => exact (HC6.out ⟨hbp, by rw [if_neg (by simp)]; exact h⟩).elim
        subst g6
        go_wp2_with (go_at_call 85; (with_reducible refine (HSHO.out w5 HB5.out).mono ?_); rintro e w9 ⟨rfl, hb9⟩)
        go_meet
        exact ⟨rfl, hb9⟩
    · have e1 : decide (b.idx < p.idx) = false := decide_eq_false hbp
      go_wp2_with fail
      go_meet
      exact ⟨rfl, Below.refl _ _⟩
  case rest =>
    obtain ⟨rfl, hb7⟩ := hcut
    have HBp := Lib.hid (below_call HB5.out hb7)
    obtain ⟨Vp, hVp⟩ : ∃ y, y = wc := ⟨_, rfl⟩
    rw [← hVp] at HBp
    rw [← hVp]
    clear hb7 hVp k0d f0d z0d k1d f1d z1d kqd fqd zqd HC6 HSHO HAT HSW
    obtain ⟨k0e, f0e, z0e⟩ := (HX0.out.later HBp.out).facts
    obtain ⟨k1e, f1e, z1e⟩ := (HX1.out.later HBp.out).facts
    have HGW := Lib.hid (show w.heap.size ≤ Vp.heap.size from (below_call HB0.out HBp.out).size)
    have HG2 := Lib.hid (show w.heap.size + 1 + 1 < Vp.heap.size from (HX2.out.later HBp.out).lt)
    have HG1 := Lib.hid (show w.heap.size + 1 < Vp.heap.size from (HX1.out.later HBp.out).lt)
    have HG0 := Lib.hid (show w.heap.size < Vp.heap.size from (HX0.out.later HBp.out).lt)
    have HX0p := Lib.hid (HX0.out.later HBp.out)
    have HSp := Lib.hid (HSl.out.later HBp.out)
    have HEp := Lib.hid (HEs.out.later HBp.out)
    go_upto_region 8 with fail
    go_cut [10] (fun v wx => v = .pointer (some ⟨Vp.heap.size, 0, none⟩) ∧ wx = Vp.alloc (.cells #[.bool true, .int .i64 mx, .int .i64 0, .slice none 0 0, .slice none 0 0] 45))
    case first =>
      rcases Int.lt_trichotomy p.idx b.idx with hm | hm | hm
      · have e2 : mx = b.idx := by rw [← HMX.out]; exact Int.max_eq_right (by omega)
        have e3 : ¬ b.idx < p.idx := by omega
        have e4 : ¬ b.idx ≤ p.idx := by omega
        have e5 : b.idx ≤ 1099511627776 := hb1
        go_wp2_with fail
        go_meet
        rw [e2]
        exact ⟨rfl, rfl⟩
      · have e2 : mx = b.idx := by rw [← HMX.out, hm]; exact Int.max_self _
        obtain ⟨pi, hpi⟩ : ∃ y, y = p.idx := ⟨_, rfl⟩
        go_wp2_with fail
        all_goals (go_meet; rw [e2]; first | exact ⟨rfl, rfl⟩ | (rw [hm]; exact ⟨rfl, rfl⟩) | (rw [← hm]; exact ⟨rfl, rfl⟩))
      · have e2 : mx = p.idx := by rw [← HMX.out]; exact Int.max_eq_left (by omega)
        have e3 : ¬ p.idx < b.idx := by omega
        have e4 : b.idx ≤ p.idx := by omega
        go_wp2_with fail
        go_meet
        rw [e2]
        exact ⟨rfl, rfl⟩
    case rest =>
      obtain ⟨rfl, hwc⟩ := hcut
      have HXg0 := Lib.hid (show Box wc Vp.heap.size #[.bool true, .int .i64 mx, .int .i64 0, .slice none 0 0, .slice none 0 0] 45 by rw [hwc]; exact Box.new _ _ _)
      have HBg0 := Lib.hid (show Below Vp.heap.size Vp wc by rw [hwc]; exact below_new _ _)
      have hz0 : wc.heap.size = Vp.heap.size + 1 := by rw [hwc]; simp
      obtain ⟨g, hg⟩ : ∃ g, g = Vp.heap.size := ⟨_, rfl⟩
      rw [← hg] at HXg0 HBg0 hz0 HGW HG2 HG1 HG0 HSp HEp
      rw [← hg]
      clear hwc k0e f0e z0e k1e f1e z1e hb1 hb2
      have hgv : g = Vp.heap.size := hg
      have HGV := Lib.hid hgv
      clear hg hgv
      go_wp2_with fail
      go_loopw [11] (fun i wr => ∃ (k : Nat) (ix : Int) (s : List Ent) (A1 : Option Addr) (c1 : Nat), k ≤ es.length ∧ i = .int .i64 (k : Int) ∧ planV b l sh es mx [] = planV b l sh (es.drop k) ix s ∧ Box wr g #[.bool true, .int .i64 ix, .int .i64 0, .slice A1 s.length c1, .slice none 0 0] 45 ∧ Own 4 entRow 28 (g + 1) wr (.slice A1 s.length c1) s ∧ s.length ≤ k ∧ Below g Vp wr) (fun i _ => es.length - (intOf i).toNat)
      case atStart => exact ⟨0, mx, [], none, 0, by omega, rfl, by rw [List.drop_zero], HXg0.out, Own.nil_ _ _ _ _ _, Nat.le_refl _, HBg0.out⟩
      case round =>
        clear HXg0 HBg0
        obtain ⟨k, ix, s, A1, c1, hk, rfl, hpl, hxg, hown, hsk, hB⟩ := hrel
        have HPL := Lib.hid hpl
        have HXg := Lib.hid hxg
        have HO := Lib.hid hown
        have HB := Lib.hid hB
        have i0 : (0 : Int) ≤ (k : Int) := by omega
        have hgr : g < wr.heap.size := hxg.lt
        obtain ⟨kv, fv, zv⟩ := (HX0p.out.below HB.out HG0.out).facts
        obtain ⟨kg, fg, zg⟩ := HXg.out.facts
        clear hpl hxg hown hB
        by_cases hlt : k < es.length
        · have i1 : (k : Int) < (es.length : Int) := by omega
          have d0 : decide ((k : Int) < (es.length : Int)) = true := decide_eq_true i1
          have d0' : decide (k < es.length) = true := decide_eq_true hlt
          obtain ⟨x, hxx⟩ : ∃ x, es[k]? = some x := ⟨_, List.getElem?_eq_getElem hlt⟩
          obtain ⟨eb, off, cap3, e3, hlc3, hcm3, hb3, hcell⟩ := (HEp.out.below HB.out).cellAt (by intro h; subst h; simp at hlt)
          simp only [Value.slice.injEq] at e3
          obtain ⟨hAe, -, hce⟩ := e3
          subst hAe hce
          have HXX := Lib.hid hxx
          have HCL := Lib.hid hcell
          have HI := HIX.out x (List.mem_of_getElem? hxx)
          have kx0 : wr.cell? ⟨eb, off + k * 4, none⟩ = some (.int .i64 x.idx) := hcell k x hxx 0 _ rfl
          have kx1 : wr.cell? ⟨eb, off + k * 4 + 1, none⟩ = some (.int .i64 x.trm) := hcell k x hxx 1 _ rfl
          have kx2 : wr.cell? ⟨eb, off + k * 4 + 2, none⟩ = some (.int .i64 x.knd) := hcell k x hxx 2 _ rfl
          have kx3 : wr.cell? ⟨eb, off + k * 4 + 3, none⟩ = some (.slice x.ba x.bd.length x.bc) := hcell k x hxx 3 _ rfl
          clear hcell hxx
          go_upto_region 13 with fail
          obtain ⟨ge, hge⟩ : ∃ y, y = wr.heap.size := ⟨_, rfl⟩
          obtain ⟨w1, hw1⟩ : ∃ y, y = wr.alloc (.cells #[.int .i64 x.idx, .int .i64 x.trm, .int .i64 x.knd, .slice x.ba x.bd.length x.bc] 28) := ⟨_, rfl⟩
          have HXe := Lib.hid (show Box w1 ge #[.int .i64 x.idx, .int .i64 x.trm, .int .i64 x.knd, .slice x.ba x.bd.length x.bc] 28 by rw [hw1, hge]; exact Box.new _ _ _)
          have HBe := Lib.hid (show Below wr.heap.size wr w1 by rw [hw1]; exact below_new _ _)
          have hge1 : g + 1 ≤ ge := by omega
          have HGE := Lib.hid hge
          rw [← hw1, ← hge]
          clear hw1 hge kv fv zv kg fg zg kx0 kx1 kx2 kx3
          have HB1 := Lib.hid (HB.out.trans (HBe.out.mono (Nat.le_of_lt hgr)))
          have HXg1 := Lib.hid (HXg.out.later HBe.out)
          have HO1 := Lib.hid (HO.out.later HBe.out)
          obtain ⟨kv, fv, zv⟩ := (HX0p.out.below HB1.out HG0.out).facts
          obtain ⟨ke, fe, ze⟩ := HXe.out.facts
          by_cases hlow : x.idx ≤ b.idx
          · have g2 : decide (x.idx ≤ b.idx) = true := decide_eq_true hlow
            have HQ := Lib.hid (HPL.out.trans (planV_skip HXX.out hlow))
            clear hlow
            go_wp2_with fail
            go_roundw
            case rel => exact ⟨k + 1, ix, s, A1, c1, by omega, by go_num, HQ.out, HXg1.out, HO1.out, by omega, HB1.out⟩
            case measure => simp [intOf]; omega
          · have g2 : decide (x.idx ≤ b.idx) = false := decide_eq_false hlow
            have hhi : b.idx < x.idx := by omega
            have HW := HFE.out x (List.mem_of_getElem? HXX.out) hhi
            have HSw := Lib.hid ((HSp.out.below HB1.out).more (show g ≤ w1.heap.size by have := HXg1.out.lt; omega))
            have HEw := Lib.hid ((HEp.out.below HB1.out).more (show g ≤ w1.heap.size by have := HXg1.out.lt; omega))
            have HHC := Lib.hid (ref20Has b l A c es _ _ x w1 HSw.out HEw.out hb HIX.out HI L0 L1)
            have HNL := Lib.hid hlow
            have HHI := Lib.hid hhi
            clear hlow hhi
            rcases HW with ⟨hf, hh⟩ | ⟨hf, hh⟩ | ⟨hf, hh⟩ | ⟨hf, hh⟩
            · rw [hh] at HHC
              have HQ := Lib.hid (HPL.out.trans (planV_0 HXX.out HNL.out hf))
              clear hf hh
              go_upto_region 15 with (go_at_call 87; (with_reducible refine HHC.out.mono ?_); rintro e w2 ⟨rfl, hb2⟩; have HBh := Lib.hid hb2; clear hb2 kv fv zv)
              have HB2 := Lib.hid (HB1.out.trans (HBh.out.mono (show g ≤ w1.heap.size by have := HXg1.out.lt; omega)))
              have HXg2 := Lib.hid (HXg1.out.later HBh.out)
              have HXe2 := Lib.hid (HXe.out.later HBh.out)
              have HO2 := Lib.hid (HO1.out.later HBh.out)
              clear ke fe ze HHC
              obtain ⟨kg, fg, zg⟩ := HXg2.out.facts
              obtain ⟨ke, fe, ze⟩ := HXe2.out.facts
              have hneE : ∀ q, (Value.slice A1 s.length c1).ownBlock = some q → q ≠ ge := fun q hq => by have h1 := (HO.out.block hq).2; have h2 := HGE.out; omega
              have hgs2 : g < w2.heap.size := HXg2.out.lt
              have hes2 : ge < w2.heap.size := HXe2.out.lt
              have hgo2 : some g ≠ (Value.slice A1 s.length c1).ownBlock := fun he => by have := (HO2.out.block he.symm).1; omega
              have hle2 : s.length + 1 ≤ 4294967296 := by omega
              have hzb : g + 1 ≤ w2.heap.size := by omega
              go_upto_region 17 with (at_builtin; refine wpList_append_row _ rfl (.tmp 102) (.tmp 104) 31 rfl (g + 1) 28 _ 4 48 Tryz.underlying31 entInfo rfl (Nat.succ_pos 3) entRow entRow_length entRow_one s _ rfl HO2.out x _ rfl 28 _ rfl rfl hle2 (by omega) hzb ?_; intro v3 w3 p1 p2 p3 p4 p5; obtain ⟨A3, n3, c3, rfl⟩ := p1.form; have HP1 := Lib.hid p1; have HP2 := Lib.hid p2; have HXg3 := Lib.hid (show Box w3 g #[.bool true, .int .i64 ix, .int .i64 0, .slice A1 s.length c1, .slice none 0 0] 45 from (p4 g hgs2 hgo2).trans HXg2.out); have HXe3 := Lib.hid (show Box w3 ge #[.int .i64 x.idx, .int .i64 x.trm, .int .i64 x.knd, .slice x.ba x.bd.length x.bc] 28 from (p4 ge hes2 (fun he => hneE ge he.symm rfl)).trans HXe2.out); obtain ⟨kg3, fg3, zg3⟩ := HXg3.out.facts; clear p1 p2 p4 kg fg zg ke fe ze)
              have hn3 : n3 = (s ++ [x]).length := by obtain ⟨_, _, h⟩ := HP1.out.len; simp only [Value.slice.injEq] at h; exact h.2.1
              subst hn3
              have HXg4 := Lib.hid (HXg3.out.set_ 3 (.slice A3 (s ++ [x]).length c3))
              have HXe4 := Lib.hid (HXe3.out.far (p := ⟨g, 3, none⟩) (show ge ≠ g by omega) (.slice A3 (s ++ [x]).length c3))
              obtain ⟨w4, hw4⟩ : ∃ y, y = w3.setCell ⟨g, 3, none⟩ (.slice A3 (s ++ [x]).length c3) := ⟨_, rfl⟩
              have HO4 := Lib.hid (show Own 4 entRow 28 (g + 1) w4 (.slice A3 (s ++ [x]).length c3) (s ++ [x]) by rw [hw4]; exact HP1.out.set_below (Nat.lt_succ_self g))
              have HB4 := Lib.hid (show Below g Vp w4 by rw [hw4]; exact below_set (HB2.out.trans (HP2.out.mono (Nat.le_succ g))) (Nat.le_refl _))
              rw [← hw4] at HXg4 HXe4
              rw [← hw4]
              clear hw4 kg3 fg3 zg3
              obtain ⟨kg4, fg4, zg4⟩ := HXg4.out.facts
              obtain ⟨ke4, fe4, ze4⟩ := HXe4.out.facts
              go_wp2_with fail
              go_roundw
              case rel => exact ⟨k + 1, x.idx, s ++ [x], A3, c3, by omega, by go_num, HQ.out, HXg4.out.set_ 1 _, HO4.out.set_below (Nat.lt_succ_self g), by simp; omega, below_set HB4.out (Nat.le_refl _)⟩
              case measure => simp [intOf]; omega
            · rw [hh] at HHC
              have HQ0 := Lib.hid (HPL.out.trans (planV_1 HXX.out HNL.out hf))
              clear hf hh
              go_upto_region 15 with (go_at_call 87; (with_reducible refine HHC.out.mono ?_); rintro e w2 ⟨rfl, hb2⟩; have HBh := Lib.hid hb2; clear hb2 kv fv zv)
              have HB2 := Lib.hid (HB1.out.trans (HBh.out.mono (show g ≤ w1.heap.size by have := HXg1.out.lt; omega)))
              have HXg2 := Lib.hid (HXg1.out.later HBh.out)
              have HXe2 := Lib.hid (HXe.out.later HBh.out)
              have HO2 := Lib.hid (HO1.out.later HBh.out)
              clear ke fe ze HHC
              obtain ⟨kg, fg, zg⟩ := HXg2.out.facts
              obtain ⟨ke, fe, ze⟩ := HXe2.out.facts
              obtain ⟨y, hy⟩ : ∃ y, es[es.length - 1]? = some y := ⟨_, List.getElem?_eq_getElem (by omega)⟩
              have HYL : Hid ((lastE ⟨0, 0, 0⟩ (es.drop k)).idx = y.idx) := by
                rw [lastE_get (es.drop k) ⟨0, 0, 0⟩ y (by rw [List.getElem?_drop, List.length_drop, show k + (es.length - k - 1) = es.length - 1 by omega]; exact hy)]
                rfl
              have HQ := Lib.hid (HQ0.out.trans (by rw [HYL.out]))
              have HEq := Lib.hid ((HEp.out.below HB2.out).drop_ (j := k) (by omega))
              have HCL2 : Hid (∀ u0, Below g Vp u0 → u0.cell? ⟨eb, off + (es.length - 1) * 4, none⟩ = some (.int .i64 y.idx)) := fun u0 hu => by
                obtain ⟨b2, off2, c2, e2, -, -, hb2, hc2⟩ := (HEp.out.below hu).cellAt (by intro h; subst h; simp at hlt)
                simp only [Value.slice.injEq, Option.some.injEq, Addr.mk.injEq, and_true] at e2
                obtain ⟨⟨rfl, rfl⟩, -⟩ := e2
                exact hc2 (es.length - 1) y hy 0 _ rfl
              have hdl : (es.drop k).length = es.length - k := List.length_drop
              have n0 : es.length - k ≤ 4294967296 := by omega
              obtain ⟨j, hj⟩ : ∃ j, j = es.length - 1 := ⟨_, rfl⟩
              rw [← hj] at HCL2
              have j1 : wrap64 ((es.length : Int) - 1) = (j : Int) := by unfold wrap64; omega
              have j4 : (es.length : Int) - 1 = (j : Int) := by omega
              have j2 : (0 : Int) ≤ (j : Int) := by omega
              have j3 : (j : Int) < (es.length : Int) := by omega
              have hck : ¬ ce = k := by omega
              have hck2 : k ≤ ce := by omega
              have hck3 : (k : Int) ≤ (ce : Int) := by omega
              have hck4 : (es.length : Int) ≤ (ce : Int) := by omega
              have hck5 : (k : Int) ≤ (es.length : Int) := by omega
              clear hy hj
              go_upto_region 21 with fail
              have HXd := Lib.hid (show Box w2.drew g _ 45 from HXg2.out)
              have HSd := Lib.hid (show Sl 4 entRow g w2.drew _ (es.drop k) from HEq.out)
              refine wp_region_held_drew (S := fun _ => True) (by kernel_rfl) trivial (fun hHeld => ?_)
              first
                | (refine wpAnyH_take (i := 0) (v := ?_) rfl (by kernel_rfl) (by kernel_rfl) (by kernel_rfl) (fun _ _ _ h => h) (Or.inl ⟨?_, ?_⟩) (by assumption) ?_; rotate_left; (focus rfl); (focus (intro w hSw; go_split_ands; go_simp; try with_reducible rfl)); skip)
                | (refine wpAnyH_take (i := 0) (v := undef) rfl (by kernel_rfl) (by kernel_rfl) (by kernel_rfl) (fun _ _ _ h => h) (Or.inr ⟨?_, rfl⟩) (by assumption) ?_; (focus rfl))
              try simp only [Act.put, List.setIfInBounds_toArray, List.set_cons_zero, List.set_cons_succ, List.getElem_toArray, List.getElem_cons_zero, List.getElem_cons_succ]
              first
                | (refine wpAnyH_take (i := 2) (v := ?_) rfl (by kernel_rfl) (by kernel_rfl) (by kernel_rfl) (fun _ _ _ h => h) (Or.inl ⟨?_, ?_⟩) (by assumption) ?_; rotate_left; (focus rfl); (focus (intro w hSw; go_split_ands; go_simp; try with_reducible rfl)); skip)
                | (refine wpAnyH_take (i := 2) (v := undef) rfl (by kernel_rfl) (by kernel_rfl) (by kernel_rfl) (fun _ _ _ h => h) (Or.inr ⟨?_, rfl⟩) (by assumption) ?_; (focus rfl))
              try simp only [Act.put, List.setIfInBounds_toArray, List.set_cons_zero, List.set_cons_succ, List.getElem_toArray, List.getElem_cons_zero, List.getElem_cons_succ]
              first
                | (refine wpAnyH_take (i := 3) (v := ?_) rfl (by kernel_rfl) (by kernel_rfl) (by kernel_rfl) (fun _ _ _ h => h) (Or.inl ⟨?_, ?_⟩) (by assumption) ?_; rotate_left; (focus rfl); (focus (intro w hSw; go_split_ands; go_simp; try with_reducible rfl)); skip)
                | (refine wpAnyH_take (i := 3) (v := undef) rfl (by kernel_rfl) (by kernel_rfl) (by kernel_rfl) (fun _ _ _ h => h) (Or.inr ⟨?_, rfl⟩) (by assumption) ?_; (focus rfl))
              try simp only [Act.put, List.setIfInBounds_toArray, List.set_cons_zero, List.set_cons_succ, List.getElem_toArray, List.getElem_cons_zero, List.getElem_cons_succ]
              first
                | (refine wpAnyH_take (i := 4) (v := ?_) rfl (by kernel_rfl) (by kernel_rfl) (by kernel_rfl) (fun _ _ _ h => h) (Or.inl ⟨?_, ?_⟩) (by assumption) ?_; rotate_left; (focus rfl); (focus (intro w hSw; go_split_ands; go_simp; try with_reducible rfl)); skip)
                | (refine wpAnyH_take (i := 4) (v := undef) rfl (by kernel_rfl) (by kernel_rfl) (by kernel_rfl) (fun _ _ _ h => h) (Or.inr ⟨?_, rfl⟩) (by assumption) ?_; (focus rfl))
              try simp only [Act.put, List.setIfInBounds_toArray, List.set_cons_zero, List.set_cons_succ, List.getElem_toArray, List.getElem_cons_zero, List.getElem_cons_succ]
              refine wpAnyH_ready (rs := [1]) (by kernel_rfl) (by simp) ?_
              refine AllReadyH.cons rfl (fun K hK => ?_) AllReadyH.nil
              go_simp
              refine hK.out _ _ trivial (fun hH => ?_)
              clear hK K
              try simp only [Act.put, List.setIfInBounds_toArray, List.set_cons_zero, List.set_cons_succ, List.getElem_toArray, List.getElem_cons_zero, List.getElem_cons_succ]
              refine wpAnyH_ready (rs := [5]) (by kernel_rfl) (by simp) ?_
              refine AllReadyH.cons rfl (fun K hK => ?_) AllReadyH.nil
              refine step_append_any rfl (.tmp 123) (.tmp 126) _ rfl (g + 1) 28 _ 4 48 Tryz.underlying31 entInfo rfl (Nat.succ_pos 3) entRow entRow_length entRow_one [] _ rfl (Own.nil_ _ _ _ _ _) (es.drop k) _ ⟨g, HSd.out⟩ rfl (by rw [hdl]; simp; omega) (by omega) (by have := HXg2.out.lt; simp; omega) ?_
              intro v5 w5 p1 p2 p3 p4 p5
              obtain ⟨A5, n5, c5, rfl⟩ := p1.form
              have HP1 := Lib.hid p1
              have HP2 := Lib.hid p2
              have HP4 := Lib.hid p4
              have HX5 := Lib.hid (show Box w5 g _ 45 from (p4 g HXd.out.lt (by simp [Act.eval, Value.ownBlock])).trans HXd.out)
              obtain ⟨k5, f5, z5⟩ := HX5.out.facts
              clear p1 p2 p3 p4 p5
              refine hK.out _ _ trivial (fun hH => ?_)
              clear hK K
              try simp only [Act.put, List.setIfInBounds_toArray, List.set_cons_zero, List.set_cons_succ, List.getElem_toArray, List.getElem_cons_zero, List.getElem_cons_succ]
              have hHeld2 := hH
              first
                | (refine wpAnyH_take (i := 6) (v := ?_) rfl (by kernel_rfl) (by kernel_rfl) (by kernel_rfl) (fun _ _ _ h => h) (Or.inl ⟨?_, ?_⟩) (by assumption) ?_; rotate_left; (focus rfl); (focus (intro w hSw; go_split_ands; go_simp; try with_reducible rfl)); skip)
                | (refine wpAnyH_take (i := 6) (v := undef) rfl (by kernel_rfl) (by kernel_rfl) (by kernel_rfl) (fun _ _ _ h => h) (Or.inr ⟨?_, rfl⟩) (by assumption) ?_; (focus rfl))
              try simp only [Act.put, List.setIfInBounds_toArray, List.set_cons_zero, List.set_cons_succ, List.getElem_toArray, List.getElem_cons_zero, List.getElem_cons_succ]
              refine wpAnyH_ready (rs := [7]) (by kernel_rfl) (by simp) ?_
              refine AllReadyH.cons rfl (fun K hK => ?_) AllReadyH.nil
              go_simp
              refine hK.out _ _ trivial (fun hH => ?_)
              clear hK K
              try simp only [Act.put, List.setIfInBounds_toArray, List.set_cons_zero, List.set_cons_succ, List.getElem_toArray, List.getElem_cons_zero, List.getElem_cons_succ]
              refine wpAnyH_done (by kernel_rfl) ?_ _
              have hn5 : n5 = (es.drop k).length := by obtain ⟨_, _, h⟩ := HP1.out.len; simp only [Value.slice.injEq] at h; exact h.2.1
              subst hn5
              have HOs := Lib.hid (show Own 4 entRow 28 (g + 1) w5 (.slice A1 s.length c1) s from HO2.out.stay fun q hq => (HP4.out q (HO2.out.block hq).2 (by simp [Act.eval, Value.ownBlock])))
              obtain ⟨w6, hw6⟩ : ∃ z, z = w5.setCell ⟨g, 4, none⟩ (.slice A5 (es.drop k).length c5) := ⟨_, rfl⟩
              have HX6 := Lib.hid (show Box w6 g #[.bool true, .int .i64 ix, .int .i64 0, .slice A1 s.length c1, .slice A5 (es.drop k).length c5] 45 by rw [hw6]; exact HX5.out.set_ 4 _)
              have HO6 := Lib.hid (show Own 4 entRow 28 (g + 1) w6 (.slice A1 s.length c1) s by rw [hw6]; exact HOs.out.set_below (Nat.lt_succ_self g))
              have HD6 := Lib.hid (show Own 4 entRow 28 (g + 1) w6 (.slice A5 (es.drop k).length c5) (es.drop k) by rw [hw6]; exact HP1.out.set_below (Nat.lt_succ_self g))
              have HB6 := Lib.hid (show Below g Vp w6 by rw [hw6]; exact below_set (HB2.out.trans ((show Below g w2 w5 from (Below.refl _ _).drew.trans (HP2.out.mono (Nat.le_succ g))))) (Nat.le_refl _))
              rw [← hw6]
              clear hw6 k5 f5 z5 kg fg zg
              obtain ⟨k6, f6, z6⟩ := HX6.out.facts
              have c6 := HCL2.out w6 HB6.out
              go_upto_region 23 with fail
              obtain ⟨w7, hw7⟩ : ∃ z, z = w6.setCell ⟨g, 1, none⟩ (.int .i64 y.idx) := ⟨_, rfl⟩
              have HX7 := Lib.hid (show Box w7 g #[.bool true, .int .i64 y.idx, .int .i64 0, .slice A1 s.length c1, .slice A5 (es.drop k).length c5] 45 by rw [hw7]; exact HX6.out.set_ 1 _)
              have HO7 := Lib.hid (show Own 4 entRow 28 (g + 1) w7 (.slice A1 s.length c1) s by rw [hw7]; exact HO6.out.set_below (Nat.lt_succ_self g))
              have HD7 := Lib.hid (show Own 4 entRow 28 (g + 1) w7 (.slice A5 (es.drop k).length c5) (es.drop k) by rw [hw7]; exact HD6.out.set_below (Nat.lt_succ_self g))
              have HB7 := Lib.hid (show Below g Vp w7 by rw [hw7]; exact below_set HB6.out (Nat.le_refl _))
              rw [← hw7]
              clear hw7 k6 f6 z6 c6
              obtain ⟨k7, f7, z7⟩ := HX7.out.facts
              have HX2z := Lib.hid ((HX2.out.later HBp.out).below (HB7.out.mono (Nat.le_refl _)) HG2.out)
              obtain ⟨k2, f2, z2⟩ := HX2z.out.facts
              go_wp2_with fail
              refine bodyPost_two (HX2z.out.set5 _ _ _ _ _) (below_set5 ((below_call HB0.out HBp.out).trans (HB7.out.mono HGW.out)) (n := w.heap.size + 1 + 1) (by omega) _ _ _ _ _) (((((HO7.out.set_below (n := w.heap.size + 1 + 1) (by have := HG2.out; omega)).set_below (n := w.heap.size + 1 + 1) (by have := HG2.out; omega)).set_below (n := w.heap.size + 1 + 1) (by have := HG2.out; omega)).set_below (n := w.heap.size + 1 + 1) (by have := HG2.out; omega)).set_below (n := w.heap.size + 1 + 1) (by have := HG2.out; omega)) ((((((HD7.out.set_below (n := w.heap.size + 1 + 1) (by have := HG2.out; omega)).set_below (n := w.heap.size + 1 + 1) (by have := HG2.out; omega)).set_below (n := w.heap.size + 1 + 1) (by have := HG2.out; omega)).set_below (n := w.heap.size + 1 + 1) (by have := HG2.out; omega)).set_below (n := w.heap.size + 1 + 1) (by have := HG2.out; omega))) ?_
              intro wz hz1 hz2 hz3 hz4
              obtain ⟨kz, -, -⟩ := hz1.facts
              exact bodyPost_ret (v := .tuple #[.agg #[.bool true, .int .i64 y.idx, .int .i64 0, .slice A1 s.length c1, .slice A5 (es.drop k).length c5], .int .i64 0]) (by simp [results, Tryz.results17, go_sem, kz]) rfl (refYes_mk HQ.out (hz3.less (by have := HGW.out; omega)) (hz4.less (by have := HGW.out; omega)) hz2)
            · rw [hh] at HHC
              have HQ0 := Lib.hid (HPL.out.trans (planV_2 HXX.out HNL.out hf))
              have hpos : 0 < x.idx := by have := HHI.out; omega
              have dpos : decide (0 < x.idx) = true := decide_eq_true hpos
              clear hf hh
              go_upto_region 15 with (go_at_call 87; (with_reducible refine HHC.out.mono ?_); rintro e w2 ⟨rfl, hb2⟩; have HBh := Lib.hid hb2; clear hb2 kv fv zv)
              have HB2 := Lib.hid (HB1.out.trans (HBh.out.mono (show g ≤ w1.heap.size by have := HXg1.out.lt; omega)))
              have HXg2 := Lib.hid (HXg1.out.later HBh.out)
              have HXe2 := Lib.hid (HXe.out.later HBh.out)
              have HO2 := Lib.hid (HO1.out.later HBh.out)
              clear ke fe ze HHC
              obtain ⟨kg, fg, zg⟩ := HXg2.out.facts
              obtain ⟨ke, fe, ze⟩ := HXe2.out.facts
              have HXgc := Lib.hid (HXg2.out.set_ 2 (.int .i64 x.idx))
              go_upto_region 20 with fail
              obtain ⟨w2c, hw2c⟩ : ∃ y, y = w2.setCell ⟨g, 2, none⟩ (.int .i64 x.idx) := ⟨_, rfl⟩
              have HBc := Lib.hid (show Below g Vp w2c by rw [hw2c]; exact below_set HB2.out (Nat.le_refl _))
              have HOc := Lib.hid (show Own 4 entRow 28 (g + 1) w2c (.slice A1 s.length c1) s by rw [hw2c]; exact HO2.out.set_below (Nat.lt_succ_self g))
              rw [← hw2c] at HXgc
              rw [← hw2c]
              clear hw2c kg fg zg ke fe ze
              obtain ⟨kg, fg, zg⟩ := HXgc.out.facts
              obtain ⟨y, hy⟩ : ∃ y, es[es.length - 1]? = some y := ⟨_, List.getElem?_eq_getElem (by omega)⟩
              have HYL : Hid ((lastE ⟨0, 0, 0⟩ (es.drop k)).idx = y.idx) := by
                rw [lastE_get (es.drop k) ⟨0, 0, 0⟩ y (by rw [List.getElem?_drop, List.length_drop, show k + (es.length - k - 1) = es.length - 1 by omega]; exact hy)]
                rfl
              have HQ := Lib.hid (HQ0.out.trans (by rw [HYL.out]))
              have HEq := Lib.hid ((HEp.out.below HBc.out).drop_ (j := k) (by omega))
              have HCL2 : Hid (∀ u0, Below g Vp u0 → u0.cell? ⟨eb, off + (es.length - 1) * 4, none⟩ = some (.int .i64 y.idx)) := fun u0 hu => by
                obtain ⟨b2, off2, c2, e2, -, -, hb2, hc2⟩ := (HEp.out.below hu).cellAt (by intro h; subst h; simp at hlt)
                simp only [Value.slice.injEq, Option.some.injEq, Addr.mk.injEq, and_true] at e2
                obtain ⟨⟨rfl, rfl⟩, -⟩ := e2
                exact hc2 (es.length - 1) y hy 0 _ rfl
              have hdl : (es.drop k).length = es.length - k := List.length_drop
              have n0 : es.length - k ≤ 4294967296 := by omega
              obtain ⟨j, hj⟩ : ∃ j, j = es.length - 1 := ⟨_, rfl⟩
              rw [← hj] at HCL2
              have j1 : wrap64 ((es.length : Int) - 1) = (j : Int) := by unfold wrap64; omega
              have j4 : (es.length : Int) - 1 = (j : Int) := by omega
              have j2 : (0 : Int) ≤ (j : Int) := by omega
              have j3 : (j : Int) < (es.length : Int) := by omega
              have hck : ¬ ce = k := by omega
              have hck2 : k ≤ ce := by omega
              have hck3 : (k : Int) ≤ (ce : Int) := by omega
              have hck4 : (es.length : Int) ≤ (ce : Int) := by omega
              have hck5 : (k : Int) ≤ (es.length : Int) := by omega
              clear hy hj
              go_upto_region 21 with fail
              have HXd := Lib.hid (show Box w2c.drew g _ 45 from HXgc.out)
              have HSd := Lib.hid (show Sl 4 entRow g w2c.drew _ (es.drop k) from HEq.out)
              refine wp_region_held_drew (S := fun _ => True) (by kernel_rfl) trivial (fun hHeld => ?_)
              first
                | (refine wpAnyH_take (i := 0) (v := ?_) rfl (by kernel_rfl) (by kernel_rfl) (by kernel_rfl) (fun _ _ _ h => h) (Or.inl ⟨?_, ?_⟩) (by assumption) ?_; rotate_left; (focus rfl); (focus (intro w hSw; go_split_ands; go_simp; try with_reducible rfl)); skip)
                | (refine wpAnyH_take (i := 0) (v := undef) rfl (by kernel_rfl) (by kernel_rfl) (by kernel_rfl) (fun _ _ _ h => h) (Or.inr ⟨?_, rfl⟩) (by assumption) ?_; (focus rfl))
              try simp only [Act.put, List.setIfInBounds_toArray, List.set_cons_zero, List.set_cons_succ, List.getElem_toArray, List.getElem_cons_zero, List.getElem_cons_succ]
              first
                | (refine wpAnyH_take (i := 2) (v := ?_) rfl (by kernel_rfl) (by kernel_rfl) (by kernel_rfl) (fun _ _ _ h => h) (Or.inl ⟨?_, ?_⟩) (by assumption) ?_; rotate_left; (focus rfl); (focus (intro w hSw; go_split_ands; go_simp; try with_reducible rfl)); skip)
                | (refine wpAnyH_take (i := 2) (v := undef) rfl (by kernel_rfl) (by kernel_rfl) (by kernel_rfl) (fun _ _ _ h => h) (Or.inr ⟨?_, rfl⟩) (by assumption) ?_; (focus rfl))
              try simp only [Act.put, List.setIfInBounds_toArray, List.set_cons_zero, List.set_cons_succ, List.getElem_toArray, List.getElem_cons_zero, List.getElem_cons_succ]
              first
                | (refine wpAnyH_take (i := 3) (v := ?_) rfl (by kernel_rfl) (by kernel_rfl) (by kernel_rfl) (fun _ _ _ h => h) (Or.inl ⟨?_, ?_⟩) (by assumption) ?_; rotate_left; (focus rfl); (focus (intro w hSw; go_split_ands; go_simp; try with_reducible rfl)); skip)
                | (refine wpAnyH_take (i := 3) (v := undef) rfl (by kernel_rfl) (by kernel_rfl) (by kernel_rfl) (fun _ _ _ h => h) (Or.inr ⟨?_, rfl⟩) (by assumption) ?_; (focus rfl))
              try simp only [Act.put, List.setIfInBounds_toArray, List.set_cons_zero, List.set_cons_succ, List.getElem_toArray, List.getElem_cons_zero, List.getElem_cons_succ]
              first
                | (refine wpAnyH_take (i := 4) (v := ?_) rfl (by kernel_rfl) (by kernel_rfl) (by kernel_rfl) (fun _ _ _ h => h) (Or.inl ⟨?_, ?_⟩) (by assumption) ?_; rotate_left; (focus rfl); (focus (intro w hSw; go_split_ands; go_simp; try with_reducible rfl)); skip)
                | (refine wpAnyH_take (i := 4) (v := undef) rfl (by kernel_rfl) (by kernel_rfl) (by kernel_rfl) (fun _ _ _ h => h) (Or.inr ⟨?_, rfl⟩) (by assumption) ?_; (focus rfl))
              try simp only [Act.put, List.setIfInBounds_toArray, List.set_cons_zero, List.set_cons_succ, List.getElem_toArray, List.getElem_cons_zero, List.getElem_cons_succ]
              refine wpAnyH_ready (rs := [1]) (by kernel_rfl) (by simp) ?_
              refine AllReadyH.cons rfl (fun K hK => ?_) AllReadyH.nil
              go_simp
              refine hK.out _ _ trivial (fun hH => ?_)
              clear hK K
              try simp only [Act.put, List.setIfInBounds_toArray, List.set_cons_zero, List.set_cons_succ, List.getElem_toArray, List.getElem_cons_zero, List.getElem_cons_succ]
              refine wpAnyH_ready (rs := [5]) (by kernel_rfl) (by simp) ?_
              refine AllReadyH.cons rfl (fun K hK => ?_) AllReadyH.nil
              refine step_append_any rfl (.tmp 123) (.tmp 126) _ rfl (g + 1) 28 _ 4 48 Tryz.underlying31 entInfo rfl (Nat.succ_pos 3) entRow entRow_length entRow_one [] _ rfl (Own.nil_ _ _ _ _ _) (es.drop k) _ ⟨g, HSd.out⟩ rfl (by rw [hdl]; simp; omega) (by omega) (by have := HXgc.out.lt; simp; omega) ?_
              intro v5 w5 p1 p2 p3 p4 p5
              obtain ⟨A5, n5, c5, rfl⟩ := p1.form
              have HP1 := Lib.hid p1
              have HP2 := Lib.hid p2
              have HP4 := Lib.hid p4
              have HX5 := Lib.hid (show Box w5 g _ 45 from (p4 g HXd.out.lt (by simp [Act.eval, Value.ownBlock])).trans HXd.out)
              obtain ⟨k5, f5, z5⟩ := HX5.out.facts
              clear p1 p2 p3 p4 p5
              refine hK.out _ _ trivial (fun hH => ?_)
              clear hK K
              try simp only [Act.put, List.setIfInBounds_toArray, List.set_cons_zero, List.set_cons_succ, List.getElem_toArray, List.getElem_cons_zero, List.getElem_cons_succ]
              have hHeld2 := hH
              first
                | (refine wpAnyH_take (i := 6) (v := ?_) rfl (by kernel_rfl) (by kernel_rfl) (by kernel_rfl) (fun _ _ _ h => h) (Or.inl ⟨?_, ?_⟩) (by assumption) ?_; rotate_left; (focus rfl); (focus (intro w hSw; go_split_ands; go_simp; try with_reducible rfl)); skip)
                | (refine wpAnyH_take (i := 6) (v := undef) rfl (by kernel_rfl) (by kernel_rfl) (by kernel_rfl) (fun _ _ _ h => h) (Or.inr ⟨?_, rfl⟩) (by assumption) ?_; (focus rfl))
              try simp only [Act.put, List.setIfInBounds_toArray, List.set_cons_zero, List.set_cons_succ, List.getElem_toArray, List.getElem_cons_zero, List.getElem_cons_succ]
              refine wpAnyH_ready (rs := [7]) (by kernel_rfl) (by simp) ?_
              refine AllReadyH.cons rfl (fun K hK => ?_) AllReadyH.nil
              go_simp
              refine hK.out _ _ trivial (fun hH => ?_)
              clear hK K
              try simp only [Act.put, List.setIfInBounds_toArray, List.set_cons_zero, List.set_cons_succ, List.getElem_toArray, List.getElem_cons_zero, List.getElem_cons_succ]
              refine wpAnyH_done (by kernel_rfl) ?_ _
              have hn5 : n5 = (es.drop k).length := by obtain ⟨_, _, h⟩ := HP1.out.len; simp only [Value.slice.injEq] at h; exact h.2.1
              subst hn5
              have HOs := Lib.hid (show Own 4 entRow 28 (g + 1) w5 (.slice A1 s.length c1) s from HOc.out.stay fun q hq => (HP4.out q (HOc.out.block hq).2 (by simp [Act.eval, Value.ownBlock])))
              obtain ⟨w6, hw6⟩ : ∃ z, z = w5.setCell ⟨g, 4, none⟩ (.slice A5 (es.drop k).length c5) := ⟨_, rfl⟩
              have HX6 := Lib.hid (show Box w6 g #[.bool true, .int .i64 ix, .int .i64 x.idx, .slice A1 s.length c1, .slice A5 (es.drop k).length c5] 45 by rw [hw6]; exact HX5.out.set_ 4 _)
              have HO6 := Lib.hid (show Own 4 entRow 28 (g + 1) w6 (.slice A1 s.length c1) s by rw [hw6]; exact HOs.out.set_below (Nat.lt_succ_self g))
              have HD6 := Lib.hid (show Own 4 entRow 28 (g + 1) w6 (.slice A5 (es.drop k).length c5) (es.drop k) by rw [hw6]; exact HP1.out.set_below (Nat.lt_succ_self g))
              have HB6 := Lib.hid (show Below g Vp w6 by rw [hw6]; exact below_set (HBc.out.trans ((show Below g w2c w5 from (Below.refl _ _).drew.trans (HP2.out.mono (Nat.le_succ g))))) (Nat.le_refl _))
              rw [← hw6]
              clear hw6 k5 f5 z5 kg fg zg
              obtain ⟨k6, f6, z6⟩ := HX6.out.facts
              have c6 := HCL2.out w6 HB6.out
              go_upto_region 23 with fail
              obtain ⟨w7, hw7⟩ : ∃ z, z = w6.setCell ⟨g, 1, none⟩ (.int .i64 y.idx) := ⟨_, rfl⟩
              have HX7 := Lib.hid (show Box w7 g #[.bool true, .int .i64 y.idx, .int .i64 x.idx, .slice A1 s.length c1, .slice A5 (es.drop k).length c5] 45 by rw [hw7]; exact HX6.out.set_ 1 _)
              have HO7 := Lib.hid (show Own 4 entRow 28 (g + 1) w7 (.slice A1 s.length c1) s by rw [hw7]; exact HO6.out.set_below (Nat.lt_succ_self g))
              have HD7 := Lib.hid (show Own 4 entRow 28 (g + 1) w7 (.slice A5 (es.drop k).length c5) (es.drop k) by rw [hw7]; exact HD6.out.set_below (Nat.lt_succ_self g))
              have HB7 := Lib.hid (show Below g Vp w7 by rw [hw7]; exact below_set HB6.out (Nat.le_refl _))
              rw [← hw7]
              clear hw7 k6 f6 z6 c6
              obtain ⟨k7, f7, z7⟩ := HX7.out.facts
              have HX2z := Lib.hid ((HX2.out.later HBp.out).below (HB7.out.mono (Nat.le_refl _)) HG2.out)
              obtain ⟨k2, f2, z2⟩ := HX2z.out.facts
              go_wp2_with fail
              refine bodyPost_two (HX2z.out.set5 _ _ _ _ _) (below_set5 ((below_call HB0.out HBp.out).trans (HB7.out.mono HGW.out)) (n := w.heap.size + 1 + 1) (by omega) _ _ _ _ _) (((((HO7.out.set_below (n := w.heap.size + 1 + 1) (by have := HG2.out; omega)).set_below (n := w.heap.size + 1 + 1) (by have := HG2.out; omega)).set_below (n := w.heap.size + 1 + 1) (by have := HG2.out; omega)).set_below (n := w.heap.size + 1 + 1) (by have := HG2.out; omega)).set_below (n := w.heap.size + 1 + 1) (by have := HG2.out; omega)) ((((((HD7.out.set_below (n := w.heap.size + 1 + 1) (by have := HG2.out; omega)).set_below (n := w.heap.size + 1 + 1) (by have := HG2.out; omega)).set_below (n := w.heap.size + 1 + 1) (by have := HG2.out; omega)).set_below (n := w.heap.size + 1 + 1) (by have := HG2.out; omega)).set_below (n := w.heap.size + 1 + 1) (by have := HG2.out; omega))) ?_
              intro wz hz1 hz2 hz3 hz4
              obtain ⟨kz, -, -⟩ := hz1.facts
              exact bodyPost_ret (v := .tuple #[.agg #[.bool true, .int .i64 y.idx, .int .i64 x.idx, .slice A1 s.length c1, .slice A5 (es.drop k).length c5], .int .i64 0]) (by simp [results, Tryz.results17, go_sem, kz]) rfl (refYes_mk HQ.out (hz3.less (by have := HGW.out; omega)) (hz4.less (by have := HGW.out; omega)) hz2)
            · rw [hh] at HHC
              have HQ := Lib.hid (HPL.out.trans (planV_3 HXX.out HNL.out hf))
              clear hf hh
              go_upto_region 15 with (go_at_call 87; (with_reducible refine HHC.out.mono ?_); rintro e w2 ⟨rfl, hb2⟩; have HBh := Lib.hid hb2; clear hb2 kv fv zv)
              have HB2 := Lib.hid (HB1.out.trans (HBh.out.mono (show g ≤ w1.heap.size by have := HXg1.out.lt; omega)))
              have HXg2 := Lib.hid (HXg1.out.later HBh.out)
              have HXe2 := Lib.hid (HXe.out.later HBh.out)
              have HO2 := Lib.hid (HO1.out.later HBh.out)
              clear ke fe ze HHC
              obtain ⟨kg, fg, zg⟩ := HXg2.out.facts
              obtain ⟨ke, fe, ze⟩ := HXe2.out.facts
              have HX2z := Lib.hid ((HX2.out.later HBp.out).below (HB2.out.mono (Nat.le_refl _)) HG2.out)
              obtain ⟨k2, f2, z2⟩ := HX2z.out.facts
              go_wp2_with fail
              refine bodyPost_two (HX2z.out.set5 _ _ _ _ _) (below_set5 ((below_call HB0.out HBp.out).trans (HB2.out.mono HGW.out)) (n := w.heap.size + 1 + 1) (by omega) _ _ _ _ _) (((((HO2.out.set_below (n := w.heap.size + 1 + 1) (by have := HG2.out; omega)).set_below (n := w.heap.size + 1 + 1) (by have := HG2.out; omega)).set_below (n := w.heap.size + 1 + 1) (by have := HG2.out; omega)).set_below (n := w.heap.size + 1 + 1) (by have := HG2.out; omega)).set_below (n := w.heap.size + 1 + 1) (by have := HG2.out; omega)) (Own.nil_ 4 entRow 28 0 _) ?_
              intro wz hz1 hz2 hz3 hz4
              obtain ⟨kz, -, -⟩ := hz1.facts
              exact bodyPost_ret (v := .tuple #[.agg #[.bool true, .int .i64 ix, .int .i64 0, .slice A1 s.length c1, .slice none 0 0], .int .i64 0]) (by simp [results, Tryz.results17, go_sem, kz]) rfl (refYes_mk HQ.out (hz3.less (by have := HGW.out; omega)) (Own.nil_ _ _ _ _ _) hz2)
        · have d0 : decide ((k : Int) < (es.length : Int)) = false := decide_eq_false (by omega)
          have d0' : decide (k < es.length) = false := decide_eq_false hlt
          have HQ := Lib.hid (HPL.out.trans (planV_end (by omega)))
          clear hlt
          have HX2z := Lib.hid ((HX2.out.later HBp.out).below (HB.out.mono (Nat.le_refl _)) HG2.out)
          obtain ⟨k2, f2, z2⟩ := HX2z.out.facts
          go_wp2_with fail
          refine bodyPost_two (HX2z.out.set5 _ _ _ _ _) (below_set5 ((below_call HB0.out HBp.out).trans (HB.out.mono HGW.out)) (n := w.heap.size + 1 + 1) (by omega) _ _ _ _ _) (((((HO.out.set_below (n := w.heap.size + 1 + 1) (by have := HG2.out; omega)).set_below (n := w.heap.size + 1 + 1) (by have := HG2.out; omega)).set_below (n := w.heap.size + 1 + 1) (by have := HG2.out; omega)).set_below (n := w.heap.size + 1 + 1) (by have := HG2.out; omega)).set_below (n := w.heap.size + 1 + 1) (by have := HG2.out; omega)) (Own.nil_ 4 entRow 28 0 _) ?_
          intro wz hz1 hz2 hz3 hz4
          obtain ⟨kz, -, -⟩ := hz1.facts
          exact bodyPost_ret (v := .tuple #[.agg #[.bool true, .int .i64 ix, .int .i64 0, .slice A1 s.length c1, .slice none 0 0], .int .i64 0]) (by simp [results, Tryz.results17, go_sem, kz]) rfl (refYes_mk HQ.out (hz3.less (by have := HGW.out; omega)) (Own.nil_ _ _ _ _ _) hz2)
end Go.Proofs.YtfglkpcboodllaaGreatDoor
