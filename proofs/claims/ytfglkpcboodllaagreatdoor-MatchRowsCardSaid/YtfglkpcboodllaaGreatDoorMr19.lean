/-
  match's Fit: contracts.
-/
import Derived.Test.YtfglkpcboodllaaGreatDoorMr18
import Derived.Test.YtfglkpcboodllaaGreatDoorMr4
import Derived.Test.YtfglkpcboodllaaGreatDoorMr8
set_option linter.unusedVariables false
set_option linter.unusedSimpArgs false
namespace Go.Proofs.YtfglkpcboodllaaGreatDoor
open Go.RowKit

set_option maxRecDepth 100000 in
set_option maxHeartbeats 4000000 in
/-- A view that is not right. -/
theorem fitWrong (b p : Idt) (l : List Idt) (A : Option Addr) (c : Nat) (es : List Ent) (Ae : Option Addr) (ce : Nat) (w : World) (h : Sl 3 idRow w.heap.size w (.slice A l.length c) l) (he : Sl 4 entRow w.heap.size w (.slice Ae es.length ce) es) (hein : ∀ x ∈ es, EntIn w.heap.size w x ∧ x.bd.length ≤ 100000) (hn : es.length ≤ 100000) (hb : I64 b.idx) (hp : I64 p.idx) (hin : ∀ q ∈ l, I64 q.idx) (hix : ∀ x ∈ es, I64 x.idx) (hG : errTypeIs w) (hr : rightV b l = false) :
    Calls Tryz.prog 16 #[.agg #[.int .i64 b.idx, .int .i64 b.trm, .int .i64 b.knd, .slice A l.length c], .agg #[.int .i64 p.idx, .int .i64 p.trm, .int .i64 p.knd], .slice Ae es.length ce] w fun e w' => e = .returned (.tuple #[.agg #[.bool false, .int .i64 0, .int .i64 0, .slice none 0 0, .slice none 0 0], .int .i64 2]) ∧ Below w.heap.size w w' := by
  have HR := Lib.hid hr
  clear hr
  obtain ⟨W0, hW0⟩ : ∃ W0 : World, W0 = ((w.alloc (.cells #[.int .i64 b.idx, .int .i64 b.trm, .int .i64 b.knd, .slice A l.length c] 36)).alloc (.cells #[.int .i64 p.idx, .int .i64 p.trm, .int .i64 p.knd] 25)).alloc (.cells #[.bool false, .int .i64 0, .int .i64 0, .slice none 0 0, .slice none 0 0] 41) := ⟨_, rfl⟩
  have B0 : Below w.heap.size w W0 := by rw [hW0]; exact below_call (below_call (below_new _ _) (below_new _ _)) (below_new _ _)
  have X0 : Box W0 w.heap.size #[.int .i64 b.idx, .int .i64 b.trm, .int .i64 b.knd, .slice A l.length c] 36 := by rw [hW0]; exact ((Box.new _ _ _).alloc _).alloc _
  have X1 : Box W0 (w.heap.size + 1) #[.int .i64 p.idx, .int .i64 p.trm, .int .i64 p.knd] 25 := by
    have := (Box.new (w.alloc (.cells #[.int .i64 b.idx, .int .i64 b.trm, .int .i64 b.knd, .slice A l.length c] 36)) #[.int .i64 p.idx, .int .i64 p.trm, .int .i64 p.knd] 25).alloc (.cells #[.bool false, .int .i64 0, .int .i64 0, .slice none 0 0, .slice none 0 0] 41)
    rw [hW0]; simpa using this
  have X2 : Box W0 (w.heap.size + 1 + 1) #[.bool false, .int .i64 0, .int .i64 0, .slice none 0 0, .slice none 0 0] 41 := by
    have := Box.new ((w.alloc (.cells #[.int .i64 b.idx, .int .i64 b.trm, .int .i64 b.knd, .slice A l.length c] 36)).alloc (.cells #[.int .i64 p.idx, .int .i64 p.trm, .int .i64 p.knd] 25)) #[.bool false, .int .i64 0, .int .i64 0, .slice none 0 0, .slice none 0 0] 41
    rw [hW0]; simpa using this
  have HB0 := Lib.hid B0
  have HX0 := Lib.hid X0
  have HX1 := Lib.hid X1
  have HX2 := Lib.hid X2
  have HSl := Lib.hid (h.later B0)
  have HEs := Lib.hid (he.later B0)
  have HEI := Lib.hid (show ∀ x ∈ es, EntIn W0.heap.size W0 x from fun x hx => (hein x hx).1.later B0)
  have HEL := Lib.hid (show ∀ x ∈ es, x.bd.length ≤ 100000 from fun x hx => (hein x hx).2)
  have HG := Lib.hid (errType_later hG B0)
  have HBb := hb
  have HPp := hp
  have HIN := Lib.hid hin
  have HIX := Lib.hid hix
  obtain ⟨k0, f0, z0⟩ := X0.facts
  obtain ⟨k1, f1, z1⟩ := X1.facts
  clear h he hein hin hix hG B0 X0 X1 X2
  go_enter Tryz.func16, Tryz.ntmps16
  go_wp2_with fail
  rw [← hW0]
  clear hW0
  go_wp2_with (go_at_call 21; refine (matchRight b l A c _ HSl.out HBb HIN.out).mono ?_; rintro e w1 ⟨rfl, hb1⟩; rw [HR.out]; obtain ⟨k1a, f1a, z1a⟩ := (HX1.out.later hb1).facts; obtain ⟨k2a, f2a, z2a⟩ := (HX2.out.later hb1).facts; have HB1 := Lib.hid hb1; clear k0 f0 z0 k1 f1 z1)
  refine bodyPost_box ((HX2.out.later HB1.out).set5 _ _ _ _ _) (below_set5 (below_call HB0.out HB1.out) (n := w.heap.size + 1 + 1) (by omega) _ _ _ _ _) ?_
  intro wz hz1 hz2
  obtain ⟨kz, -, -⟩ := hz1.facts
  exact bodyPost_ret (v := .tuple #[.agg #[.bool false, .int .i64 0, .int .i64 0, .slice none 0 0, .slice none 0 0], .int .i64 2]) (by simp [results, Tryz.results16, go_sem, kz]) rfl ⟨rfl, hz2⟩

set_option maxRecDepth 100000 in
set_option maxHeartbeats 4000000 in
/-- A row that does not follow. -/
theorem fitNone (b p : Idt) (l : List Idt) (A : Option Addr) (c : Nat) (es : List Ent) (Ae : Option Addr) (ce : Nat) (w : World) (h : Sl 3 idRow w.heap.size w (.slice A l.length c) l) (he : Sl 4 entRow w.heap.size w (.slice Ae es.length ce) es) (hein : ∀ x ∈ es, EntIn w.heap.size w x ∧ x.bd.length ≤ 100000) (hn : es.length ≤ 100000) (hb : I64 b.idx) (hp : I64 p.idx) (hin : ∀ q ∈ l, I64 q.idx) (hix : ∀ x ∈ es, I64 x.idx) (hG : errTypeIs w) (hr : rightV b l = true) (hf : folE p es ≠ 0) :
    Calls Tryz.prog 16 #[.agg #[.int .i64 b.idx, .int .i64 b.trm, .int .i64 b.knd, .slice A l.length c], .agg #[.int .i64 p.idx, .int .i64 p.trm, .int .i64 p.knd], .slice Ae es.length ce] w fun e w' => e = .returned (.tuple #[.agg #[.bool false, .int .i64 0, .int .i64 0, .slice none 0 0, .slice none 0 0], .int .i64 2]) ∧ Below w.heap.size w w' := by
  have HR := Lib.hid hr
  obtain ⟨ff, hff⟩ : ∃ f, folE p es = f := ⟨_, rfl⟩
  have HF := Lib.hid hff
  rw [hff] at hf
  have g1 : (ff == 0) = false := by simpa using hf
  clear hr hff
  obtain ⟨W0, hW0⟩ : ∃ W0 : World, W0 = ((w.alloc (.cells #[.int .i64 b.idx, .int .i64 b.trm, .int .i64 b.knd, .slice A l.length c] 36)).alloc (.cells #[.int .i64 p.idx, .int .i64 p.trm, .int .i64 p.knd] 25)).alloc (.cells #[.bool false, .int .i64 0, .int .i64 0, .slice none 0 0, .slice none 0 0] 41) := ⟨_, rfl⟩
  have B0 : Below w.heap.size w W0 := by rw [hW0]; exact below_call (below_call (below_new _ _) (below_new _ _)) (below_new _ _)
  have X0 : Box W0 w.heap.size #[.int .i64 b.idx, .int .i64 b.trm, .int .i64 b.knd, .slice A l.length c] 36 := by rw [hW0]; exact ((Box.new _ _ _).alloc _).alloc _
  have X1 : Box W0 (w.heap.size + 1) #[.int .i64 p.idx, .int .i64 p.trm, .int .i64 p.knd] 25 := by
    have := (Box.new (w.alloc (.cells #[.int .i64 b.idx, .int .i64 b.trm, .int .i64 b.knd, .slice A l.length c] 36)) #[.int .i64 p.idx, .int .i64 p.trm, .int .i64 p.knd] 25).alloc (.cells #[.bool false, .int .i64 0, .int .i64 0, .slice none 0 0, .slice none 0 0] 41)
    rw [hW0]; simpa using this
  have X2 : Box W0 (w.heap.size + 1 + 1) #[.bool false, .int .i64 0, .int .i64 0, .slice none 0 0, .slice none 0 0] 41 := by
    have := Box.new ((w.alloc (.cells #[.int .i64 b.idx, .int .i64 b.trm, .int .i64 b.knd, .slice A l.length c] 36)).alloc (.cells #[.int .i64 p.idx, .int .i64 p.trm, .int .i64 p.knd] 25)) #[.bool false, .int .i64 0, .int .i64 0, .slice none 0 0, .slice none 0 0] 41
    rw [hW0]; simpa using this
  have HB0 := Lib.hid B0
  have HX0 := Lib.hid X0
  have HX1 := Lib.hid X1
  have HX2 := Lib.hid X2
  have HSl := Lib.hid (h.later B0)
  have HEs := Lib.hid (he.later B0)
  have HEI := Lib.hid (show ∀ x ∈ es, EntIn W0.heap.size W0 x from fun x hx => (hein x hx).1.later B0)
  have HEL := Lib.hid (show ∀ x ∈ es, x.bd.length ≤ 100000 from fun x hx => (hein x hx).2)
  have HG := Lib.hid (errType_later hG B0)
  have HBb := hb
  have HPp := hp
  have HIN := Lib.hid hin
  have HIX := Lib.hid hix
  obtain ⟨k0, f0, z0⟩ := X0.facts
  obtain ⟨k1, f1, z1⟩ := X1.facts
  clear h he hein hin hix hG B0 X0 X1 X2
  go_enter Tryz.func16, Tryz.ntmps16
  go_wp2_with fail
  rw [← hW0]
  clear hW0
  go_wp2_with (first | (go_at_call 21; refine (matchRight b l A c _ HSl.out HBb HIN.out).mono ?_; rintro e w1 ⟨rfl, hb1⟩; rw [HR.out]; obtain ⟨k1a, f1a, z1a⟩ := (HX1.out.later hb1).facts; obtain ⟨k2a, f2a, z2a⟩ := (HX2.out.later hb1).facts; have HB1 := Lib.hid hb1; clear k0 f0 z0 k1 f1 z1) | (go_at_call 57; refine (entFollows p es _ _ (HEs.out.later HB1.out) (fun x hx => (HEI.out x hx).later HB1.out) (errType_later HG.out HB1.out)).mono ?_; rw [HF.out]; rintro e w2 ⟨rfl, hb2⟩; have HB2 := Lib.hid (below_call HB1.out hb2); obtain ⟨k0b, f0b, z0b⟩ := (HX0.out.later HB2.out).facts; obtain ⟨k1b, f1b, z1b⟩ := (HX1.out.later HB2.out).facts; obtain ⟨k2b, f2b, z2b⟩ := (HX2.out.later HB2.out).facts; clear k1a f1a z1a k2a f2a z2a hb1 hb2))
  refine bodyPost_box ((HX2.out.later HB2.out).set5 _ _ _ _ _) (below_set5 (below_call HB0.out HB2.out) (n := w.heap.size + 1 + 1) (by omega) _ _ _ _ _) ?_
  intro wz hz1 hz2
  obtain ⟨kz, -, -⟩ := hz1.facts
  exact bodyPost_ret (v := .tuple #[.agg #[.bool false, .int .i64 0, .int .i64 0, .slice none 0 0, .slice none 0 0], .int .i64 2]) (by simp [results, Tryz.results16, go_sem, kz]) rfl ⟨rfl, hz2⟩

set_option maxRecDepth 100000 in
set_option maxHeartbeats 4000000 in
/-- The view has not what stands ahead. -/
theorem fitNo (b p : Idt) (l : List Idt) (A : Option Addr) (c : Nat) (es : List Ent) (Ae : Option Addr) (ce : Nat) (w : World) (h : Sl 3 idRow w.heap.size w (.slice A l.length c) l) (he : Sl 4 entRow w.heap.size w (.slice Ae es.length ce) es) (hein : ∀ x ∈ es, EntIn w.heap.size w x ∧ x.bd.length ≤ 100000) (hn : es.length ≤ 100000) (hb : I64 b.idx) (hp : I64 p.idx) (hin : ∀ q ∈ l, I64 q.idx) (hix : ∀ x ∈ es, I64 x.idx) (hG : errTypeIs w) (hr : rightV b l = true) (hf : folE p es = 0) (hk : fitK b l (shownV b l 0 es) p.idx p.trm ≠ 0) :
    Calls Tryz.prog 16 #[.agg #[.int .i64 b.idx, .int .i64 b.trm, .int .i64 b.knd, .slice A l.length c], .agg #[.int .i64 p.idx, .int .i64 p.trm, .int .i64 p.knd], .slice Ae es.length ce] w fun e w' => e = .returned (.tuple #[.agg #[.bool false, .int .i64 (fitH b l p.idx), .int .i64 0, .slice none 0 0, .slice none 0 0], .int .i64 0]) ∧ Below w.heap.size w w' := by
  have HR := Lib.hid hr
  have HF := Lib.hid hf
  obtain ⟨hh1, hh2, hh3⟩ := rightV_head hr
  obtain ⟨kk, hkk⟩ : ∃ n, fitK b l (shownV b l 0 es) p.idx p.trm = n := ⟨_, rfl⟩
  rw [hkk] at hk
  have HW := Lib.hid (whyF_k hkk hk)
  obtain ⟨fh, hfh⟩ : ∃ v, fitH b l p.idx = v := ⟨_, rfl⟩
  have HFH := Lib.hid hfh
  rw [hfh]
  clear hr hf hkk hfh hk
  obtain ⟨W0, hW0⟩ : ∃ W0 : World, W0 = ((w.alloc (.cells #[.int .i64 b.idx, .int .i64 b.trm, .int .i64 b.knd, .slice A l.length c] 36)).alloc (.cells #[.int .i64 p.idx, .int .i64 p.trm, .int .i64 p.knd] 25)).alloc (.cells #[.bool false, .int .i64 0, .int .i64 0, .slice none 0 0, .slice none 0 0] 41) := ⟨_, rfl⟩
  have B0 : Below w.heap.size w W0 := by rw [hW0]; exact below_call (below_call (below_new _ _) (below_new _ _)) (below_new _ _)
  have X0 : Box W0 w.heap.size #[.int .i64 b.idx, .int .i64 b.trm, .int .i64 b.knd, .slice A l.length c] 36 := by rw [hW0]; exact ((Box.new _ _ _).alloc _).alloc _
  have X1 : Box W0 (w.heap.size + 1) #[.int .i64 p.idx, .int .i64 p.trm, .int .i64 p.knd] 25 := by
    have := (Box.new (w.alloc (.cells #[.int .i64 b.idx, .int .i64 b.trm, .int .i64 b.knd, .slice A l.length c] 36)) #[.int .i64 p.idx, .int .i64 p.trm, .int .i64 p.knd] 25).alloc (.cells #[.bool false, .int .i64 0, .int .i64 0, .slice none 0 0, .slice none 0 0] 41)
    rw [hW0]; simpa using this
  have X2 : Box W0 (w.heap.size + 1 + 1) #[.bool false, .int .i64 0, .int .i64 0, .slice none 0 0, .slice none 0 0] 41 := by
    have := Box.new ((w.alloc (.cells #[.int .i64 b.idx, .int .i64 b.trm, .int .i64 b.knd, .slice A l.length c] 36)).alloc (.cells #[.int .i64 p.idx, .int .i64 p.trm, .int .i64 p.knd] 25)) #[.bool false, .int .i64 0, .int .i64 0, .slice none 0 0, .slice none 0 0] 41
    rw [hW0]; simpa using this
  have HB0 := Lib.hid B0
  have HX0 := Lib.hid X0
  have HX1 := Lib.hid X1
  have HX2 := Lib.hid X2
  have HSl := Lib.hid (h.later B0)
  have HEs := Lib.hid (he.later B0)
  have HEI := Lib.hid (show ∀ x ∈ es, EntIn W0.heap.size W0 x from fun x hx => (hein x hx).1.later B0)
  have HEL := Lib.hid (show ∀ x ∈ es, x.bd.length ≤ 100000 from fun x hx => (hein x hx).2)
  have HG := Lib.hid (errType_later hG B0)
  have HBb := hb
  have HPp := hp
  have HIN := Lib.hid hin
  have HIX := Lib.hid hix
  obtain ⟨k0, f0, z0⟩ := X0.facts
  obtain ⟨k1, f1, z1⟩ := X1.facts
  clear h he hein hin hix hG B0 X0 X1 X2
  go_enter Tryz.func16, Tryz.ntmps16
  go_wp2_with fail
  rw [← hW0]
  clear hW0
  go_upto_region 5 with (first
    | (go_at_call 21; refine (matchRight b l A c _ HSl.out HBb HIN.out).mono ?_; rintro e w1 ⟨rfl, hb1⟩; rw [HR.out]; obtain ⟨k1a, f1a, z1a⟩ := (HX1.out.later hb1).facts; obtain ⟨k2a, f2a, z2a⟩ := (HX2.out.later hb1).facts; have HB1 := Lib.hid hb1; clear k0 f0 z0 k1 f1 z1)
    | (go_at_call 57; refine (entFollows p es _ _ (HEs.out.later HB1.out) (fun x hx => (HEI.out x hx).later HB1.out) (errType_later HG.out HB1.out)).mono ?_; rw [HF.out]; rintro e w2 ⟨rfl, hb2⟩; have HB2 := Lib.hid (below_call HB1.out hb2); obtain ⟨k0b, f0b, z0b⟩ := (HX0.out.later HB2.out).facts; obtain ⟨k1b, f1b, z1b⟩ := (HX1.out.later HB2.out).facts; obtain ⟨k2b, f2b, z2b⟩ := (HX2.out.later HB2.out).facts; clear k1a f1a z1a k2a f2a z2a hb1 hb2)
    | (go_at_call 79; refine (fitShow b l A c es Ae ce w2.heap.size w2 _ (Box.new w2 _ 111) ((HSl.out.later HB2.out).below (below_new _ _)) ((HEs.out.later HB2.out).below (below_new _ _)) HBb HIX.out).mono ?_; rintro e w3 ⟨rfl, hx3, hbut⟩))
  obtain ⟨gf, hgf⟩ : ∃ g, g = w2.heap.size := ⟨_, rfl⟩
  have HXF := Lib.hid hx3
  have hb23 : Below w2.heap.size w2 w3 := (below_new w2 _).trans (hbut.below (Nat.le_refl _) (by simp))
  have HB3 := Lib.hid (below_call HB2.out hb23)
  rw [← hgf] at HXF
  rw [← hgf]
  obtain ⟨k1c, f1c, z1c⟩ := (HX1.out.later HB3.out).facts
  have hz3 : W0.heap.size ≤ w3.heap.size := HB3.out.size
  clear hgf hb23 hx3 hbut k0b f0b z0b k1b f1b z1b k2b f2b z2b
  go_upto_region 7 with (first
    | (go_at_call 81; refine (fitFits b l A c Ae es.length ce (shownV b l 0 es) gf (w3.alloc (.cells #[.int .i64 0, .int .i64 0, .nilIface] 115)) p.idx p.trm (HXF.out.alloc _) ((HSl.out.later HB3.out).alloc _) (by omega) (by omega) HBb HPp).mono ?_; rw [HW.out]; rintro e w5 ⟨rfl, hb5⟩; have HB5 := Lib.hid (below_call (below_call HB3.out (below_new w3 (.cells #[.int .i64 0, .int .i64 0, .nilIface] 115))) hb5); have HM5 := Lib.hid ((Box.new w3 #[.int .i64 0, .int .i64 0, .nilIface] 115).later hb5); unfold misV; rw [HFH.out]; clear k1c f1c z1c hb5)
    | (go_at_call 80; refine (MatE.as_direct w3.heap.size _ _ _ _ _ _ w5 (errType_later HG.out HB5.out) HM5.out).mono ?_; rintro e w6 ⟨rfl, hx6, hbut6⟩))
  have HX26 := Lib.hid ((HX2.out.later HB5.out).but hbut6 (by have h1 := (HX2.out.later HB3.out).lt; omega))
  have HB6 : Below W0.heap.size W0 w6 := HB5.out.trans (hbut6.below (by have := HB3.out.size; omega) HB5.out.size)
  obtain ⟨k6, f6, z6⟩ := hx6.facts
  obtain ⟨k7, f7, z7⟩ := HX26.out.facts
  go_wp2_with fail
  refine bodyPost_box (HX26.out.set5 _ _ _ _ _) (below_set5 (below_call HB0.out HB6) (n := w.heap.size + 1 + 1) (by omega) _ _ _ _ _) ?_
  intro wz hz1 hz2
  obtain ⟨kz, -, -⟩ := hz1.facts
  exact bodyPost_ret (v := .tuple #[.agg #[.bool false, .int .i64 fh, .int .i64 0, .slice none 0 0, .slice none 0 0], .int .i64 0]) (by simp [results, Tryz.results16, go_sem, kz]) rfl ⟨rfl, hz2⟩


/-- Copies of entries in memory of their own. -/
structure Rs (B : Nat) (w : World) (A : Option Addr) (c : Nat) (ls m : List Ent) : Prop where
  key : m.map keyE = ls.map keyE
  own : Own 4 entRow 28 B w (.slice A ls.length c) m
  bod : BodFam B w (blkH (.slice A ls.length c)) m
theorem Rs.later {B : Nat} {w w' : World} {A : Option Addr} {c : Nat} {ls m : List Ent} (h : Rs B w A c ls m) (hb : Below w.heap.size w w') : Rs B w' A c ls m :=
  ⟨h.key, h.own.later hb, h.bod.stay (fun i x hx q hq => hb.block q ((h.bod.own i x hx).block hq).2) h.bod.out⟩
theorem Rs.set {B n i : Nat} {u : Value} {w : World} {A : Option Addr} {c : Nat} {ls m : List Ent} (h : Rs B w A c ls m) (hn : n < B) : Rs B (w.setCell ⟨n, i, none⟩ u) A c ls m :=
  ⟨h.key, h.own.set_below hn, h.bod.stay (fun k x hx q hq => Below.heap_setCell w ⟨n, i, none⟩ u q (fun he => by have := ((h.bod.own k x hx).block hq).1; simp only at he; omega)) h.bod.out⟩
theorem Rs.drew {B : Nat} {w : World} {A : Option Addr} {c : Nat} {ls m : List Ent} (h : Rs B w A c ls m) : Rs B w.drew A c ls m := ⟨h.key, h.own.drew, h.bod.stay (fun _ _ _ _ _ => rfl) h.bod.out⟩
theorem Rs.less {B B' : Nat} {w : World} {A : Option Addr} {c : Nat} {ls m : List Ent} (h : Rs B w A c ls m) (hb : B' ≤ B) : Rs B' w A c ls m :=
  ⟨h.key, h.own.less hb, ⟨fun i x hx => (h.bod.own i x hx).less hb, h.bod.far, h.bod.out⟩⟩
theorem Rs.set5 {B n : Nat} {w : World} {A : Option Addr} {c : Nat} {ls m : List Ent} (h : Rs B w A c ls m) (hn : n < B) (x y z u t : Value) :
    Rs B (((((w.setCell ⟨n, 0, none⟩ x).setCell ⟨n, 1, none⟩ y).setCell ⟨n, 2, none⟩ z).setCell ⟨n, 3, none⟩ u).setCell ⟨n, 4, none⟩ t) A c ls m := ((((h.set hn).set hn).set hn).set hn).set hn
theorem plan_sub {b p : Idt} {l : List Idt} {es : List Ent} {sh ix : Int} (hf : folE p es = 0) (hix : ix = max p.idx b.idx) :
    (∀ x ∈ (planV b l sh es ix []).same, x ∈ es) ∧ (planV b l sh es ix []).same.length ≤ es.length ∧ (∀ x ∈ (planV b l sh es ix []).add, x ∈ es) ∧ (planV b l sh es ix []).add.length ≤ es.length := by
  obtain ⟨m, h⟩ := planV_stops (b := b) (l := l) (sh := sh) hf _ 0 rfl (Nat.zero_le _) (fun i x hi => absurd hi (by omega)) ix [] (by simp [hix]) (by simp)
  rw [List.drop_zero] at h
  refine ⟨fun x hx => ?_, ?_, fun x hx => ?_, ?_⟩
  · rw [h.same] at hx; exact List.mem_of_mem_take (List.mem_filter.1 hx).1
  · rw [h.same]; exact Nat.le_trans (List.length_filter_le _ _) (by rw [List.length_take]; omega)
  · rcases h.stop with ⟨-, -, h3, -⟩ | ⟨y, -, -, ⟨-, -, h3, -⟩ | ⟨-, -, h3, -⟩ | ⟨-, -, h3, -⟩⟩
    · rw [h3] at hx; simp at hx
    · rw [h3] at hx; exact List.mem_of_mem_drop hx
    · rw [h3] at hx; exact List.mem_of_mem_drop hx
    · rw [h3] at hx; simp at hx
  · rcases h.stop with ⟨-, -, h3, -⟩ | ⟨y, -, -, ⟨-, -, h3, -⟩ | ⟨-, -, h3, -⟩ | ⟨-, -, h3, -⟩⟩ <;> rw [h3] <;> simp
/-- What Fit tells, where it is yes. -/
def YesPost (q : Pln) (w : World) (e : Ending) (w' : World) : Prop :=
  ∃ A1 c1 m1 A2 c2 m2, e = .returned (.tuple #[.agg #[.bool true, .int .i64 q.idx, .int .i64 q.cut, .slice A1 q.same.length c1, .slice A2 q.add.length c2], .int .i64 0]) ∧ Rs w.heap.size w' A1 c1 q.same m1 ∧ Rs w.heap.size w' A2 c2 q.add m2 ∧ Below w.heap.size w w'

set_option maxRecDepth 100000 in
set_option maxHeartbeats 8000000 in
/-- The view has what stands ahead. -/
theorem fitYes1 (b p : Idt) (l : List Idt) (A : Option Addr) (c : Nat) (es : List Ent) (Ae : Option Addr) (ce : Nat) (w : World) (h : Sl 3 idRow w.heap.size w (.slice A l.length c) l) (he : Sl 4 entRow w.heap.size w (.slice Ae es.length ce) es) (hein : ∀ x ∈ es, EntIn w.heap.size w x ∧ x.bd.length ≤ 100000) (hn : es.length ≤ 100000) (hb : I64 b.idx) (hp : I64 p.idx) (hin : ∀ q ∈ l, I64 q.idx) (hix : ∀ x ∈ es, I64 x.idx) (hG : errTypeIs w) (hr : rightV b l = true) (hf : folE p es = 0) (hk : fitK b l (shownV b l 0 es) p.idx p.trm = 0) (hm : b.idx ≤ p.idx) :
    Calls Tryz.prog 16 #[.agg #[.int .i64 b.idx, .int .i64 b.trm, .int .i64 b.knd, .slice A l.length c], .agg #[.int .i64 p.idx, .int .i64 p.trm, .int .i64 p.knd], .slice Ae es.length ce] w fun e w' => YesPost (planV b l (shownV b l 0 es) es p.idx []) w e w' := by
  have HR := Lib.hid hr
  have HF := Lib.hid hf
  obtain ⟨s1, s2, s3, s4⟩ := plan_sub (b := b) (l := l) (sh := shownV b l 0 es) (ix := p.idx) hf (by omega)
  obtain ⟨q, hq⟩ : ∃ q, planV b l (shownV b l 0 es) es p.idx [] = q := ⟨_, rfl⟩
  rw [hq] at s1 s2 s3 s4
  rw [hq]
  have HQ := Lib.hid hq
  have HS1 := Lib.hid s1
  have HS3 := Lib.hid s3
  clear hq s1 s3
  obtain ⟨hh1, hh2, hh3⟩ := rightV_head hr
  have HW := Lib.hid (whyF_0 hk)
  have HKk := Lib.hid hk
  clear hr hf hk
  obtain ⟨W0, hW0⟩ : ∃ W0 : World, W0 = ((w.alloc (.cells #[.int .i64 b.idx, .int .i64 b.trm, .int .i64 b.knd, .slice A l.length c] 36)).alloc (.cells #[.int .i64 p.idx, .int .i64 p.trm, .int .i64 p.knd] 25)).alloc (.cells #[.bool false, .int .i64 0, .int .i64 0, .slice none 0 0, .slice none 0 0] 41) := ⟨_, rfl⟩
  have B0 : Below w.heap.size w W0 := by rw [hW0]; exact below_call (below_call (below_new _ _) (below_new _ _)) (below_new _ _)
  have X0 : Box W0 w.heap.size #[.int .i64 b.idx, .int .i64 b.trm, .int .i64 b.knd, .slice A l.length c] 36 := by rw [hW0]; exact ((Box.new _ _ _).alloc _).alloc _
  have X1 : Box W0 (w.heap.size + 1) #[.int .i64 p.idx, .int .i64 p.trm, .int .i64 p.knd] 25 := by
    have := (Box.new (w.alloc (.cells #[.int .i64 b.idx, .int .i64 b.trm, .int .i64 b.knd, .slice A l.length c] 36)) #[.int .i64 p.idx, .int .i64 p.trm, .int .i64 p.knd] 25).alloc (.cells #[.bool false, .int .i64 0, .int .i64 0, .slice none 0 0, .slice none 0 0] 41)
    rw [hW0]; simpa using this
  have X2 : Box W0 (w.heap.size + 1 + 1) #[.bool false, .int .i64 0, .int .i64 0, .slice none 0 0, .slice none 0 0] 41 := by
    have := Box.new ((w.alloc (.cells #[.int .i64 b.idx, .int .i64 b.trm, .int .i64 b.knd, .slice A l.length c] 36)).alloc (.cells #[.int .i64 p.idx, .int .i64 p.trm, .int .i64 p.knd] 25)) #[.bool false, .int .i64 0, .int .i64 0, .slice none 0 0, .slice none 0 0] 41
    rw [hW0]; simpa using this
  have HB0 := Lib.hid B0
  have HX0 := Lib.hid X0
  have HX1 := Lib.hid X1
  have HX2 := Lib.hid X2
  have HSl := Lib.hid (h.later B0)
  have HEs := Lib.hid (he.later B0)
  have HEI := Lib.hid (show ∀ x ∈ es, EntIn W0.heap.size W0 x from fun x hx => (hein x hx).1.later B0)
  have HEL := Lib.hid (show ∀ x ∈ es, x.bd.length ≤ 100000 from fun x hx => (hein x hx).2)
  have HG := Lib.hid (errType_later hG B0)
  have HBb := hb
  have HPp := hp
  have HIN := Lib.hid hin
  have HIX := Lib.hid hix
  obtain ⟨k0, f0, z0⟩ := X0.facts
  obtain ⟨k1, f1, z1⟩ := X1.facts
  clear h he hein hin hix hG B0 X0 X1 X2
  go_enter Tryz.func16, Tryz.ntmps16
  go_wp2_with fail
  rw [← hW0]
  clear hW0
  go_upto_region 5 with (first
    | (go_at_call 21; refine (matchRight b l A c _ HSl.out HBb HIN.out).mono ?_; rintro e w1 ⟨rfl, hb1⟩; rw [HR.out]; obtain ⟨k1a, f1a, z1a⟩ := (HX1.out.later hb1).facts; obtain ⟨k2a, f2a, z2a⟩ := (HX2.out.later hb1).facts; have HB1 := Lib.hid hb1; clear k0 f0 z0 k1 f1 z1)
    | (go_at_call 57; refine (entFollows p es _ _ (HEs.out.later HB1.out) (fun x hx => (HEI.out x hx).later HB1.out) (errType_later HG.out HB1.out)).mono ?_; rw [HF.out]; rintro e w2 ⟨rfl, hb2⟩; have HB2 := Lib.hid (below_call HB1.out hb2); obtain ⟨k0b, f0b, z0b⟩ := (HX0.out.later HB2.out).facts; obtain ⟨k1b, f1b, z1b⟩ := (HX1.out.later HB2.out).facts; obtain ⟨k2b, f2b, z2b⟩ := (HX2.out.later HB2.out).facts; clear k1a f1a z1a k2a f2a z2a hb1 hb2)
    | (go_at_call 79; refine (fitShow b l A c es Ae ce w2.heap.size w2 _ (Box.new w2 _ 111) ((HSl.out.later HB2.out).below (below_new _ _)) ((HEs.out.later HB2.out).below (below_new _ _)) HBb HIX.out).mono ?_; rintro e w3 ⟨rfl, hx3, hbut⟩))
  obtain ⟨gf, hgf⟩ : ∃ g, g = w2.heap.size := ⟨_, rfl⟩
  have HXF := Lib.hid hx3
  have hb23 : Below w2.heap.size w2 w3 := (below_new w2 _).trans (hbut.below (Nat.le_refl _) (by simp))
  have HB3 := Lib.hid (below_call HB2.out hb23)
  rw [← hgf] at HXF
  rw [← hgf]
  obtain ⟨k1c, f1c, z1c⟩ := (HX1.out.later HB3.out).facts
  have hz3 : W0.heap.size ≤ w3.heap.size := HB3.out.size
  clear hgf hb23 hx3 hbut k0b f0b z0b k1b f1b z1b k2b f2b z2b
  obtain ⟨k0c, f0c, z0c⟩ := (HX0.out.later HB3.out).facts
  go_upto_region 9 with (first
    | (go_at_call 81; refine (fitFits b l A c Ae es.length ce (shownV b l 0 es) gf (w3.alloc (.cells #[.int .i64 0, .int .i64 0, .nilIface] 115)) p.idx p.trm (HXF.out.alloc _) ((HSl.out.later HB3.out).alloc _) (by omega) (by omega) HBb HPp).mono ?_; rw [HW.out]; rintro e w5 ⟨rfl, hb5⟩; have HB5 := Lib.hid (below_call (below_call HB3.out (below_new w3 (.cells #[.int .i64 0, .int .i64 0, .nilIface] 115))) hb5); have HXF5 := Lib.hid ((HXF.out.alloc (.cells #[.int .i64 0, .int .i64 0, .nilIface] 115)).later hb5); obtain ⟨k0d, f0d, z0d⟩ := (HX0.out.later HB5.out).facts; obtain ⟨k1d, f1d, z1d⟩ := (HX1.out.later HB5.out).facts; clear k0c f0c z0c k1c f1c z1c hb5)
    | (go_at_call 80; refine (MatE.as_nil _ _).mono ?_; rintro e w6 ⟨rfl, rfl⟩)
    | (go_at_call 82; refine (fitPlan b l A c es Ae ce (shownV b l 0 es) p.idx gf _ HXF5.out (HSl.out.later HB5.out) (HEs.out.later HB5.out) (by omega) (by omega) HBb HIX.out hn).mono ?_; rintro e w7 hpl; rw [HQ.out] at hpl; obtain ⟨A1, c1, A2, c2, rfl, ho1, ho2, hb7⟩ := hpl))
  have HO1p := Lib.hid ho1
  have HO2p := Lib.hid ho2
  have HB7 := Lib.hid (below_call HB5.out hb7)
  have HXW := Lib.hid (Box.new w7 #[.bool true, .int .i64 q.idx, .int .i64 q.cut, .slice A1 q.same.length c1, .slice A2 q.add.length c2] 41)
  have HX2W := Lib.hid ((HX2.out.later HB7.out).alloc (.cells #[.bool true, .int .i64 q.idx, .int .i64 q.cut, .slice A1 q.same.length c1, .slice A2 q.add.length c2] 41))
  have HBWW := Lib.hid (below_call HB0.out (below_call HB7.out (below_new w7 (.cells #[.bool true, .int .i64 q.idx, .int .i64 q.cut, .slice A1 q.same.length c1, .slice A2 q.add.length c2] 41))))
  have HSA := Lib.hid ((ho1.sl entRow_length).alloc (.cells #[.bool true, .int .i64 q.idx, .int .i64 q.cut, .slice A1 q.same.length c1, .slice A2 q.add.length c2] 41))
  have HSB := Lib.hid ((ho2.sl entRow_length).alloc (.cells #[.bool true, .int .i64 q.idx, .int .i64 q.cut, .slice A1 q.same.length c1, .slice A2 q.add.length c2] 41))
  have HEW := Lib.hid (show ∀ x ∈ es, EntIn (w7.alloc (.cells #[.bool true, .int .i64 q.idx, .int .i64 q.cut, .slice A1 q.same.length c1, .slice A2 q.add.length c2] 41)).heap.size (w7.alloc (.cells #[.bool true, .int .i64 q.idx, .int .i64 q.cut, .slice A1 q.same.length c1, .slice A2 q.add.length c2] 41)) x from fun x hx => (HEI.out x hx).later (below_call HB7.out (below_new _ _)))
  obtain ⟨g10, hg10e⟩ : ∃ g, g = w7.heap.size := ⟨_, rfl⟩
  have hgW0 : w7.heap.size < (w7.alloc (.cells #[.bool true, .int .i64 q.idx, .int .i64 q.cut, .slice A1 q.same.length c1, .slice A2 q.add.length c2] 41)).heap.size := by simp
  obtain ⟨W, hW⟩ : ∃ W, W = w7.alloc (.cells #[.bool true, .int .i64 q.idx, .int .i64 q.cut, .slice A1 q.same.length c1, .slice A2 q.add.length c2] 41) := ⟨_, rfl⟩
  rw [← hW] at HXW HX2W HBWW HSA HSB HEW hgW0
  rw [← hg10e] at HXW hgW0
  rw [← hW, ← hg10e]
  have hg2 : w.heap.size + 1 + 1 ≠ g10 := by have h1 := (HX2.out.later HB7.out).lt; omega
  have hgW : g10 < W.heap.size := hgW0
  have hg10 : w.heap.size ≤ g10 := by have h1 := (HX2.out.later HB7.out).lt; omega
  have hrW : w.heap.size + 1 + 1 < W.heap.size := HX2W.out.lt
  have hwW : w.heap.size ≤ W.heap.size := HBWW.out.size
  have OW1 : Hid (∀ V, Below W.heap.size W V → Calls Tryz.prog 83 #[.slice A1 q.same.length c1] V fun e w' => ∃ A c m, e = .returned (.slice A q.same.length c) ∧ Rs W.heap.size w' A c q.same m ∧ Below V.heap.size V w') := fun V hV =>
    (fitOwned q.same _ V (HSA.out.later hV) (fun x hx => ⟨(HEW.out x (HS1.out x hx)).later hV, HEL.out x (HS1.out x hx)⟩) (by omega)).mono fun e w' ⟨A, c, m, he, k1, k2, k3, k4⟩ => ⟨A, c, m, he, Rs.less ⟨k1, k2, k3⟩ hV.size, k4⟩
  have OW2 : Hid (∀ V, Below W.heap.size W V → Calls Tryz.prog 83 #[.slice A2 q.add.length c2] V fun e w' => ∃ A c m, e = .returned (.slice A q.add.length c) ∧ Rs W.heap.size w' A c q.add m ∧ Below V.heap.size V w') := fun V hV =>
    (fitOwned q.add _ V (HSB.out.later hV) (fun x hx => ⟨(HEW.out x (HS3.out x hx)).later hV, HEL.out x (HS3.out x hx)⟩) (by omega)).mono fun e w' ⟨A, c, m, he, k1, k2, k3, k4⟩ => ⟨A, c, m, he, Rs.less ⟨k1, k2, k3⟩ hV.size, k4⟩
  clear hW hg10e hgW0 ho1 ho2 hb7 k0d f0d z0d k1d f1d z1d
  obtain ⟨kw, fw, zw⟩ := HXW.out.facts
  refine wp_region_held_drew (S := fun _ => True) (by kernel_rfl) trivial (fun hHeld => ?_)
  first
    | (refine wpAnyH_take (i := 0) (v := ?_) rfl (by kernel_rfl) (by kernel_rfl) (by kernel_rfl) (fun _ _ _ h => h) (Or.inl ⟨?_, ?_⟩) (by assumption) ?_; rotate_left; (focus rfl); (focus (intro w hSw; go_split_ands; go_simp; try with_reducible rfl)); skip)
    | (refine wpAnyH_take (i := 0) (v := undef) rfl (by kernel_rfl) (by kernel_rfl) (by kernel_rfl) (fun _ _ _ h => h) (Or.inr ⟨?_, rfl⟩) (by assumption) ?_; (focus rfl))
  try simp only [Act.put, List.setIfInBounds_toArray, List.set_cons_zero, List.set_cons_succ, List.getElem_toArray, List.getElem_cons_zero, List.getElem_cons_succ]
  first
    | (refine wpAnyH_take (i := 3) (v := ?_) rfl (by kernel_rfl) (by kernel_rfl) (by kernel_rfl) (fun _ _ _ h => h) (Or.inl ⟨?_, ?_⟩) (by assumption) ?_; rotate_left; (focus rfl); (focus (intro w hSw; go_split_ands; go_simp; try with_reducible rfl)); skip)
    | (refine wpAnyH_take (i := 3) (v := undef) rfl (by kernel_rfl) (by kernel_rfl) (by kernel_rfl) (fun _ _ _ h => h) (Or.inr ⟨?_, rfl⟩) (by assumption) ?_; (focus rfl))
  try simp only [Act.put, List.setIfInBounds_toArray, List.set_cons_zero, List.set_cons_succ, List.getElem_toArray, List.getElem_cons_zero, List.getElem_cons_succ]
  refine wpAnyH_ready (rs := [1, 4]) (by kernel_rfl) (by simp) ?_
  refine AllReadyH.cons rfl (fun K hK => ?_) (AllReadyH.cons rfl (fun K hK => ?_) AllReadyH.nil)
  · go_simp
    refine hK.out _ _ trivial (fun hH => ?_)
    clear hK K
    try simp only [Act.put, List.setIfInBounds_toArray, List.set_cons_zero, List.set_cons_succ, List.getElem_toArray, List.getElem_cons_zero, List.getElem_cons_succ]
    refine wpAnyH_ready (rs := [2, 4]) (by kernel_rfl) (by simp) ?_
    refine AllReadyH.cons rfl (fun K hK => ?_) (AllReadyH.cons rfl (fun K hK => ?_) AllReadyH.nil)
    · go_simp
      go_at_call 83
      refine (OW1.out _ (Below.refl W.heap.size W).drew).mono ?_
      rintro e wk ⟨A3, c3, m1, rfl, hrs, hbk⟩
      have HRS1 := Lib.hid hrs
      have HBK := Lib.hid ((Below.refl W.heap.size W).drew.trans hbk)
      obtain ⟨kk, fk, zk⟩ := (HXW.out.later HBK.out).facts
      clear hrs hbk kw fw zw
      refine hK.out _ _ trivial (fun hH => ?_)
      clear hK K
      try simp only [Act.put, List.setIfInBounds_toArray, List.set_cons_zero, List.set_cons_succ, List.getElem_toArray, List.getElem_cons_zero, List.getElem_cons_succ]
      refine wpAnyH_ready (rs := [4]) (by kernel_rfl) (by simp) ?_
      refine AllReadyH.cons rfl (fun K hK => ?_) AllReadyH.nil
      go_simp
      refine hK.out _ _ trivial (fun hH => ?_)
      clear hK K
      try simp only [Act.put, List.setIfInBounds_toArray, List.set_cons_zero, List.set_cons_succ, List.getElem_toArray, List.getElem_cons_zero, List.getElem_cons_succ]
      first
        | (refine wpAnyH_take (i := 6) (v := ?_) rfl (by kernel_rfl) (by kernel_rfl) (by kernel_rfl) (fun _ _ _ h => h) (Or.inl ⟨?_, ?_⟩) (by assumption) ?_; rotate_left; (focus rfl); (focus (intro w hSw; go_split_ands; go_simp; try with_reducible rfl)); skip)
        | (refine wpAnyH_take (i := 6) (v := undef) rfl (by kernel_rfl) (by kernel_rfl) (by kernel_rfl) (fun _ _ _ h => h) (Or.inr ⟨?_, rfl⟩) (by assumption) ?_; (focus rfl))
      try simp only [Act.put, List.setIfInBounds_toArray, List.set_cons_zero, List.set_cons_succ, List.getElem_toArray, List.getElem_cons_zero, List.getElem_cons_succ]
      refine wpAnyH_ready (rs := [5]) (by kernel_rfl) (by simp) ?_
      refine AllReadyH.cons rfl (fun K hK => ?_) AllReadyH.nil
      go_simp
      go_at_call 83
      refine (OW2.out _ HBK.out).mono ?_
      rintro e wm ⟨A4, c4, m2, rfl, hrs, hbm⟩
      have HRS2 := Lib.hid hrs
      have HBM := Lib.hid hbm
      have HBW := Lib.hid (below_call HBK.out hbm)
      obtain ⟨km, fm, zm⟩ := (HXW.out.later HBW.out).facts
      clear hrs hbm kk fk zk
      refine hK.out _ _ trivial (fun hH => ?_)
      clear hK K
      try simp only [Act.put, List.setIfInBounds_toArray, List.set_cons_zero, List.set_cons_succ, List.getElem_toArray, List.getElem_cons_zero, List.getElem_cons_succ]
      refine wpAnyH_ready (rs := [7]) (by kernel_rfl) (by simp) ?_
      refine AllReadyH.cons rfl (fun K hK => ?_) AllReadyH.nil
      go_simp
      refine hK.out _ _ trivial (fun hH => ?_)
      clear hK K
      try simp only [Act.put, List.setIfInBounds_toArray, List.set_cons_zero, List.set_cons_succ, List.getElem_toArray, List.getElem_cons_zero, List.getElem_cons_succ]
      first
        | (refine wpAnyH_take (i := 8) (v := ?_) rfl (by kernel_rfl) (by kernel_rfl) (by kernel_rfl) (fun _ _ _ h => h) (Or.inl ⟨?_, ?_⟩) (by assumption) ?_; rotate_left; (focus rfl); (focus (intro w hSw; go_split_ands; go_simp; try with_reducible rfl)); skip)
        | (refine wpAnyH_take (i := 8) (v := undef) rfl (by kernel_rfl) (by kernel_rfl) (by kernel_rfl) (fun _ _ _ h => h) (Or.inr ⟨?_, rfl⟩) (by assumption) ?_; (focus rfl))
      try simp only [Act.put, List.setIfInBounds_toArray, List.set_cons_zero, List.set_cons_succ, List.getElem_toArray, List.getElem_cons_zero, List.getElem_cons_succ]
      refine wpAnyH_ready (rs := [9]) (by kernel_rfl) (by simp) ?_
      refine AllReadyH.cons rfl (fun K hK => ?_) AllReadyH.nil
      go_simp
      refine hK.out _ _ trivial (fun hH => ?_)
      clear hK K
      try simp only [Act.put, List.setIfInBounds_toArray, List.set_cons_zero, List.set_cons_succ, List.getElem_toArray, List.getElem_cons_zero, List.getElem_cons_succ]
      refine wpAnyH_done (by kernel_rfl) ?_ _
      clear km fm zm
      have HXm := Lib.hid (((HXW.out.later HBW.out).set_ 3 (.slice A3 q.same.length c3)).set_ 4 (.slice A4 q.add.length c4))
      have HRm := Lib.hid (((HX2W.out.later HBW.out).far (p := ⟨g10, 3, none⟩) hg2 (.slice A3 q.same.length c3)).far (p := ⟨g10, 4, none⟩) hg2 (.slice A4 q.add.length c4))
      have HO1 := Lib.hid (((HRS1.out.later HBM.out).set (i := 3) (u := .slice A3 q.same.length c3) hgW).set (i := 4) (u := .slice A4 q.add.length c4) hgW)
      have HO2 := Lib.hid ((HRS2.out.set (i := 3) (u := .slice A3 q.same.length c3) hgW).set (i := 4) (u := .slice A4 q.add.length c4) hgW)
      have HBm := Lib.hid (below_set (i := 4) (u := .slice A4 q.add.length c4) (below_set (i := 3) (u := .slice A3 q.same.length c3) (below_call HBWW.out HBW.out) hg10) hg10)
      obtain ⟨wz0, hwz0⟩ : ∃ z, z = (wm.setCell ⟨g10, 3, none⟩ (.slice A3 q.same.length c3)).setCell ⟨g10, 4, none⟩ (.slice A4 q.add.length c4) := ⟨_, rfl⟩
      rw [← hwz0] at HXm HRm HO1 HO2 HBm
      rw [← hwz0]
      clear hwz0
      obtain ⟨ka, fa, za⟩ := HXm.out.facts
      obtain ⟨kb, fb, zb⟩ := HRm.out.facts
      go_wp2_with fail
      refine bodyPost_with (fun V => Box V (w.heap.size + 1 + 1) #[.bool true, .int .i64 q.idx, .int .i64 q.cut, .slice A3 q.same.length c3, .slice A4 q.add.length c4] 41 ∧ Rs W.heap.size V A3 c3 q.same m1 ∧ Rs W.heap.size V A4 c4 q.add m2 ∧ Below w.heap.size w V) ⟨HRm.out.set5 _ _ _ _ _, HO1.out.set5 hrW _ _ _ _ _, HO2.out.set5 hrW _ _ _ _ _, below_set5 HBm.out (n := w.heap.size + 1 + 1) (by omega) _ _ _ _ _⟩ ?_
      rintro wz ⟨hz1, hz2, hz4, hz3⟩
      obtain ⟨kz, -, -⟩ := hz1.facts
      exact bodyPost_ret (v := .tuple #[.agg #[.bool true, .int .i64 q.idx, .int .i64 q.cut, .slice A3 q.same.length c3, .slice A4 q.add.length c4], .int .i64 0]) (by simp [results, Tryz.results16, go_sem, kz]) rfl ⟨A3, c3, m1, A4, c4, m2, rfl, hz2.less hwW, hz4.less hwW, hz3⟩
    · go_simp
      refine hK.out _ _ trivial (fun hH => ?_)
      clear hK K
      try simp only [Act.put, List.setIfInBounds_toArray, List.set_cons_zero, List.set_cons_succ, List.getElem_toArray, List.getElem_cons_zero, List.getElem_cons_succ]
      refine wpAnyH_ready (rs := [2]) (by kernel_rfl) (by simp) ?_
      refine AllReadyH.cons rfl (fun K hK => ?_) AllReadyH.nil
      go_simp
      go_at_call 83
      refine (OW1.out _ (Below.refl W.heap.size W).drew).mono ?_
      rintro e wk ⟨A3, c3, m1, rfl, hrs, hbk⟩
      have HRS1 := Lib.hid hrs
      have HBK := Lib.hid ((Below.refl W.heap.size W).drew.trans hbk)
      obtain ⟨kk, fk, zk⟩ := (HXW.out.later HBK.out).facts
      clear hrs hbk kw fw zw
      refine hK.out _ _ trivial (fun hH => ?_)
      clear hK K
      try simp only [Act.put, List.setIfInBounds_toArray, List.set_cons_zero, List.set_cons_succ, List.getElem_toArray, List.getElem_cons_zero, List.getElem_cons_succ]
      first
        | (refine wpAnyH_take (i := 6) (v := ?_) rfl (by kernel_rfl) (by kernel_rfl) (by kernel_rfl) (fun _ _ _ h => h) (Or.inl ⟨?_, ?_⟩) (by assumption) ?_; rotate_left; (focus rfl); (focus (intro w hSw; go_split_ands; go_simp; try with_reducible rfl)); skip)
        | (refine wpAnyH_take (i := 6) (v := undef) rfl (by kernel_rfl) (by kernel_rfl) (by kernel_rfl) (fun _ _ _ h => h) (Or.inr ⟨?_, rfl⟩) (by assumption) ?_; (focus rfl))
      try simp only [Act.put, List.setIfInBounds_toArray, List.set_cons_zero, List.set_cons_succ, List.getElem_toArray, List.getElem_cons_zero, List.getElem_cons_succ]
      refine wpAnyH_ready (rs := [5]) (by kernel_rfl) (by simp) ?_
      refine AllReadyH.cons rfl (fun K hK => ?_) AllReadyH.nil
      go_simp
      go_at_call 83
      refine (OW2.out _ HBK.out).mono ?_
      rintro e wm ⟨A4, c4, m2, rfl, hrs, hbm⟩
      have HRS2 := Lib.hid hrs
      have HBM := Lib.hid hbm
      have HBW := Lib.hid (below_call HBK.out hbm)
      obtain ⟨km, fm, zm⟩ := (HXW.out.later HBW.out).facts
      clear hrs hbm kk fk zk
      refine hK.out _ _ trivial (fun hH => ?_)
      clear hK K
      try simp only [Act.put, List.setIfInBounds_toArray, List.set_cons_zero, List.set_cons_succ, List.getElem_toArray, List.getElem_cons_zero, List.getElem_cons_succ]
      refine wpAnyH_ready (rs := [7]) (by kernel_rfl) (by simp) ?_
      refine AllReadyH.cons rfl (fun K hK => ?_) AllReadyH.nil
      go_simp
      refine hK.out _ _ trivial (fun hH => ?_)
      clear hK K
      try simp only [Act.put, List.setIfInBounds_toArray, List.set_cons_zero, List.set_cons_succ, List.getElem_toArray, List.getElem_cons_zero, List.getElem_cons_succ]
      first
        | (refine wpAnyH_take (i := 8) (v := ?_) rfl (by kernel_rfl) (by kernel_rfl) (by kernel_rfl) (fun _ _ _ h => h) (Or.inl ⟨?_, ?_⟩) (by assumption) ?_; rotate_left; (focus rfl); (focus (intro w hSw; go_split_ands; go_simp; try with_reducible rfl)); skip)
        | (refine wpAnyH_take (i := 8) (v := undef) rfl (by kernel_rfl) (by kernel_rfl) (by kernel_rfl) (fun _ _ _ h => h) (Or.inr ⟨?_, rfl⟩) (by assumption) ?_; (focus rfl))
      try simp only [Act.put, List.setIfInBounds_toArray, List.set_cons_zero, List.set_cons_succ, List.getElem_toArray, List.getElem_cons_zero, List.getElem_cons_succ]
      refine wpAnyH_ready (rs := [9]) (by kernel_rfl) (by simp) ?_
      refine AllReadyH.cons rfl (fun K hK => ?_) AllReadyH.nil
      go_simp
      refine hK.out _ _ trivial (fun hH => ?_)
      clear hK K
      try simp only [Act.put, List.setIfInBounds_toArray, List.set_cons_zero, List.set_cons_succ, List.getElem_toArray, List.getElem_cons_zero, List.getElem_cons_succ]
      refine wpAnyH_done (by kernel_rfl) ?_ _
      clear km fm zm
      have HXm := Lib.hid (((HXW.out.later HBW.out).set_ 3 (.slice A3 q.same.length c3)).set_ 4 (.slice A4 q.add.length c4))
      have HRm := Lib.hid (((HX2W.out.later HBW.out).far (p := ⟨g10, 3, none⟩) hg2 (.slice A3 q.same.length c3)).far (p := ⟨g10, 4, none⟩) hg2 (.slice A4 q.add.length c4))
      have HO1 := Lib.hid (((HRS1.out.later HBM.out).set (i := 3) (u := .slice A3 q.same.length c3) hgW).set (i := 4) (u := .slice A4 q.add.length c4) hgW)
      have HO2 := Lib.hid ((HRS2.out.set (i := 3) (u := .slice A3 q.same.length c3) hgW).set (i := 4) (u := .slice A4 q.add.length c4) hgW)
      have HBm := Lib.hid (below_set (i := 4) (u := .slice A4 q.add.length c4) (below_set (i := 3) (u := .slice A3 q.same.length c3) (below_call HBWW.out HBW.out) hg10) hg10)
      obtain ⟨wz0, hwz0⟩ : ∃ z, z = (wm.setCell ⟨g10, 3, none⟩ (.slice A3 q.same.length c3)).setCell ⟨g10, 4, none⟩ (.slice A4 q.add.length c4) := ⟨_, rfl⟩
      rw [← hwz0] at HXm HRm HO1 HO2 HBm
      rw [← hwz0]
      clear hwz0
      obtain ⟨ka, fa, za⟩ := HXm.out.facts
      obtain ⟨kb, fb, zb⟩ := HRm.out.facts
      go_wp2_with fail
      refine bodyPost_with (fun V => Box V (w.heap.size + 1 + 1) #[.bool true, .int .i64 q.idx, .int .i64 q.cut, .slice A3 q.same.length c3, .slice A4 q.add.length c4] 41 ∧ Rs W.heap.size V A3 c3 q.same m1 ∧ Rs W.heap.size V A4 c4 q.add m2 ∧ Below w.heap.size w V) ⟨HRm.out.set5 _ _ _ _ _, HO1.out.set5 hrW _ _ _ _ _, HO2.out.set5 hrW _ _ _ _ _, below_set5 HBm.out (n := w.heap.size + 1 + 1) (by omega) _ _ _ _ _⟩ ?_
      rintro wz ⟨hz1, hz2, hz4, hz3⟩
      obtain ⟨kz, -, -⟩ := hz1.facts
      exact bodyPost_ret (v := .tuple #[.agg #[.bool true, .int .i64 q.idx, .int .i64 q.cut, .slice A3 q.same.length c3, .slice A4 q.add.length c4], .int .i64 0]) (by simp [results, Tryz.results16, go_sem, kz]) rfl ⟨A3, c3, m1, A4, c4, m2, rfl, hz2.less hwW, hz4.less hwW, hz3⟩
  · go_simp
    refine hK.out _ _ trivial (fun hH => ?_)
    clear hK K
    try simp only [Act.put, List.setIfInBounds_toArray, List.set_cons_zero, List.set_cons_succ, List.getElem_toArray, List.getElem_cons_zero, List.getElem_cons_succ]
    refine wpAnyH_ready (rs := [1]) (by kernel_rfl) (by simp) ?_
    refine AllReadyH.cons rfl (fun K hK => ?_) AllReadyH.nil
    go_simp
    refine hK.out _ _ trivial (fun hH => ?_)
    clear hK K
    try simp only [Act.put, List.setIfInBounds_toArray, List.set_cons_zero, List.set_cons_succ, List.getElem_toArray, List.getElem_cons_zero, List.getElem_cons_succ]
    refine wpAnyH_ready (rs := [2]) (by kernel_rfl) (by simp) ?_
    refine AllReadyH.cons rfl (fun K hK => ?_) AllReadyH.nil
    go_simp
    go_at_call 83
    refine (OW1.out _ (Below.refl W.heap.size W).drew).mono ?_
    rintro e wk ⟨A3, c3, m1, rfl, hrs, hbk⟩
    have HRS1 := Lib.hid hrs
    have HBK := Lib.hid ((Below.refl W.heap.size W).drew.trans hbk)
    obtain ⟨kk, fk, zk⟩ := (HXW.out.later HBK.out).facts
    clear hrs hbk kw fw zw
    refine hK.out _ _ trivial (fun hH => ?_)
    clear hK K
    try simp only [Act.put, List.setIfInBounds_toArray, List.set_cons_zero, List.set_cons_succ, List.getElem_toArray, List.getElem_cons_zero, List.getElem_cons_succ]
    first
      | (refine wpAnyH_take (i := 6) (v := ?_) rfl (by kernel_rfl) (by kernel_rfl) (by kernel_rfl) (fun _ _ _ h => h) (Or.inl ⟨?_, ?_⟩) (by assumption) ?_; rotate_left; (focus rfl); (focus (intro w hSw; go_split_ands; go_simp; try with_reducible rfl)); skip)
      | (refine wpAnyH_take (i := 6) (v := undef) rfl (by kernel_rfl) (by kernel_rfl) (by kernel_rfl) (fun _ _ _ h => h) (Or.inr ⟨?_, rfl⟩) (by assumption) ?_; (focus rfl))
    try simp only [Act.put, List.setIfInBounds_toArray, List.set_cons_zero, List.set_cons_succ, List.getElem_toArray, List.getElem_cons_zero, List.getElem_cons_succ]
    refine wpAnyH_ready (rs := [5]) (by kernel_rfl) (by simp) ?_
    refine AllReadyH.cons rfl (fun K hK => ?_) AllReadyH.nil
    go_simp
    go_at_call 83
    refine (OW2.out _ HBK.out).mono ?_
    rintro e wm ⟨A4, c4, m2, rfl, hrs, hbm⟩
    have HRS2 := Lib.hid hrs
    have HBM := Lib.hid hbm
    have HBW := Lib.hid (below_call HBK.out hbm)
    obtain ⟨km, fm, zm⟩ := (HXW.out.later HBW.out).facts
    clear hrs hbm kk fk zk
    refine hK.out _ _ trivial (fun hH => ?_)
    clear hK K
    try simp only [Act.put, List.setIfInBounds_toArray, List.set_cons_zero, List.set_cons_succ, List.getElem_toArray, List.getElem_cons_zero, List.getElem_cons_succ]
    refine wpAnyH_ready (rs := [7]) (by kernel_rfl) (by simp) ?_
    refine AllReadyH.cons rfl (fun K hK => ?_) AllReadyH.nil
    go_simp
    refine hK.out _ _ trivial (fun hH => ?_)
    clear hK K
    try simp only [Act.put, List.setIfInBounds_toArray, List.set_cons_zero, List.set_cons_succ, List.getElem_toArray, List.getElem_cons_zero, List.getElem_cons_succ]
    first
      | (refine wpAnyH_take (i := 8) (v := ?_) rfl (by kernel_rfl) (by kernel_rfl) (by kernel_rfl) (fun _ _ _ h => h) (Or.inl ⟨?_, ?_⟩) (by assumption) ?_; rotate_left; (focus rfl); (focus (intro w hSw; go_split_ands; go_simp; try with_reducible rfl)); skip)
      | (refine wpAnyH_take (i := 8) (v := undef) rfl (by kernel_rfl) (by kernel_rfl) (by kernel_rfl) (fun _ _ _ h => h) (Or.inr ⟨?_, rfl⟩) (by assumption) ?_; (focus rfl))
    try simp only [Act.put, List.setIfInBounds_toArray, List.set_cons_zero, List.set_cons_succ, List.getElem_toArray, List.getElem_cons_zero, List.getElem_cons_succ]
    refine wpAnyH_ready (rs := [9]) (by kernel_rfl) (by simp) ?_
    refine AllReadyH.cons rfl (fun K hK => ?_) AllReadyH.nil
    go_simp
    refine hK.out _ _ trivial (fun hH => ?_)
    clear hK K
    try simp only [Act.put, List.setIfInBounds_toArray, List.set_cons_zero, List.set_cons_succ, List.getElem_toArray, List.getElem_cons_zero, List.getElem_cons_succ]
    refine wpAnyH_done (by kernel_rfl) ?_ _
    clear km fm zm
    have HXm := Lib.hid (((HXW.out.later HBW.out).set_ 3 (.slice A3 q.same.length c3)).set_ 4 (.slice A4 q.add.length c4))
    have HRm := Lib.hid (((HX2W.out.later HBW.out).far (p := ⟨g10, 3, none⟩) hg2 (.slice A3 q.same.length c3)).far (p := ⟨g10, 4, none⟩) hg2 (.slice A4 q.add.length c4))
    have HO1 := Lib.hid (((HRS1.out.later HBM.out).set (i := 3) (u := .slice A3 q.same.length c3) hgW).set (i := 4) (u := .slice A4 q.add.length c4) hgW)
    have HO2 := Lib.hid ((HRS2.out.set (i := 3) (u := .slice A3 q.same.length c3) hgW).set (i := 4) (u := .slice A4 q.add.length c4) hgW)
    have HBm := Lib.hid (below_set (i := 4) (u := .slice A4 q.add.length c4) (below_set (i := 3) (u := .slice A3 q.same.length c3) (below_call HBWW.out HBW.out) hg10) hg10)
    obtain ⟨wz0, hwz0⟩ : ∃ z, z = (wm.setCell ⟨g10, 3, none⟩ (.slice A3 q.same.length c3)).setCell ⟨g10, 4, none⟩ (.slice A4 q.add.length c4) := ⟨_, rfl⟩
    rw [← hwz0] at HXm HRm HO1 HO2 HBm
    rw [← hwz0]
    clear hwz0
    obtain ⟨ka, fa, za⟩ := HXm.out.facts
    obtain ⟨kb, fb, zb⟩ := HRm.out.facts
    go_wp2_with fail
    refine bodyPost_with (fun V => Box V (w.heap.size + 1 + 1) #[.bool true, .int .i64 q.idx, .int .i64 q.cut, .slice A3 q.same.length c3, .slice A4 q.add.length c4] 41 ∧ Rs W.heap.size V A3 c3 q.same m1 ∧ Rs W.heap.size V A4 c4 q.add m2 ∧ Below w.heap.size w V) ⟨HRm.out.set5 _ _ _ _ _, HO1.out.set5 hrW _ _ _ _ _, HO2.out.set5 hrW _ _ _ _ _, below_set5 HBm.out (n := w.heap.size + 1 + 1) (by omega) _ _ _ _ _⟩ ?_
    rintro wz ⟨hz1, hz2, hz4, hz3⟩
    obtain ⟨kz, -, -⟩ := hz1.facts
    exact bodyPost_ret (v := .tuple #[.agg #[.bool true, .int .i64 q.idx, .int .i64 q.cut, .slice A3 q.same.length c3, .slice A4 q.add.length c4], .int .i64 0]) (by simp [results, Tryz.results16, go_sem, kz]) rfl ⟨A3, c3, m1, A4, c4, m2, rfl, hz2.less hwW, hz4.less hwW, hz3⟩
set_option maxRecDepth 100000 in
set_option maxHeartbeats 8000000 in
/-- The view has what stands ahead. -/
theorem fitYes2 (b p : Idt) (l : List Idt) (A : Option Addr) (c : Nat) (es : List Ent) (Ae : Option Addr) (ce : Nat) (w : World) (h : Sl 3 idRow w.heap.size w (.slice A l.length c) l) (he : Sl 4 entRow w.heap.size w (.slice Ae es.length ce) es) (hein : ∀ x ∈ es, EntIn w.heap.size w x ∧ x.bd.length ≤ 100000) (hn : es.length ≤ 100000) (hb : I64 b.idx) (hp : I64 p.idx) (hin : ∀ q ∈ l, I64 q.idx) (hix : ∀ x ∈ es, I64 x.idx) (hG : errTypeIs w) (hr : rightV b l = true) (hf : folE p es = 0) (hk : fitK b l (shownV b l 0 es) p.idx p.trm = 0) (hm : p.idx < b.idx) :
    Calls Tryz.prog 16 #[.agg #[.int .i64 b.idx, .int .i64 b.trm, .int .i64 b.knd, .slice A l.length c], .agg #[.int .i64 p.idx, .int .i64 p.trm, .int .i64 p.knd], .slice Ae es.length ce] w fun e w' => YesPost (planV b l (shownV b l 0 es) es b.idx []) w e w' := by
  have HR := Lib.hid hr
  have HF := Lib.hid hf
  obtain ⟨s1, s2, s3, s4⟩ := plan_sub (b := b) (l := l) (sh := shownV b l 0 es) (ix := b.idx) hf (by omega)
  obtain ⟨q, hq⟩ : ∃ q, planV b l (shownV b l 0 es) es b.idx [] = q := ⟨_, rfl⟩
  rw [hq] at s1 s2 s3 s4
  rw [hq]
  have HQ := Lib.hid hq
  have HS1 := Lib.hid s1
  have HS3 := Lib.hid s3
  clear hq s1 s3
  obtain ⟨hh1, hh2, hh3⟩ := rightV_head hr
  have HW := Lib.hid (whyF_0 hk)
  have HKk := Lib.hid hk
  clear hr hf hk
  obtain ⟨W0, hW0⟩ : ∃ W0 : World, W0 = ((w.alloc (.cells #[.int .i64 b.idx, .int .i64 b.trm, .int .i64 b.knd, .slice A l.length c] 36)).alloc (.cells #[.int .i64 p.idx, .int .i64 p.trm, .int .i64 p.knd] 25)).alloc (.cells #[.bool false, .int .i64 0, .int .i64 0, .slice none 0 0, .slice none 0 0] 41) := ⟨_, rfl⟩
  have B0 : Below w.heap.size w W0 := by rw [hW0]; exact below_call (below_call (below_new _ _) (below_new _ _)) (below_new _ _)
  have X0 : Box W0 w.heap.size #[.int .i64 b.idx, .int .i64 b.trm, .int .i64 b.knd, .slice A l.length c] 36 := by rw [hW0]; exact ((Box.new _ _ _).alloc _).alloc _
  have X1 : Box W0 (w.heap.size + 1) #[.int .i64 p.idx, .int .i64 p.trm, .int .i64 p.knd] 25 := by
    have := (Box.new (w.alloc (.cells #[.int .i64 b.idx, .int .i64 b.trm, .int .i64 b.knd, .slice A l.length c] 36)) #[.int .i64 p.idx, .int .i64 p.trm, .int .i64 p.knd] 25).alloc (.cells #[.bool false, .int .i64 0, .int .i64 0, .slice none 0 0, .slice none 0 0] 41)
    rw [hW0]; simpa using this
  have X2 : Box W0 (w.heap.size + 1 + 1) #[.bool false, .int .i64 0, .int .i64 0, .slice none 0 0, .slice none 0 0] 41 := by
    have := Box.new ((w.alloc (.cells #[.int .i64 b.idx, .int .i64 b.trm, .int .i64 b.knd, .slice A l.length c] 36)).alloc (.cells #[.int .i64 p.idx, .int .i64 p.trm, .int .i64 p.knd] 25)) #[.bool false, .int .i64 0, .int .i64 0, .slice none 0 0, .slice none 0 0] 41
    rw [hW0]; simpa using this
  have HB0 := Lib.hid B0
  have HX0 := Lib.hid X0
  have HX1 := Lib.hid X1
  have HX2 := Lib.hid X2
  have HSl := Lib.hid (h.later B0)
  have HEs := Lib.hid (he.later B0)
  have HEI := Lib.hid (show ∀ x ∈ es, EntIn W0.heap.size W0 x from fun x hx => (hein x hx).1.later B0)
  have HEL := Lib.hid (show ∀ x ∈ es, x.bd.length ≤ 100000 from fun x hx => (hein x hx).2)
  have HG := Lib.hid (errType_later hG B0)
  have HBb := hb
  have HPp := hp
  have HIN := Lib.hid hin
  have HIX := Lib.hid hix
  obtain ⟨k0, f0, z0⟩ := X0.facts
  obtain ⟨k1, f1, z1⟩ := X1.facts
  clear h he hein hin hix hG B0 X0 X1 X2
  go_enter Tryz.func16, Tryz.ntmps16
  go_wp2_with fail
  rw [← hW0]
  clear hW0
  go_upto_region 5 with (first
    | (go_at_call 21; refine (matchRight b l A c _ HSl.out HBb HIN.out).mono ?_; rintro e w1 ⟨rfl, hb1⟩; rw [HR.out]; obtain ⟨k1a, f1a, z1a⟩ := (HX1.out.later hb1).facts; obtain ⟨k2a, f2a, z2a⟩ := (HX2.out.later hb1).facts; have HB1 := Lib.hid hb1; clear k0 f0 z0 k1 f1 z1)
    | (go_at_call 57; refine (entFollows p es _ _ (HEs.out.later HB1.out) (fun x hx => (HEI.out x hx).later HB1.out) (errType_later HG.out HB1.out)).mono ?_; rw [HF.out]; rintro e w2 ⟨rfl, hb2⟩; have HB2 := Lib.hid (below_call HB1.out hb2); obtain ⟨k0b, f0b, z0b⟩ := (HX0.out.later HB2.out).facts; obtain ⟨k1b, f1b, z1b⟩ := (HX1.out.later HB2.out).facts; obtain ⟨k2b, f2b, z2b⟩ := (HX2.out.later HB2.out).facts; clear k1a f1a z1a k2a f2a z2a hb1 hb2)
    | (go_at_call 79; refine (fitShow b l A c es Ae ce w2.heap.size w2 _ (Box.new w2 _ 111) ((HSl.out.later HB2.out).below (below_new _ _)) ((HEs.out.later HB2.out).below (below_new _ _)) HBb HIX.out).mono ?_; rintro e w3 ⟨rfl, hx3, hbut⟩))
  obtain ⟨gf, hgf⟩ : ∃ g, g = w2.heap.size := ⟨_, rfl⟩
  have HXF := Lib.hid hx3
  have hb23 : Below w2.heap.size w2 w3 := (below_new w2 _).trans (hbut.below (Nat.le_refl _) (by simp))
  have HB3 := Lib.hid (below_call HB2.out hb23)
  rw [← hgf] at HXF
  rw [← hgf]
  obtain ⟨k1c, f1c, z1c⟩ := (HX1.out.later HB3.out).facts
  have hz3 : W0.heap.size ≤ w3.heap.size := HB3.out.size
  clear hgf hb23 hx3 hbut k0b f0b z0b k1b f1b z1b k2b f2b z2b
  obtain ⟨k0c, f0c, z0c⟩ := (HX0.out.later HB3.out).facts
  go_upto_region 9 with (first
    | (go_at_call 81; refine (fitFits b l A c Ae es.length ce (shownV b l 0 es) gf (w3.alloc (.cells #[.int .i64 0, .int .i64 0, .nilIface] 115)) p.idx p.trm (HXF.out.alloc _) ((HSl.out.later HB3.out).alloc _) (by omega) (by omega) HBb HPp).mono ?_; rw [HW.out]; rintro e w5 ⟨rfl, hb5⟩; have HB5 := Lib.hid (below_call (below_call HB3.out (below_new w3 (.cells #[.int .i64 0, .int .i64 0, .nilIface] 115))) hb5); have HXF5 := Lib.hid ((HXF.out.alloc (.cells #[.int .i64 0, .int .i64 0, .nilIface] 115)).later hb5); obtain ⟨k0d, f0d, z0d⟩ := (HX0.out.later HB5.out).facts; obtain ⟨k1d, f1d, z1d⟩ := (HX1.out.later HB5.out).facts; clear k0c f0c z0c k1c f1c z1c hb5)
    | (go_at_call 80; refine (MatE.as_nil _ _).mono ?_; rintro e w6 ⟨rfl, rfl⟩)
    | (go_at_call 82; refine (fitPlan b l A c es Ae ce (shownV b l 0 es) b.idx gf _ HXF5.out (HSl.out.later HB5.out) (HEs.out.later HB5.out) (by omega) (by omega) HBb HIX.out hn).mono ?_; rintro e w7 hpl; rw [HQ.out] at hpl; obtain ⟨A1, c1, A2, c2, rfl, ho1, ho2, hb7⟩ := hpl))
  have HO1p := Lib.hid ho1
  have HO2p := Lib.hid ho2
  have HB7 := Lib.hid (below_call HB5.out hb7)
  have HXW := Lib.hid (Box.new w7 #[.bool true, .int .i64 q.idx, .int .i64 q.cut, .slice A1 q.same.length c1, .slice A2 q.add.length c2] 41)
  have HX2W := Lib.hid ((HX2.out.later HB7.out).alloc (.cells #[.bool true, .int .i64 q.idx, .int .i64 q.cut, .slice A1 q.same.length c1, .slice A2 q.add.length c2] 41))
  have HBWW := Lib.hid (below_call HB0.out (below_call HB7.out (below_new w7 (.cells #[.bool true, .int .i64 q.idx, .int .i64 q.cut, .slice A1 q.same.length c1, .slice A2 q.add.length c2] 41))))
  have HSA := Lib.hid ((ho1.sl entRow_length).alloc (.cells #[.bool true, .int .i64 q.idx, .int .i64 q.cut, .slice A1 q.same.length c1, .slice A2 q.add.length c2] 41))
  have HSB := Lib.hid ((ho2.sl entRow_length).alloc (.cells #[.bool true, .int .i64 q.idx, .int .i64 q.cut, .slice A1 q.same.length c1, .slice A2 q.add.length c2] 41))
  have HEW := Lib.hid (show ∀ x ∈ es, EntIn (w7.alloc (.cells #[.bool true, .int .i64 q.idx, .int .i64 q.cut, .slice A1 q.same.length c1, .slice A2 q.add.length c2] 41)).heap.size (w7.alloc (.cells #[.bool true, .int .i64 q.idx, .int .i64 q.cut, .slice A1 q.same.length c1, .slice A2 q.add.length c2] 41)) x from fun x hx => (HEI.out x hx).later (below_call HB7.out (below_new _ _)))
  obtain ⟨g10, hg10e⟩ : ∃ g, g = w7.heap.size := ⟨_, rfl⟩
  have hgW0 : w7.heap.size < (w7.alloc (.cells #[.bool true, .int .i64 q.idx, .int .i64 q.cut, .slice A1 q.same.length c1, .slice A2 q.add.length c2] 41)).heap.size := by simp
  obtain ⟨W, hW⟩ : ∃ W, W = w7.alloc (.cells #[.bool true, .int .i64 q.idx, .int .i64 q.cut, .slice A1 q.same.length c1, .slice A2 q.add.length c2] 41) := ⟨_, rfl⟩
  rw [← hW] at HXW HX2W HBWW HSA HSB HEW hgW0
  rw [← hg10e] at HXW hgW0
  rw [← hW, ← hg10e]
  have hg2 : w.heap.size + 1 + 1 ≠ g10 := by have h1 := (HX2.out.later HB7.out).lt; omega
  have hgW : g10 < W.heap.size := hgW0
  have hg10 : w.heap.size ≤ g10 := by have h1 := (HX2.out.later HB7.out).lt; omega
  have hrW : w.heap.size + 1 + 1 < W.heap.size := HX2W.out.lt
  have hwW : w.heap.size ≤ W.heap.size := HBWW.out.size
  have OW1 : Hid (∀ V, Below W.heap.size W V → Calls Tryz.prog 83 #[.slice A1 q.same.length c1] V fun e w' => ∃ A c m, e = .returned (.slice A q.same.length c) ∧ Rs W.heap.size w' A c q.same m ∧ Below V.heap.size V w') := fun V hV =>
    (fitOwned q.same _ V (HSA.out.later hV) (fun x hx => ⟨(HEW.out x (HS1.out x hx)).later hV, HEL.out x (HS1.out x hx)⟩) (by omega)).mono fun e w' ⟨A, c, m, he, k1, k2, k3, k4⟩ => ⟨A, c, m, he, Rs.less ⟨k1, k2, k3⟩ hV.size, k4⟩
  have OW2 : Hid (∀ V, Below W.heap.size W V → Calls Tryz.prog 83 #[.slice A2 q.add.length c2] V fun e w' => ∃ A c m, e = .returned (.slice A q.add.length c) ∧ Rs W.heap.size w' A c q.add m ∧ Below V.heap.size V w') := fun V hV =>
    (fitOwned q.add _ V (HSB.out.later hV) (fun x hx => ⟨(HEW.out x (HS3.out x hx)).later hV, HEL.out x (HS3.out x hx)⟩) (by omega)).mono fun e w' ⟨A, c, m, he, k1, k2, k3, k4⟩ => ⟨A, c, m, he, Rs.less ⟨k1, k2, k3⟩ hV.size, k4⟩
  clear hW hg10e hgW0 ho1 ho2 hb7 k0d f0d z0d k1d f1d z1d
  obtain ⟨kw, fw, zw⟩ := HXW.out.facts
  refine wp_region_held_drew (S := fun _ => True) (by kernel_rfl) trivial (fun hHeld => ?_)
  first
    | (refine wpAnyH_take (i := 0) (v := ?_) rfl (by kernel_rfl) (by kernel_rfl) (by kernel_rfl) (fun _ _ _ h => h) (Or.inl ⟨?_, ?_⟩) (by assumption) ?_; rotate_left; (focus rfl); (focus (intro w hSw; go_split_ands; go_simp; try with_reducible rfl)); skip)
    | (refine wpAnyH_take (i := 0) (v := undef) rfl (by kernel_rfl) (by kernel_rfl) (by kernel_rfl) (fun _ _ _ h => h) (Or.inr ⟨?_, rfl⟩) (by assumption) ?_; (focus rfl))
  try simp only [Act.put, List.setIfInBounds_toArray, List.set_cons_zero, List.set_cons_succ, List.getElem_toArray, List.getElem_cons_zero, List.getElem_cons_succ]
  first
    | (refine wpAnyH_take (i := 3) (v := ?_) rfl (by kernel_rfl) (by kernel_rfl) (by kernel_rfl) (fun _ _ _ h => h) (Or.inl ⟨?_, ?_⟩) (by assumption) ?_; rotate_left; (focus rfl); (focus (intro w hSw; go_split_ands; go_simp; try with_reducible rfl)); skip)
    | (refine wpAnyH_take (i := 3) (v := undef) rfl (by kernel_rfl) (by kernel_rfl) (by kernel_rfl) (fun _ _ _ h => h) (Or.inr ⟨?_, rfl⟩) (by assumption) ?_; (focus rfl))
  try simp only [Act.put, List.setIfInBounds_toArray, List.set_cons_zero, List.set_cons_succ, List.getElem_toArray, List.getElem_cons_zero, List.getElem_cons_succ]
  refine wpAnyH_ready (rs := [1, 4]) (by kernel_rfl) (by simp) ?_
  refine AllReadyH.cons rfl (fun K hK => ?_) (AllReadyH.cons rfl (fun K hK => ?_) AllReadyH.nil)
  · go_simp
    refine hK.out _ _ trivial (fun hH => ?_)
    clear hK K
    try simp only [Act.put, List.setIfInBounds_toArray, List.set_cons_zero, List.set_cons_succ, List.getElem_toArray, List.getElem_cons_zero, List.getElem_cons_succ]
    refine wpAnyH_ready (rs := [2, 4]) (by kernel_rfl) (by simp) ?_
    refine AllReadyH.cons rfl (fun K hK => ?_) (AllReadyH.cons rfl (fun K hK => ?_) AllReadyH.nil)
    · go_simp
      go_at_call 83
      refine (OW1.out _ (Below.refl W.heap.size W).drew).mono ?_
      rintro e wk ⟨A3, c3, m1, rfl, hrs, hbk⟩
      have HRS1 := Lib.hid hrs
      have HBK := Lib.hid ((Below.refl W.heap.size W).drew.trans hbk)
      obtain ⟨kk, fk, zk⟩ := (HXW.out.later HBK.out).facts
      clear hrs hbk kw fw zw
      refine hK.out _ _ trivial (fun hH => ?_)
      clear hK K
      try simp only [Act.put, List.setIfInBounds_toArray, List.set_cons_zero, List.set_cons_succ, List.getElem_toArray, List.getElem_cons_zero, List.getElem_cons_succ]
      refine wpAnyH_ready (rs := [4]) (by kernel_rfl) (by simp) ?_
      refine AllReadyH.cons rfl (fun K hK => ?_) AllReadyH.nil
      go_simp
      refine hK.out _ _ trivial (fun hH => ?_)
      clear hK K
      try simp only [Act.put, List.setIfInBounds_toArray, List.set_cons_zero, List.set_cons_succ, List.getElem_toArray, List.getElem_cons_zero, List.getElem_cons_succ]
      first
        | (refine wpAnyH_take (i := 6) (v := ?_) rfl (by kernel_rfl) (by kernel_rfl) (by kernel_rfl) (fun _ _ _ h => h) (Or.inl ⟨?_, ?_⟩) (by assumption) ?_; rotate_left; (focus rfl); (focus (intro w hSw; go_split_ands; go_simp; try with_reducible rfl)); skip)
        | (refine wpAnyH_take (i := 6) (v := undef) rfl (by kernel_rfl) (by kernel_rfl) (by kernel_rfl) (fun _ _ _ h => h) (Or.inr ⟨?_, rfl⟩) (by assumption) ?_; (focus rfl))
      try simp only [Act.put, List.setIfInBounds_toArray, List.set_cons_zero, List.set_cons_succ, List.getElem_toArray, List.getElem_cons_zero, List.getElem_cons_succ]
      refine wpAnyH_ready (rs := [5]) (by kernel_rfl) (by simp) ?_
      refine AllReadyH.cons rfl (fun K hK => ?_) AllReadyH.nil
      go_simp
      go_at_call 83
      refine (OW2.out _ HBK.out).mono ?_
      rintro e wm ⟨A4, c4, m2, rfl, hrs, hbm⟩
      have HRS2 := Lib.hid hrs
      have HBM := Lib.hid hbm
      have HBW := Lib.hid (below_call HBK.out hbm)
      obtain ⟨km, fm, zm⟩ := (HXW.out.later HBW.out).facts
      clear hrs hbm kk fk zk
      refine hK.out _ _ trivial (fun hH => ?_)
      clear hK K
      try simp only [Act.put, List.setIfInBounds_toArray, List.set_cons_zero, List.set_cons_succ, List.getElem_toArray, List.getElem_cons_zero, List.getElem_cons_succ]
      refine wpAnyH_ready (rs := [7]) (by kernel_rfl) (by simp) ?_
      refine AllReadyH.cons rfl (fun K hK => ?_) AllReadyH.nil
      go_simp
      refine hK.out _ _ trivial (fun hH => ?_)
      clear hK K
      try simp only [Act.put, List.setIfInBounds_toArray, List.set_cons_zero, List.set_cons_succ, List.getElem_toArray, List.getElem_cons_zero, List.getElem_cons_succ]
      first
        | (refine wpAnyH_take (i := 8) (v := ?_) rfl (by kernel_rfl) (by kernel_rfl) (by kernel_rfl) (fun _ _ _ h => h) (Or.inl ⟨?_, ?_⟩) (by assumption) ?_; rotate_left; (focus rfl); (focus (intro w hSw; go_split_ands; go_simp; try with_reducible rfl)); skip)
        | (refine wpAnyH_take (i := 8) (v := undef) rfl (by kernel_rfl) (by kernel_rfl) (by kernel_rfl) (fun _ _ _ h => h) (Or.inr ⟨?_, rfl⟩) (by assumption) ?_; (focus rfl))
      try simp only [Act.put, List.setIfInBounds_toArray, List.set_cons_zero, List.set_cons_succ, List.getElem_toArray, List.getElem_cons_zero, List.getElem_cons_succ]
      refine wpAnyH_ready (rs := [9]) (by kernel_rfl) (by simp) ?_
      refine AllReadyH.cons rfl (fun K hK => ?_) AllReadyH.nil
      go_simp
      refine hK.out _ _ trivial (fun hH => ?_)
      clear hK K
      try simp only [Act.put, List.setIfInBounds_toArray, List.set_cons_zero, List.set_cons_succ, List.getElem_toArray, List.getElem_cons_zero, List.getElem_cons_succ]
      refine wpAnyH_done (by kernel_rfl) ?_ _
      clear km fm zm
      have HXm := Lib.hid (((HXW.out.later HBW.out).set_ 3 (.slice A3 q.same.length c3)).set_ 4 (.slice A4 q.add.length c4))
      have HRm := Lib.hid (((HX2W.out.later HBW.out).far (p := ⟨g10, 3, none⟩) hg2 (.slice A3 q.same.length c3)).far (p := ⟨g10, 4, none⟩) hg2 (.slice A4 q.add.length c4))
      have HO1 := Lib.hid (((HRS1.out.later HBM.out).set (i := 3) (u := .slice A3 q.same.length c3) hgW).set (i := 4) (u := .slice A4 q.add.length c4) hgW)
      have HO2 := Lib.hid ((HRS2.out.set (i := 3) (u := .slice A3 q.same.length c3) hgW).set (i := 4) (u := .slice A4 q.add.length c4) hgW)
      have HBm := Lib.hid (below_set (i := 4) (u := .slice A4 q.add.length c4) (below_set (i := 3) (u := .slice A3 q.same.length c3) (below_call HBWW.out HBW.out) hg10) hg10)
      obtain ⟨wz0, hwz0⟩ : ∃ z, z = (wm.setCell ⟨g10, 3, none⟩ (.slice A3 q.same.length c3)).setCell ⟨g10, 4, none⟩ (.slice A4 q.add.length c4) := ⟨_, rfl⟩
      rw [← hwz0] at HXm HRm HO1 HO2 HBm
      rw [← hwz0]
      clear hwz0
      obtain ⟨ka, fa, za⟩ := HXm.out.facts
      obtain ⟨kb, fb, zb⟩ := HRm.out.facts
      go_wp2_with fail
      refine bodyPost_with (fun V => Box V (w.heap.size + 1 + 1) #[.bool true, .int .i64 q.idx, .int .i64 q.cut, .slice A3 q.same.length c3, .slice A4 q.add.length c4] 41 ∧ Rs W.heap.size V A3 c3 q.same m1 ∧ Rs W.heap.size V A4 c4 q.add m2 ∧ Below w.heap.size w V) ⟨HRm.out.set5 _ _ _ _ _, HO1.out.set5 hrW _ _ _ _ _, HO2.out.set5 hrW _ _ _ _ _, below_set5 HBm.out (n := w.heap.size + 1 + 1) (by omega) _ _ _ _ _⟩ ?_
      rintro wz ⟨hz1, hz2, hz4, hz3⟩
      obtain ⟨kz, -, -⟩ := hz1.facts
      exact bodyPost_ret (v := .tuple #[.agg #[.bool true, .int .i64 q.idx, .int .i64 q.cut, .slice A3 q.same.length c3, .slice A4 q.add.length c4], .int .i64 0]) (by simp [results, Tryz.results16, go_sem, kz]) rfl ⟨A3, c3, m1, A4, c4, m2, rfl, hz2.less hwW, hz4.less hwW, hz3⟩
    · go_simp
      refine hK.out _ _ trivial (fun hH => ?_)
      clear hK K
      try simp only [Act.put, List.setIfInBounds_toArray, List.set_cons_zero, List.set_cons_succ, List.getElem_toArray, List.getElem_cons_zero, List.getElem_cons_succ]
      refine wpAnyH_ready (rs := [2]) (by kernel_rfl) (by simp) ?_
      refine AllReadyH.cons rfl (fun K hK => ?_) AllReadyH.nil
      go_simp
      go_at_call 83
      refine (OW1.out _ (Below.refl W.heap.size W).drew).mono ?_
      rintro e wk ⟨A3, c3, m1, rfl, hrs, hbk⟩
      have HRS1 := Lib.hid hrs
      have HBK := Lib.hid ((Below.refl W.heap.size W).drew.trans hbk)
      obtain ⟨kk, fk, zk⟩ := (HXW.out.later HBK.out).facts
      clear hrs hbk kw fw zw
      refine hK.out _ _ trivial (fun hH => ?_)
      clear hK K
      try simp only [Act.put, List.setIfInBounds_toArray, List.set_cons_zero, List.set_cons_succ, List.getElem_toArray, List.getElem_cons_zero, List.getElem_cons_succ]
      first
        | (refine wpAnyH_take (i := 6) (v := ?_) rfl (by kernel_rfl) (by kernel_rfl) (by kernel_rfl) (fun _ _ _ h => h) (Or.inl ⟨?_, ?_⟩) (by assumption) ?_; rotate_left; (focus rfl); (focus (intro w hSw; go_split_ands; go_simp; try with_reducible rfl)); skip)
        | (refine wpAnyH_take (i := 6) (v := undef) rfl (by kernel_rfl) (by kernel_rfl) (by kernel_rfl) (fun _ _ _ h => h) (Or.inr ⟨?_, rfl⟩) (by assumption) ?_; (focus rfl))
      try simp only [Act.put, List.setIfInBounds_toArray, List.set_cons_zero, List.set_cons_succ, List.getElem_toArray, List.getElem_cons_zero, List.getElem_cons_succ]
      refine wpAnyH_ready (rs := [5]) (by kernel_rfl) (by simp) ?_
      refine AllReadyH.cons rfl (fun K hK => ?_) AllReadyH.nil
      go_simp
      go_at_call 83
      refine (OW2.out _ HBK.out).mono ?_
      rintro e wm ⟨A4, c4, m2, rfl, hrs, hbm⟩
      have HRS2 := Lib.hid hrs
      have HBM := Lib.hid hbm
      have HBW := Lib.hid (below_call HBK.out hbm)
      obtain ⟨km, fm, zm⟩ := (HXW.out.later HBW.out).facts
      clear hrs hbm kk fk zk
      refine hK.out _ _ trivial (fun hH => ?_)
      clear hK K
      try simp only [Act.put, List.setIfInBounds_toArray, List.set_cons_zero, List.set_cons_succ, List.getElem_toArray, List.getElem_cons_zero, List.getElem_cons_succ]
      refine wpAnyH_ready (rs := [7]) (by kernel_rfl) (by simp) ?_
      refine AllReadyH.cons rfl (fun K hK => ?_) AllReadyH.nil
      go_simp
      refine hK.out _ _ trivial (fun hH => ?_)
      clear hK K
      try simp only [Act.put, List.setIfInBounds_toArray, List.set_cons_zero, List.set_cons_succ, List.getElem_toArray, List.getElem_cons_zero, List.getElem_cons_succ]
      first
        | (refine wpAnyH_take (i := 8) (v := ?_) rfl (by kernel_rfl) (by kernel_rfl) (by kernel_rfl) (fun _ _ _ h => h) (Or.inl ⟨?_, ?_⟩) (by assumption) ?_; rotate_left; (focus rfl); (focus (intro w hSw; go_split_ands; go_simp; try with_reducible rfl)); skip)
        | (refine wpAnyH_take (i := 8) (v := undef) rfl (by kernel_rfl) (by kernel_rfl) (by kernel_rfl) (fun _ _ _ h => h) (Or.inr ⟨?_, rfl⟩) (by assumption) ?_; (focus rfl))
      try simp only [Act.put, List.setIfInBounds_toArray, List.set_cons_zero, List.set_cons_succ, List.getElem_toArray, List.getElem_cons_zero, List.getElem_cons_succ]
      refine wpAnyH_ready (rs := [9]) (by kernel_rfl) (by simp) ?_
      refine AllReadyH.cons rfl (fun K hK => ?_) AllReadyH.nil
      go_simp
      refine hK.out _ _ trivial (fun hH => ?_)
      clear hK K
      try simp only [Act.put, List.setIfInBounds_toArray, List.set_cons_zero, List.set_cons_succ, List.getElem_toArray, List.getElem_cons_zero, List.getElem_cons_succ]
      refine wpAnyH_done (by kernel_rfl) ?_ _
      clear km fm zm
      have HXm := Lib.hid (((HXW.out.later HBW.out).set_ 3 (.slice A3 q.same.length c3)).set_ 4 (.slice A4 q.add.length c4))
      have HRm := Lib.hid (((HX2W.out.later HBW.out).far (p := ⟨g10, 3, none⟩) hg2 (.slice A3 q.same.length c3)).far (p := ⟨g10, 4, none⟩) hg2 (.slice A4 q.add.length c4))
      have HO1 := Lib.hid (((HRS1.out.later HBM.out).set (i := 3) (u := .slice A3 q.same.length c3) hgW).set (i := 4) (u := .slice A4 q.add.length c4) hgW)
      have HO2 := Lib.hid ((HRS2.out.set (i := 3) (u := .slice A3 q.same.length c3) hgW).set (i := 4) (u := .slice A4 q.add.length c4) hgW)
      have HBm := Lib.hid (below_set (i := 4) (u := .slice A4 q.add.length c4) (below_set (i := 3) (u := .slice A3 q.same.length c3) (below_call HBWW.out HBW.out) hg10) hg10)
      obtain ⟨wz0, hwz0⟩ : ∃ z, z = (wm.setCell ⟨g10, 3, none⟩ (.slice A3 q.same.length c3)).setCell ⟨g10, 4, none⟩ (.slice A4 q.add.length c4) := ⟨_, rfl⟩
      rw [← hwz0] at HXm HRm HO1 HO2 HBm
      rw [← hwz0]
      clear hwz0
      obtain ⟨ka, fa, za⟩ := HXm.out.facts
      obtain ⟨kb, fb, zb⟩ := HRm.out.facts
      go_wp2_with fail
      refine bodyPost_with (fun V => Box V (w.heap.size + 1 + 1) #[.bool true, .int .i64 q.idx, .int .i64 q.cut, .slice A3 q.same.length c3, .slice A4 q.add.length c4] 41 ∧ Rs W.heap.size V A3 c3 q.same m1 ∧ Rs W.heap.size V A4 c4 q.add m2 ∧ Below w.heap.size w V) ⟨HRm.out.set5 _ _ _ _ _, HO1.out.set5 hrW _ _ _ _ _, HO2.out.set5 hrW _ _ _ _ _, below_set5 HBm.out (n := w.heap.size + 1 + 1) (by omega) _ _ _ _ _⟩ ?_
      rintro wz ⟨hz1, hz2, hz4, hz3⟩
      obtain ⟨kz, -, -⟩ := hz1.facts
      exact bodyPost_ret (v := .tuple #[.agg #[.bool true, .int .i64 q.idx, .int .i64 q.cut, .slice A3 q.same.length c3, .slice A4 q.add.length c4], .int .i64 0]) (by simp [results, Tryz.results16, go_sem, kz]) rfl ⟨A3, c3, m1, A4, c4, m2, rfl, hz2.less hwW, hz4.less hwW, hz3⟩
  · go_simp
    refine hK.out _ _ trivial (fun hH => ?_)
    clear hK K
    try simp only [Act.put, List.setIfInBounds_toArray, List.set_cons_zero, List.set_cons_succ, List.getElem_toArray, List.getElem_cons_zero, List.getElem_cons_succ]
    refine wpAnyH_ready (rs := [1]) (by kernel_rfl) (by simp) ?_
    refine AllReadyH.cons rfl (fun K hK => ?_) AllReadyH.nil
    go_simp
    refine hK.out _ _ trivial (fun hH => ?_)
    clear hK K
    try simp only [Act.put, List.setIfInBounds_toArray, List.set_cons_zero, List.set_cons_succ, List.getElem_toArray, List.getElem_cons_zero, List.getElem_cons_succ]
    refine wpAnyH_ready (rs := [2]) (by kernel_rfl) (by simp) ?_
    refine AllReadyH.cons rfl (fun K hK => ?_) AllReadyH.nil
    go_simp
    go_at_call 83
    refine (OW1.out _ (Below.refl W.heap.size W).drew).mono ?_
    rintro e wk ⟨A3, c3, m1, rfl, hrs, hbk⟩
    have HRS1 := Lib.hid hrs
    have HBK := Lib.hid ((Below.refl W.heap.size W).drew.trans hbk)
    obtain ⟨kk, fk, zk⟩ := (HXW.out.later HBK.out).facts
    clear hrs hbk kw fw zw
    refine hK.out _ _ trivial (fun hH => ?_)
    clear hK K
    try simp only [Act.put, List.setIfInBounds_toArray, List.set_cons_zero, List.set_cons_succ, List.getElem_toArray, List.getElem_cons_zero, List.getElem_cons_succ]
    first
      | (refine wpAnyH_take (i := 6) (v := ?_) rfl (by kernel_rfl) (by kernel_rfl) (by kernel_rfl) (fun _ _ _ h => h) (Or.inl ⟨?_, ?_⟩) (by assumption) ?_; rotate_left; (focus rfl); (focus (intro w hSw; go_split_ands; go_simp; try with_reducible rfl)); skip)
      | (refine wpAnyH_take (i := 6) (v := undef) rfl (by kernel_rfl) (by kernel_rfl) (by kernel_rfl) (fun _ _ _ h => h) (Or.inr ⟨?_, rfl⟩) (by assumption) ?_; (focus rfl))
    try simp only [Act.put, List.setIfInBounds_toArray, List.set_cons_zero, List.set_cons_succ, List.getElem_toArray, List.getElem_cons_zero, List.getElem_cons_succ]
    refine wpAnyH_ready (rs := [5]) (by kernel_rfl) (by simp) ?_
    refine AllReadyH.cons rfl (fun K hK => ?_) AllReadyH.nil
    go_simp
    go_at_call 83
    refine (OW2.out _ HBK.out).mono ?_
    rintro e wm ⟨A4, c4, m2, rfl, hrs, hbm⟩
    have HRS2 := Lib.hid hrs
    have HBM := Lib.hid hbm
    have HBW := Lib.hid (below_call HBK.out hbm)
    obtain ⟨km, fm, zm⟩ := (HXW.out.later HBW.out).facts
    clear hrs hbm kk fk zk
    refine hK.out _ _ trivial (fun hH => ?_)
    clear hK K
    try simp only [Act.put, List.setIfInBounds_toArray, List.set_cons_zero, List.set_cons_succ, List.getElem_toArray, List.getElem_cons_zero, List.getElem_cons_succ]
    refine wpAnyH_ready (rs := [7]) (by kernel_rfl) (by simp) ?_
    refine AllReadyH.cons rfl (fun K hK => ?_) AllReadyH.nil
    go_simp
    refine hK.out _ _ trivial (fun hH => ?_)
    clear hK K
    try simp only [Act.put, List.setIfInBounds_toArray, List.set_cons_zero, List.set_cons_succ, List.getElem_toArray, List.getElem_cons_zero, List.getElem_cons_succ]
    first
      | (refine wpAnyH_take (i := 8) (v := ?_) rfl (by kernel_rfl) (by kernel_rfl) (by kernel_rfl) (fun _ _ _ h => h) (Or.inl ⟨?_, ?_⟩) (by assumption) ?_; rotate_left; (focus rfl); (focus (intro w hSw; go_split_ands; go_simp; try with_reducible rfl)); skip)
      | (refine wpAnyH_take (i := 8) (v := undef) rfl (by kernel_rfl) (by kernel_rfl) (by kernel_rfl) (fun _ _ _ h => h) (Or.inr ⟨?_, rfl⟩) (by assumption) ?_; (focus rfl))
    try simp only [Act.put, List.setIfInBounds_toArray, List.set_cons_zero, List.set_cons_succ, List.getElem_toArray, List.getElem_cons_zero, List.getElem_cons_succ]
    refine wpAnyH_ready (rs := [9]) (by kernel_rfl) (by simp) ?_
    refine AllReadyH.cons rfl (fun K hK => ?_) AllReadyH.nil
    go_simp
    refine hK.out _ _ trivial (fun hH => ?_)
    clear hK K
    try simp only [Act.put, List.setIfInBounds_toArray, List.set_cons_zero, List.set_cons_succ, List.getElem_toArray, List.getElem_cons_zero, List.getElem_cons_succ]
    refine wpAnyH_done (by kernel_rfl) ?_ _
    clear km fm zm
    have HXm := Lib.hid (((HXW.out.later HBW.out).set_ 3 (.slice A3 q.same.length c3)).set_ 4 (.slice A4 q.add.length c4))
    have HRm := Lib.hid (((HX2W.out.later HBW.out).far (p := ⟨g10, 3, none⟩) hg2 (.slice A3 q.same.length c3)).far (p := ⟨g10, 4, none⟩) hg2 (.slice A4 q.add.length c4))
    have HO1 := Lib.hid (((HRS1.out.later HBM.out).set (i := 3) (u := .slice A3 q.same.length c3) hgW).set (i := 4) (u := .slice A4 q.add.length c4) hgW)
    have HO2 := Lib.hid ((HRS2.out.set (i := 3) (u := .slice A3 q.same.length c3) hgW).set (i := 4) (u := .slice A4 q.add.length c4) hgW)
    have HBm := Lib.hid (below_set (i := 4) (u := .slice A4 q.add.length c4) (below_set (i := 3) (u := .slice A3 q.same.length c3) (below_call HBWW.out HBW.out) hg10) hg10)
    obtain ⟨wz0, hwz0⟩ : ∃ z, z = (wm.setCell ⟨g10, 3, none⟩ (.slice A3 q.same.length c3)).setCell ⟨g10, 4, none⟩ (.slice A4 q.add.length c4) := ⟨_, rfl⟩
    rw [← hwz0] at HXm HRm HO1 HO2 HBm
    rw [← hwz0]
    clear hwz0
    obtain ⟨ka, fa, za⟩ := HXm.out.facts
    obtain ⟨kb, fb, zb⟩ := HRm.out.facts
    go_wp2_with fail
    refine bodyPost_with (fun V => Box V (w.heap.size + 1 + 1) #[.bool true, .int .i64 q.idx, .int .i64 q.cut, .slice A3 q.same.length c3, .slice A4 q.add.length c4] 41 ∧ Rs W.heap.size V A3 c3 q.same m1 ∧ Rs W.heap.size V A4 c4 q.add m2 ∧ Below w.heap.size w V) ⟨HRm.out.set5 _ _ _ _ _, HO1.out.set5 hrW _ _ _ _ _, HO2.out.set5 hrW _ _ _ _ _, below_set5 HBm.out (n := w.heap.size + 1 + 1) (by omega) _ _ _ _ _⟩ ?_
    rintro wz ⟨hz1, hz2, hz4, hz3⟩
    obtain ⟨kz, -, -⟩ := hz1.facts
    exact bodyPost_ret (v := .tuple #[.agg #[.bool true, .int .i64 q.idx, .int .i64 q.cut, .slice A3 q.same.length c3, .slice A4 q.add.length c4], .int .i64 0]) (by simp [results, Tryz.results16, go_sem, kz]) rfl ⟨A3, c3, m1, A4, c4, m2, rfl, hz2.less hwW, hz4.less hwW, hz3⟩
/-- Fit, where the view has what stands ahead. -/
theorem fitYes (b p : Idt) (l : List Idt) (A : Option Addr) (c : Nat) (es : List Ent) (Ae : Option Addr) (ce : Nat) (w : World) (h : Sl 3 idRow w.heap.size w (.slice A l.length c) l) (he : Sl 4 entRow w.heap.size w (.slice Ae es.length ce) es) (hein : ∀ x ∈ es, EntIn w.heap.size w x ∧ x.bd.length ≤ 100000) (hn : es.length ≤ 100000) (hb : I64 b.idx) (hp : I64 p.idx) (hin : ∀ q ∈ l, I64 q.idx) (hix : ∀ x ∈ es, I64 x.idx) (hG : errTypeIs w) (hr : rightV b l = true) (hf : folE p es = 0) (hk : fitK b l (shownV b l 0 es) p.idx p.trm = 0) :
    Calls Tryz.prog 16 #[.agg #[.int .i64 b.idx, .int .i64 b.trm, .int .i64 b.knd, .slice A l.length c], .agg #[.int .i64 p.idx, .int .i64 p.trm, .int .i64 p.knd], .slice Ae es.length ce] w fun e w' => YesPost (planV b l (shownV b l 0 es) es (max p.idx b.idx) []) w e w' := by
  by_cases hm : b.idx ≤ p.idx
  · rw [Int.max_eq_left hm]
    exact fitYes1 b p l A c es Ae ce w h he hein hn hb hp hin hix hG hr hf hk hm
  · rw [Int.max_eq_right (by omega)]
    exact fitYes2 b p l A c es Ae ce w h he hein hn hb hp hin hix hG hr hf hk (by omega)
end Go.Proofs.YtfglkpcboodllaaGreatDoor
