/-
  limpetlaw25's LeadNext: true.
-/
import Derived.Test.YtnhodaconlodbaaDoorLeadAwake
import Derived.Test.YtnhodaconlodbaaDoorRef25Next
import Derived.Test.YtnhodaconlodbaaDoorKitIdents
import Derived.Test.YtnhodaconlodbaaDoorKitEnts
set_option linter.unusedVariables false
set_option linter.unusedSimpArgs false
namespace Go.Proofs.YtnhodaconlodbaaDoor
open Go.RowKit

theorem next_at {P : Program} {f : FuncId} {args : Array Value} {nx many n : Int} {b : Idt} {l : List Idt} {w : World} {s : Snd} (h : Calls P f args w (NextPost nx many b l w)) (ha : nextN b l nx many = (n, s)) : Calls P f args w fun e w' => e = .returned (.tuple #[.agg #[.bool s.pc, .int .i64 s.pv.idx, .int .i64 s.pv.trm, .int .i64 s.pv.knd, .int .i64 s.fr, .int .i64 s.to_], .int .i64 n]) ∧ Below w.heap.size w w' := by
  unfold NextPost at h; rw [ha] at h; exact h

set_option maxRecDepth 100000 in
set_option maxHeartbeats 1000000 in
theorem nextLaw_big (who nx mt pc many : Int) (b : Idt) (l : List Idt) (A : Option Addr) (c : Nat) (w : World) (h : Sl 3 idRow w.heap.size w (.slice A l.length c) l) (hb : I64 b.idx) (hin : ∀ p ∈ l, I64 p.idx) (hnx : I64 nx) (hmy : I64 many) (hG : errTypeIs w) (hbig : 300 < l.length) :
    Calls Tryd.prog 11 #[.agg #[.int .i64 who, .int .i64 nx, .int .i64 mt, .int .i64 pc], .agg #[.int .i64 b.idx, .int .i64 b.trm, .int .i64 b.knd, .slice A l.length c], .int .i64 many] w fun e w' => e = .returned (.bool true) ∧ Below w.heap.size w w' := by
  have hg : (300 : Int) < (l.length : Int) := by omega
  have hlm : l.length ≤ 9223372036854775807 := by obtain ⟨_, _, _, h1, h2, _⟩ := id h; unfold maxLen at h2; omega
  clear h hb hin hnx hmy hG
  go_enter Tryd.func11, Tryd.ntmps11
  go_wp2_with (go_at_call 12; refine (leadAwk _).mono ?_; rintro e w3 ⟨rfl, hb3⟩)
  go_ret
  exact ⟨rfl, below_call (below_call (below_new _ _) (below_new _ _)) hb3⟩

set_option maxRecDepth 100000 in
set_option maxHeartbeats 4000000 in
theorem nextLaw_one (who nx mt pc many : Int) (b : Idt) (l : List Idt) (A : Option Addr) (c : Nat) (w : World) (h : Sl 3 idRow w.heap.size w (.slice A l.length c) l) (hb : I64 b.idx) (hin : ∀ p ∈ l, I64 p.idx) (hnx : I64 nx) (hmy : I64 many) (hG : errTypeIs w) (hsm : l.length ≤ 300) :
    Calls Tryd.prog 11 #[.agg #[.int .i64 who, .int .i64 nx, .int .i64 mt, .int .i64 pc], .agg #[.int .i64 b.idx, .int .i64 b.trm, .int .i64 b.knd, .slice A l.length c], .int .i64 many] w fun e w' => e = .returned (.bool true) ∧ Below w.heap.size w w' := by
  have hg : (l.length : Int) ≤ 300 := by omega
  obtain ⟨n, s, hns⟩ : ∃ n s, nextN b l nx many = (n, s) := ⟨_, _, rfl⟩
  have HF := Lib.hid hns
  obtain ⟨W, hW⟩ : ∃ W : World, W = (w.alloc (.cells #[.int .i64 who, .int .i64 nx, .int .i64 mt, .int .i64 pc] 24)).alloc (.cells #[.int .i64 b.idx, .int .i64 b.trm, .int .i64 b.knd, .slice A l.length c] 32) := ⟨_, rfl⟩
  have BW : Below w.heap.size w W := by rw [hW]; exact below_call (below_new _ _) (below_new _ _)
  have X0 : Box W w.heap.size #[.int .i64 who, .int .i64 nx, .int .i64 mt, .int .i64 pc] 24 := by rw [hW]; exact (Box.new _ _ _).alloc _
  have X1 : Box W (w.heap.size + 1) #[.int .i64 b.idx, .int .i64 b.trm, .int .i64 b.knd, .slice A l.length c] 32 := by
    have := Box.new (w.alloc (.cells #[.int .i64 who, .int .i64 nx, .int .i64 mt, .int .i64 pc] 24)) #[.int .i64 b.idx, .int .i64 b.trm, .int .i64 b.knd, .slice A l.length c] 32
    rw [hW]; simpa using this
  have HB0 := Lib.hid BW
  have HX0 := Lib.hid X0
  have HX1 := Lib.hid X1
  have HS := Lib.hid (h.later BW)
  have HG := Lib.hid (errType_later hG BW)
  obtain ⟨hb', hin'⟩ : I64 b.idx ∧ (∀ p ∈ l, I64 p.idx) := ⟨hb, hin⟩
  obtain ⟨hnx', hmy'⟩ : I64 nx ∧ I64 many := ⟨hnx, hmy⟩
  have y1 := X1.lt
  have hlm : l.length ≤ 9223372036854775807 := by obtain ⟨_, _, _, h1, h2, _⟩ := id h; unfold maxLen at h2; omega
  have HSF : Hid (∀ w', Below W.heap.size W w' → (w'.cell? ⟨w.heap.size + 1, 0, none⟩ = some (.int .i64 b.idx) ∧ w'.cell? ⟨w.heap.size + 1, 1, none⟩ = some (.int .i64 b.trm) ∧ w'.cell? ⟨w.heap.size + 1, 2, none⟩ = some (.int .i64 b.knd) ∧ w'.cell? ⟨w.heap.size + 1, 3, none⟩ = some (.slice A l.length c) ∧ Below W.heap.size W w')) := fun w' q => ⟨(q.cell (p := ⟨w.heap.size + 1, 0, none⟩) y1).trans (X1.cell 0), (q.cell (p := ⟨w.heap.size + 1, 1, none⟩) y1).trans (X1.cell 1), (q.cell (p := ⟨w.heap.size + 1, 2, none⟩) y1).trans (X1.cell 2), (q.cell (p := ⟨w.heap.size + 1, 3, none⟩) y1).trans (X1.cell 3), q⟩
  clear h hb hin hG hnx hmy BW X0 X1 hns
  go_enter Tryd.func11, Tryd.ntmps11
  go_upto_region 3 with fail
  rw [← hW]
  clear hW
  go_cut [7] (fun pv wx => ∃ gx g cp, pv = .pointer (some ⟨gx, 0, none⟩) ∧ W.heap.size ≤ gx ∧ Box wx gx #[.int .i64 b.idx, .int .i64 b.trm, .int .i64 b.knd, .slice (some ⟨g, 0, none⟩) l.length cp] 32 ∧ Lnt 3 idRow marksI wx.heap.size wx (.slice (some ⟨g, 0, none⟩) l.length cp) l ∧ Below W.heap.size W wx)
  case first =>
    first | go_region_held3 (fun w' => w'.cell? ⟨w.heap.size + 1, 0, none⟩ = some (.int .i64 b.idx) ∧ w'.cell? ⟨w.heap.size + 1, 1, none⟩ = some (.int .i64 b.trm) ∧ w'.cell? ⟨w.heap.size + 1, 2, none⟩ = some (.int .i64 b.knd) ∧ w'.cell? ⟨w.heap.size + 1, 3, none⟩ = some (.slice A l.length c) ∧ Below W.heap.size W w')
      (first | (refine HSF.out _ ?_; ((repeat (first | (refine Below.drew ?_) | (refine Below.alloc ?_ (by first | omega | (simp; omega) | simp) _) | (refine below_set ?_ (by first | omega | (simp; omega) | simp)))); first | exact Below.refl _ _ | exact PA)))
      (first | (go_at_call 50; refine (lentIdentsF l _ _ (HS.out.later ?_) (by omega)).mono ?_; (focus ((repeat (first | (refine Below.drew ?_) | (refine Below.alloc ?_ (by first | omega | (simp; omega) | simp) _) | (refine below_set ?_ (by first | omega | (simp; omega) | simp)))); exact Below.refl _ _)); rintro e wl ⟨g, cp, rfl, hg, hl, hbl⟩; have PA : Below W.heap.size W wl := below_call (by ((repeat (first | (refine Below.drew ?_) | (refine Below.alloc ?_ (by first | omega | (simp; omega) | simp) _) | (refine below_set ?_ (by first | omega | (simp; omega) | simp)))); exact Below.refl _ _)) hbl; have hz := PA.size; (try (have bx : Box wl W.heap.size #[.int .i64 0, .int .i64 0, .int .i64 0, .slice none 0 0] 32 := (by refine Box.later ?_ hbl; exact Box.new W #[.int .i64 0, .int .i64 0, .int .i64 0, .slice none 0 0] 32); obtain ⟨kx, fx, zx⟩ := bx.facts))))
    all_goals (go_wp2_with fail; go_meet)
    all_goals first
      | (have hg' : W.heap.size + 1 ≤ g := (by simpa using hg)
         exact ⟨W.heap.size, g, cp, rfl, Nat.le_refl _, (((bx.set_ 0 _).set_ 1 _).set_ 2 _).set_ 3 _, hl.block ((Below.heap_setCell _ _ _ _ (by simp; omega)).trans ((Below.heap_setCell _ _ _ _ (by simp; omega)).trans ((Below.heap_setCell _ _ _ _ (by simp; omega)).trans (Below.heap_setCell _ _ _ _ (by simp; omega))))) (by simp), below_set (below_set (below_set (below_set PA (Nat.le_refl _)) (Nat.le_refl _)) (Nat.le_refl _)) (Nat.le_refl _)⟩)
      | exact ⟨wl.heap.size, g, cp, rfl, hz, Box.new _ _ _, hl.alloc _, PA.alloc hz _⟩
  case rest =>
    obtain ⟨gx, g, cp, rfl, hgx, hbx, hln, hB⟩ := hcut
    have HBX := Lib.hid hbx
    have HLN := Lib.hid hln
    have HBc := Lib.hid hB
    have HXa := Lib.hid (HX0.out.later hB)
    have HXb := Lib.hid (HX1.out.later hB)
    have HSc := Lib.hid (HS.out.later hB)
    have HSx := Lib.hid hln.sl
    have HGc := Lib.hid (errType_later HG.out hB)
    obtain ⟨ka, fa, za⟩ := HXa.out.facts
    obtain ⟨kb, fb, zb⟩ := HXb.out.facts
    obtain ⟨kx, fx, zx⟩ := hbx.facts
    clear hbx hln hB hgx y1
    go_wp2_with (first
      | (go_at_call 51; refine (next_at (leadNext who nx mt pc many b l (some ⟨g, 0, none⟩) cp _ HSx.out hb' hin' hnx' hmy' HGc.out) HF.out).mono ?_; rintro e w4 ⟨rfl, hb4⟩; obtain ⟨ka4, fa4, za4⟩ := (HXa.out.later hb4).facts; obtain ⟨kb4, fb4, zb4⟩ := (HXb.out.later hb4).facts; clear ka fa za kb fb zb kx fx zx)
      | (go_at_call 52; refine (next_at (ref25Next who nx mt pc many b l A c _ ((HSc.out.later hb4).alloc (.cells #[.bool s.pc, .int .i64 s.pv.idx, .int .i64 s.pv.trm, .int .i64 s.pv.knd, .int .i64 s.fr, .int .i64 s.to_] 85)) hb' hin' hnx' hmy') HF.out).mono ?_; rintro e w6 ⟨rfl, hb6⟩; have B8 := (Box.new w4 #[.bool s.pc, .int .i64 s.pv.idx, .int .i64 s.pv.trm, .int .i64 s.pv.knd, .int .i64 s.fr, .int .i64 s.to_] 85).later hb6; have B7 := ((HBX.out.later hb4).alloc (.cells #[.bool s.pc, .int .i64 s.pv.idx, .int .i64 s.pv.trm, .int .i64 s.pv.knd, .int .i64 s.fr, .int .i64 s.to_] 85)).later hb6; have B1 := ((HXb.out.later hb4).alloc (.cells #[.bool s.pc, .int .i64 s.pv.idx, .int .i64 s.pv.trm, .int .i64 s.pv.knd, .int .i64 s.fr, .int .i64 s.to_] 85)).later hb6; have HL6 := Lib.hid ((((HLN.out.later hb4).alloc (.cells #[.bool s.pc, .int .i64 s.pv.idx, .int .i64 s.pv.trm, .int .i64 s.pv.knd, .int .i64 s.fr, .int .i64 s.to_] 85)).later hb6).alloc (.cells #[.bool s.pc, .int .i64 s.pv.idx, .int .i64 s.pv.trm, .int .i64 s.pv.knd, .int .i64 s.fr, .int .i64 s.to_] 88)); have HS6 := Lib.hid ((((HSc.out.later hb4).alloc (.cells #[.bool s.pc, .int .i64 s.pv.idx, .int .i64 s.pv.trm, .int .i64 s.pv.knd, .int .i64 s.fr, .int .i64 s.to_] 85)).later hb6).alloc (.cells #[.bool s.pc, .int .i64 s.pv.idx, .int .i64 s.pv.trm, .int .i64 s.pv.knd, .int .i64 s.fr, .int .i64 s.to_] 88)); have HB6 := Lib.hid (below_call (below_call (below_call HBc.out hb4) (below_new w4 (.cells #[.bool s.pc, .int .i64 s.pv.idx, .int .i64 s.pv.trm, .int .i64 s.pv.knd, .int .i64 s.fr, .int .i64 s.to_] 85))) hb6); obtain ⟨k8, f8, z8⟩ := B8.facts; obtain ⟨k7, f7, z7⟩ := B7.facts; obtain ⟨k1, f1, z1⟩ := B1.facts; clear ka4 fa4 za4 kb4 fb4 zb4)
      | (go_at_call 53; refine (keptIdents l _ _ _ HL6.out HS6.out (by omega)).mono ?_; rintro e w7 ⟨rfl, hb7⟩)
      | (go_at_call 12; refine (leadAwk _).mono ?_; rintro e w8 ⟨rfl, hb8⟩))
    go_ret
    exact ⟨rfl, below_call HB0.out (below_call (below_call (below_call HB6.out (below_new _ _)) hb7) hb8)⟩
end Go.Proofs.YtnhodaconlodbaaDoor
