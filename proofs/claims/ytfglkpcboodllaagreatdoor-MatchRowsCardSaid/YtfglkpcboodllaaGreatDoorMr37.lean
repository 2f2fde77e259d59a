/-
  Merged: BagApart, BagEnts.
-/
import Derived.Test.YtfglkpcboodllaaGreatDoorMr28
import Derived.Test.YtfglkpcboodllaaGreatDoorMr36
import Derived.Test.YtfglkpcboodllaaGreatDoorMr35
/-
  limpetkit's bag: whether all lies apart: contracts.
-/
set_option linter.unusedVariables false
set_option linter.unusedSimpArgs false
namespace Go.Proofs.YtfglkpcboodllaaGreatDoor
open Go.RowKit

set_option maxRecDepth 100000 in
set_option maxHeartbeats 4000000 in
/-- A bag whose flats each leave a class of worlds. -/
theorem bagApart (gb : Nat) (x0 x1 x2 x3 x4 x5 x6 x7 x8 x9 x10 x11 x12 x13 x14 : Sv) (C : World → Prop) (w : World) (h0 : C w) (hd : ∀ v, C v → C v.drew) (hbox : ∀ v, C v → Box v gb #[Sv.v x0, Sv.v x1, Sv.v x2, Sv.v x3, Sv.v x4, Sv.v x5, Sv.v x6, Sv.v x7, Sv.v x8, Sv.v x9, Sv.v x10, Sv.v x11, Sv.v x12, Sv.v x13, Sv.v x14] 138)
    (f0 : ∀ v, C v → Calls Tryz.prog 127 #[.slice x0.1 x0.2.1 x0.2.2] v (fun e w' => e = .returned (.bool true) ∧ C w'))
    (f1 : ∀ v, C v → Calls Tryz.prog 128 #[.slice x1.1 x1.2.1 x1.2.2] v (fun e w' => e = .returned (.bool true) ∧ C w'))
    (f2 : ∀ v, C v → Calls Tryz.prog 129 #[.slice x2.1 x2.2.1 x2.2.2] v (fun e w' => e = .returned (.bool true) ∧ C w'))
    (f3 : ∀ v, C v → Calls Tryz.prog 130 #[.slice x3.1 x3.2.1 x3.2.2] v (fun e w' => e = .returned (.bool true) ∧ C w'))
    (f4 : ∀ v, C v → Calls Tryz.prog 131 #[.slice x4.1 x4.2.1 x4.2.2] v (fun e w' => e = .returned (.bool true) ∧ C w'))
    (f5 : ∀ v, C v → Calls Tryz.prog 132 #[.slice x5.1 x5.2.1 x5.2.2] v (fun e w' => e = .returned (.bool true) ∧ C w'))
    (f6 : ∀ v, C v → Calls Tryz.prog 133 #[.slice x6.1 x6.2.1 x6.2.2] v (fun e w' => e = .returned (.bool true) ∧ C w'))
    (f7 : ∀ v, C v → Calls Tryz.prog 134 #[.slice x7.1 x7.2.1 x7.2.2] v (fun e w' => e = .returned (.bool true) ∧ C w'))
    (f8 : ∀ v, C v → Calls Tryz.prog 135 #[.slice x8.1 x8.2.1 x8.2.2] v (fun e w' => e = .returned (.bool true) ∧ C w'))
    (f9 : ∀ v, C v → Calls Tryz.prog 136 #[.slice x9.1 x9.2.1 x9.2.2] v (fun e w' => e = .returned (.bool true) ∧ C w'))
    (f10 : ∀ v, C v → Calls Tryz.prog 137 #[.slice x10.1 x10.2.1 x10.2.2] v (fun e w' => e = .returned (.bool true) ∧ C w'))
    (f11 : ∀ v, C v → Calls Tryz.prog 138 #[.slice x11.1 x11.2.1 x11.2.2] v (fun e w' => e = .returned (.bool true) ∧ C w'))
    (f12 : ∀ v, C v → Calls Tryz.prog 139 #[.slice x12.1 x12.2.1 x12.2.2] v (fun e w' => e = .returned (.bool true) ∧ C w'))
    (f13 : ∀ v, C v → Calls Tryz.prog 140 #[.slice x13.1 x13.2.1 x13.2.2] v (fun e w' => e = .returned (.bool true) ∧ C w'))
    (f14 : ∀ v, C v → Calls Tryz.prog 141 #[.slice x14.1 x14.2.1 x14.2.2] v (fun e w' => e = .returned (.bool true) ∧ C w')) :
    Calls Tryz.prog 92 #[.pointer (some ⟨gb, 0, none⟩)] w fun e w' => e = .returned (.bool true) ∧ C w' := by
  have k0 : ∀ zw : Cls C, zw.wd.cell? ⟨gb, 0, none⟩ = some (.slice x0.1 x0.2.1 x0.2.2) := fun zw => (hbox _ zw.is).cell 0
  have k1 : ∀ zw : Cls C, zw.wd.cell? ⟨gb, 1, none⟩ = some (.slice x1.1 x1.2.1 x1.2.2) := fun zw => (hbox _ zw.is).cell 1
  have k2 : ∀ zw : Cls C, zw.wd.cell? ⟨gb, 2, none⟩ = some (.slice x2.1 x2.2.1 x2.2.2) := fun zw => (hbox _ zw.is).cell 2
  have k3 : ∀ zw : Cls C, zw.wd.cell? ⟨gb, 3, none⟩ = some (.slice x3.1 x3.2.1 x3.2.2) := fun zw => (hbox _ zw.is).cell 3
  have k4 : ∀ zw : Cls C, zw.wd.cell? ⟨gb, 4, none⟩ = some (.slice x4.1 x4.2.1 x4.2.2) := fun zw => (hbox _ zw.is).cell 4
  have k5 : ∀ zw : Cls C, zw.wd.cell? ⟨gb, 5, none⟩ = some (.slice x5.1 x5.2.1 x5.2.2) := fun zw => (hbox _ zw.is).cell 5
  have k6 : ∀ zw : Cls C, zw.wd.cell? ⟨gb, 6, none⟩ = some (.slice x6.1 x6.2.1 x6.2.2) := fun zw => (hbox _ zw.is).cell 6
  have k7 : ∀ zw : Cls C, zw.wd.cell? ⟨gb, 7, none⟩ = some (.slice x7.1 x7.2.1 x7.2.2) := fun zw => (hbox _ zw.is).cell 7
  have k8 : ∀ zw : Cls C, zw.wd.cell? ⟨gb, 8, none⟩ = some (.slice x8.1 x8.2.1 x8.2.2) := fun zw => (hbox _ zw.is).cell 8
  have k9 : ∀ zw : Cls C, zw.wd.cell? ⟨gb, 9, none⟩ = some (.slice x9.1 x9.2.1 x9.2.2) := fun zw => (hbox _ zw.is).cell 9
  have k10 : ∀ zw : Cls C, zw.wd.cell? ⟨gb, 10, none⟩ = some (.slice x10.1 x10.2.1 x10.2.2) := fun zw => (hbox _ zw.is).cell 10
  have k11 : ∀ zw : Cls C, zw.wd.cell? ⟨gb, 11, none⟩ = some (.slice x11.1 x11.2.1 x11.2.2) := fun zw => (hbox _ zw.is).cell 11
  have k12 : ∀ zw : Cls C, zw.wd.cell? ⟨gb, 12, none⟩ = some (.slice x12.1 x12.2.1 x12.2.2) := fun zw => (hbox _ zw.is).cell 12
  have k13 : ∀ zw : Cls C, zw.wd.cell? ⟨gb, 13, none⟩ = some (.slice x13.1 x13.2.1 x13.2.2) := fun zw => (hbox _ zw.is).cell 13
  have k14 : ∀ zw : Cls C, zw.wd.cell? ⟨gb, 14, none⟩ = some (.slice x14.1 x14.2.1 x14.2.2) := fun zw => (hbox _ zw.is).cell 14
  clear hbox
  go_enter Tryz.func92, Tryz.ntmps92
  go_upto_region 1 with fail
  refine wp_region_cls_plain C h0 ?_
  intro hne
  simp only [List.append_eq, List.cons_append, List.nil_append]
  repeat (go_big_quiet_step ((rename_i x5; first
  | (go_at_call 127; exact cls_of x5 (f0 _ x5.is))
  | (go_at_call 128; exact cls_of x5 (f1 _ x5.is))
  | (go_at_call 129; exact cls_of x5 (f2 _ x5.is))
  | (go_at_call 130; exact cls_of x5 (f3 _ x5.is))
  | (go_at_call 131; exact cls_of x5 (f4 _ x5.is))
  | (go_at_call 132; exact cls_of x5 (f5 _ x5.is))
  | (go_at_call 133; exact cls_of x5 (f6 _ x5.is))
  | (go_at_call 134; exact cls_of x5 (f7 _ x5.is))
  | (go_at_call 135; exact cls_of x5 (f8 _ x5.is))
  | (go_at_call 136; exact cls_of x5 (f9 _ x5.is))
  | (go_at_call 137; exact cls_of x5 (f10 _ x5.is))
  | (go_at_call 138; exact cls_of x5 (f11 _ x5.is))
  | (go_at_call 139; exact cls_of x5 (f12 _ x5.is))
  | (go_at_call 140; exact cls_of x5 (f13 _ x5.is))
  | (go_at_call 141; exact cls_of x5 (f14 _ x5.is)))))
  refine wpQuiet_nil ?_
  intro _ hw'
  obtain ⟨x9, hw''⟩ := hw'
  subst hw''
  go_wp2_with fail
  go_ret
  exact ⟨rfl, x9.is⟩
end Go.Proofs.YtfglkpcboodllaaGreatDoor
/-
  limpetkit's bag: entries are put into it, with their bodies: contracts.
-/
set_option linter.unusedVariables false
set_option linter.unusedSimpArgs false
namespace Go.Proofs.YtfglkpcboodllaaGreatDoor
open Go.RowKit

/-- A bag of bytes and entries. -/
def bagE (s5 s8 : Value) : Array Value := #[nilS, nilS, nilS, nilS, nilS, s5, nilS, nilS, s8, nilS, nilS, nilS, nilS, nilS, nilS]
def svE (x : Ent) : Sv := (x.ba, x.bd.length, x.bc)
theorem svInfoEntries : (Tryz.prog.info? 31).map (fun i => (i.zero, i.size, i.bytes)) = some (some nilS, 1, 24) := by kernel_rfl
/-- Slices of unlike types lie in unlike blocks. -/
theorem own_apart {α β : Type} {k k' : Nat} {row : α → List Value} {row' : β → List Value} {e e' : TypeId} {base base' : Nat} {w : World} {v v' : Value} {l : List α} {l' : List β} (h : Own k row e base w v l) (h' : Own k' row' e' base' w v' l') (he : e ≠ e') {x : Nat} (hx : v.ownBlock = some x) : v'.ownBlock ≠ some x := by
  intro hx'
  rcases h.2 with ⟨hv, _⟩ | ⟨g, cap, cur, hv, _, hh, _⟩
  · rw [hv] at hx; simp [Value.ownBlock] at hx
  · rcases h'.2 with ⟨hv', _⟩ | ⟨g', cap', cur', hv', _, hh', _⟩
    · rw [hv'] at hx'; simp [Value.ownBlock] at hx'
    · rw [hv] at hx; rw [hv'] at hx'
      have h1 : g = x := by simpa [Value.ownBlock] using hx
      have h2 : g' = x := by simpa [Value.ownBlock] using hx'
      subst h1; subst h2
      rw [hh] at hh'
      simp only [Option.some.injEq, Obj.cells.injEq] at hh'
      exact he hh'.2.1

set_option maxHeartbeats 1000000 in
theorem oneEntry (gb base : Nat) (s8 : Value) (A0 : Option Addr) (n0 c0 : Nat) (x : Ent) (L : List Sv) (w : World) (hx : Box w gb (bagE (.slice A0 n0 c0) s8) 138) (ho : Own 1 sRow 26 base w (.slice A0 n0 c0) L) (hne : blkH (.slice A0 n0 c0) ≠ some gb) (hn : L.length ≤ 100000) (hB : base ≤ w.heap.size) (hg : base ≤ gb) :
    Calls Tryz.prog 126 #[.pointer (some ⟨gb, 0, none⟩), .agg #[.int .i64 x.idx, .int .i64 x.trm, .int .i64 x.knd, .slice x.ba x.bd.length x.bc]] w fun e w' => e = .returned (.tuple #[]) ∧ ∃ g cap, Box w' gb (bagE (.slice (some ⟨g, 0, none⟩) (L.length + 1) cap) s8) 138 ∧ Own 1 sRow 26 base w' (.slice (some ⟨g, 0, none⟩) (L.length + 1) cap) (L ++ [svE x]) ∧ g ≠ gb ∧ Below base w w' ∧ w.heap.size ≤ w'.heap.size ∧ (∀ b, b < w.heap.size → b ≠ gb → some b ≠ blkH (.slice A0 n0 c0) → w'.heap[b]? = w.heap[b]?) := by
  have HX := Lib.hid hx
  have HO := Lib.hid ho
  have HNE := Lib.hid hne
  clear hx ho hne
  obtain ⟨W, hW⟩ : ∃ W, W = w.alloc (.cells #[.int .i64 x.idx, .int .i64 x.trm, .int .i64 x.knd, .slice x.ba x.bd.length x.bc] 28) := ⟨_, rfl⟩
  have HE := Lib.hid hW
  have HB0 := Lib.hid (show Below w.heap.size w W by rw [hW]; exact below_new _ _)
  have hz : W.heap.size = w.heap.size + 1 := by rw [hW]; simp
  have HC := Lib.hid (show Calls Tryz.prog 117 #[.pointer (some ⟨gb, 0, none⟩), .slice x.ba x.bd.length x.bc] W _ from putBytes gb base (bagE (.slice A0 n0 c0) s8) A0 n0 c0 (svE x) L W (HX.out.later HB0.out) rfl (HO.out.later HB0.out) HNE.out hn (by omega) hg)
  clear hW
  go_enter Tryz.func126, Tryz.ntmps126
  go_upto_region 1 with fail
  rw [← HE.out]
  have c3 : W.cell? ⟨w.heap.size, 3, none⟩ = some (.slice x.ba x.bd.length x.bc) := by rw [HE.out]; exact (Box.new w _ _).cell 3
  go_wp2_with (go_at_call 117; (with_reducible refine HC.out.mono ?_); rintro e w3 ⟨rfl, g, cap, p1, p2, p3, p4, p5, p6, p7⟩; have HP1 := Lib.hid p1; have HP2 := Lib.hid p2; have HP4 := Lib.hid p4; have HP6 := Lib.hid p6; clear p1 p2 p4 p6)
  go_end0
  refine ⟨rfl, g, cap, HP1.out, HP2.out, p3, (HB0.out.mono hB).trans HP4.out, by omega, fun b h1 h2 h3 => (HP6.out b (by omega) h2 h3).trans (HB0.out.block b h1)⟩

set_option maxHeartbeats 2000000 in
theorem putEntries (gb base : Nat) (A5 : Option Addr) (n5 c5 : Nat) (A8 : Option Addr) (n8 c8 : Nat) (xA : Option Addr) (xc : Nat) (l : List Ent) (LB LE : List Sv) (w : World) (hx : Box w gb (bagE (.slice A5 n5 c5) (.slice A8 n8 c8)) 138) (h5 : Own 1 sRow 26 base w (.slice A5 n5 c5) LB) (h8 : Own 1 sRow 31 base w (.slice A8 n8 c8) LE)
    (hne5 : blkH (.slice A5 n5 c5) ≠ some gb) (hne8 : blkH (.slice A8 n8 c8) ≠ some gb) (hn : LB.length + l.length ≤ 100000) (hn8 : LE.length ≤ 100000) (hl : Sl 4 entRow base w (.slice xA l.length xc) l) (hB : base ≤ w.heap.size) (hg : base ≤ gb) :
    Calls Tryz.prog 91 #[.pointer (some ⟨gb, 0, none⟩), .slice xA l.length xc] w fun e w' => e = .returned (.tuple #[]) ∧ ∃ B5 k5 d5 B8 k8 d8, Box w' gb (bagE (.slice B5 k5 d5) (.slice B8 k8 d8)) 138 ∧ Own 1 sRow 26 base w' (.slice B5 k5 d5) (LB ++ l.map svE) ∧ Own 1 sRow 31 base w' (.slice B8 k8 d8) (LE ++ [((xA, l.length, xc) : Sv)]) ∧ blkH (.slice B5 k5 d5) ≠ some gb ∧ blkH (.slice B8 k8 d8) ≠ some gb ∧ Below base w w' ∧ w.heap.size ≤ w'.heap.size := by
  obtain ⟨A', c', hv, hlc, hcm, -, hcell⟩ := hl
  simp only [Value.slice.injEq] at hv
  obtain ⟨rfl, -, rfl⟩ := hv
  have HX := Lib.hid hx
  have H5 := Lib.hid h5
  have H8 := Lib.hid h8
  have HN5 := Lib.hid hne5
  have HN8 := Lib.hid hne8
  have HCE := Lib.hid hcell
  have hgs : gb < w.heap.size := hx.lt
  have kz : w.cell? ⟨gb, 8, none⟩ = some (.slice A8 n8 c8) := hx.cell 8
  have fz : ∀ i, w.frozen? ⟨gb, i, none⟩ = false := hx.free
  clear hx h5 h8 hne5 hne8 hcell
  go_enter Tryz.func91, Tryz.ntmps91
  go_wp2_with (at_builtin; refine wpList_append_keepH1 _ rfl (.tmp 9) (.tmp 11) 61 rfl base 31 _ 1 24 Tryz.underlying61 svInfoEntries rfl (Nat.succ_pos 0) sRow sRow_length sRow_one LE _ rfl H8.out.h (xA, l.length, xc) _ rfl 31 _ rfl rfl (by omega) (by omega) hB ?_; intro g7 c7 w7 p1 p2 p3 p4 p5 p6 p7; have HP1 := Lib.hid p1; have HP3 := Lib.hid p3; have HP4 := Lib.hid p4; have HX7 := Lib.hid (show Box w7 gb (bagE (.slice A5 n5 c5) (.slice A8 n8 c8)) 138 from (p4 gb hgs (fun he => HN8.out he.symm)).trans HX.out); have fz7 : ∀ i, w7.frozen? ⟨gb, i, none⟩ = false := HX7.out.free; have kz7 : w7.cell? ⟨gb, 8, none⟩ = some (.slice A8 n8 c8) := HX7.out.cell 8; clear p1 p2 p3 p4)
  have hgb : g7 ≠ gb := by
    rcases p5 with h | h
    · intro he; subst he; exact HN8.out h
    · omega
  have S8 : Value := .slice (some ⟨g7, 0, none⟩) (LE.length + 1) c7
  obtain ⟨W, hW⟩ : ∃ W, W = w7.setCell ⟨gb, 8, none⟩ (.slice (some ⟨g7, 0, none⟩) (LE.length + 1) c7) := ⟨_, rfl⟩
  have HXW := Lib.hid (show Box W gb (bagE (.slice A5 n5 c5) (.slice (some ⟨g7, 0, none⟩) (LE.length + 1) c7)) 138 by rw [hW]; exact HX7.out.set_ 8 _)
  have HOW := Lib.hid (show Own 1 sRow 31 base W (.slice (some ⟨g7, 0, none⟩) (LE.length + 1) c7) (LE ++ [((xA, l.length, xc) : Sv)]) by rw [hW]; exact Own.set_far HP1.out (fun he => hgb he.symm))
  have H5W := Lib.hid (show Own 1 sRow 26 base W (.slice A5 n5 c5) LB by
    have hst : ∀ q, (Value.slice A5 n5 c5).ownBlock = some q → W.heap[q]? = w.heap[q]? := fun q hq => by
      have hq2 := (H5.out.block hq).2
      have h1 : q ≠ gb := fun he => by
        subst he
        rcases H5.out.2 with ⟨hv, _⟩ | ⟨g, cap, cur, hv, _, hh, _⟩
        · rw [hv] at hq; simp [Value.ownBlock] at hq
        · rw [hv] at hq
          have : g = q := by simpa [Value.ownBlock] using hq
          subst this
          have h2 := HX.out
          unfold Box at h2
          rw [hh] at h2
          simp only [Option.some.injEq, Obj.cells.injEq] at h2
          exact absurd h2.2.1 (by decide)
      have h2 : some q ≠ blkH (.slice A8 n8 c8) := fun he => own_apart H5.out H8.out (by decide) hq (blkH_own he.symm)
      rw [hW]
      exact (Below.heap_setCell w7 ⟨gb, 8, none⟩ _ q h1).trans (HP4.out q hq2 h2)
    exact H5.out.stay hst)
  have HBW := Lib.hid (show Below base w W by rw [hW]; exact below_set HP3.out hg)
  have hzW : w.heap.size ≤ W.heap.size := by rw [hW]; simp; omega
  rw [← hW]
  have HNW := Lib.hid (show blkH (.slice (some ⟨g7, 0, none⟩) (LE.length + 1) c7) ≠ some gb by
    intro he
    by_cases hc : c7 = 0
    · subst hc; rw [blkH_none] at he; simp at he
    · rw [blkH_room hc] at he; simp only [Option.some.injEq] at he; exact hgb he)
  have hn5 : n5 = LB.length := by obtain ⟨_, _, h⟩ := H5.out.len; simp only [Value.slice.injEq] at h; exact h.2.1
  have HN5L := Lib.hid hn5
  clear hW kz fz p5 p6 p7 hgs fz7 kz7 HX7 HP1 HP3 HP4 S8 hn5
  go_loopw [4] (fun i wr => ∃ (k : Nat) (A : Option Addr) (n c : Nat), k ≤ l.length ∧ i = .int .i64 k ∧ Box wr gb (bagE (.slice A n c) (.slice (some ⟨g7, 0, none⟩) (LE.length + 1) c7)) 138 ∧ Own 1 sRow 26 base wr (.slice A n c) (LB ++ (l.take k).map svE) ∧ blkH (.slice A n c) ≠ some gb ∧ Own 1 sRow 31 base wr (.slice (some ⟨g7, 0, none⟩) (LE.length + 1) c7) (LE ++ [((xA, l.length, xc) : Sv)]) ∧ Below base w wr ∧ w.heap.size ≤ wr.heap.size) (fun i _ => l.length - (intOf i).toNat)
  case atStart => exact ⟨0, A5, n5, c5, by omega, rfl, HXW.out, by simpa using H5W.out, HN5.out, HOW.out, HBW.out, hzW⟩
  case round =>
    clear HXW H5W HOW HBW hzW HN5
    obtain ⟨k, A, n, c, hk, rfl, hx, ho5, hne, ho8, hB2, hz2⟩ := hrel
    have HX2 := Lib.hid hx
    have HO5 := Lib.hid ho5
    have HNE := Lib.hid hne
    have HO8 := Lib.hid ho8
    have HB2 := Lib.hid hB2
    clear hx ho5 hne ho8 hB2
    have i0 : (0 : Int) ≤ (k : Int) := by omega
    by_cases hlt : k < l.length
    · have i1 : (k : Int) < (l.length : Int) := by omega
      have d0 : decide ((k : Int) < (l.length : Int)) = true := decide_eq_true i1
      have d0' : decide (k < l.length) = true := decide_eq_true hlt
      obtain ⟨b, off, rfl, hb, hce⟩ := HCE.out (by intro h; subst h; simp at hlt)
      obtain ⟨y, hy⟩ : ∃ y, l[k]? = some y := ⟨_, List.getElem?_eq_getElem hlt⟩
      have k0 : wr.cell? ⟨b, off + k * 4, none⟩ = some (.int .i64 y.idx) := (HB2.out.cell (p := ⟨b, off + k * 4 + 0, none⟩) hb).trans (hce k y hy 0 _ rfl)
      have k1 : wr.cell? ⟨b, off + k * 4 + 1, none⟩ = some (.int .i64 y.trm) := (HB2.out.cell (p := ⟨b, off + k * 4 + 1, none⟩) hb).trans (hce k y hy 1 _ rfl)
      have k2 : wr.cell? ⟨b, off + k * 4 + 2, none⟩ = some (.int .i64 y.knd) := (HB2.out.cell (p := ⟨b, off + k * 4 + 2, none⟩) hb).trans (hce k y hy 2 _ rfl)
      have k3 : wr.cell? ⟨b, off + k * 4 + 3, none⟩ = some (.slice y.ba y.bd.length y.bc) := (HB2.out.cell (p := ⟨b, off + k * 4 + 3, none⟩) hb).trans (hce k y hy 3 _ rfl)
      have hlen : (LB ++ (l.take k).map svE).length = LB.length + k := by simp; omega
      have HC := Lib.hid (oneEntry gb base _ A n c y _ wr HX2.out HO5.out HNE.out (by rw [hlen]; omega) (by omega) hg)
      have HTK := Lib.hid (show (LB ++ (l.take k).map svE) ++ [svE y] = LB ++ (l.take (k + 1)).map svE by rw [take_at hy]; simp)
      clear hce hy hlen
      go_wp2_with (go_at_call 126; (with_reducible refine HC.out.mono ?_); rintro e w3 ⟨rfl, g, cap, p1, p2, p3, p4, p5, p6⟩; have HQ1 := Lib.hid p1; have HQ2 := Lib.hid p2; have HQ4 := Lib.hid p4; have HQ6 := Lib.hid p6; clear p1 p2 p4 p6)
      go_roundw
      case rel =>
        refine ⟨k + 1, some ⟨g, 0, none⟩, _, cap, by omega, by go_num, HQ1.out, by rw [← HTK.out]; exact HQ2.out, ?_, HO8.out.stay fun q hq => ?_, HB2.out.trans HQ4.out, by omega⟩
        · intro he
          by_cases hc : cap = 0
          · subst hc; rw [blkH_none] at he; simp at he
          · rw [blkH_room hc] at he; simp only [Option.some.injEq] at he; exact p3 he
        · have h1 := (HO8.out.block hq).2
          refine HQ6.out q h1 (fun he => ?_) (fun he => own_apart HO8.out HO5.out (by decide) hq (blkH_own he.symm))
          have hq' : g7 = q := by simpa [Value.ownBlock] using hq
          exact hgb (hq'.trans he)
      case measure => simp [intOf]; omega
    · have d0 : decide ((k : Int) < (l.length : Int)) = false := decide_eq_false (by omega)
      have d0' : decide (k < l.length) = false := decide_eq_false hlt
      have hkl : k = l.length := by omega
      have HTK := Lib.hid (show l.take k = l by rw [hkl]; exact List.take_length)
      clear hkl
      go_wp2_with fail
      go_end0
      exact ⟨rfl, A, n, c, _, _, _, HX2.out, by have h := HO5.out; rw [HTK.out] at h; exact h, HO8.out, HNE.out, HNW.out, HB2.out, hz2⟩
end Go.Proofs.YtfglkpcboodllaaGreatDoor
