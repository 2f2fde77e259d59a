/-
  limpetkit's bag: entries are put into it, with their bodies: contracts.
-/
import Derived.Test.YtglkgmijhdkhpaaGreatDoorHt20
import Derived.Test.YtglkgmijhdkhpaaGreatDoorHt28
import Derived.Test.YtglkgmijhdkhpaaGreatDoorHt22
import Derived.Test.YtglkgmijhdkhpaaGreatDoorHt23
set_option linter.unusedVariables false
set_option linter.unusedSimpArgs false
namespace Go.Proofs.YtglkgmijhdkhpaaGreatDoor
open Go.RowKit

/-- A bag of bytes and entries. -/
def bagE (s5 s8 : Value) : Array Value := #[nilS, nilS, nilS, nilS, nilS, s5, nilS, nilS, s8, nilS, nilS, nilS, nilS, nilS, nilS]
def svE (x : Ent) : Sv := (x.ba, x.bd.length, x.bc)
theorem svInfoEntries : (Tryz.prog.info? 48).map (fun i => (i.zero, i.size, i.bytes)) = some (some nilS, 1, 24) := by kernel_rfl
/-- Slices of unlike types lie in unlike blocks. -/
theorem own_apart {α β : Type} {k k' : Nat} {row : α → List Value} {row' : β → List Value} {e e' : TypeId} {base base' : Nat} {w : World} {v v' : Value} {l : List α} {l' : List β} (h : Own k row e base w v l) (h' : Own k' row' e' base' w v' l') (he : e ≠ e') {x : Nat} (hx : v.ownBlock = some x) : v'.ownBlock ≠ some x := by
  intro hx'
  rcases h.2 with ⟨hv, _⟩ | ⟨g, cap, cur, hv, _, hh, _⟩
  · rw [hv] at hx; simp [Value.ownBlock] at hx
  · rcases h'.2 with ⟨hv', _⟩ | ⟨g', cap', cur', hv', _, hh', _⟩
    · rw [hv'] at hx'; simp [Value.ownBlock] at hx'
    · rw [hv] at hx; rw [hv'] at hx'
      have h1 : g = x := by simpa [Value.ownBlock] using hx
      have h2 : g' = x := by simpa [Value.ownBlock] using hx'
      subst h1; subst h2
      rw [hh] at hh'
      simp only [Option.some.injEq, Obj.cells.injEq] at hh'
      exact he hh'.2.1

set_option maxHeartbeats 1000000 in
theorem oneEntry (gb base : Nat) (s8 : Value) (A0 : Option Addr) (n0 c0 : Nat) (x : Ent) (L : List Sv) (w : World) (hx : Box w gb (bagE (.slice A0 n0 c0) s8) 100) (ho : Own 1 sRow 52 base w (.slice A0 n0 c0) L) (hne : blkH (.slice A0 n0 c0) ≠ some gb) (hn : L.length ≤ 100000) (hB : base ≤ w.heap.size) (hg : base ≤ gb) :
    Calls Tryz.prog 94 #[.pointer (some ⟨gb, 0, none⟩), .agg #[.int .i64 x.idx, .int .i64 x.trm, .int .i64 x.knd, .slice x.ba x.bd.length x.bc]] w fun e w' => e = .returned (.tuple #[]) ∧ ∃ g cap, Box w' gb (bagE (.slice (some ⟨g, 0, none⟩) (L.length + 1) cap) s8) 100 ∧ Own 1 sRow 52 base w' (.slice (some ⟨g, 0, none⟩) (L.length + 1) cap) (L ++ [svE x]) ∧ g ≠ gb ∧ Below base w w' ∧ w.heap.size ≤ w'.heap.size ∧ (∀ b, b < w.heap.size → b ≠ gb → some b ≠ blkH (.slice A0 n0 c0) → w'.heap[b]? = w.heap[b]?) := by
  have HX := Lib.hid hx
  have HO := Lib.hid ho
  have HNE := Lib.hid hne
  clear hx ho hne
  obtain ⟨W, hW⟩ : ∃ W, W = w.alloc (.cells #[.int .i64 x.idx, .int .i64 x.trm, .int .i64 x.knd, .slice x.ba x.bd.length x.bc] 54) := ⟨_, rfl⟩
  have HE := Lib.hid hW
  have HB0 := Lib.hid (show Below w.heap.size w W by rw [hW]; exact below_new _ _)
  have hz : W.heap.size = w.heap.size + 1 := by rw [hW]; simp
  have HC := Lib.hid (show Calls Tryz.prog 115 #[.pointer (some ⟨gb, 0, none⟩), .slice x.ba x.bd.length x.bc] W _ from putBytes gb base (bagE (.slice A0 n0 c0) s8) A0 n0 c0 (svE x) L W (HX.out.later HB0.out) rfl (HO.out.later HB0.out) HNE.out hn (by omega) hg)
  clear hW
  go_enter Tryz.func94, Tryz.ntmps94
  go_upto_region 1 with fail
  rw [← HE.out]
  have c3 : W.cell? ⟨w.heap.size, 3, none⟩ = some (.slice x.ba x.bd.length x.bc) := by rw [HE.out]; exact (Box.new w _ _).cell 3
  go_wp2_with (go_at_call 115; (with_reducible refine HC.out.mono ?_); rintro e w3 ⟨rfl, g, cap, p1, p2, p3, p4, p5, p6, p7⟩; have HP1 := Lib.hid p1; have HP2 := Lib.hid p2; have HP4 := Lib.hid p4; have HP6 := Lib.hid p6; clear p1 p2 p4 p6)
  go_end0
  refine ⟨rfl, g, cap, HP1.out, HP2.out, p3, (HB0.out.mono hB).trans HP4.out, by omega, fun b h1 h2 h3 => (HP6.out b (by omega) h2 h3).trans (HB0.out.block b h1)⟩

set_option maxHeartbeats 2000000 in
theorem putEntries (gb base : Nat) (A5 : Option Addr) (n5 c5 : Nat) (A8 : Option Addr) (n8 c8 : Nat) (xA : Option Addr) (xc : Nat) (l : List Ent) (LB LE : List Sv) (w : World) (hx : Box w gb (bagE (.slice A5 n5 c5) (.slice A8 n8 c8)) 100) (h5 : Own 1 sRow 52 base w (.slice A5 n5 c5) LB) (h8 : Own 1 sRow 48 base w (.slice A8 n8 c8) LE)
    (hne5 : blkH (.slice A5 n5 c5) ≠ some gb) (hne8 : blkH (.slice A8 n8 c8) ≠ some gb) (hn : LB.length + l.length ≤ 100000) (hn8 : LE.length ≤ 100000) (hl : Sl 4 entRow base w (.slice xA l.length xc) l) (hB : base ≤ w.heap.size) (hg : base ≤ gb) :
    Calls Tryz.prog 54 #[.pointer (some ⟨gb, 0, none⟩), .slice xA l.length xc] w fun e w' => e = .returned (.tuple #[]) ∧ ∃ B5 k5 d5 B8 k8 d8, Box w' gb (bagE (.slice B5 k5 d5) (.slice B8 k8 d8)) 100 ∧ Own 1 sRow 52 base w' (.slice B5 k5 d5) (LB ++ l.map svE) ∧ Own 1 sRow 48 base w' (.slice B8 k8 d8) (LE ++ [((xA, l.length, xc) : Sv)]) ∧ blkH (.slice B5 k5 d5) ≠ some gb ∧ blkH (.slice B8 k8 d8) ≠ some gb ∧ Below base w w' ∧ w.heap.size ≤ w'.heap.size := by
  obtain ⟨A', c', hv, hlc, hcm, -, hcell⟩ := hl
  simp only [Value.slice.injEq] at hv
  obtain ⟨rfl, -, rfl⟩ := hv
  have HX := Lib.hid hx
  have H5 := Lib.hid h5
  have H8 := Lib.hid h8
  have HN5 := Lib.hid hne5
  have HN8 := Lib.hid hne8
  have HCE := Lib.hid hcell
  have hgs : gb < w.heap.size := hx.lt
  have kz : w.cell? ⟨gb, 8, none⟩ = some (.slice A8 n8 c8) := hx.cell 8
  have fz : ∀ i, w.frozen? ⟨gb, i, none⟩ = false := hx.free
  clear hx h5 h8 hne5 hne8 hcell
  go_enter Tryz.func54, Tryz.ntmps54
  go_wp2_with (at_builtin; refine wpList_append_keepH1 _ rfl (.tmp 9) (.tmp 11) 50 rfl base 48 _ 1 24 Tryz.underlying50 svInfoEntries rfl (Nat.succ_pos 0) sRow sRow_length sRow_one LE _ rfl H8.out.h (xA, l.length, xc) _ rfl 48 _ rfl rfl (by omega) (by omega) hB ?_; intro g7 c7 w7 p1 p2 p3 p4 p5 p6 p7; have HP1 := Lib.hid p1; have HP3 := Lib.hid p3; have HP4 := Lib.hid p4; have HX7 := Lib.hid (show Box w7 gb (bagE (.slice A5 n5 c5) (.slice A8 n8 c8)) 100 from (p4 gb hgs (fun he => HN8.out he.symm)).trans HX.out); have fz7 : ∀ i, w7.frozen? ⟨gb, i, none⟩ = false := HX7.out.free; have kz7 : w7.cell? ⟨gb, 8, none⟩ = some (.slice A8 n8 c8) := HX7.out.cell 8; clear p1 p2 p3 p4)
  have hgb : g7 ≠ gb := by
    rcases p5 with h | h
    · intro he; subst he; exact HN8.out h
    · omega
  have S8 : Value := .slice (some ⟨g7, 0, none⟩) (LE.length + 1) c7
  obtain ⟨W, hW⟩ : ∃ W, W = w7.setCell ⟨gb, 8, none⟩ (.slice (some ⟨g7, 0, none⟩) (LE.length + 1) c7) := ⟨_, rfl⟩
  have HXW := Lib.hid (show Box W gb (bagE (.slice A5 n5 c5) (.slice (some ⟨g7, 0, none⟩) (LE.length + 1) c7)) 100 by rw [hW]; exact HX7.out.set_ 8 _)
  have HOW := Lib.hid (show Own 1 sRow 48 base W (.slice (some ⟨g7, 0, none⟩) (LE.length + 1) c7) (LE ++ [((xA, l.length, xc) : Sv)]) by rw [hW]; exact Own.set_far HP1.out (fun he => hgb he.symm))
  have H5W := Lib.hid (show Own 1 sRow 52 base W (.slice A5 n5 c5) LB by
    have hst : ∀ q, (Value.slice A5 n5 c5).ownBlock = some q → W.heap[q]? = w.heap[q]? := fun q hq => by
      have hq2 := (H5.out.block hq).2
      have h1 : q ≠ gb := fun he => by
        subst he
        rcases H5.out.2 with ⟨hv, _⟩ | ⟨g, cap, cur, hv, _, hh, _⟩
        · rw [hv] at hq; simp [Value.ownBlock] at hq
        · rw [hv] at hq
          have : g = q := by simpa [Value.ownBlock] using hq
          subst this
          have h2 := HX.out
          unfold Box at h2
          rw [hh] at h2
          simp only [Option.some.injEq, Obj.cells.injEq] at h2
          exact absurd h2.2.1 (by decide)
      have h2 : some q ≠ blkH (.slice A8 n8 c8) := fun he => own_apart H5.out H8.out (by decide) hq (blkH_own he.symm)
      rw [hW]
      exact (Below.heap_setCell w7 ⟨gb, 8, none⟩ _ q h1).trans (HP4.out q hq2 h2)
    exact H5.out.stay hst)
  have HBW := Lib.hid (show Below base w W by rw [hW]; exact below_set HP3.out hg)
  have hzW : w.heap.size ≤ W.heap.size := by rw [hW]; simp; omega
  rw [← hW]
  have HNW := Lib.hid (show blkH (.slice (some ⟨g7, 0, none⟩) (LE.length + 1) c7) ≠ some gb by
    intro he
    by_cases hc : c7 = 0
    · subst hc; rw [blkH_none] at he; simp at he
    · rw [blkH_room hc] at he; simp only [Option.some.injEq] at he; exact hgb he)
  have hn5 : n5 = LB.length := by obtain ⟨_, _, h⟩ := H5.out.len; simp only [Value.slice.injEq] at h; exact h.2.1
  have HN5L := Lib.hid hn5
  clear hW kz fz p5 p6 p7 hgs fz7 kz7 HX7 HP1 HP3 HP4 S8 hn5
  go_loopw [4] (fun i wr => ∃ (k : Nat) (A : Option Addr) (n c : Nat), k ≤ l.length ∧ i = .int .i64 k ∧ Box wr gb (bagE (.slice A n c) (.slice (some ⟨g7, 0, none⟩) (LE.length + 1) c7)) 100 ∧ Own 1 sRow 52 base wr (.slice A n c) (LB ++ (l.take k).map svE) ∧ blkH (.slice A n c) ≠ some gb ∧ Own 1 sRow 48 base wr (.slice (some ⟨g7, 0, none⟩) (LE.length + 1) c7) (LE ++ [((xA, l.length, xc) : Sv)]) ∧ Below base w wr ∧ w.heap.size ≤ wr.heap.size) (fun i _ => l.length - (intOf i).toNat)
  case atStart => exact ⟨0, A5, n5, c5, by omega, rfl, HXW.out, by simpa using H5W.out, HN5.out, HOW.out, HBW.out, hzW⟩
  case round =>
    clear HXW H5W HOW HBW hzW HN5
    obtain ⟨k, A, n, c, hk, rfl, hx, ho5, hne, ho8, hB2, hz2⟩ := hrel
    have HX2 := Lib.hid hx
    have HO5 := Lib.hid ho5
    have HNE := Lib.hid hne
    have HO8 := Lib.hid ho8
    have HB2 := Lib.hid hB2
    clear hx ho5 hne ho8 hB2
    have i0 : (0 : Int) ≤ (k : Int) := by omega
    by_cases hlt : k < l.length
    · have i1 : (k : Int) < (l.length : Int) := by omega
      have d0 : decide ((k : Int) < (l.length : Int)) = true := decide_eq_true i1
      have d0' : decide (k < l.length) = true := decide_eq_true hlt
      obtain ⟨b, off, rfl, hb, hce⟩ := HCE.out (by intro h; subst h; simp at hlt)
      obtain ⟨y, hy⟩ : ∃ y, l[k]? = some y := ⟨_, List.getElem?_eq_getElem hlt⟩
      have k0 : wr.cell? ⟨b, off + k * 4, none⟩ = some (.int .i64 y.idx) := (HB2.out.cell (p := ⟨b, off + k * 4 + 0, none⟩) hb).trans (hce k y hy 0 _ rfl)
      have k1 : wr.cell? ⟨b, off + k * 4 + 1, none⟩ = some (.int .i64 y.trm) := (HB2.out.cell (p := ⟨b, off + k * 4 + 1, none⟩) hb).trans (hce k y hy 1 _ rfl)
      have k2 : wr.cell? ⟨b, off + k * 4 + 2, none⟩ = some (.int .i64 y.knd) := (HB2.out.cell (p := ⟨b, off + k * 4 + 2, none⟩) hb).trans (hce k y hy 2 _ rfl)
      have k3 : wr.cell? ⟨b, off + k * 4 + 3, none⟩ = some (.slice y.ba y.bd.length y.bc) := (HB2.out.cell (p := ⟨b, off + k * 4 + 3, none⟩) hb).trans (hce k y hy 3 _ rfl)
      have hlen : (LB ++ (l.take k).map svE).length = LB.length + k := by simp; omega
      have HC := Lib.hid (oneEntry gb base _ A n c y _ wr HX2.out HO5.out HNE.out (by rw [hlen]; omega) (by omega) hg)
      have HTK := Lib.hid (show (LB ++ (l.take k).map svE) ++ [svE y] = LB ++ (l.take (k + 1)).map svE by rw [take_at hy]; simp)
      clear hce hy hlen
      go_wp2_with (go_at_call 94; (with_reducible refine HC.out.mono ?_); rintro e w3 ⟨rfl, g, cap, p1, p2, p3, p4, p5, p6⟩; have HQ1 := Lib.hid p1; have HQ2 := Lib.hid p2; have HQ4 := Lib.hid p4; have HQ6 := Lib.hid p6; clear p1 p2 p4 p6)
      go_roundw
      case rel =>
        refine ⟨k + 1, some ⟨g, 0, none⟩, _, cap, by omega, by go_num, HQ1.out, by rw [← HTK.out]; exact HQ2.out, ?_, HO8.out.stay fun q hq => ?_, HB2.out.trans HQ4.out, by omega⟩
        · intro he
          by_cases hc : cap = 0
          · subst hc; rw [blkH_none] at he; simp at he
          · rw [blkH_room hc] at he; simp only [Option.some.injEq] at he; exact p3 he
        · have h1 := (HO8.out.block hq).2
          refine HQ6.out q h1 (fun he => ?_) (fun he => own_apart HO8.out HO5.out (by decide) hq (blkH_own he.symm))
          have hq' : g7 = q := by simpa [Value.ownBlock] using hq
          exact hgb (hq'.trans he)
      case measure => simp [intOf]; omega
    · have d0 : decide ((k : Int) < (l.length : Int)) = false := decide_eq_false (by omega)
      have d0' : decide (k < l.length) = false := decide_eq_false hlt
      have hkl : k = l.length := by omega
      have HTK := Lib.hid (show l.take k = l by rw [hkl]; exact List.take_length)
      clear hkl
      go_wp2_with fail
      go_end0
      exact ⟨rfl, A, n, c, _, _, _, HX2.out, by have h := HO5.out; rw [HTK.out] at h; exact h, HO8.out, HNE.out, HNW.out, HB2.out, hz2⟩
end Go.Proofs.YtglkgmijhdkhpaaGreatDoor
