/-
  Merged: ApartIdents, KitBytes.
-/
import Derived.Test.YtglkgmijhdkhpaaGreatDoorHt23
import Derived.Test.YtglkgmijhdkhpaaGreatDoorHt25
import Derived.Test.YtglkgmijhdkhpaaGreatDoorHt20
/-
  limpetkit's putIdents, ApartIdents: contracts.
-/
set_option linter.unusedVariables false
set_option linter.unusedSimpArgs false
namespace Go.Proofs.YtglkgmijhdkhpaaGreatDoor
open Go.RowKit

theorem svInfoIdents : (Tryz.prog.info? 22).map (fun i => (i.zero, i.size, i.bytes)) = some (some nilS, 1, 24) := by kernel_rfl
set_option maxHeartbeats 1000000 in
/-- A list is put into the bag. -/
theorem putIdents (gb base : Nat) (cs : Array Value) (A0 : Option Addr) (n0 c0 : Nat) (x : Sv) (L : List Sv) (w : World) (hx : Box w gb cs 100) (hi : cs[9]? = some (.slice A0 n0 c0)) (ho : Own 1 sRow 22 base w (.slice A0 n0 c0) L) (hne : blkH (.slice A0 n0 c0) ≠ some gb) (hn : L.length ≤ 100000) (hB : base ≤ w.heap.size) (hg : base ≤ gb) :
    Calls Tryz.prog 52 #[.pointer (some ⟨gb, 0, none⟩), .slice x.1 x.2.1 x.2.2] w fun e w' => e = .returned (.tuple #[]) ∧ ∃ g cap, Box w' gb (cs.setIfInBounds 9 (.slice (some ⟨g, 0, none⟩) (L.length + 1) cap)) 100 ∧ Own 1 sRow 22 base w' (.slice (some ⟨g, 0, none⟩) (L.length + 1) cap) (L ++ [x]) ∧ g ≠ gb ∧ Below base w w' ∧ w.heap.size ≤ w'.heap.size ∧ (∀ b, b < w.heap.size → b ≠ gb → some b ≠ blkH (.slice A0 n0 c0) → w'.heap[b]? = w.heap[b]?) ∧ (blkH (.slice A0 n0 c0) = some g ∨ w.heap.size < g) := by
  have HX := Lib.hid hx
  have HO := Lib.hid ho
  have HNE := Lib.hid hne
  have HI := Lib.hid hi
  have hgs : gb < w.heap.size := hx.lt
  have kz : w.cell? ⟨gb, 9, none⟩ = some (.slice A0 n0 c0) := (hx.cell 9).trans hi
  have fz : ∀ i, w.frozen? ⟨gb, i, none⟩ = false := hx.free
  clear hx ho hne hi
  go_enter Tryz.func52, Tryz.ntmps52
  go_wp2_with (at_builtin; refine wpList_append_keepH1 _ rfl (.tmp 8) (.tmp 10) 46 rfl base 22 _ 1 24 Tryz.underlying46 svInfoIdents rfl (Nat.succ_pos 0) sRow sRow_length sRow_one L _ rfl HO.out.h x _ rfl 22 _ rfl rfl (by omega) (by omega) hB ?_; intro g7 c7 w7 p1 p2 p3 p4 p5 p6 p7; have HP1 := Lib.hid p1; have HP3 := Lib.hid p3; have HP4 := Lib.hid p4; have HX7 := Lib.hid (show Box w7 gb cs 100 from (p4 gb hgs (fun he => HNE.out he.symm)).trans HX.out); have fz7 : ∀ i, w7.frozen? ⟨gb, i, none⟩ = false := HX7.out.free; have kz7 : w7.cell? ⟨gb, 9, none⟩ = some (.slice A0 n0 c0) := (HX7.out.cell 9).trans HI.out; clear p1 p2 p3 p4)
  go_end0
  have hgb : g7 ≠ gb := by
    rcases p5 with h | h
    · intro he; subst he; exact HNE.out h
    · omega
  refine ⟨rfl, g7, c7, HX7.out.set_ 9 _, ?_, hgb, below_set HP3.out hg, by simp; omega, fun b h1 h2 h3 => (Below.heap_setCell w7 ⟨gb, 9, none⟩ _ b (fun he => h2 he)).trans (HP4.out b h1 h3), p5⟩
  exact Own.set_far HP1.out (fun he => hgb he.symm)


set_option maxRecDepth 100000 in
set_option maxHeartbeats 4000000 in
/-- Lists that lie apart, found so. -/
theorem apartIdents (base n : Nat) (E : List Nat) (V : Nat → Value) (L : Nat → List Idt) (go oo co : Nat) (w : World) (hf : FamIdents base (go :: E) n w V (fun _ => nilS) L (fun _ => [])) (ho : ∀ j, j < n → w.cell? ⟨go, oo + j, none⟩ = some (V j)) (hgo : go < w.heap.size) (hn0 : 0 < n) (hn : n ≤ 1000) (hL : ∀ j, j < n → (L j).length ≤ 100000) (hbase : base ≤ w.heap.size) (hext : ∀ p, p ∈ E → p < w.heap.size) :
    Calls Tryz.prog 24 #[.slice (some ⟨go, oo, none⟩) n co] w fun e w' => e = .returned (.bool true) ∧ Kp base E w w' := by
  have HF := Lib.hid hf
  have HEX := Lib.hid hext
  have HO := Lib.hid ho
  have HL := Lib.hid hL
  have hgb : Hid (∀ j, j < n → ∃ x : Sv, V j = x.v) := fun j hj => by
    obtain ⟨A, c, h⟩ := (HF.out.v j hj).len
    exact ⟨(A, (L j).length, c), h⟩
  clear hf ho hL hext
  go_enter Tryz.func24, Tryz.ntmps24
  go_wp2_with fail
  obtain ⟨gb, hgbw⟩ : ∃ g, g = w.heap.size := ⟨_, rfl⟩
  have HX0 := Lib.hid (Box.new w bagNil 100)
  have HB0 := Lib.hid (below_new w (.cells bagNil 100))
  unfold bagNil at HX0 HB0
  simp only [nilS] at HX0 HB0
  rw [← hgbw] at HX0
  rw [← hgbw]
  have hgbl : w.heap.size ≤ gb := by omega
  clear hgbw
  go_loopw [4] (fun i wr => ∃ (k : Nat) (l : List Sv) (A : Option Addr) (c : Nat), k ≤ n ∧ i = .int .i64 k ∧ l.length = k ∧ (∀ j x, l[j]? = some x → V j = x.v) ∧ Box wr gb #[nilS, nilS, nilS, nilS, nilS, nilS, nilS, nilS, nilS, .slice A k c, nilS, nilS, nilS, nilS, nilS] 100 ∧ Own 1 sRow 22 w.heap.size wr (.slice A k c) l ∧ blkH (.slice A k c) ≠ some gb ∧ Below w.heap.size w wr) (fun i _ => n - (intOf i).toNat)
  case atStart => exact ⟨0, [], none, 0, by omega, rfl, rfl, fun j x h => by simp at h, HX0.out, Own.nil_ _ _ _ _ _, by rw [blkH_none]; simp, HB0.out⟩
  case round =>
    clear HX0 HB0
    obtain ⟨k, l, A, c, hk, rfl, hlk, hlV, hx, hown, hne, hB⟩ := hrel
    have HX1 := Lib.hid hx
    have HW1 := Lib.hid hown
    have HN1 := Lib.hid hne
    have HB1 := Lib.hid hB
    have HLV := Lib.hid hlV
    have HLK := Lib.hid hlk
    have i0 : (0 : Int) ≤ (k : Int) := by omega
    have HFr := Lib.hid (HF.out.later hB)
    clear hx hown hne hB hlV hlk
    by_cases hlt : k < n
    · have i1 : (k : Int) < (n : Int) := by omega
      have d0 : decide ((k : Int) < (n : Int)) = true := decide_eq_true i1
      have d0' : decide (k < n) = true := decide_eq_true hlt
      obtain ⟨x, hxv⟩ := hgb.out k hlt
      have HXV := Lib.hid hxv
      have co0 : wr.cell? ⟨go, oo + k, none⟩ = some (.slice x.1 x.2.1 x.2.2) := ((HB1.out.cell (p := ⟨go, oo + k, none⟩) hgo).trans (HO.out k hlt)).trans (by rw [hxv]; rfl)
      have hs1 : w.heap.size ≤ wr.heap.size := HB1.out.size
      clear hxv
      go_wp2_with (first
        | (go_at_call 52; refine (putIdents gb w.heap.size _ A k c x l wr HX1.out rfl HW1.out HN1.out (by have := HLK.out; omega) hs1 hgbl).mono ?_; rintro e w2 ⟨rfl, g, cap, p1, p2, p3, p4, p5, p6, p7⟩))
      rw [HLK.out] at p1 p2
      have hlk := HLK.out
      go_roundw
      case rel =>
        refine ⟨k + 1, l ++ [x], some ⟨g, 0, none⟩, cap, by omega, by go_num, by simp [hlk], fun j y hy => ?_, p1, p2, ?_, HB1.out.trans p4⟩
        · by_cases hj : j < l.length
          · rw [List.getElem?_append_left hj] at hy; exact HLV.out j y hy
          · rw [List.getElem?_append_right (by omega)] at hy
            have hj0 : j - l.length = 0 := by
              by_cases h0 : j - l.length = 0
              · exact h0
              · rw [List.getElem?_eq_none (by simp; omega)] at hy; simp at hy
            rw [hj0] at hy
            simp only [List.getElem?_cons_zero, Option.some.injEq] at hy
            subst hy
            have : j = k := by omega
            subst this; exact HXV.out
        · intro he
          by_cases hc : cap = 0
          · subst hc; rw [blkH_none] at he; simp at he
          · rw [blkH_room hc] at he; simp only [Option.some.injEq] at he; exact p3 he
      case measure => simp [intOf]; omega
    · have d0 : decide ((k : Int) < (n : Int)) = false := decide_eq_false (by omega)
      have d0' : decide (k < n) = false := decide_eq_false hlt
      have hlk := HLK.out
      have hkn : k = n := by omega
      subst hkn
      obtain ⟨g, cap, hpl, hg1, hg2, hfr⟩ := HW1.out.place (by intro h; rw [h] at hlk; simp at hlk; omega)
      have hpl2 : A = some ⟨g, 0, none⟩ ∧ c = cap := by simpa [hlk] using hpl
      obtain ⟨rfl, rfl⟩ := hpl2
      have hbw : base ≤ wr.heap.size := Nat.le_trans hbase HB1.out.size
      have hcell : Hid (∀ j, j < k → wr.cell? ⟨g, j, none⟩ = some (V j)) := fun j hj => by
        obtain ⟨b2, off2, cap2, e2, -, -, -, hc2⟩ := (HW1.out.sl sRow_length).cellAt (by intro h; rw [h] at hlk; simp at hlk; omega)
        simp only [Value.slice.injEq, Option.some.injEq, Addr.mk.injEq, and_true] at e2
        obtain ⟨⟨rfl, rfl⟩, -⟩ := e2
        obtain ⟨y, hy⟩ : ∃ y, l[j]? = some y := ⟨_, List.getElem?_eq_getElem (by omega)⟩
        rw [HLV.out j y hy]
        simpa [Sv.v] using hc2 j y hy 0 _ rfl
      have hgbs : gb < wr.heap.size := HX1.out.lt
      have hggb : gb ≠ g := fun he => by
        have := HW1.out
        rcases this.2 with ⟨h, _⟩ | ⟨g', cap', cur, h, _, hh, _⟩
        · simp at h
        · simp only [Value.slice.injEq, Option.some.injEq, Addr.mk.injEq, and_true] at h
          obtain ⟨rfl, -, rfl⟩ := h
          have h2 := HX1.out
          unfold Box at h2
          rw [he, hh] at h2
          simp only [Option.some.injEq, Obj.cells.injEq] at h2
          exact absurd h2.2.1 (by decide)
      have hfam : Hid (FamIdents base (g :: gb :: g :: E) k wr V (fun _ => nilS) L (fun _ => [])) :=
        ⟨HFr.out.v, HFr.out.g, HFr.out.pre, HFr.out.far, fun j hj x hx hm => by
          have hxs := (HF.out.lt hj hx).2
          have hxe := fun h : x ∈ E => HF.out.out j hj x hx (List.mem_cons_of_mem _ h)
          rcases List.mem_cons.1 hm with h | h
          · omega
          · rcases List.mem_cons.1 h with h | h
            · omega
            · rcases List.mem_cons.1 h with h | h
              · omega
              · exact hxe h⟩
      have HC0 : Hid ((fun v => Kp base (gb :: g :: E) wr v ∧ ∃ L', FamIdents base (g :: gb :: g :: E) k v V (fun _ => nilS) L' (fun _ => []) ∧ (∀ j, j < k → (L' j).length = (L j).length) ∧ (∀ j, j < k → v.cell? ⟨g, j, none⟩ = some (V j))) wr) := ⟨Kp.refl _ _ _, L, hfam.out, fun _ _ => rfl, hcell.out⟩
      have HCd : Hid (∀ v, (fun v => Kp base (gb :: g :: E) wr v ∧ ∃ L', FamIdents base (g :: gb :: g :: E) k v V (fun _ => nilS) L' (fun _ => []) ∧ (∀ j, j < k → (L' j).length = (L j).length) ∧ (∀ j, j < k → v.cell? ⟨g, j, none⟩ = some (V j))) v → (fun v => Kp base (gb :: g :: E) wr v ∧ ∃ L', FamIdents base (g :: gb :: g :: E) k v V (fun _ => nilS) L' (fun _ => []) ∧ (∀ j, j < k → (L' j).length = (L j).length) ∧ (∀ j, j < k → v.cell? ⟨g, j, none⟩ = some (V j))) v.drew) := fun v ⟨h1, L', h2, h3, h4⟩ => ⟨h1.drew, L', h2.stay fun _ _ _ _ => rfl, h3, h4⟩
      have HCb : Hid (∀ v, (fun v => Kp base (gb :: g :: E) wr v ∧ ∃ L', FamIdents base (g :: gb :: g :: E) k v V (fun _ => nilS) L' (fun _ => []) ∧ (∀ j, j < k → (L' j).length = (L j).length) ∧ (∀ j, j < k → v.cell? ⟨g, j, none⟩ = some (V j))) v → Box v gb #[nilS, nilS, nilS, nilS, nilS, nilS, nilS, nilS, nilS, (.slice (some ⟨g, 0, none⟩) k c), nilS, nilS, nilS, nilS, nilS] 100) := fun v ⟨h1, _⟩ => (h1.ext gb (by simp) hgbs).trans HX1.out
      have HCn : Hid (∀ v v', (fun v => Kp base (gb :: g :: E) wr v ∧ ∃ L', FamIdents base (g :: gb :: g :: E) k v V (fun _ => nilS) L' (fun _ => []) ∧ (∀ j, j < k → (L' j).length = (L j).length) ∧ (∀ j, j < k → v.cell? ⟨g, j, none⟩ = some (V j))) v → Below v.heap.size v v' → (fun v => Kp base (gb :: g :: E) wr v ∧ ∃ L', FamIdents base (g :: gb :: g :: E) k v V (fun _ => nilS) L' (fun _ => []) ∧ (∀ j, j < k → (L' j).length = (L j).length) ∧ (∀ j, j < k → v.cell? ⟨g, j, none⟩ = some (V j))) v') := fun v v' ⟨h1, L', h2, h3, h4⟩ hb =>
        ⟨h1.later hb (Nat.le_trans hbw h1.low.size), L', h2.later hb, h3, fun j hj => (hb.cell (p := ⟨g, j, none⟩) (Nat.lt_of_lt_of_le hg2 h1.low.size)).trans (h4 j hj)⟩
      have HCf : Hid (∀ v, (fun v => Kp base (gb :: g :: E) wr v ∧ ∃ L', FamIdents base (g :: gb :: g :: E) k v V (fun _ => nilS) L' (fun _ => []) ∧ (∀ j, j < k → (L' j).length = (L j).length) ∧ (∀ j, j < k → v.cell? ⟨g, j, none⟩ = some (V j))) v → Calls Tryz.prog 88 #[.slice (some ⟨g, 0, none⟩) k c] v (fun e w' => e = .returned (.bool true) ∧ (fun v => Kp base (gb :: g :: E) wr v ∧ ∃ L', FamIdents base (g :: gb :: g :: E) k v V (fun _ => nilS) L' (fun _ => []) ∧ (∀ j, j < k → (L' j).length = (L j).length) ∧ (∀ j, j < k → v.cell? ⟨g, j, none⟩ = some (V j))) w')) := fun v ⟨h1, L', h2, h3, h4⟩ =>
        (flatIdents base k (gb :: g :: E) V L' g 0 c v h2 (fun j hj => by rw [Nat.zero_add]; exact h4 j hj) (Nat.lt_of_lt_of_le hg2 h1.low.size) (Nat.le_trans hn (by omega)) (fun j hj => by rw [h3 j hj]; exact HL.out j hj) (Nat.le_trans hbw h1.low.size) (fun p hp => by rcases List.mem_cons.1 hp with rfl | hp; (exact Nat.lt_of_lt_of_le hgbs h1.low.size); (rcases List.mem_cons.1 hp with rfl | hp; (exact Nat.lt_of_lt_of_le hg2 h1.low.size); (exact Nat.lt_of_lt_of_le (HEX.out p hp) (Nat.le_trans HB1.out.size h1.low.size))))).mono
          fun e w' ⟨he, k1, L2, k2, k3⟩ => ⟨he, ⟨h1.low.trans k1.low, fun p hp hs => (k1.ext p hp (Nat.lt_of_lt_of_le hs h1.low.size)).trans (h1.ext p hp hs)⟩, L2, k2, fun j hj => (k3 j hj).trans (h3 j hj), fun j hj => (World.cell?_of_block (a := ⟨g, j, none⟩) (k1.ext g (by simp) (Nat.lt_of_lt_of_le hg2 h1.low.size))).trans (h4 j hj)⟩
      clear hlk
      have HAP := Lib.hid (bagApart gb (none, 0, 0) (none, 0, 0) (none, 0, 0) (none, 0, 0) (none, 0, 0) (none, 0, 0) (none, 0, 0) (none, 0, 0) (none, 0, 0) (some ⟨g, 0, none⟩, k, c) (none, 0, 0) (none, 0, 0) (none, 0, 0) (none, 0, 0) (none, 0, 0) (fun v => Kp base (gb :: g :: E) wr v ∧ ∃ L', FamIdents base (g :: gb :: g :: E) k v V (fun _ => nilS) L' (fun _ => []) ∧ (∀ j, j < k → (L' j).length = (L j).length) ∧ (∀ j, j < k → v.cell? ⟨g, j, none⟩ = some (V j))) wr HC0.out HCd.out HCb.out (fun v hv => (flatLimbsNil v).mono fun e w' h => ⟨h.1, HCn.out v w' hv h.2⟩) (fun v hv => (flatWordsNil v).mono fun e w' h => ⟨h.1, HCn.out v w' hv h.2⟩) (fun v hv => (flatIntsNil v).mono fun e w' h => ⟨h.1, HCn.out v w' hv h.2⟩) (fun v hv => (flatLongsNil v).mono fun e w' h => ⟨h.1, HCn.out v w' hv h.2⟩) (fun v hv => (flatTextsNil v).mono fun e w' h => ⟨h.1, HCn.out v w' hv h.2⟩) (fun v hv => (flatBytesNil v).mono fun e w' h => ⟨h.1, HCn.out v w' hv h.2⟩) (fun v hv => (flatTruthsNil v).mono fun e w' h => ⟨h.1, HCn.out v w' hv h.2⟩) (fun v hv => (flatUnitsNil v).mono fun e w' h => ⟨h.1, HCn.out v w' hv h.2⟩) (fun v hv => (flatEntriesNil v).mono fun e w' h => ⟨h.1, HCn.out v w' hv h.2⟩) HCf.out (fun v hv => (flatMetasNil v).mono fun e w' h => ⟨h.1, HCn.out v w' hv h.2⟩) (fun v hv => (flatMarksNil v).mono fun e w' h => ⟨h.1, HCn.out v w' hv h.2⟩) (fun v hv => (flatSnapsNil v).mono fun e w' h => ⟨h.1, HCn.out v w' hv h.2⟩) (fun v hv => (flatShapesNil v).mono fun e w' h => ⟨h.1, HCn.out v w' hv h.2⟩) (fun v hv => (flatLettersNil v).mono fun e w' h => ⟨h.1, HCn.out v w' hv h.2⟩))
      go_wp2_with (go_at_call 53; refine HAP.out.mono ?_; rintro e w3 ⟨rfl, hk3, -⟩)
      go_ret
      exact ⟨rfl, ⟨(HB1.out.mono hbase).trans hk3.low, fun p hp hs => (hk3.ext p (by simp [hp]) (Nat.lt_of_lt_of_le hs HB1.out.size)).trans (HB1.out.block p hs)⟩⟩

def twoC {β : Type} (a b : β) : Nat → β := fun j => if j = 0 then a else b
theorem famsC2 {α : Type} {k : Nat} {row : α → List Value} {e : TypeId} {base : Nat} {out : List Nat} {w : World} {va vb : Value} {la lb : List α} (ha : OwnHC k row e base w va la) (hb : OwnHC k row e base w vb lb) (hne : ∀ x, blkH va = some x → blkH vb ≠ some x)
    (ho1 : ∀ x, blkH va = some x → x ∉ out) (ho2 : ∀ x, blkH vb = some x → x ∉ out) : FamsC k row e base out 2 w (twoC va vb) (fun _ => nilS) (twoC la lb) (fun _ => []) := by
  have hn : ∀ x, ¬ blkH nilS = some x := fun x h => by rw [blkH_nil] at h; simp at h
  refine ⟨fun j hj => ?_, fun j hj => OwnHC.nil_ _ _ _ _ _, fun j hj x _ h => absurd h (hn x), fun i j hi hj hij x hx hx' => ?_, fun j hj x hx => ?_⟩
  · by_cases h0 : j = 0
    · subst h0; exact ha
    · have : j = 1 := by omega
      subst this; exact hb
  · have h1 := hx.resolve_right (hn x)
    have h2 := hx'.resolve_right (hn x)
    rcases (by omega : i = 0 ∧ j = 1 ∨ i = 1 ∧ j = 0) with ⟨rfl, rfl⟩ | ⟨rfl, rfl⟩
    · exact hne x h1 h2
    · exact hne x h2 h1
  · have h1 := hx.resolve_right (hn x)
    by_cases h0 : j = 0
    · subst h0; exact ho1 x h1
    · have : j = 1 := by omega
      subst this; exact ho2 x h1
end Go.Proofs.YtglkgmijhdkhpaaGreatDoor
/-
  limpetkit's LentBytes, KeptBytes: contracts.
-/
set_option linter.unusedVariables false
set_option linter.unusedSimpArgs false
namespace Go.Proofs.YtglkgmijhdkhpaaGreatDoor
open Go.RowKit

def mrkB (i : Nat) : Int := mkB 1 (i : Int)
def marksB : List Int := (List.range 12).map mrkB
theorem marksB_length : marksB.length = 12 := rfl
theorem marksB_at {i : Nat} (h : i < 12) : marksB[i]? = some (mrkB i) := by simp [marksB, h]
theorem marksB_more {i : Nat} (h : i < 12) : marksB.take (i + 1) = marksB.take i ++ [mrkB i] := take_at (marksB_at h)

set_option maxHeartbeats 1000000 in
theorem lentBytes (l : List Int) (v : Value) (w : World) (h : Sl 1 u8Row w.heap.size w v l) (hn : l.length ≤ 1000000) :
    Calls Tryz.prog 56 #[v] w fun e w' => ∃ g cp, e = .returned (.slice (some ⟨g, 0, none⟩) l.length cp) ∧ w.heap.size ≤ g ∧ Lnt 1 u8Row marksB w'.heap.size w' (.slice (some ⟨g, 0, none⟩) l.length cp) l ∧ Below w.heap.size w w' := by
  have h' := h
  obtain ⟨A, cap, rfl, hlc, hcm, hN, -⟩ := h'
  clear hcm hN
  go_enter Tryz.func56, Tryz.ntmps56
  go_wp2_with (first
    | (at_make; refine wpList_make_rows _ rfl _ _ 52 rfl u8Row w.heap.size 5 _ 1 1 Tryz.underlying52 u8Info .i64 .i64 _ (l.length + 12) rfl rfl (by omega) (by omega) (by omega) (Nat.le_refl _) ?_; intro w0 hown0 hb0)
    | (at_builtin; refine wpList_append_all _ rfl (.tmp 9) (.tmp 10) 52 rfl w.heap.size 5 _ 1 1 Tryz.underlying52 u8Info rfl (by omega) u8Row u8Row_length u8Row_one [] _ rfl hown0 l w.heap.size _ (h.below hb0) rfl (by unfold maxLen; simp; omega) (by simp; omega) hb0.size ?_; intro v' w' h1 h2 h3 h4 h5))
  have hB := hb0.trans h2
  rw [List.nil_append] at h1
  clear hown0 hb0 h2 h3 h4 h5
  go_loopw [3, 4] (fun v i wr => ∃ k : Nat, k ≤ 12 ∧ i = .int .i64 k ∧ Own 1 u8Row 5 w.heap.size wr v (l ++ marksB.take k) ∧ (v = .slice none 0 0 → k = 0) ∧ Below w.heap.size w wr) (fun _ i _ => 12 - (intOf i).toNat)
  case atStart => exact ⟨0, by omega, rfl, by simpa using h1, fun _ => rfl, hB⟩
  case round =>
    clear h1 hB
    obtain ⟨k, hk, rfl, hown, hnn, hB⟩ := hrel
    by_cases hlt : k < 12
    · have HO := Lib.hid hown
      have HN := Lib.hid hnn
      have hz := hB.size
      have hle : (l ++ marksB.take k).length ≤ 1000012 := by have := List.length_take_le k marksB; rw [List.length_append]; omega
      clear hown hnn
      go_wp2_with (first
        | (go_at_call 95; refine (markByteAny 1 k _ (by omega) (by omega) (by omega) (by omega)).mono ?_; rintro e w' ⟨rfl, rfl⟩)
        | (at_builtin; refine wpList_append_row _ rfl (.tmp 16) (.tmp 19) 52 rfl w.heap.size 5 _ 1 1 Tryz.underlying52 u8Info rfl (by omega) u8Row u8Row_length u8Row_one _ _ rfl HO.out (mrkB k) _ rfl 5 _ rfl rfl (by omega) (by omega) hz ?_; intro v' w' p1 p2 p3 p4 p5))
      have HP := Lib.hid p1
      have HB := Lib.hid (hB.trans p2)
      have HV := Lib.hid p5
      clear p1 p2 p3 p4 p5 hB
      go_roundw
      case rel => exact ⟨k + 1, by omega, by go_num, by rw [marksB_more hlt, ← List.append_assoc]; exact HP.out, fun h => absurd h HV.out, HB.out⟩
      case measure => simp [intOf]; omega
    · obtain rfl : k = 12 := by omega
      have h3 : u3 ≠ .slice none 0 0 := fun h => by have := hnn h; omega
      obtain ⟨g, cp, rfl, q1, q2, q3, q4⟩ := hown.form' h3
      have HL : Hid (Lnt 1 u8Row marksB wr.heap.size wr (.slice (some ⟨g, 0, none⟩) l.length cp) l) := Own.lnt hown u8Row_length (by decide)
      have HB := Lib.hid hB
      have hlen : (l ++ marksB.take 12).length = l.length + 12 := by rw [List.length_append]; rfl
      rw [hlen] at q1
      clear hown hnn h3 hB
      go_wp2
      go_ret
      exact ⟨_, _, rfl, q3, HL.out, HB.out⟩

set_option maxRecDepth 100000 in
set_option maxHeartbeats 2000000 in
theorem keptBytes (l : List Int) (v v' : Value) (w : World) (h : Lnt 1 u8Row marksB w.heap.size w v l) (h' : Sl 1 u8Row w.heap.size w v' l) (hn : l.length ≤ 1000000) :
    Calls Tryz.prog 78 #[v, v'] w fun e w' => e = .returned (.bool true) ∧ Below w.heap.size w w' := by
  obtain ⟨g, cap, rfl, q1, q2, hg, hall⟩ := h
  obtain ⟨A', cap', rfl, hlc', hcm', -, hA'⟩ := h'
  rw [marksB_length] at q1
  have q2' : cap ≤ 9223372036854775807 := by unfold maxLen at q2; omega
  have HALL := Lib.hid hall
  have HA := Lib.hid hA'
  clear hcm' q2 hall hA'
  go_enter Tryz.func78, Tryz.ntmps78
  go_wp2_with fail
  go_loopw [6] (fun i wr => ∃ k : Nat, k ≤ l.length + 12 ∧ i = .int .i64 k ∧ Below w.heap.size w wr) (fun i _ => l.length + 12 - (intOf i).toNat)
  case atStart => exact ⟨0, by omega, rfl, Below.refl _ _⟩
  case round =>
    obtain ⟨k, hk, rfl, hB⟩ := hrel
    have HB := Lib.hid hB
    clear hB
    have i0 : (0 : Int) ≤ (k : Int) := by omega
    by_cases hlt : k < l.length
    · obtain ⟨b', off', rfl, hb', hcell'⟩ := HA.out (by intro h; subst h; simp at hlt)
      obtain ⟨x, hx⟩ : ∃ x, l[k]? = some x := ⟨_, List.getElem?_eq_getElem hlt⟩
      have c0 : ∀ zw : Ext wr, zw.wd.cell? ⟨g, k, none⟩ = some (.int .u8 x) := fun zw => ((HB.out.trans (zw.low.mono HB.out.size)).cell (p := ⟨g, k, none⟩) hg).trans (by simpa using HALL.out k x (by rw [List.getElem?_append_left hlt]; exact hx) 0 _ rfl)
      have c1 : ∀ zw : Ext wr, zw.wd.cell? ⟨b', off' + k, none⟩ = some (.int .u8 x) := fun zw => ((HB.out.trans (zw.low.mono HB.out.size)).cell (p := ⟨b', off' + k, none⟩) hb').trans (by simpa using hcell' k x hx 0 _ rfl)
      have i1 : (k : Int) < (l.length : Int) := by omega
      have i2 : (k : Int) < (l.length : Int) + 12 := by omega
      have d1 : decide (k < l.length) = true := by simpa using hlt
      have d2 : decide (l.length ≤ k) = false := by simpa using hlt
      have d3 : decide ((k : Int) < (l.length : Int)) = true := decide_eq_true i1
      have d4 : decide ((l.length : Int) ≤ (k : Int)) = false := decide_eq_false (by omega)
      have d5 : decide ((k : Int) < (l.length : Int) + 12) = true := decide_eq_true i2
      clear hcell' hx
      go_upto_region 7 with fail
      refine wp_region_ext (by kernel_rfl) (by kernel_rfl) ?_
      repeat (go_big_quiet_step (fail))
      refine wpQuiet_nil ?_
      intro _ hw'
      obtain ⟨x5, hw''⟩ := hw'
      subst hw''
      go_wp2_with fail
      go_roundw
      case rel => exact ⟨k + 1, by omega, by go_num, HB.out.trans (x5.low.mono HB.out.size)⟩
      case measure => simp [intOf]; omega
    · by_cases hlt2 : k < l.length + 12
      · obtain ⟨j, hj⟩ : ∃ j, j = k - l.length := ⟨_, rfl⟩
        have c0 : ∀ zw : Ext wr, zw.wd.cell? ⟨g, k, none⟩ = some (.int .u8 (mkB 1 (j : Int))) := fun zw => ((HB.out.trans (zw.low.mono HB.out.size)).cell (p := ⟨g, k, none⟩) hg).trans (by simpa [u8Row, mrkB] using HALL.out k (mrkB j) (by rw [hj, List.getElem?_append_right (by omega)]; exact marksB_at (by omega)) 0 _ rfl)
        have i1 : (l.length : Int) ≤ (k : Int) := by omega
        have i2 : (k : Int) < (l.length : Int) + 12 := by omega
        have d1 : decide (k < l.length) = false := by simpa using hlt
        have d2 : decide (l.length ≤ k) = true := by simpa using hlt
        have d3 : decide ((k : Int) < (l.length : Int)) = false := decide_eq_false (by omega)
        have d4 : decide ((l.length : Int) ≤ (k : Int)) = true := decide_eq_true i1
        have d5 : decide ((k : Int) < (l.length : Int) + 12) = true := decide_eq_true i2
        have w1 : IntKind.i64.wrap ((k : Int) - (l.length : Int)) = (j : Int) := by rw [IntWalk.i64_in _ (by omega)]; omega
        have m0 : (0 : Int) ≤ (j : Int) := by omega
        have m1 : (j : Int) ≤ 1000000 := by omega
        clear hlt hj
        go_upto_region 7 with fail
        refine wp_region_ext (by kernel_rfl) (by kernel_rfl) ?_
        repeat (go_big_quiet_step ((rename_i x5; have h5 := x5.low; first
          | (go_at_call 95; exact ext_of_same x5 (markByteAny 1 (j : Int) x5.wd (by omega) (by omega) m0 m1)))))
        refine wpQuiet_nil ?_
        intro _ hw'
        obtain ⟨x5, hw''⟩ := hw'
        subst hw''
        clear w1
        go_wp2_with fail
        go_roundw
        case rel => exact ⟨k + 1, by omega, by go_num, HB.out.trans (x5.low.mono HB.out.size)⟩
        case measure => simp [intOf]; omega
      · have d5 : decide ((k : Int) < (l.length : Int) + 12) = false := decide_eq_false (by omega)
        go_wp2_with fail
        go_ret
        exact ⟨rfl, HB.out⟩
end Go.Proofs.YtglkgmijhdkhpaaGreatDoor
