/-
  limpetkit's ApartInts, ApartBytes: contracts.
-/
import Derived.Test.YtfglkpcboodllaaGreatDoorBagApart
set_option linter.unusedVariables false
set_option linter.unusedSimpArgs false
namespace Go.Proofs.YtfglkpcboodllaaGreatDoor
open Go.RowKit

set_option maxRecDepth 100000 in
set_option maxHeartbeats 4000000 in
/-- Lists that lie apart, found so. -/
theorem apartInts (base n : Nat) (E : List Nat) (V : Nat → Value) (L : Nat → List Int) (go oo co : Nat) (w : World) (hf : FamI base (go :: E) n w V (fun _ => nilS) L (fun _ => [])) (ho : ∀ j, j < n → w.cell? ⟨go, oo + j, none⟩ = some (V j)) (hgo : go < w.heap.size) (hn0 : 0 < n) (hn : n ≤ 1000) (hL : ∀ j, j < n → (L j).length ≤ 100000) (hbase : base ≤ w.heap.size) (hext : ∀ p, p ∈ E → p < w.heap.size) :
    Calls Tryz.prog 74 #[.slice (some ⟨go, oo, none⟩) n co] w fun e w' => e = .returned (.bool true) ∧ Kp base E w w' := by
  have HF := Lib.hid hf
  have HEX := Lib.hid hext
  have HO := Lib.hid ho
  have HL := Lib.hid hL
  have hgb : Hid (∀ j, j < n → ∃ x : Sv, V j = x.v) := fun j hj => by
    obtain ⟨A, c, h⟩ := (HF.out.v j hj).len
    exact ⟨(A, (L j).length, c), h⟩
  clear hf ho hL hext
  go_enter Tryz.func74, Tryz.ntmps74
  go_wp2_with fail
  obtain ⟨gb, hgbw⟩ : ∃ g, g = w.heap.size := ⟨_, rfl⟩
  have HX0 := Lib.hid (Box.new w bagNil 138)
  have HB0 := Lib.hid (below_new w (.cells bagNil 138))
  unfold bagNil at HX0 HB0
  simp only [nilS] at HX0 HB0
  rw [← hgbw] at HX0
  rw [← hgbw]
  have hgbl : w.heap.size ≤ gb := by omega
  clear hgbw
  go_loopw [4] (fun i wr => ∃ (k : Nat) (l : List Sv) (A : Option Addr) (c : Nat), k ≤ n ∧ i = .int .i64 k ∧ l.length = k ∧ (∀ j x, l[j]? = some x → V j = x.v) ∧ Box wr gb #[nilS, nilS, .slice A k c, nilS, nilS, nilS, nilS, nilS, nilS, nilS, nilS, nilS, nilS, nilS, nilS] 138 ∧ Own 1 sRow 22 w.heap.size wr (.slice A k c) l ∧ blkH (.slice A k c) ≠ some gb ∧ Below w.heap.size w wr) (fun i _ => n - (intOf i).toNat)
  case atStart => exact ⟨0, [], none, 0, by omega, rfl, rfl, fun j x h => by simp at h, HX0.out, Own.nil_ _ _ _ _ _, by rw [blkH_none]; simp, HB0.out⟩
  case round =>
    clear HX0 HB0
    obtain ⟨k, l, A, c, hk, rfl, hlk, hlV, hx, hown, hne, hB⟩ := hrel
    have HX1 := Lib.hid hx
    have HW1 := Lib.hid hown
    have HN1 := Lib.hid hne
    have HB1 := Lib.hid hB
    have HLV := Lib.hid hlV
    have HLK := Lib.hid hlk
    have i0 : (0 : Int) ≤ (k : Int) := by omega
    have HFr := Lib.hid (HF.out.later hB)
    clear hx hown hne hB hlV hlk
    by_cases hlt : k < n
    · have i1 : (k : Int) < (n : Int) := by omega
      have d0 : decide ((k : Int) < (n : Int)) = true := decide_eq_true i1
      have d0' : decide (k < n) = true := decide_eq_true hlt
      obtain ⟨x, hxv⟩ := hgb.out k hlt
      have HXV := Lib.hid hxv
      have co0 : wr.cell? ⟨go, oo + k, none⟩ = some (.slice x.1 x.2.1 x.2.2) := ((HB1.out.cell (p := ⟨go, oo + k, none⟩) hgo).trans (HO.out k hlt)).trans (by rw [hxv]; rfl)
      have hs1 : w.heap.size ≤ wr.heap.size := HB1.out.size
      clear hxv
      go_wp2_with (first
        | (go_at_call 118; refine (putInts gb w.heap.size _ A k c x l wr HX1.out rfl HW1.out HN1.out (by have := HLK.out; omega) hs1 hgbl).mono ?_; rintro e w2 ⟨rfl, g, cap, p1, p2, p3, p4, p5, p6, p7⟩))
      rw [HLK.out] at p1 p2
      have hlk := HLK.out
      go_roundw
      case rel =>
        refine ⟨k + 1, l ++ [x], some ⟨g, 0, none⟩, cap, by omega, by go_num, by simp [hlk], fun j y hy => ?_, p1, p2, ?_, HB1.out.trans p4⟩
        · by_cases hj : j < l.length
          · rw [List.getElem?_append_left hj] at hy; exact HLV.out j y hy
          · rw [List.getElem?_append_right (by omega)] at hy
            have hj0 : j - l.length = 0 := by
              by_cases h0 : j - l.length = 0
              · exact h0
              · rw [List.getElem?_eq_none (by simp; omega)] at hy; simp at hy
            rw [hj0] at hy
            simp only [List.getElem?_cons_zero, Option.some.injEq] at hy
            subst hy
            have : j = k := by omega
            subst this; exact HXV.out
        · intro he
          by_cases hc : cap = 0
          · subst hc; rw [blkH_none] at he; simp at he
          · rw [blkH_room hc] at he; simp only [Option.some.injEq] at he; exact p3 he
      case measure => simp [intOf]; omega
    · have d0 : decide ((k : Int) < (n : Int)) = false := decide_eq_false (by omega)
      have d0' : decide (k < n) = false := decide_eq_false hlt
      have hlk := HLK.out
      have hkn : k = n := by omega
      subst hkn
      obtain ⟨g, cap, hpl, hg1, hg2, hfr⟩ := HW1.out.place (by intro h; rw [h] at hlk; simp at hlk; omega)
      have hpl2 : A = some ⟨g, 0, none⟩ ∧ c = cap := by simpa [hlk] using hpl
      obtain ⟨rfl, rfl⟩ := hpl2
      have hbw : base ≤ wr.heap.size := Nat.le_trans hbase HB1.out.size
      have hcell : Hid (∀ j, j < k → wr.cell? ⟨g, j, none⟩ = some (V j)) := fun j hj => by
        obtain ⟨b2, off2, cap2, e2, -, -, -, hc2⟩ := (HW1.out.sl sRow_length).cellAt (by intro h; rw [h] at hlk; simp at hlk; omega)
        simp only [Value.slice.injEq, Option.some.injEq, Addr.mk.injEq, and_true] at e2
        obtain ⟨⟨rfl, rfl⟩, -⟩ := e2
        obtain ⟨y, hy⟩ : ∃ y, l[j]? = some y := ⟨_, List.getElem?_eq_getElem (by omega)⟩
        rw [HLV.out j y hy]
        simpa [Sv.v] using hc2 j y hy 0 _ rfl
      have hgbs : gb < wr.heap.size := HX1.out.lt
      have hggb : gb ≠ g := fun he => by
        have := HW1.out
        rcases this.2 with ⟨h, _⟩ | ⟨g', cap', cur, h, _, hh, _⟩
        · simp at h
        · simp only [Value.slice.injEq, Option.some.injEq, Addr.mk.injEq, and_true] at h
          obtain ⟨rfl, -, rfl⟩ := h
          have h2 := HX1.out
          unfold Box at h2
          rw [he, hh] at h2
          simp only [Option.some.injEq, Obj.cells.injEq] at h2
          exact absurd h2.2.1 (by decide)
      have hfam : Hid (FamI base (g :: gb :: g :: E) k wr V (fun _ => nilS) L (fun _ => [])) :=
        ⟨HFr.out.v, HFr.out.g, HFr.out.pre, HFr.out.far, fun j hj x hx hm => by
          have hxs := (HF.out.lt hj hx).2
          have hxe := fun h : x ∈ E => HF.out.out j hj x hx (List.mem_cons_of_mem _ h)
          rcases List.mem_cons.1 hm with h | h
          · omega
          · rcases List.mem_cons.1 h with h | h
            · omega
            · rcases List.mem_cons.1 h with h | h
              · omega
              · exact hxe h⟩
      have HC0 : Hid ((fun v => Kp base (gb :: g :: E) wr v ∧ ∃ L', FamI base (g :: gb :: g :: E) k v V (fun _ => nilS) L' (fun _ => []) ∧ (∀ j, j < k → (L' j).length = (L j).length) ∧ (∀ j, j < k → v.cell? ⟨g, j, none⟩ = some (V j))) wr) := ⟨Kp.refl _ _ _, L, hfam.out, fun _ _ => rfl, hcell.out⟩
      have HCd : Hid (∀ v, (fun v => Kp base (gb :: g :: E) wr v ∧ ∃ L', FamI base (g :: gb :: g :: E) k v V (fun _ => nilS) L' (fun _ => []) ∧ (∀ j, j < k → (L' j).length = (L j).length) ∧ (∀ j, j < k → v.cell? ⟨g, j, none⟩ = some (V j))) v → (fun v => Kp base (gb :: g :: E) wr v ∧ ∃ L', FamI base (g :: gb :: g :: E) k v V (fun _ => nilS) L' (fun _ => []) ∧ (∀ j, j < k → (L' j).length = (L j).length) ∧ (∀ j, j < k → v.cell? ⟨g, j, none⟩ = some (V j))) v.drew) := fun v ⟨h1, L', h2, h3, h4⟩ => ⟨h1.drew, L', h2.stay fun _ _ _ _ => rfl, h3, h4⟩
      have HCb : Hid (∀ v, (fun v => Kp base (gb :: g :: E) wr v ∧ ∃ L', FamI base (g :: gb :: g :: E) k v V (fun _ => nilS) L' (fun _ => []) ∧ (∀ j, j < k → (L' j).length = (L j).length) ∧ (∀ j, j < k → v.cell? ⟨g, j, none⟩ = some (V j))) v → Box v gb #[nilS, nilS, (.slice (some ⟨g, 0, none⟩) k c), nilS, nilS, nilS, nilS, nilS, nilS, nilS, nilS, nilS, nilS, nilS, nilS] 138) := fun v ⟨h1, _⟩ => (h1.ext gb (by simp) hgbs).trans HX1.out
      have HCn : Hid (∀ v v', (fun v => Kp base (gb :: g :: E) wr v ∧ ∃ L', FamI base (g :: gb :: g :: E) k v V (fun _ => nilS) L' (fun _ => []) ∧ (∀ j, j < k → (L' j).length = (L j).length) ∧ (∀ j, j < k → v.cell? ⟨g, j, none⟩ = some (V j))) v → Below v.heap.size v v' → (fun v => Kp base (gb :: g :: E) wr v ∧ ∃ L', FamI base (g :: gb :: g :: E) k v V (fun _ => nilS) L' (fun _ => []) ∧ (∀ j, j < k → (L' j).length = (L j).length) ∧ (∀ j, j < k → v.cell? ⟨g, j, none⟩ = some (V j))) v') := fun v v' ⟨h1, L', h2, h3, h4⟩ hb =>
        ⟨h1.later hb (Nat.le_trans hbw h1.low.size), L', h2.later hb, h3, fun j hj => (hb.cell (p := ⟨g, j, none⟩) (Nat.lt_of_lt_of_le hg2 h1.low.size)).trans (h4 j hj)⟩
      have HCf : Hid (∀ v, (fun v => Kp base (gb :: g :: E) wr v ∧ ∃ L', FamI base (g :: gb :: g :: E) k v V (fun _ => nilS) L' (fun _ => []) ∧ (∀ j, j < k → (L' j).length = (L j).length) ∧ (∀ j, j < k → v.cell? ⟨g, j, none⟩ = some (V j))) v → Calls Tryz.prog 129 #[.slice (some ⟨g, 0, none⟩) k c] v (fun e w' => e = .returned (.bool true) ∧ (fun v => Kp base (gb :: g :: E) wr v ∧ ∃ L', FamI base (g :: gb :: g :: E) k v V (fun _ => nilS) L' (fun _ => []) ∧ (∀ j, j < k → (L' j).length = (L j).length) ∧ (∀ j, j < k → v.cell? ⟨g, j, none⟩ = some (V j))) w')) := fun v ⟨h1, L', h2, h3, h4⟩ =>
        (flatInts base k (gb :: g :: E) V L' g 0 c v h2 (fun j hj => by rw [Nat.zero_add]; exact h4 j hj) (Nat.lt_of_lt_of_le hg2 h1.low.size) hn (fun j hj => by rw [h3 j hj]; exact HL.out j hj) (Nat.le_trans hbw h1.low.size) (fun p hp => by rcases List.mem_cons.1 hp with rfl | hp; (exact Nat.lt_of_lt_of_le hgbs h1.low.size); (rcases List.mem_cons.1 hp with rfl | hp; (exact Nat.lt_of_lt_of_le hg2 h1.low.size); (exact Nat.lt_of_lt_of_le (HEX.out p hp) (Nat.le_trans HB1.out.size h1.low.size))))).mono
          fun e w' ⟨he, k1, L2, k2, k3⟩ => ⟨he, ⟨h1.low.trans k1.low, fun p hp hs => (k1.ext p hp (Nat.lt_of_lt_of_le hs h1.low.size)).trans (h1.ext p hp hs)⟩, L2, k2, fun j hj => (k3 j hj).trans (h3 j hj), fun j hj => (World.cell?_of_block (a := ⟨g, j, none⟩) (k1.ext g (by simp) (Nat.lt_of_lt_of_le hg2 h1.low.size))).trans (h4 j hj)⟩
      clear hlk
      have HAP := Lib.hid (bagApart gb (none, 0, 0) (none, 0, 0) (some ⟨g, 0, none⟩, k, c) (none, 0, 0) (none, 0, 0) (none, 0, 0) (none, 0, 0) (none, 0, 0) (none, 0, 0) (none, 0, 0) (none, 0, 0) (none, 0, 0) (none, 0, 0) (none, 0, 0) (none, 0, 0) (fun v => Kp base (gb :: g :: E) wr v ∧ ∃ L', FamI base (g :: gb :: g :: E) k v V (fun _ => nilS) L' (fun _ => []) ∧ (∀ j, j < k → (L' j).length = (L j).length) ∧ (∀ j, j < k → v.cell? ⟨g, j, none⟩ = some (V j))) wr HC0.out HCd.out HCb.out (fun v hv => (flatLimbsNil v).mono fun e w' h => ⟨h.1, HCn.out v w' hv h.2⟩) (fun v hv => (flatWordsNil v).mono fun e w' h => ⟨h.1, HCn.out v w' hv h.2⟩) HCf.out (fun v hv => (flatLongsNil v).mono fun e w' h => ⟨h.1, HCn.out v w' hv h.2⟩) (fun v hv => (flatTextsNil v).mono fun e w' h => ⟨h.1, HCn.out v w' hv h.2⟩) (fun v hv => (flatBytesNil v).mono fun e w' h => ⟨h.1, HCn.out v w' hv h.2⟩) (fun v hv => (flatTruthsNil v).mono fun e w' h => ⟨h.1, HCn.out v w' hv h.2⟩) (fun v hv => (flatUnitsNil v).mono fun e w' h => ⟨h.1, HCn.out v w' hv h.2⟩) (fun v hv => (flatEntriesNil v).mono fun e w' h => ⟨h.1, HCn.out v w' hv h.2⟩) (fun v hv => (flatIdentsNil v).mono fun e w' h => ⟨h.1, HCn.out v w' hv h.2⟩) (fun v hv => (flatMetasNil v).mono fun e w' h => ⟨h.1, HCn.out v w' hv h.2⟩) (fun v hv => (flatMarksNil v).mono fun e w' h => ⟨h.1, HCn.out v w' hv h.2⟩) (fun v hv => (flatSnapsNil v).mono fun e w' h => ⟨h.1, HCn.out v w' hv h.2⟩) (fun v hv => (flatShapesNil v).mono fun e w' h => ⟨h.1, HCn.out v w' hv h.2⟩) (fun v hv => (flatLettersNil v).mono fun e w' h => ⟨h.1, HCn.out v w' hv h.2⟩))
      go_wp2_with (go_at_call 92; refine HAP.out.mono ?_; rintro e w3 ⟨rfl, hk3, -⟩)
      go_ret
      exact ⟨rfl, ⟨(HB1.out.mono hbase).trans hk3.low, fun p hp hs => (hk3.ext p (by simp [hp]) (Nat.lt_of_lt_of_le hs HB1.out.size)).trans (HB1.out.block p hs)⟩⟩

set_option maxRecDepth 100000 in
set_option maxHeartbeats 4000000 in
/-- Lists that lie apart, found so. -/
theorem apartBytes (base n : Nat) (E : List Nat) (V : Nat → Value) (L : Nat → List Int) (go oo co : Nat) (w : World) (hf : FamB base (go :: E) n w V (fun _ => nilS) L (fun _ => [])) (ho : ∀ j, j < n → w.cell? ⟨go, oo + j, none⟩ = some (V j)) (hgo : go < w.heap.size) (hn0 : 0 < n) (hn : n ≤ 1000) (hL : ∀ j, j < n → (L j).length ≤ 100000) (hbase : base ≤ w.heap.size) (hext : ∀ p, p ∈ E → p < w.heap.size) :
    Calls Tryz.prog 73 #[.slice (some ⟨go, oo, none⟩) n co] w fun e w' => e = .returned (.bool true) ∧ Kp base E w w' := by
  have HF := Lib.hid hf
  have HEX := Lib.hid hext
  have HO := Lib.hid ho
  have HL := Lib.hid hL
  have hgb : Hid (∀ j, j < n → ∃ x : Sv, V j = x.v) := fun j hj => by
    obtain ⟨A, c, h⟩ := (HF.out.v j hj).len
    exact ⟨(A, (L j).length, c), h⟩
  clear hf ho hL hext
  go_enter Tryz.func73, Tryz.ntmps73
  go_wp2_with fail
  obtain ⟨gb, hgbw⟩ : ∃ g, g = w.heap.size := ⟨_, rfl⟩
  have HX0 := Lib.hid (Box.new w bagNil 138)
  have HB0 := Lib.hid (below_new w (.cells bagNil 138))
  unfold bagNil at HX0 HB0
  simp only [nilS] at HX0 HB0
  rw [← hgbw] at HX0
  rw [← hgbw]
  have hgbl : w.heap.size ≤ gb := by omega
  clear hgbw
  go_loopw [4] (fun i wr => ∃ (k : Nat) (l : List Sv) (A : Option Addr) (c : Nat), k ≤ n ∧ i = .int .i64 k ∧ l.length = k ∧ (∀ j x, l[j]? = some x → V j = x.v) ∧ Box wr gb #[nilS, nilS, nilS, nilS, nilS, .slice A k c, nilS, nilS, nilS, nilS, nilS, nilS, nilS, nilS, nilS] 138 ∧ Own 1 sRow 26 w.heap.size wr (.slice A k c) l ∧ blkH (.slice A k c) ≠ some gb ∧ Below w.heap.size w wr) (fun i _ => n - (intOf i).toNat)
  case atStart => exact ⟨0, [], none, 0, by omega, rfl, rfl, fun j x h => by simp at h, HX0.out, Own.nil_ _ _ _ _ _, by rw [blkH_none]; simp, HB0.out⟩
  case round =>
    clear HX0 HB0
    obtain ⟨k, l, A, c, hk, rfl, hlk, hlV, hx, hown, hne, hB⟩ := hrel
    have HX1 := Lib.hid hx
    have HW1 := Lib.hid hown
    have HN1 := Lib.hid hne
    have HB1 := Lib.hid hB
    have HLV := Lib.hid hlV
    have HLK := Lib.hid hlk
    have i0 : (0 : Int) ≤ (k : Int) := by omega
    have HFr := Lib.hid (HF.out.later hB)
    clear hx hown hne hB hlV hlk
    by_cases hlt : k < n
    · have i1 : (k : Int) < (n : Int) := by omega
      have d0 : decide ((k : Int) < (n : Int)) = true := decide_eq_true i1
      have d0' : decide (k < n) = true := decide_eq_true hlt
      obtain ⟨x, hxv⟩ := hgb.out k hlt
      have HXV := Lib.hid hxv
      have co0 : wr.cell? ⟨go, oo + k, none⟩ = some (.slice x.1 x.2.1 x.2.2) := ((HB1.out.cell (p := ⟨go, oo + k, none⟩) hgo).trans (HO.out k hlt)).trans (by rw [hxv]; rfl)
      have hs1 : w.heap.size ≤ wr.heap.size := HB1.out.size
      clear hxv
      go_wp2_with (first
        | (go_at_call 117; refine (putBytes gb w.heap.size _ A k c x l wr HX1.out rfl HW1.out HN1.out (by have := HLK.out; omega) hs1 hgbl).mono ?_; rintro e w2 ⟨rfl, g, cap, p1, p2, p3, p4, p5, p6, p7⟩))
      rw [HLK.out] at p1 p2
      have hlk := HLK.out
      go_roundw
      case rel =>
        refine ⟨k + 1, l ++ [x], some ⟨g, 0, none⟩, cap, by omega, by go_num, by simp [hlk], fun j y hy => ?_, p1, p2, ?_, HB1.out.trans p4⟩
        · by_cases hj : j < l.length
          · rw [List.getElem?_append_left hj] at hy; exact HLV.out j y hy
          · rw [List.getElem?_append_right (by omega)] at hy
            have hj0 : j - l.length = 0 := by
              by_cases h0 : j - l.length = 0
              · exact h0
              · rw [List.getElem?_eq_none (by simp; omega)] at hy; simp at hy
            rw [hj0] at hy
            simp only [List.getElem?_cons_zero, Option.some.injEq] at hy
            subst hy
            have : j = k := by omega
            subst this; exact HXV.out
        · intro he
          by_cases hc : cap = 0
          · subst hc; rw [blkH_none] at he; simp at he
          · rw [blkH_room hc] at he; simp only [Option.some.injEq] at he; exact p3 he
      case measure => simp [intOf]; omega
    · have d0 : decide ((k : Int) < (n : Int)) = false := decide_eq_false (by omega)
      have d0' : decide (k < n) = false := decide_eq_false hlt
      have hlk := HLK.out
      have hkn : k = n := by omega
      subst hkn
      obtain ⟨g, cap, hpl, hg1, hg2, hfr⟩ := HW1.out.place (by intro h; rw [h] at hlk; simp at hlk; omega)
      have hpl2 : A = some ⟨g, 0, none⟩ ∧ c = cap := by simpa [hlk] using hpl
      obtain ⟨rfl, rfl⟩ := hpl2
      have hbw : base ≤ wr.heap.size := Nat.le_trans hbase HB1.out.size
      have hcell : Hid (∀ j, j < k → wr.cell? ⟨g, j, none⟩ = some (V j)) := fun j hj => by
        obtain ⟨b2, off2, cap2, e2, -, -, -, hc2⟩ := (HW1.out.sl sRow_length).cellAt (by intro h; rw [h] at hlk; simp at hlk; omega)
        simp only [Value.slice.injEq, Option.some.injEq, Addr.mk.injEq, and_true] at e2
        obtain ⟨⟨rfl, rfl⟩, -⟩ := e2
        obtain ⟨y, hy⟩ : ∃ y, l[j]? = some y := ⟨_, List.getElem?_eq_getElem (by omega)⟩
        rw [HLV.out j y hy]
        simpa [Sv.v] using hc2 j y hy 0 _ rfl
      have hgbs : gb < wr.heap.size := HX1.out.lt
      have hggb : gb ≠ g := fun he => by
        have := HW1.out
        rcases this.2 with ⟨h, _⟩ | ⟨g', cap', cur, h, _, hh, _⟩
        · simp at h
        · simp only [Value.slice.injEq, Option.some.injEq, Addr.mk.injEq, and_true] at h
          obtain ⟨rfl, -, rfl⟩ := h
          have h2 := HX1.out
          unfold Box at h2
          rw [he, hh] at h2
          simp only [Option.some.injEq, Obj.cells.injEq] at h2
          exact absurd h2.2.1 (by decide)
      have hfam : Hid (FamB base (g :: gb :: g :: E) k wr V (fun _ => nilS) L (fun _ => [])) :=
        ⟨HFr.out.v, HFr.out.g, HFr.out.pre, HFr.out.far, fun j hj x hx hm => by
          have hxs := (HF.out.lt hj hx).2
          have hxe := fun h : x ∈ E => HF.out.out j hj x hx (List.mem_cons_of_mem _ h)
          rcases List.mem_cons.1 hm with h | h
          · omega
          · rcases List.mem_cons.1 h with h | h
            · omega
            · rcases List.mem_cons.1 h with h | h
              · omega
              · exact hxe h⟩
      have HC0 : Hid ((fun v => Kp base (gb :: g :: E) wr v ∧ ∃ L', FamB base (g :: gb :: g :: E) k v V (fun _ => nilS) L' (fun _ => []) ∧ (∀ j, j < k → (L' j).length = (L j).length) ∧ (∀ j, j < k → v.cell? ⟨g, j, none⟩ = some (V j))) wr) := ⟨Kp.refl _ _ _, L, hfam.out, fun _ _ => rfl, hcell.out⟩
      have HCd : Hid (∀ v, (fun v => Kp base (gb :: g :: E) wr v ∧ ∃ L', FamB base (g :: gb :: g :: E) k v V (fun _ => nilS) L' (fun _ => []) ∧ (∀ j, j < k → (L' j).length = (L j).length) ∧ (∀ j, j < k → v.cell? ⟨g, j, none⟩ = some (V j))) v → (fun v => Kp base (gb :: g :: E) wr v ∧ ∃ L', FamB base (g :: gb :: g :: E) k v V (fun _ => nilS) L' (fun _ => []) ∧ (∀ j, j < k → (L' j).length = (L j).length) ∧ (∀ j, j < k → v.cell? ⟨g, j, none⟩ = some (V j))) v.drew) := fun v ⟨h1, L', h2, h3, h4⟩ => ⟨h1.drew, L', h2.stay fun _ _ _ _ => rfl, h3, h4⟩
      have HCb : Hid (∀ v, (fun v => Kp base (gb :: g :: E) wr v ∧ ∃ L', FamB base (g :: gb :: g :: E) k v V (fun _ => nilS) L' (fun _ => []) ∧ (∀ j, j < k → (L' j).length = (L j).length) ∧ (∀ j, j < k → v.cell? ⟨g, j, none⟩ = some (V j))) v → Box v gb #[nilS, nilS, nilS, nilS, nilS, (.slice (some ⟨g, 0, none⟩) k c), nilS, nilS, nilS, nilS, nilS, nilS, nilS, nilS, nilS] 138) := fun v ⟨h1, _⟩ => (h1.ext gb (by simp) hgbs).trans HX1.out
      have HCn : Hid (∀ v v', (fun v => Kp base (gb :: g :: E) wr v ∧ ∃ L', FamB base (g :: gb :: g :: E) k v V (fun _ => nilS) L' (fun _ => []) ∧ (∀ j, j < k → (L' j).length = (L j).length) ∧ (∀ j, j < k → v.cell? ⟨g, j, none⟩ = some (V j))) v → Below v.heap.size v v' → (fun v => Kp base (gb :: g :: E) wr v ∧ ∃ L', FamB base (g :: gb :: g :: E) k v V (fun _ => nilS) L' (fun _ => []) ∧ (∀ j, j < k → (L' j).length = (L j).length) ∧ (∀ j, j < k → v.cell? ⟨g, j, none⟩ = some (V j))) v') := fun v v' ⟨h1, L', h2, h3, h4⟩ hb =>
        ⟨h1.later hb (Nat.le_trans hbw h1.low.size), L', h2.later hb, h3, fun j hj => (hb.cell (p := ⟨g, j, none⟩) (Nat.lt_of_lt_of_le hg2 h1.low.size)).trans (h4 j hj)⟩
      have HCf : Hid (∀ v, (fun v => Kp base (gb :: g :: E) wr v ∧ ∃ L', FamB base (g :: gb :: g :: E) k v V (fun _ => nilS) L' (fun _ => []) ∧ (∀ j, j < k → (L' j).length = (L j).length) ∧ (∀ j, j < k → v.cell? ⟨g, j, none⟩ = some (V j))) v → Calls Tryz.prog 132 #[.slice (some ⟨g, 0, none⟩) k c] v (fun e w' => e = .returned (.bool true) ∧ (fun v => Kp base (gb :: g :: E) wr v ∧ ∃ L', FamB base (g :: gb :: g :: E) k v V (fun _ => nilS) L' (fun _ => []) ∧ (∀ j, j < k → (L' j).length = (L j).length) ∧ (∀ j, j < k → v.cell? ⟨g, j, none⟩ = some (V j))) w')) := fun v ⟨h1, L', h2, h3, h4⟩ =>
        (flatBytes base k (gb :: g :: E) V L' g 0 c v h2 (fun j hj => by rw [Nat.zero_add]; exact h4 j hj) (Nat.lt_of_lt_of_le hg2 h1.low.size) hn (fun j hj => by rw [h3 j hj]; exact HL.out j hj) (Nat.le_trans hbw h1.low.size) (fun p hp => by rcases List.mem_cons.1 hp with rfl | hp; (exact Nat.lt_of_lt_of_le hgbs h1.low.size); (rcases List.mem_cons.1 hp with rfl | hp; (exact Nat.lt_of_lt_of_le hg2 h1.low.size); (exact Nat.lt_of_lt_of_le (HEX.out p hp) (Nat.le_trans HB1.out.size h1.low.size))))).mono
          fun e w' ⟨he, k1, L2, k2, k3⟩ => ⟨he, ⟨h1.low.trans k1.low, fun p hp hs => (k1.ext p hp (Nat.lt_of_lt_of_le hs h1.low.size)).trans (h1.ext p hp hs)⟩, L2, k2, fun j hj => (k3 j hj).trans (h3 j hj), fun j hj => (World.cell?_of_block (a := ⟨g, j, none⟩) (k1.ext g (by simp) (Nat.lt_of_lt_of_le hg2 h1.low.size))).trans (h4 j hj)⟩
      clear hlk
      have HAP := Lib.hid (bagApart gb (none, 0, 0) (none, 0, 0) (none, 0, 0) (none, 0, 0) (none, 0, 0) (some ⟨g, 0, none⟩, k, c) (none, 0, 0) (none, 0, 0) (none, 0, 0) (none, 0, 0) (none, 0, 0) (none, 0, 0) (none, 0, 0) (none, 0, 0) (none, 0, 0) (fun v => Kp base (gb :: g :: E) wr v ∧ ∃ L', FamB base (g :: gb :: g :: E) k v V (fun _ => nilS) L' (fun _ => []) ∧ (∀ j, j < k → (L' j).length = (L j).length) ∧ (∀ j, j < k → v.cell? ⟨g, j, none⟩ = some (V j))) wr HC0.out HCd.out HCb.out (fun v hv => (flatLimbsNil v).mono fun e w' h => ⟨h.1, HCn.out v w' hv h.2⟩) (fun v hv => (flatWordsNil v).mono fun e w' h => ⟨h.1, HCn.out v w' hv h.2⟩) (fun v hv => (flatIntsNil v).mono fun e w' h => ⟨h.1, HCn.out v w' hv h.2⟩) (fun v hv => (flatLongsNil v).mono fun e w' h => ⟨h.1, HCn.out v w' hv h.2⟩) (fun v hv => (flatTextsNil v).mono fun e w' h => ⟨h.1, HCn.out v w' hv h.2⟩) HCf.out (fun v hv => (flatTruthsNil v).mono fun e w' h => ⟨h.1, HCn.out v w' hv h.2⟩) (fun v hv => (flatUnitsNil v).mono fun e w' h => ⟨h.1, HCn.out v w' hv h.2⟩) (fun v hv => (flatEntriesNil v).mono fun e w' h => ⟨h.1, HCn.out v w' hv h.2⟩) (fun v hv => (flatIdentsNil v).mono fun e w' h => ⟨h.1, HCn.out v w' hv h.2⟩) (fun v hv => (flatMetasNil v).mono fun e w' h => ⟨h.1, HCn.out v w' hv h.2⟩) (fun v hv => (flatMarksNil v).mono fun e w' h => ⟨h.1, HCn.out v w' hv h.2⟩) (fun v hv => (flatSnapsNil v).mono fun e w' h => ⟨h.1, HCn.out v w' hv h.2⟩) (fun v hv => (flatShapesNil v).mono fun e w' h => ⟨h.1, HCn.out v w' hv h.2⟩) (fun v hv => (flatLettersNil v).mono fun e w' h => ⟨h.1, HCn.out v w' hv h.2⟩))
      go_wp2_with (go_at_call 92; refine HAP.out.mono ?_; rintro e w3 ⟨rfl, hk3, -⟩)
      go_ret
      exact ⟨rfl, ⟨(HB1.out.mono hbase).trans hk3.low, fun p hp hs => (hk3.ext p (by simp [hp]) (Nat.lt_of_lt_of_le hs HB1.out.size)).trans (HB1.out.block p hs)⟩⟩

/-- Two slices that lie apart. -/
def two {β : Type} (a b : β) : Nat → β := fun j => if j = 0 then a else b
theorem fams2 {α : Type} {k : Nat} {row : α → List Value} {e : TypeId} {base : Nat} {out : List Nat} {w : World} {va vb : Value} {la lb : List α} (ha : OwnH k row e base w va la) (hb : OwnH k row e base w vb lb) (hne : ∀ x, blkH va = some x → blkH vb ≠ some x)
    (ho1 : ∀ x, blkH va = some x → x ∉ out) (ho2 : ∀ x, blkH vb = some x → x ∉ out) : Fams k row e base out 2 w (two va vb) (fun _ => nilS) (two la lb) (fun _ => []) := by
  have hn : ∀ x, ¬ blkH nilS = some x := fun x h => by rw [blkH_nil] at h; simp at h
  refine ⟨fun j hj => ?_, fun j hj => OwnH.nil_ _ _ _ _ _, fun j hj x _ h => absurd h (hn x), fun i j hi hj hij x hx hx' => ?_, fun j hj x hx => ?_⟩
  · by_cases h0 : j = 0
    · subst h0; exact ha
    · have : j = 1 := by omega
      subst this; exact hb
  · have h1 := hx.resolve_right (hn x)
    have h2 := hx'.resolve_right (hn x)
    rcases (by omega : i = 0 ∧ j = 1 ∨ i = 1 ∧ j = 0) with ⟨rfl, rfl⟩ | ⟨rfl, rfl⟩
    · exact hne x h1 h2
    · exact hne x h2 h1
  · have h1 := hx.resolve_right (hn x)
    by_cases h0 : j = 0
    · subst h0; exact ho1 x h1
    · have : j = 1 := by omega
      subst this; exact ho2 x h1
/-- A fresh slice lies between what was there ahead of it and what comes. -/
theorem OwnH.between {α : Type} {k : Nat} {row : α → List Value} {e : TypeId} {base : Nat} {w : World} {v : Value} {l : List α} (h : OwnH k row e base w v l) {x : Nat} (hx : blkH v = some x) : base ≤ x ∧ x < w.heap.size := h.block hx
end Go.Proofs.YtfglkpcboodllaaGreatDoor
