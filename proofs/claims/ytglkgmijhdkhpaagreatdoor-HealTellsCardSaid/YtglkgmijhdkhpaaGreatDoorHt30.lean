/-
  limpetkit's ApartEntries: lists of entries that lie apart, and their bodies: contract.
-/
import Derived.Test.YtglkgmijhdkhpaaGreatDoorHt29
set_option linter.unusedVariables false
set_option linter.unusedSimpArgs false
namespace Go.Proofs.YtglkgmijhdkhpaaGreatDoor
open Go.RowKit

/-- All entries of lists, one behind the other. -/
def allE (L : Nat → List Ent) : Nat → List Ent
  | 0 => []
  | k + 1 => allE L k ++ L k
/-- Their bodies, as slices and as lists. -/
def vbE (L : Nat → List Ent) (n j : Nat) : Value := match (allE L n)[j]? with
  | some x => x.bv
  | none => nilS
def lbE (L : Nat → List Ent) (n j : Nat) : List Int := match (allE L n)[j]? with
  | some x => x.bd
  | none => []
theorem box_no {α : Type} {k : Nat} {row : α → List Value} {e t : TypeId} {base g x : Nat} {w : World} {v : Value} {l : List α} {cs : Array Value} (h : Own k row e base w v l) (hx : Box w g cs t) (he : e ≠ t) (hv : v.ownBlock = some x) : x ≠ g := by
  intro h0
  subst h0
  rcases h.2 with ⟨h1, _⟩ | ⟨g', cap', cur, h1, _, hh, _⟩
  · rw [h1] at hv; simp [Value.ownBlock] at hv
  · rw [h1] at hv
    have : g' = x := by simpa [Value.ownBlock] using hv
    subst this
    unfold Box at hx
    rw [hh] at hx
    simp only [Option.some.injEq, Obj.cells.injEq] at hx
    exact he hx.2.1
theorem cells_of {e : TypeId} {base g n c : Nat} {w : World} {l : List Sv} (h : Own 1 sRow e base w (.slice (some ⟨g, 0, none⟩) n c) l) : ∀ (j : Nat) (y : Sv), l[j]? = some y → w.cell? ⟨g, j, none⟩ = some y.v := fun j y hy => by
  obtain ⟨b2, off2, cap2, e2, -, -, -, hc2⟩ := (h.sl sRow_length).cellAt (by intro h0; rw [h0] at hy; simp at hy)
  simp only [Value.slice.injEq, Option.some.injEq, Addr.mk.injEq, and_true] at e2
  obtain ⟨⟨rfl, rfl⟩, -⟩ := e2
  simpa [Sv.v] using hc2 j y hy 0 _ rfl

set_option maxRecDepth 100000 in
set_option maxHeartbeats 8000000 in
theorem apartEntries (base n : Nat) (EV EB E : List Nat) (V : Nat → Value) (L : Nat → List Ent) (go oo co : Nat) (w : World)
    (hf : FamEntries base (go :: (EB ++ E)) n w V (fun _ => nilS) L (fun _ => [])) (hb : FamB base (go :: (EV ++ E)) (allE L n).length w (vbE L n) (fun _ => nilS) (lbE L n) (fun _ => []))
    (hEV : ∀ j, j < n → ∀ x, blkH (V j) = some x → x ∈ EV) (hEB : ∀ j, j < (allE L n).length → ∀ x, blkH (vbE L n j) = some x → x ∈ EB) (hEV2 : ∀ x ∈ EV, x < w.heap.size) (hEB2 : ∀ x ∈ EB, x < w.heap.size)
    (ho : ∀ j, j < n → w.cell? ⟨go, oo + j, none⟩ = some (V j)) (hgo : go < w.heap.size) (hn0 : 0 < n) (hn : n ≤ 1000) (hN : (allE L n).length ≤ 50000) (hL : ∀ j, j < n → (L j).length ≤ 100000) (hLB : ∀ j, j < (allE L n).length → (lbE L n j).length ≤ 100000) (hbase : base ≤ w.heap.size) (hext : ∀ p, p ∈ E → p < w.heap.size) :
    Calls Tryz.prog 25 #[.slice (some ⟨go, oo, none⟩) n co] w fun e w' => e = .returned (.bool true) ∧ Kp base E w w' := by
  have hall : ∀ k, k ≤ n → (allE L k).length ≤ (allE L n).length := fun k hk => by
    induction n with
    | zero => have : k = 0 := by omega
              subst this; exact Nat.le_refl _
    | succ m ih =>
      by_cases h : k = m + 1
      · subst h; exact Nat.le_refl _
      · have h1 : ∀ j, j ≤ m → (allE L j).length ≤ (allE L m).length := by
          clear ih hk h hf hb hEV hEB hEV2 hEB2 ho hn0 hN hL hLB hn
          intro j hj
          induction m with
          | zero => have : j = 0 := by omega
                    subst this; exact Nat.le_refl _
          | succ q iq =>
            by_cases h : j = q + 1
            · subst h; exact Nat.le_refl _
            · have := iq (by omega); simp only [allE, List.length_append] at *; omega
        have := h1 k (by omega)
        simp only [allE, List.length_append]; omega
  have HALL := Lib.hid hall
  have HF := Lib.hid hf
  have HFB := Lib.hid hb
  have HEV := Lib.hid hEV
  have HEB := Lib.hid hEB
  have HEV2 := Lib.hid hEV2
  have HEB2 := Lib.hid hEB2
  have HEX := Lib.hid hext
  have HO := Lib.hid ho
  have HL := Lib.hid hL
  have HLB := Lib.hid hLB
  obtain ⟨N, hNN⟩ : ∃ N, N = (allE L n).length := ⟨_, rfl⟩
  have HNN := Lib.hid hNN
  clear hall hf hb hEV hEB hEV2 hEB2 hext ho hL hLB hNN
  go_enter Tryz.func25, Tryz.ntmps25
  go_wp2_with fail
  obtain ⟨gb, hgbw⟩ : ∃ g, g = w.heap.size := ⟨_, rfl⟩
  have HX0 := Lib.hid (Box.new w bagNil 100)
  have HB0 := Lib.hid (below_new w (.cells bagNil 100))
  unfold bagNil at HX0 HB0
  simp only [nilS] at HX0 HB0
  rw [← hgbw] at HX0
  rw [← hgbw]
  have hgbl : w.heap.size ≤ gb := by omega
  clear hgbw
  go_loopw [4] (fun i wr => ∃ (k : Nat) (lE : List Sv) (A5 : Option Addr) (n5 c5 : Nat) (A8 : Option Addr) (n8 c8 : Nat), k ≤ n ∧ i = .int .i64 k ∧ lE.length = k ∧ (∀ j x, lE[j]? = some x → V j = x.v) ∧ Box wr gb (bagE (.slice A5 n5 c5) (.slice A8 n8 c8)) 100 ∧ Own 1 sRow 52 w.heap.size wr (.slice A5 n5 c5) ((allE L k).map svE) ∧ Own 1 sRow 48 w.heap.size wr (.slice A8 n8 c8) lE ∧ blkH (.slice A5 n5 c5) ≠ some gb ∧ blkH (.slice A8 n8 c8) ≠ some gb ∧ Below w.heap.size w wr) (fun i _ => n - (intOf i).toNat)
  case atStart => exact ⟨0, [], none, 0, 0, none, 0, 0, by omega, rfl, rfl, fun j x h => by simp at h, HX0.out, Own.nil_ _ _ _ _ _, Own.nil_ _ _ _ _ _, by rw [blkH_none]; simp, by rw [blkH_none]; simp, HB0.out⟩
  case round =>
    clear HX0 HB0
    obtain ⟨k, lE, A5, n5, c5, A8, n8, c8, hk, rfl, hlk, hlV, hx, ho5, ho8, hne5, hne8, hB⟩ := hrel
    have HX1 := Lib.hid hx
    have HO5 := Lib.hid ho5
    have HO8 := Lib.hid ho8
    have HN5 := Lib.hid hne5
    have HN8 := Lib.hid hne8
    have HB1 := Lib.hid hB
    have HLV := Lib.hid hlV
    have HLK := Lib.hid hlk
    have i0 : (0 : Int) ≤ (k : Int) := by omega
    clear hx ho5 ho8 hne5 hne8 hB hlV hlk
    by_cases hlt : k < n
    · have i1 : (k : Int) < (n : Int) := by omega
      have d0 : decide ((k : Int) < (n : Int)) = true := decide_eq_true i1
      have d0' : decide (k < n) = true := decide_eq_true hlt
      obtain ⟨A, c, hV⟩ := (HF.out.v k hlt).len
      have hs1 : w.heap.size ≤ wr.heap.size := HB1.out.size
      have co0 : wr.cell? ⟨go, oo + k, none⟩ = some (.slice A (L k).length c) := ((HB1.out.cell (p := ⟨go, oo + k, none⟩) hgo).trans (HO.out k hlt)).trans (by rw [hV])
      have hSL := ((HF.out.v k hlt).sl entRow_length).below HB1.out
      rw [hV] at hSL
      have HXV := Lib.hid hV
      have hsz : (allE L (k + 1)).length ≤ 50000 := Nat.le_trans (HALL.out (k + 1) (by omega)) hN
      have HC := Lib.hid (putEntries gb w.heap.size A5 n5 c5 A8 n8 c8 A c (L k) _ lE wr HX1.out HO5.out HO8.out HN5.out HN8.out (by simp only [allE, List.length_append, List.length_map] at *; omega) (by have := HLK.out; omega) hSL hs1 hgbl)
      clear hV hSL hsz
      go_wp2_with (go_at_call 54; (with_reducible refine HC.out.mono ?_); rintro e w2 ⟨rfl, B5, k5, d5, B8, k8, d8, p1, p2, p3, p4, p5, p6, p7⟩; have HP1 := Lib.hid p1; have HP2 := Lib.hid p2; have HP3 := Lib.hid p3; have HP4 := Lib.hid p4; have HP5 := Lib.hid p5; have HP6 := Lib.hid p6; clear p1 p2 p3 p4 p5 p6)
      go_roundw
      case rel =>
        refine ⟨k + 1, _, B5, k5, d5, B8, k8, d8, by omega, by go_num, by have := HLK.out; simp; omega, fun j y hy => ?_, HP1.out, by simp only [allE, List.map_append]; exact HP2.out, HP3.out, HP4.out, HP5.out, HB1.out.trans HP6.out⟩
        have hlk := HLK.out
        by_cases hj : j < lE.length
        · rw [List.getElem?_append_left hj] at hy; exact HLV.out j y hy
        · rw [List.getElem?_append_right (by omega)] at hy
          have hj0 : j - lE.length = 0 := by
            by_cases h0 : j - lE.length = 0
            · exact h0
            · rw [List.getElem?_eq_none (by simp; omega)] at hy; simp at hy
          rw [hj0] at hy
          simp only [List.getElem?_cons_zero, Option.some.injEq] at hy
          subst hy
          have : j = k := by omega
          subst this; exact HXV.out
      case measure => simp [intOf]; omega
    · have d0 : decide ((k : Int) < (n : Int)) = false := decide_eq_false (by omega)
      have d0' : decide (k < n) = false := decide_eq_false hlt
      have hlk := HLK.out
      have hkn : k = n := by omega
      subst hkn
      obtain ⟨gE, cap, hpl, hE1, hE2, hfr⟩ := HO8.out.place (by intro h; rw [h] at hlk; simp at hlk; omega)
      rw [hlk] at hpl
      simp only [Value.slice.injEq] at hpl
      obtain ⟨rfl, hn8, rfl⟩ := hpl
      have hn8' := hn8.symm
      subst hn8'
      have hbw : base ≤ wr.heap.size := Nat.le_trans hbase HB1.out.size
      have hgbs : gb < wr.heap.size := HX1.out.lt
      have hcE : Hid (∀ j, j < k → wr.cell? ⟨gE, j, none⟩ = some (V j)) := fun j hj => by
        obtain ⟨y, hy⟩ : ∃ y, lE[j]? = some y := ⟨_, List.getElem?_eq_getElem (by omega)⟩
        rw [HLV.out j y hy]; exact cells_of HO8.out j y hy
      have hgE : gE ≠ gb := box_no HO8.out HX1.out (by decide) rfl
      have hwE : w.heap.size ≤ gE := hE1
      have hsw : w.heap.size ≤ wr.heap.size := HB1.out.size
      rcases id HO5.out.2 with ⟨h50, h51⟩ | ⟨gB, cap5, cur5, h50, hB1, hB2, -⟩
      · -- no bodies at all
        simp only [Value.slice.injEq] at h50
        obtain ⟨rfl, rfl, rfl⟩ := h50
        have hN0 : (allE L k).length = 0 := by simpa using h51
        have hfam : Hid (FamEntries base (gE :: gb :: gE :: E) k wr V (fun _ => nilS) L (fun _ => [])) :=
          have HFr := HF.out.later HB1.out
          ⟨HFr.v, HFr.g, HFr.pre, HFr.far, fun j hj x hx hm => by
            have hxs := (HF.out.lt hj hx).2
            rcases List.mem_cons.1 hm with h | h
            · omega
            · rcases List.mem_cons.1 h with h | h
              · omega
              · rcases List.mem_cons.1 h with h | h
                · omega
                · exact HF.out.out j hj x hx (by simp [h])⟩
        have HC0 : Hid ((fun v => Kp base (gb :: gE :: E) wr v ∧ (∃ L', FamEntries base (gE :: gb :: gE :: E) k v V (fun _ => nilS) L' (fun _ => []) ∧ ∀ j, j < k → (L' j).length = (L j).length) ∧ (∀ j, j < k → v.cell? ⟨gE, j, none⟩ = some (V j))) wr) := ⟨Kp.refl _ _ _, ⟨L, hfam.out, fun _ _ => rfl⟩, hcE.out⟩
        have HCd : Hid (∀ v, (fun v => Kp base (gb :: gE :: E) wr v ∧ (∃ L', FamEntries base (gE :: gb :: gE :: E) k v V (fun _ => nilS) L' (fun _ => []) ∧ ∀ j, j < k → (L' j).length = (L j).length) ∧ (∀ j, j < k → v.cell? ⟨gE, j, none⟩ = some (V j))) v → (fun v => Kp base (gb :: gE :: E) wr v ∧ (∃ L', FamEntries base (gE :: gb :: gE :: E) k v V (fun _ => nilS) L' (fun _ => []) ∧ ∀ j, j < k → (L' j).length = (L j).length) ∧ (∀ j, j < k → v.cell? ⟨gE, j, none⟩ = some (V j))) v.drew) := fun v ⟨h1, ⟨L', h2, h3⟩, h4⟩ => ⟨h1.drew, ⟨L', h2.stay fun _ _ _ _ => rfl, h3⟩, h4⟩
        have HCb : Hid (∀ v, (fun v => Kp base (gb :: gE :: E) wr v ∧ (∃ L', FamEntries base (gE :: gb :: gE :: E) k v V (fun _ => nilS) L' (fun _ => []) ∧ ∀ j, j < k → (L' j).length = (L j).length) ∧ (∀ j, j < k → v.cell? ⟨gE, j, none⟩ = some (V j))) v → Box v gb (bagE (.slice none 0 0) (.slice (some ⟨gE, 0, none⟩) k c8)) 100) := fun v ⟨h1, _⟩ => (h1.ext gb (by simp) hgbs).trans HX1.out
        have HCn : Hid (∀ v v', (fun v => Kp base (gb :: gE :: E) wr v ∧ (∃ L', FamEntries base (gE :: gb :: gE :: E) k v V (fun _ => nilS) L' (fun _ => []) ∧ ∀ j, j < k → (L' j).length = (L j).length) ∧ (∀ j, j < k → v.cell? ⟨gE, j, none⟩ = some (V j))) v → Below v.heap.size v v' → (fun v => Kp base (gb :: gE :: E) wr v ∧ (∃ L', FamEntries base (gE :: gb :: gE :: E) k v V (fun _ => nilS) L' (fun _ => []) ∧ ∀ j, j < k → (L' j).length = (L j).length) ∧ (∀ j, j < k → v.cell? ⟨gE, j, none⟩ = some (V j))) v') := fun v v' ⟨h1, ⟨L', h2, h3⟩, h4⟩ hb =>
          ⟨h1.later hb (Nat.le_trans hbw h1.low.size), ⟨L', h2.later hb, h3⟩, fun j hj => (hb.cell (p := ⟨gE, j, none⟩) (Nat.lt_of_lt_of_le hE2 h1.low.size)).trans (h4 j hj)⟩
        have HC8 : Hid (∀ v, (fun v => Kp base (gb :: gE :: E) wr v ∧ (∃ L', FamEntries base (gE :: gb :: gE :: E) k v V (fun _ => nilS) L' (fun _ => []) ∧ ∀ j, j < k → (L' j).length = (L j).length) ∧ (∀ j, j < k → v.cell? ⟨gE, j, none⟩ = some (V j))) v → Calls Tryz.prog 87 #[.slice (some ⟨gE, 0, none⟩) k c8] v (fun e w' => e = .returned (.bool true) ∧ (fun v => Kp base (gb :: gE :: E) wr v ∧ (∃ L', FamEntries base (gE :: gb :: gE :: E) k v V (fun _ => nilS) L' (fun _ => []) ∧ ∀ j, j < k → (L' j).length = (L j).length) ∧ (∀ j, j < k → v.cell? ⟨gE, j, none⟩ = some (V j))) w')) := fun v ⟨h1, ⟨L', h2, h3⟩, h4⟩ =>
          (flatEntries base k (gb :: gE :: E) V L' gE 0 c8 v h2 (fun j hj => by rw [Nat.zero_add]; exact h4 j hj) (Nat.lt_of_lt_of_le hE2 h1.low.size) (by omega) (fun j hj => by rw [h3 j hj]; exact HL.out j hj) (Nat.le_trans hbw h1.low.size) (fun p hp => by rcases List.mem_cons.1 hp with rfl | hp; (exact Nat.lt_of_lt_of_le hgbs h1.low.size); (rcases List.mem_cons.1 hp with rfl | hp; (exact Nat.lt_of_lt_of_le hE2 h1.low.size); (exact Nat.lt_of_lt_of_le (HEX.out p hp) (Nat.le_trans hsw h1.low.size))))).mono
            fun e w' ⟨he, k1, L2, k2, k3⟩ => ⟨he, ⟨h1.low.trans k1.low, fun p hp hs => (k1.ext p hp (Nat.lt_of_lt_of_le hs h1.low.size)).trans (h1.ext p hp hs)⟩, ⟨L2, k2, fun j hj => (k3 j hj).trans (h3 j hj)⟩, fun j hj => (World.cell?_of_block (a := ⟨gE, j, none⟩) (k1.ext gE (by simp) (Nat.lt_of_lt_of_le hE2 h1.low.size))).trans (h4 j hj)⟩
        have HAP := Lib.hid (bagApart gb (none, 0, 0) (none, 0, 0) (none, 0, 0) (none, 0, 0) (none, 0, 0) (none, 0, 0) (none, 0, 0) (none, 0, 0) (some ⟨gE, 0, none⟩, k, c8) (none, 0, 0) (none, 0, 0) (none, 0, 0) (none, 0, 0) (none, 0, 0) (none, 0, 0) (fun v => Kp base (gb :: gE :: E) wr v ∧ (∃ L', FamEntries base (gE :: gb :: gE :: E) k v V (fun _ => nilS) L' (fun _ => []) ∧ ∀ j, j < k → (L' j).length = (L j).length) ∧ (∀ j, j < k → v.cell? ⟨gE, j, none⟩ = some (V j))) wr HC0.out HCd.out HCb.out (fun v hv => (flatLimbsNil v).mono fun e w' h => ⟨h.1, HCn.out v w' hv h.2⟩) (fun v hv => (flatWordsNil v).mono fun e w' h => ⟨h.1, HCn.out v w' hv h.2⟩) (fun v hv => (flatIntsNil v).mono fun e w' h => ⟨h.1, HCn.out v w' hv h.2⟩) (fun v hv => (flatLongsNil v).mono fun e w' h => ⟨h.1, HCn.out v w' hv h.2⟩) (fun v hv => (flatTextsNil v).mono fun e w' h => ⟨h.1, HCn.out v w' hv h.2⟩) (fun v hv => (flatBytesNil v).mono fun e w' h => ⟨h.1, HCn.out v w' hv h.2⟩) (fun v hv => (flatTruthsNil v).mono fun e w' h => ⟨h.1, HCn.out v w' hv h.2⟩) (fun v hv => (flatUnitsNil v).mono fun e w' h => ⟨h.1, HCn.out v w' hv h.2⟩) HC8.out (fun v hv => (flatIdentsNil v).mono fun e w' h => ⟨h.1, HCn.out v w' hv h.2⟩) (fun v hv => (flatMetasNil v).mono fun e w' h => ⟨h.1, HCn.out v w' hv h.2⟩) (fun v hv => (flatMarksNil v).mono fun e w' h => ⟨h.1, HCn.out v w' hv h.2⟩) (fun v hv => (flatSnapsNil v).mono fun e w' h => ⟨h.1, HCn.out v w' hv h.2⟩) (fun v hv => (flatShapesNil v).mono fun e w' h => ⟨h.1, HCn.out v w' hv h.2⟩) (fun v hv => (flatLettersNil v).mono fun e w' h => ⟨h.1, HCn.out v w' hv h.2⟩))
        clear hlk hgE hwE hE1 h51
        go_wp2_with (go_at_call 53; (with_reducible refine HAP.out.mono ?_); rintro e w3 ⟨rfl, hk3, -⟩)
        go_ret
        exact ⟨rfl, ⟨(HB1.out.mono hbase).trans hk3.low, fun p hp hs => (hk3.ext p (by simp [hp]) (Nat.lt_of_lt_of_le hs HB1.out.size)).trans (HB1.out.block p hs)⟩⟩
      · have hn5 := HO5.out.len
        obtain ⟨_, _, hn5⟩ := hn5
        simp only [Value.slice.injEq] at hn5 h50
        obtain ⟨rfl, -, rfl⟩ := h50
        have h5N : n5 = N := by rw [HNN.out, hn5.2.1, List.length_map]
        rw [h5N] at HX1 HO5 HN5
        have hgB : gB ≠ gb := box_no HO5.out HX1.out (by decide) rfl
        have hBE : gB ≠ gE := fun he => own_apart HO5.out HO8.out (by decide) (x := gB) rfl (by rw [he]; rfl)
        have hB3 : gB < wr.heap.size := (HO5.out.block (x := gB) rfl).2
        have hN2 : N ≤ 50000 := by rw [HNN.out]; exact hN
        have hcB : Hid (∀ j, j < N → wr.cell? ⟨gB, j, none⟩ = some (vbE L k j)) := fun j hj => by
          obtain ⟨y, hy⟩ : ∃ y, (allE L k)[j]? = some y := ⟨_, List.getElem?_eq_getElem (by rw [← HNN.out]; exact hj)⟩
          have h := cells_of HO5.out j (svE y) (by rw [List.getElem?_map, hy]; rfl)
          have e1 : vbE L k j = y.bv := by unfold vbE; rw [hy]
          rw [h, e1]; rfl
        have hfam : Hid (FamEntries base (gE :: gb :: gB :: gE :: (EB ++ E)) k wr V (fun _ => nilS) L (fun _ => [])) :=
          have HFr := HF.out.later HB1.out
          ⟨HFr.v, HFr.g, HFr.pre, HFr.far, fun j hj x hx hm => by
            have hxs := (HF.out.lt hj hx).2
            have hxo := HF.out.out j hj x hx
            simp only [List.mem_cons, List.mem_append] at hm hxo
            rcases hm with h | h | h | h | h
            · omega
            · omega
            · omega
            · omega
            · exact hxo (.inr h)⟩
        have hfam5 : Hid (FamB base (gB :: gb :: gB :: gE :: (EV ++ E)) N wr (vbE L k) (fun _ => nilS) (lbE L k) (fun _ => [])) := by
          have h0 := HFB.out
          rw [← HNN.out] at h0
          have HFr := h0.later HB1.out
          exact ⟨HFr.v, HFr.g, HFr.pre, HFr.far, fun j hj x hx hm => by
            have hxs := (h0.lt hj hx).2
            have hxo := h0.out j hj x hx
            simp only [List.mem_cons, List.mem_append] at hm hxo
            rcases hm with h | h | h | h | h
            · omega
            · omega
            · omega
            · omega
            · exact hxo (.inr h)⟩
        have HEBN : Hid (∀ j, j < N → ∀ x, blkH (vbE L k j) = some x → x ∈ EB) := fun j hj => HEB.out j (by rw [← HNN.out]; exact hj)
        have HLBN : Hid (∀ j, j < N → (lbE L k j).length ≤ 100000) := fun j hj => HLB.out j (by rw [← HNN.out]; exact hj)
        have hnn : ∀ x, ¬ blkH nilS = some x := fun x h => by rw [blkH_nil] at h; simp at h
        have HC0 : Hid ((fun v => Kp base (gb :: gB :: gE :: E) wr v ∧ (∃ LB', FamB base (gB :: gb :: gB :: gE :: (EV ++ E)) N v (vbE L k) (fun _ => nilS) LB' (fun _ => []) ∧ ∀ j, j < N → (LB' j).length = (lbE L k j).length) ∧ (∃ L', FamEntries base (gE :: gb :: gB :: gE :: (EB ++ E)) k v V (fun _ => nilS) L' (fun _ => []) ∧ ∀ j, j < k → (L' j).length = (L j).length) ∧ (∀ j, j < N → v.cell? ⟨gB, j, none⟩ = some (vbE L k j)) ∧ (∀ j, j < k → v.cell? ⟨gE, j, none⟩ = some (V j))) wr) := ⟨Kp.refl _ _ _, ⟨lbE L k, hfam5.out, fun _ _ => rfl⟩, ⟨L, hfam.out, fun _ _ => rfl⟩, hcB.out, hcE.out⟩
        have HCd : Hid (∀ v, (fun v => Kp base (gb :: gB :: gE :: E) wr v ∧ (∃ LB', FamB base (gB :: gb :: gB :: gE :: (EV ++ E)) N v (vbE L k) (fun _ => nilS) LB' (fun _ => []) ∧ ∀ j, j < N → (LB' j).length = (lbE L k j).length) ∧ (∃ L', FamEntries base (gE :: gb :: gB :: gE :: (EB ++ E)) k v V (fun _ => nilS) L' (fun _ => []) ∧ ∀ j, j < k → (L' j).length = (L j).length) ∧ (∀ j, j < N → v.cell? ⟨gB, j, none⟩ = some (vbE L k j)) ∧ (∀ j, j < k → v.cell? ⟨gE, j, none⟩ = some (V j))) v → (fun v => Kp base (gb :: gB :: gE :: E) wr v ∧ (∃ LB', FamB base (gB :: gb :: gB :: gE :: (EV ++ E)) N v (vbE L k) (fun _ => nilS) LB' (fun _ => []) ∧ ∀ j, j < N → (LB' j).length = (lbE L k j).length) ∧ (∃ L', FamEntries base (gE :: gb :: gB :: gE :: (EB ++ E)) k v V (fun _ => nilS) L' (fun _ => []) ∧ ∀ j, j < k → (L' j).length = (L j).length) ∧ (∀ j, j < N → v.cell? ⟨gB, j, none⟩ = some (vbE L k j)) ∧ (∀ j, j < k → v.cell? ⟨gE, j, none⟩ = some (V j))) v.drew) := fun v ⟨h1, ⟨LB', g2, g3⟩, ⟨L', h2, h3⟩, g4, h4⟩ => ⟨h1.drew, ⟨LB', g2.stay fun _ _ _ _ => rfl, g3⟩, ⟨L', h2.stay fun _ _ _ _ => rfl, h3⟩, g4, h4⟩
        have HCb : Hid (∀ v, (fun v => Kp base (gb :: gB :: gE :: E) wr v ∧ (∃ LB', FamB base (gB :: gb :: gB :: gE :: (EV ++ E)) N v (vbE L k) (fun _ => nilS) LB' (fun _ => []) ∧ ∀ j, j < N → (LB' j).length = (lbE L k j).length) ∧ (∃ L', FamEntries base (gE :: gb :: gB :: gE :: (EB ++ E)) k v V (fun _ => nilS) L' (fun _ => []) ∧ ∀ j, j < k → (L' j).length = (L j).length) ∧ (∀ j, j < N → v.cell? ⟨gB, j, none⟩ = some (vbE L k j)) ∧ (∀ j, j < k → v.cell? ⟨gE, j, none⟩ = some (V j))) v → Box v gb (bagE (.slice (some ⟨gB, 0, none⟩) N c5) (.slice (some ⟨gE, 0, none⟩) k c8)) 100) := fun v ⟨h1, _⟩ => (h1.ext gb (by simp) hgbs).trans HX1.out
        have HCn : Hid (∀ v v', (fun v => Kp base (gb :: gB :: gE :: E) wr v ∧ (∃ LB', FamB base (gB :: gb :: gB :: gE :: (EV ++ E)) N v (vbE L k) (fun _ => nilS) LB' (fun _ => []) ∧ ∀ j, j < N → (LB' j).length = (lbE L k j).length) ∧ (∃ L', FamEntries base (gE :: gb :: gB :: gE :: (EB ++ E)) k v V (fun _ => nilS) L' (fun _ => []) ∧ ∀ j, j < k → (L' j).length = (L j).length) ∧ (∀ j, j < N → v.cell? ⟨gB, j, none⟩ = some (vbE L k j)) ∧ (∀ j, j < k → v.cell? ⟨gE, j, none⟩ = some (V j))) v → Below v.heap.size v v' → (fun v => Kp base (gb :: gB :: gE :: E) wr v ∧ (∃ LB', FamB base (gB :: gb :: gB :: gE :: (EV ++ E)) N v (vbE L k) (fun _ => nilS) LB' (fun _ => []) ∧ ∀ j, j < N → (LB' j).length = (lbE L k j).length) ∧ (∃ L', FamEntries base (gE :: gb :: gB :: gE :: (EB ++ E)) k v V (fun _ => nilS) L' (fun _ => []) ∧ ∀ j, j < k → (L' j).length = (L j).length) ∧ (∀ j, j < N → v.cell? ⟨gB, j, none⟩ = some (vbE L k j)) ∧ (∀ j, j < k → v.cell? ⟨gE, j, none⟩ = some (V j))) v') := fun v v' ⟨h1, ⟨LB', g2, g3⟩, ⟨L', h2, h3⟩, g4, h4⟩ hb =>
          ⟨h1.later hb (Nat.le_trans hbw h1.low.size), ⟨LB', g2.later hb, g3⟩, ⟨L', h2.later hb, h3⟩, fun j hj => (hb.cell (p := ⟨gB, j, none⟩) (Nat.lt_of_lt_of_le hB3 h1.low.size)).trans (g4 j hj), fun j hj => (hb.cell (p := ⟨gE, j, none⟩) (Nat.lt_of_lt_of_le hE2 h1.low.size)).trans (h4 j hj)⟩
        have HC5 : Hid (∀ v, (fun v => Kp base (gb :: gB :: gE :: E) wr v ∧ (∃ LB', FamB base (gB :: gb :: gB :: gE :: (EV ++ E)) N v (vbE L k) (fun _ => nilS) LB' (fun _ => []) ∧ ∀ j, j < N → (LB' j).length = (lbE L k j).length) ∧ (∃ L', FamEntries base (gE :: gb :: gB :: gE :: (EB ++ E)) k v V (fun _ => nilS) L' (fun _ => []) ∧ ∀ j, j < k → (L' j).length = (L j).length) ∧ (∀ j, j < N → v.cell? ⟨gB, j, none⟩ = some (vbE L k j)) ∧ (∀ j, j < k → v.cell? ⟨gE, j, none⟩ = some (V j))) v → Calls Tryz.prog 84 #[.slice (some ⟨gB, 0, none⟩) N c5] v (fun e w' => e = .returned (.bool true) ∧ (fun v => Kp base (gb :: gB :: gE :: E) wr v ∧ (∃ LB', FamB base (gB :: gb :: gB :: gE :: (EV ++ E)) N v (vbE L k) (fun _ => nilS) LB' (fun _ => []) ∧ ∀ j, j < N → (LB' j).length = (lbE L k j).length) ∧ (∃ L', FamEntries base (gE :: gb :: gB :: gE :: (EB ++ E)) k v V (fun _ => nilS) L' (fun _ => []) ∧ ∀ j, j < k → (L' j).length = (L j).length) ∧ (∀ j, j < N → v.cell? ⟨gB, j, none⟩ = some (vbE L k j)) ∧ (∀ j, j < k → v.cell? ⟨gE, j, none⟩ = some (V j))) w')) := fun v ⟨h1, ⟨LB', g2, g3⟩, ⟨L', h2, h3⟩, g4, h4⟩ =>
          (flatBytes base N (gb :: gB :: gE :: (EV ++ E)) (vbE L k) LB' gB 0 c5 v g2 (fun j hj => by rw [Nat.zero_add]; exact g4 j hj) (Nat.lt_of_lt_of_le hB3 h1.low.size) (by omega) (fun j hj => by rw [g3 j hj]; exact HLBN.out j hj) (Nat.le_trans hbw h1.low.size) (fun p hp => by
            simp only [List.mem_cons, List.mem_append] at hp
            rcases hp with rfl | rfl | rfl | hp | hp
            · exact Nat.lt_of_lt_of_le hgbs h1.low.size
            · exact Nat.lt_of_lt_of_le hB3 h1.low.size
            · exact Nat.lt_of_lt_of_le hE2 h1.low.size
            · exact Nat.lt_of_lt_of_le (HEV2.out p hp) (Nat.le_trans hsw h1.low.size)
            · exact Nat.lt_of_lt_of_le (HEX.out p hp) (Nat.le_trans hsw h1.low.size))).mono
            fun e w' ⟨he, k1, L2, k2, k3⟩ => ⟨he, ⟨h1.low.trans k1.low, fun p hp hs => (k1.ext p (by simp only [List.mem_cons, List.mem_append] at hp ⊢; rcases hp with h | h | h | h; exact .inl h; exact .inr (.inl h); exact .inr (.inr (.inl h)); exact .inr (.inr (.inr (.inr h)))) (Nat.lt_of_lt_of_le hs h1.low.size)).trans (h1.ext p hp hs)⟩, ⟨L2, k2, fun j hj => (k3 j hj).trans (g3 j hj)⟩,
              ⟨L', h2.stay fun j hj x hx => k1.ext x (by have := HEV.out j hj x (hx.resolve_right (hnn x)); simp [this]) (h2.lt hj hx).2, h3⟩,
              fun j hj => (World.cell?_of_block (a := ⟨gB, j, none⟩) (k1.ext gB (by simp) (Nat.lt_of_lt_of_le hB3 h1.low.size))).trans (g4 j hj), fun j hj => (World.cell?_of_block (a := ⟨gE, j, none⟩) (k1.ext gE (by simp) (Nat.lt_of_lt_of_le hE2 h1.low.size))).trans (h4 j hj)⟩
        have HC8 : Hid (∀ v, (fun v => Kp base (gb :: gB :: gE :: E) wr v ∧ (∃ LB', FamB base (gB :: gb :: gB :: gE :: (EV ++ E)) N v (vbE L k) (fun _ => nilS) LB' (fun _ => []) ∧ ∀ j, j < N → (LB' j).length = (lbE L k j).length) ∧ (∃ L', FamEntries base (gE :: gb :: gB :: gE :: (EB ++ E)) k v V (fun _ => nilS) L' (fun _ => []) ∧ ∀ j, j < k → (L' j).length = (L j).length) ∧ (∀ j, j < N → v.cell? ⟨gB, j, none⟩ = some (vbE L k j)) ∧ (∀ j, j < k → v.cell? ⟨gE, j, none⟩ = some (V j))) v → Calls Tryz.prog 87 #[.slice (some ⟨gE, 0, none⟩) k c8] v (fun e w' => e = .returned (.bool true) ∧ (fun v => Kp base (gb :: gB :: gE :: E) wr v ∧ (∃ LB', FamB base (gB :: gb :: gB :: gE :: (EV ++ E)) N v (vbE L k) (fun _ => nilS) LB' (fun _ => []) ∧ ∀ j, j < N → (LB' j).length = (lbE L k j).length) ∧ (∃ L', FamEntries base (gE :: gb :: gB :: gE :: (EB ++ E)) k v V (fun _ => nilS) L' (fun _ => []) ∧ ∀ j, j < k → (L' j).length = (L j).length) ∧ (∀ j, j < N → v.cell? ⟨gB, j, none⟩ = some (vbE L k j)) ∧ (∀ j, j < k → v.cell? ⟨gE, j, none⟩ = some (V j))) w')) := fun v ⟨h1, ⟨LB', g2, g3⟩, ⟨L', h2, h3⟩, g4, h4⟩ =>
          (flatEntries base k (gb :: gB :: gE :: (EB ++ E)) V L' gE 0 c8 v h2 (fun j hj => by rw [Nat.zero_add]; exact h4 j hj) (Nat.lt_of_lt_of_le hE2 h1.low.size) (by omega) (fun j hj => by rw [h3 j hj]; exact HL.out j hj) (Nat.le_trans hbw h1.low.size) (fun p hp => by
            simp only [List.mem_cons, List.mem_append] at hp
            rcases hp with rfl | rfl | rfl | hp | hp
            · exact Nat.lt_of_lt_of_le hgbs h1.low.size
            · exact Nat.lt_of_lt_of_le hB3 h1.low.size
            · exact Nat.lt_of_lt_of_le hE2 h1.low.size
            · exact Nat.lt_of_lt_of_le (HEB2.out p hp) (Nat.le_trans hsw h1.low.size)
            · exact Nat.lt_of_lt_of_le (HEX.out p hp) (Nat.le_trans hsw h1.low.size))).mono
            fun e w' ⟨he, k1, L2, k2, k3⟩ => ⟨he, ⟨h1.low.trans k1.low, fun p hp hs => (k1.ext p (by simp only [List.mem_cons, List.mem_append] at hp ⊢; rcases hp with h | h | h | h; exact .inl h; exact .inr (.inl h); exact .inr (.inr (.inl h)); exact .inr (.inr (.inr (.inr h)))) (Nat.lt_of_lt_of_le hs h1.low.size)).trans (h1.ext p hp hs)⟩,
              ⟨LB', g2.stay fun j hj x hx => k1.ext x (by have := HEBN.out j hj x (hx.resolve_right (hnn x)); simp [this]) (g2.lt hj hx).2, g3⟩,
              ⟨L2, k2, fun j hj => (k3 j hj).trans (h3 j hj)⟩,
              fun j hj => (World.cell?_of_block (a := ⟨gB, j, none⟩) (k1.ext gB (by simp) (Nat.lt_of_lt_of_le hB3 h1.low.size))).trans (g4 j hj), fun j hj => (World.cell?_of_block (a := ⟨gE, j, none⟩) (k1.ext gE (by simp) (Nat.lt_of_lt_of_le hE2 h1.low.size))).trans (h4 j hj)⟩
        have HAP := Lib.hid (bagApart gb (none, 0, 0) (none, 0, 0) (none, 0, 0) (none, 0, 0) (none, 0, 0) (some ⟨gB, 0, none⟩, N, c5) (none, 0, 0) (none, 0, 0) (some ⟨gE, 0, none⟩, k, c8) (none, 0, 0) (none, 0, 0) (none, 0, 0) (none, 0, 0) (none, 0, 0) (none, 0, 0) (fun v => Kp base (gb :: gB :: gE :: E) wr v ∧ (∃ LB', FamB base (gB :: gb :: gB :: gE :: (EV ++ E)) N v (vbE L k) (fun _ => nilS) LB' (fun _ => []) ∧ ∀ j, j < N → (LB' j).length = (lbE L k j).length) ∧ (∃ L', FamEntries base (gE :: gb :: gB :: gE :: (EB ++ E)) k v V (fun _ => nilS) L' (fun _ => []) ∧ ∀ j, j < k → (L' j).length = (L j).length) ∧ (∀ j, j < N → v.cell? ⟨gB, j, none⟩ = some (vbE L k j)) ∧ (∀ j, j < k → v.cell? ⟨gE, j, none⟩ = some (V j))) wr HC0.out HCd.out HCb.out (fun v hv => (flatLimbsNil v).mono fun e w' h => ⟨h.1, HCn.out v w' hv h.2⟩) (fun v hv => (flatWordsNil v).mono fun e w' h => ⟨h.1, HCn.out v w' hv h.2⟩) (fun v hv => (flatIntsNil v).mono fun e w' h => ⟨h.1, HCn.out v w' hv h.2⟩) (fun v hv => (flatLongsNil v).mono fun e w' h => ⟨h.1, HCn.out v w' hv h.2⟩) (fun v hv => (flatTextsNil v).mono fun e w' h => ⟨h.1, HCn.out v w' hv h.2⟩) HC5.out (fun v hv => (flatTruthsNil v).mono fun e w' h => ⟨h.1, HCn.out v w' hv h.2⟩) (fun v hv => (flatUnitsNil v).mono fun e w' h => ⟨h.1, HCn.out v w' hv h.2⟩) HC8.out (fun v hv => (flatIdentsNil v).mono fun e w' h => ⟨h.1, HCn.out v w' hv h.2⟩) (fun v hv => (flatMetasNil v).mono fun e w' h => ⟨h.1, HCn.out v w' hv h.2⟩) (fun v hv => (flatMarksNil v).mono fun e w' h => ⟨h.1, HCn.out v w' hv h.2⟩) (fun v hv => (flatSnapsNil v).mono fun e w' h => ⟨h.1, HCn.out v w' hv h.2⟩) (fun v hv => (flatShapesNil v).mono fun e w' h => ⟨h.1, HCn.out v w' hv h.2⟩) (fun v hv => (flatLettersNil v).mono fun e w' h => ⟨h.1, HCn.out v w' hv h.2⟩))
        clear hlk hgE hwE hE1 hgB hBE hn5 hB1 hB2 h5N
        go_wp2_with (go_at_call 53; (with_reducible refine HAP.out.mono ?_); rintro e w3 ⟨rfl, hk3, -⟩)
        go_ret
        exact ⟨rfl, ⟨(HB1.out.mono hbase).trans hk3.low, fun p hp hs => (hk3.ext p (by simp [hp]) (Nat.lt_of_lt_of_le hs HB1.out.size)).trans (HB1.out.block p hs)⟩⟩
end Go.Proofs.YtglkgmijhdkhpaaGreatDoor
