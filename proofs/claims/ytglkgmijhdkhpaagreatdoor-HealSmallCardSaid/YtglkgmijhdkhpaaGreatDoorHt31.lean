/-
  Merged: ApartRs2, HealTellsK.
-/
import Derived.Test.YtglkgmijhdkhpaaGreatDoorHt30
import Derived.Test.YtglkgmijhdkhpaaGreatDoorHt11
import Derived.Test.YtglkgmijhdkhpaaGreatDoorHt19
import Derived.Test.YtglkgmijhdkhpaaGreatDoorHt26
import Derived.Test.YtglkgmijhdkhpaaGreatDoorHt8
/-
  limpetkit's ApartEntries at lists that lie apart, whose bodies lie apart elsewhere: contract.
-/
set_option linter.unusedVariables false
set_option linter.unusedSimpArgs false
namespace Go.Proofs.YtglkgmijhdkhpaaGreatDoor
open Go.RowKit

theorem allE_at {L : Nat → List Ent} : ∀ {n p : Nat} {x : Ent}, (allE L n)[p]? = some x → ∃ i k, i < n ∧ (L i)[k]? = some x ∧ p = (allE L i).length + k := by
  intro n
  induction n with
  | zero => intro p x h; simp [allE] at h
  | succ n ih =>
    intro p x h
    simp only [allE] at h
    by_cases hp : p < (allE L n).length
    · rw [List.getElem?_append_left hp] at h
      obtain ⟨i, k, h1, h2, h3⟩ := ih h
      exact ⟨i, k, by omega, h2, h3⟩
    · rw [List.getElem?_append_right (by omega)] at h
      exact ⟨n, p - (allE L n).length, by omega, h, by omega⟩
theorem allE_len {L : Nat → List Ent} {K : Nat} : ∀ {n : Nat}, (∀ j, j < n → (L j).length ≤ K) → (allE L n).length ≤ n * K := by
  intro n
  induction n with
  | zero => intro _; simp [allE]
  | succ n ih =>
    intro h
    have h1 := ih fun j hj => h j (by omega)
    have h2 := h n (by omega)
    simp only [allE, List.length_append, Nat.succ_mul]; omega
theorem vbE_at {L : Nat → List Ent} {n p : Nat} {x : Ent} (h : (allE L n)[p]? = some x) : vbE L n p = x.bv ∧ lbE L n p = x.bd := by
  unfold vbE lbE; rw [h]; exact ⟨rfl, rfl⟩


theorem apartRs2 (base n : Nat) (A : Nat → Option Addr) (c : Nat → Nat) (m : Nat → List Ent) (zl zb : Nat → Nat) (go oo co : Nat) (w : World)
    (r : ∀ j, j < n → Own 4 entRow 54 base w (.slice (A j) (m j).length (c j)) (m j))
    (rb : ∀ j, j < n → ∃ q, BodFam base w q (m j))
    (hz : ∀ j, j < n → ∀ x, blkH (.slice (A j) (m j).length (c j)) = some x → zl j ≤ x ∧ x < zl (j + 1)) (hzm : ∀ i j, i ≤ j → zl i ≤ zl j)
    (hzb : ∀ j, j < n → ∀ (k : Nat) (y : Ent) (x : Nat), (m j)[k]? = some y → blkH y.bv = some x → zb j ≤ x ∧ x < zb (j + 1)) (hzbm : ∀ i j, i ≤ j → zb i ≤ zb j)
    (ho : ∀ j, j < n → w.cell? ⟨go, oo + j, none⟩ = some (.slice (A j) (m j).length (c j))) (hgo : go < w.heap.size) (hg2 : ∀ j, j < n → ∀ x, blkH (.slice (A j) (m j).length (c j)) = some x → x ≠ go) (hg3 : ∀ j, j < n → ∀ (k : Nat) (y : Ent) (x : Nat), (m j)[k]? = some y → blkH y.bv = some x → x ≠ go)
    (hn0 : 0 < n) (hn : n ≤ 20) (hL : ∀ j, j < n → (m j).length ≤ 2000) (hB : ∀ j, j < n → ∀ x ∈ m j, x.bd.length ≤ 100000) (hbase : base ≤ w.heap.size) :
    Calls Tryz.prog 25 #[.slice (some ⟨go, oo, none⟩) n co] w fun e w' => e = .returned (.bool true) ∧ Below base w w' := by
  have hN : (allE m n).length ≤ 40000 := by
    have := allE_len (L := m) (K := 2000) (n := n) hL
    have h2 : n * 2000 ≤ 20 * 2000 := Nat.mul_le_mul_right _ hn
    omega
  have hnn : ∀ x, ¬ blkH nilS = some x := fun x h => by rw [blkH_nil] at h; cases h
  obtain ⟨V, hV⟩ : ∃ V : Nat → Value, V = fun j => .slice (A j) (m j).length (c j) := ⟨_, rfl⟩
  have hVj : ∀ j, V j = .slice (A j) (m j).length (c j) := fun j => by rw [hV]
  -- a body, by its place
  have hbody : ∀ p, p < (allE m n).length → ∃ (i k : Nat) (x : Ent), i < n ∧ (m i)[k]? = some x ∧ p = (allE m i).length + k ∧ vbE m n p = x.bv ∧ lbE m n p = x.bd := fun p hp => by
    have hx : (allE m n)[p]? = some (allE m n)[p] := List.getElem?_eq_getElem hp
    obtain ⟨i, k, h1, h2, h3⟩ := allE_at hx
    exact ⟨i, k, _, h1, h2, h3, (vbE_at hx).1, (vbE_at hx).2⟩
  have hbo : ∀ i, i < n → ∀ (k : Nat) (x : Ent), (m i)[k]? = some x → Own 1 u8Row 5 base w x.bv x.bd := fun i hi k x hx => by obtain ⟨q, hq⟩ := rb i hi; exact hq.own k x hx
  obtain ⟨EV, hEV⟩ : ∃ EV : List Nat, EV = (List.range n).filterMap fun j => blkH (V j) := ⟨_, rfl⟩
  obtain ⟨EB, hEB⟩ : ∃ EB : List Nat, EB = (List.range (allE m n).length).filterMap fun p => blkH (vbE m n p) := ⟨_, rfl⟩
  have mEV : ∀ x, x ∈ EV ↔ ∃ j, j < n ∧ blkH (V j) = some x := fun x => by rw [hEV]; simp [List.mem_filterMap]
  have mEB : ∀ x, x ∈ EB ↔ ∃ p, p < (allE m n).length ∧ blkH (vbE m n p) = some x := fun x => by rw [hEB]; simp [List.mem_filterMap]
  -- lists and bodies are of unlike types
  have hunlike : ∀ j p x, j < n → p < (allE m n).length → blkH (V j) = some x → blkH (vbE m n p) ≠ some x := fun j p x hj hp h1 h2 => by
    obtain ⟨i, k, y, g1, g2, g3, g4, g5⟩ := hbody p hp
    rw [g4] at h2
    rw [hVj] at h1
    exact own_apart (r j hj) (hbo i g1 k y g2) (by decide) (blkH_own h1) (blkH_own h2)
  have hfE : FamEntries base (go :: (EB ++ [])) n w V (fun _ => nilS) m (fun _ => []) := by
    refine ⟨fun j hj => ?_, fun j hj => OwnH.nil_ _ _ _ _ _, fun j hj x _ h => (hnn x h).elim, fun i j hi hj hij x hx hx' => ?_, fun j hj x hx hm => ?_⟩
    · rw [hVj]; exact (r j hj).h
    · have h1 := hx.resolve_right (hnn x)
      have h2 := hx'.resolve_right (hnn x)
      rw [hVj] at h1 h2
      have h1 := hz i hi x h1
      have h2 := hz j hj x h2
      rcases Nat.lt_or_gt_of_ne hij with h | h
      · have := hzm (i + 1) j h; omega
      · have := hzm (j + 1) i h; omega
    · have h1 := hx.resolve_right (hnn x)
      rw [List.append_nil] at hm
      rcases List.mem_cons.1 hm with h | h
      · rw [hVj] at h1; exact hg2 j hj x h1 h
      · obtain ⟨p, hp, h2⟩ := (mEB x).1 h
        exact hunlike j p x hj hp h1 h2
  have hfB : FamB base (go :: (EV ++ [])) (allE m n).length w (vbE m n) (fun _ => nilS) (lbE m n) (fun _ => []) := by
    refine ⟨fun p hp => ?_, fun j hj => OwnH.nil_ _ _ _ _ _, fun j hj x _ h => (hnn x h).elim, fun p q hp hq hpq x hx hx' => ?_, fun p hp x hx hm => ?_⟩
    · obtain ⟨i, k, y, h1, h2, h3, h4, h5⟩ := hbody p hp
      rw [h4, h5]; exact (hbo i h1 k y h2).h
    · have h1 := hx.resolve_right (hnn x)
      have h2 := hx'.resolve_right (hnn x)
      obtain ⟨i, k, y, a1, a2, a3, a4, a5⟩ := hbody p hp
      obtain ⟨j, k', y', b1, b2, b3, b4, b5⟩ := hbody q hq
      rw [a4] at h1; rw [b4] at h2
      by_cases hij : i = j
      · subst hij
        obtain ⟨q9, hq9⟩ := rb i a1
        exact hq9.far k k' y y' (fun he => hpq (by rw [a3, b3, he])) a2 b2 x h1 h2
      · have g1 := hzb i a1 k y x a2 h1
        have g2 := hzb j b1 k' y' x b2 h2
        rcases Nat.lt_or_gt_of_ne hij with h | h
        · have := hzbm (i + 1) j h; omega
        · have := hzbm (j + 1) i h; omega
    · have h1 := hx.resolve_right (hnn x)
      rw [List.append_nil] at hm
      rcases List.mem_cons.1 hm with h | h
      · obtain ⟨i, k, y, a1, a2, a3, a4, a5⟩ := hbody p hp
        rw [a4] at h1
        exact hg3 i a1 k y x a2 h1 h
      · obtain ⟨j, hj, h2⟩ := (mEV x).1 h
        exact hunlike j p x hj hp h2 h1
  refine (apartEntries base n EV EB [] V m go oo co w hfE hfB (fun j hj x hx => (mEV x).2 ⟨j, hj, hx⟩) (fun p hp x hx => (mEB x).2 ⟨p, hp, hx⟩) (fun x hx => ?_) (fun x hx => ?_) (fun j hj => by rw [hVj]; exact ho j hj) hgo hn0 (by omega) (by omega) (fun j hj => by have := hL j hj; omega) (fun p hp => ?_) hbase (fun p hp => by simp at hp)).mono fun e w' h => ⟨h.1, h.2.low⟩
  · obtain ⟨j, hj, h⟩ := (mEV x).1 hx
    rw [hVj] at h
    exact ((r j hj).block (blkH_own h)).2
  · obtain ⟨p, hp, h⟩ := (mEB x).1 hx
    obtain ⟨i, k, y, a1, a2, a3, a4, a5⟩ := hbody p hp
    rw [a4] at h
    exact ((hbo i a1 k y a2).block (blkH_own h)).2
  · obtain ⟨i, k, y, h1, h2, h3, h4, h5⟩ := hbody p hp
    rw [h5]; exact hB i h1 y (List.mem_of_getElem? h2)
end Go.Proofs.YtglkgmijhdkhpaaGreatDoor
/-
  HealTells' lemmas: what was given, taken stays; calls of ApartIdents and ApartEntries at two lists.
-/
set_option linter.unusedVariables false
set_option linter.unusedSimpArgs false
namespace Go.Proofs.YtglkgmijhdkhpaaGreatDoor
open Go.RowKit

theorem give_key3 {l lm : List Rec} {want : List Idt} {most : Int} (h : lm.map nrmR = l.map nrmR) : (giveV lm want most).map nrmR = (giveV l want most).map nrmR := by rw [← give_nrm, h, give_nrm]
theorem take_key3 {l lm : List Rec} {rot : List Idt} (h : lm.map nrmR = l.map nrmR) : (takeV rot lm).map nrmR = (takeV rot l).map nrmR := by rw [← take_nrm, h, take_nrm]
theorem left_key3 {l lm : List Rec} {rot : List Idt} (h : lm.map nrmR = l.map nrmR) : leftV rot lm = leftV rot l := by rw [← left_nrm rot lm, h, left_nrm]
theorem OwnHC.later {α : Type} {k : Nat} {row : α → List Value} {e : TypeId} {base : Nat} {w w' : World} {v : Value} {l : List α} (h : OwnHC k row e base w v l) (hb : Below w.heap.size w w') : OwnHC k row e base w' v l := h.stay fun x hx => hb.block x (h.block hx).2
/-- What Wants tells: owned, but cut. -/
theorem wants_own {B c : Nat} {A : Option Addr} {w : World} {rot : List Idt} {many : Int} (h : Own 3 idRow 42 B w (.slice A (wantsV rot).length c) (wantsV rot)) : OwnHC 3 idRow 42 B w (.slice A (WantsV rot many).length (WantsV rot many).length) (WantsV rot many) := by
  have hl : (WantsV rot many).length ≤ (wantsV rot).length := by unfold WantsV; rw [List.length_take]; omega
  have hs : wantsV rot = WantsV rot many ++ (wantsV rot).drop (min (((wantsV rot).length : Int)) (max many 0)).toNat := (List.take_append_drop _ _).symm
  by_cases h0 : wantsV rot = []
  · have h1 : WantsV rot many = [] := by unfold WantsV; rw [h0]; exact List.take_nil
    rw [h1]; exact OwnHC.hollow _ _ _ _ _ _
  · obtain ⟨g, cap, hv, -⟩ := h.place h0
    simp only [Value.slice.injEq, true_and] at hv
    obtain ⟨rfl, rfl⟩ := hv
    have hr := h.room_
    refine .inl (Own.cut idRow_length (n := (wantsV rot).length) (room := c) (r := (wantsV rot).drop (min (((wantsV rot).length : Int)) (max many 0)).toNat) ?_ rfl (Nat.le_refl _) (by omega))
    rw [← hs]; exact h
theorem RecRs.keep {B : Nat} {w w' : World} {v : Value} {ls m : List Rec} (h : RecRs B w v ls m) (hb : ∀ x, B ≤ x → x < w.heap.size → w'.heap[x]? = w.heap[x]?) : RecRs B w' v ls m :=
  ⟨h.key, h.own.stay (fun x hx => hb x (h.own.block hx).1 (h.own.block hx).2), h.bod.stay (fun i x hx q hq => hb q ((h.bod.own i x hx).block hq).1 ((h.bod.own i x hx).block hq).2) h.bod.out⟩
theorem RecRs.bytes {B : Nat} {w : World} {v : Value} {ls m : List Rec} (h : RecRs B w v ls m) : ∀ x ∈ m, Sl 1 u8Row w.heap.size w x.e.bv x.e.bd := fun x hx => by
  obtain ⟨i, hi⟩ := List.mem_iff_getElem?.1 hx
  exact (h.bod.own i x.e (by rw [List.getElem?_map, hi]; rfl)).sl u8Row_length
theorem RecRs.zone {B : Nat} {w : World} {v : Value} {ls m : List Rec} (h : RecRs B w v ls m) : ∀ (k : Nat) (y : Ent) (x : Nat), (m.map Rec.e)[k]? = some y → blkH y.bv = some x → B ≤ x ∧ x < w.heap.size := fun k y x hy hx => h.bod.lt hy hx
theorem BodFam.less {B B' : Nat} {w : World} {q : Option Nat} {m : List Ent} (h : BodFam B w q m) (hb : B' ≤ B) : BodFam B' w q m := ⟨fun i x hx => (h.own i x hx).less hb, h.far, h.out⟩

set_option maxRecDepth 100000 in
set_option maxHeartbeats 1000000 in
theorem tellsApartI (B : Nat) (E : List Nat) (la lb : List Idt) (va vb : Value) (V : World) (ha : OwnHC 3 idRow 42 B V va la) (hb : OwnHC 3 idRow 42 B V vb lb) (hne : ∀ x, blkH va = some x → blkH vb ≠ some x) (h1 : ∀ x, blkH va = some x → x ∉ E) (h2 : ∀ x, blkH vb = some x → x ∉ E) (hE : ∀ p, p ∈ E → p < V.heap.size) (hB : B ≤ V.heap.size) (la1 : la.length ≤ 100000) (lb1 : lb.length ≤ 100000) :
    Calls Tryz.prog 24 #[.slice (some ⟨V.heap.size, 0, none⟩) 2 2] (V.alloc (.cells #[va, vb] 22)) fun e w' => e = .returned (.bool true) ∧ Kp B E V w' := by
  have hbn := below_new V (.cells #[va, vb] 22)
  have hf := ((famsC2 (out := E) ha hb hne h1 h2).more (p := V.heap.size) (Nat.le_refl _)).later hbn
  refine (apartIdents B 2 E _ _ V.heap.size 0 2 _ hf (fun j hj => ?_) (by simp) (by omega) (by omega) (fun j hj => ?_) (by simp; omega) (fun p hp => by have := hE p hp; simp; omega)).mono fun e w' h => ⟨h.1, (hbn.mono hB).trans h.2.low, fun p hp hs => (h.2.ext p hp (Nat.lt_of_lt_of_le hs hbn.size)).trans (hbn.block p hs)⟩
  · rcases (by omega : j = 0 ∨ j = 1) with rfl | rfl <;> (rw [World.cell?_alloc_new]; rfl)
  · rcases (by omega : j = 0 ∨ j = 1) with rfl | rfl
    · exact la1
    · exact lb1

def threeZ (a b c : Nat) : Nat → Nat := fun j => if j = 0 then a else if j = 1 then b else c
theorem threeZ_mono {a b c : Nat} (h1 : a ≤ b) (h2 : b ≤ c) : ∀ i j, i ≤ j → threeZ a b c i ≤ threeZ a b c j := fun i j hij => by
  unfold threeZ
  by_cases i0 : i = 0 <;> by_cases j0 : j = 0 <;> by_cases i1 : i = 1 <;> by_cases j1 : j = 1 <;> simp [i0, j0, i1, j1] <;> omega
set_option maxRecDepth 100000 in
set_option maxHeartbeats 1000000 in
theorem tellsApartE (B z0 z1 z2 y0 y1 y2 : Nat) (g t : List Ent) (A1 A2 : Option Addr) (n1 c1 n2 c2 : Nat) (V : World) (e1 : n1 = g.length) (e2 : n2 = t.length) (o1 : Own 4 entRow 54 B V (.slice A1 n1 c1) g) (o2 : Own 4 entRow 54 B V (.slice A2 n2 c2) t)
    (b1 : ∃ q, BodFam B V q g) (b2 : ∃ q, BodFam B V q t) (hz1 : ∀ x, blkH (.slice A1 n1 c1) = some x → z0 ≤ x ∧ x < z1) (hz2 : ∀ x, blkH (.slice A2 n2 c2) = some x → z1 ≤ x ∧ x < z2) (z01 : z0 ≤ z1) (z12 : z1 ≤ z2) (z2V : z2 ≤ V.heap.size)
    (hy1 : ∀ (k : Nat) (y : Ent) (x : Nat), g[k]? = some y → blkH y.bv = some x → y0 ≤ x ∧ x < y1) (hy2 : ∀ (k : Nat) (y : Ent) (x : Nat), t[k]? = some y → blkH y.bv = some x → y1 ≤ x ∧ x < y2) (y01 : y0 ≤ y1) (y12 : y1 ≤ y2) (y2V : y2 ≤ V.heap.size)
    (hl1 : g.length ≤ 2000) (hl2 : t.length ≤ 2000) (hb1 : ∀ x ∈ g, x.bd.length ≤ 100000) (hb2 : ∀ x ∈ t, x.bd.length ≤ 100000) (hB : B ≤ V.heap.size) :
    Calls Tryz.prog 25 #[.slice (some ⟨V.heap.size, 0, none⟩) 2 2] (V.alloc (.cells #[.slice A1 n1 c1, .slice A2 n2 c2] 48)) fun e w' => e = .returned (.bool true) ∧ Below B V w' := by
  subst e1; subst e2
  have hbn := below_new V (.cells #[.slice A1 g.length c1, .slice A2 t.length c2] 48)
  obtain ⟨q1, b1⟩ := b1
  obtain ⟨q2, b2⟩ := b2
  have hst : ∀ (q : Option Nat) (m : List Ent), BodFam B V q m → BodFam B (V.alloc (.cells #[.slice A1 g.length c1, .slice A2 t.length c2] 48)) q m := fun q m h => h.stay (fun i x hx p hp => hbn.block p ((h.own i x hx).block hp).2) h.out
  refine (apartRs2 B 2 (twoC A1 A2) (twoC c1 c2) (twoC g t) (threeZ z0 z1 z2) (threeZ y0 y1 y2) V.heap.size 0 2 _ (fun j hj => ?_) (fun j hj => ?_) (fun j hj x hx => ?_) (threeZ_mono z01 z12) (fun j hj k y x hy hx => ?_) (threeZ_mono y01 y12) (fun j hj => ?_) (by simp) (fun j hj x hx => ?_) (fun j hj k y x hy hx => ?_) (by omega) (by omega) (fun j hj => ?_) (fun j hj x hx => ?_) (by simp; omega)).mono fun e w' h => ⟨h.1, (hbn.mono hB).trans h.2⟩
  · rcases (by omega : j = 0 ∨ j = 1) with rfl | rfl
    · exact o1.later hbn
    · exact o2.later hbn
  · rcases (by omega : j = 0 ∨ j = 1) with rfl | rfl
    · exact ⟨q1, hst q1 g b1⟩
    · exact ⟨q2, hst q2 t b2⟩
  · rcases (by omega : j = 0 ∨ j = 1) with rfl | rfl
    · exact hz1 x hx
    · exact hz2 x hx
  · rcases (by omega : j = 0 ∨ j = 1) with rfl | rfl
    · exact hy1 k y x hy hx
    · exact hy2 k y x hy hx
  · rcases (by omega : j = 0 ∨ j = 1) with rfl | rfl <;> (rw [World.cell?_alloc_new]; rfl)
  · rcases (by omega : j = 0 ∨ j = 1) with rfl | rfl
    · have := hz1 x hx; omega
    · have := hz2 x hx; omega
  · rcases (by omega : j = 0 ∨ j = 1) with rfl | rfl
    · have := hy1 k y x hy hx; omega
    · have := hy2 k y x hy hx; omega
  · rcases (by omega : j = 0 ∨ j = 1) with rfl | rfl
    · exact hl1
    · exact hl2
  · rcases (by omega : j = 0 ∨ j = 1) with rfl | rfl
    · exact hb1 x hx
    · exact hb2 x hx
end Go.Proofs.YtglkgmijhdkhpaaGreatDoor
