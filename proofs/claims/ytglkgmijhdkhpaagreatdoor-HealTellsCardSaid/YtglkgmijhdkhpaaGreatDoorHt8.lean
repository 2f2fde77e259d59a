/-
  Merged: HealAllMath, HealMath3.
-/
import Derived.Test.YtglkgmijhdkhpaaGreatDoorHt4
/-
  TURN BY TURN ALL IS HEALED: plain Lean, no program.
-/
set_option linter.unusedVariables false
namespace Go.Proofs.YtglkgmijhdkhpaaGreatDoor

/-- A log, as records. -/
def logV : Idt → List Ent → List Rec
  | _, [] => []
  | p, x :: l => ⟨x, p⟩ :: logV (ofE x) l
def prevI (l : List Ent) (k : Nat) : Idt := if k = 0 then zI0 else ((l[k - 1]?).map ofE).getD zI0
theorem logV_at : ∀ {l : List Ent} {p : Idt} {k : Nat} {x : Ent}, l[k]? = some x → (logV p l)[k]? = some ⟨x, if k = 0 then p else ((l[k - 1]?).map ofE).getD zI0⟩ := by
  intro l
  induction l with
  | nil => intro p k x h; simp at h
  | cons y l ih =>
    intro p k x h
    cases k with
    | zero => simp at h; subst h; simp [logV]
    | succ k =>
      have := ih (p := ofE y) (k := k) (x := x) (by simpa using h)
      simp only [logV, List.getElem?_cons_succ, this, Nat.add_sub_cancel, if_neg (Nat.succ_ne_zero k)]
      cases k with
      | zero => simp
      | succ k => simp
theorem logV_length : ∀ (l : List Ent) (p : Idt), (logV p l).length = l.length := by
  intro l
  induction l with
  | nil => intro p; rfl
  | cons y l ih => intro p; simp [logV, ih]
/-- A log that follows nothing. -/
structure LogI (l : List Ent) : Prop where
  idx : ∀ (k : Nat) (x : Ent), l[k]? = some x → x.idx = (k : Int) + 1
  good : ∀ (k : Nat) (x : Ent), l[k]? = some x → goodE x = true
  trm : ∀ (k : Nat) (x y : Ent), l[k]? = some x → l[k + 1]? = some y → x.trm ≤ y.trm
  first : ∀ x, l[0]? = some x → 0 ≤ x.trm
theorem log_steps : ∀ {l : List Ent} {p : Idt}, folE p l = 0 → ∀ (k : Nat) (x : Ent), l[k]? = some x → x.idx = p.idx + (k : Int) + 1 ∧ goodE x = true ∧ (if k = 0 then p.trm else (((l[k - 1]?).map Ent.trm).getD 0)) ≤ x.trm := by
  intro l
  induction l with
  | nil => intro p _ k x h; simp at h
  | cons y l ih =>
    intro p h k x hx
    unfold folE at h
    have hs : stepE p y = 0 := by
      by_cases g : stepE p y = 0
      · exact g
      · simp [g] at h
    have hf : folE (ofE y) l = 0 := by simpa [hs] using h
    unfold stepE at hs
    split at hs
    · omega
    · rename_i hg
      split at hs
      · omega
      · rename_i hn
        cases k with
        | zero =>
          simp at hx; subst hx
          have hg' : goodE y = true := by cases h1 : goodE y with | true => rfl | false => exact absurd h1 hg
          exact ⟨by push_cast; omega, hg', by simp; omega⟩
        | succ k =>
          have hx' : l[k]? = some x := by simpa using hx
          obtain ⟨a1, a2, a3⟩ := ih hf k x hx'
          refine ⟨by have : (ofE y).idx = y.idx := rfl; push_cast; omega, a2, ?_⟩
          rw [if_neg (Nat.succ_ne_zero k), Nat.add_sub_cancel]
          cases k with
          | zero => simpa [ofE] using a3
          | succ k => simpa using a3
theorem log_of {l : List Ent} (h : folE zI0 l = 0) : LogI l := by
  have hs := log_steps h
  refine ⟨fun k x hx => by have := (hs k x hx).1; have h0 : zI0.idx = 0 := rfl; omega, fun k x hx => (hs k x hx).2.1, fun k x y hx hy => ?_, fun x hx => ?_⟩
  · have := (hs (k + 1) y hy).2.2
    simpa [hx] using this
  · have := (hs 0 x hx).2.2
    simpa [zI0] using this
theorem goodE_bounds {x : Ent} (h : goodE x = true) : 1 ≤ x.idx ∧ 1 ≤ x.knd ∧ x.knd ≤ 3 ∧ 0 ≤ x.trm := by
  simp only [goodE, rangeE, Bool.and_eq_true, decide_eq_true_eq] at h
  obtain ⟨h, -⟩ := h
  omega
section
variable {l : List Ent} (hL : LogI l)
include hL
theorem LogI.reco {k : Nat} {x : Ent} (hx : l[k]? = some x) : goodR ⟨x, prevI l k⟩ = true ∧ (logV zI0 l)[k]? = some ⟨x, prevI l k⟩ ∧ (prevI l k).idx = (k : Int) := by
  have hi := hL.idx k x hx
  have hg := hL.good k x hx
  have hb := goodE_bounds hg
  refine ⟨?_, logV_at hx, ?_⟩
  · unfold goodR
    simp only [hg, Bool.true_and]
    cases k with
    | zero =>
      have h0 : prevI l 0 = zI0 := by simp [prevI]
      rw [h0]
      have e : eqI zI0 zI0 = true := eqI_iff.2 rfl
      simp only [e, Bool.or_true, Bool.and_true, Bool.and_eq_true, decide_eq_true_eq]
      constructor
      · show (0 : Int) = x.idx - 1; omega
      · show (0 : Int) ≤ x.trm; omega
    | succ k =>
      obtain ⟨y, hy⟩ : ∃ y, l[k]? = some y := ⟨_, List.getElem?_eq_getElem (by have := (List.getElem?_eq_some_iff.1 hx).1; omega)⟩
      have h0 : prevI l (k + 1) = ofE y := by simp [prevI, hy]
      have h1 := hL.idx k y hy
      have h2 := hL.trm k y x hy hx
      rw [h0]
      simp only [Bool.and_eq_true, Bool.or_eq_true, decide_eq_true_eq]
      refine ⟨⟨?_, h2⟩, .inl ?_⟩
      · show y.idx = x.idx - 1; push_cast at hi; omega
      · push_cast at hi; omega
  · cases k with
    | zero => simp [prevI, zI0]
    | succ k =>
      obtain ⟨y, hy⟩ : ∃ y, l[k]? = some y := ⟨_, List.getElem?_eq_getElem (by have := (List.getElem?_eq_some_iff.1 hx).1; omega)⟩
      have h1 := hL.idx k y hy
      simp [prevI, hy, ofE]; omega
/-- The record of an index. -/
theorem LogI.find {k : Nat} {x : Ent} (hx : l[k]? = some x) : (logV zI0 l).find? (fitR (ofE x)) = some ⟨x, prevI l k⟩ := by
  obtain ⟨h1, h2, -⟩ := hL.reco hx
  obtain ⟨hl2, he2⟩ := List.getElem?_eq_some_iff.1 h2
  rw [List.find?_eq_some_iff_getElem]
  refine ⟨by simp [fitR, h1, eqI_iff.2 rfl], k, hl2, he2, fun j hj => ?_⟩
  obtain ⟨y, hy⟩ : ∃ y, l[j]? = some y := ⟨_, List.getElem?_eq_getElem (by have := (List.getElem?_eq_some_iff.1 hx).1; omega)⟩
  obtain ⟨-, h4, -⟩ := hL.reco hy
  obtain ⟨hl4, he4⟩ := List.getElem?_eq_some_iff.1 h4
  rw [he4]
  have e1 := hL.idx j y hy
  have e2 := hL.idx k x hx
  have : eqI (ofE y) (ofE x) = false := by
    cases h : eqI (ofE y) (ofE x) with
    | false => rfl
    | true => have := congrArg Idt.idx (eqI_iff.1 h); simp [ofE] at this; omega
  simp [fitR, this]
end

/-- What is rotten: the identities of some of a log's entries, each known, or the one behind is rotten too. -/
structure RotI (b : Nat → Bool) (l : List Ent) (rot : List Idt) : Prop where
  ris : RisI rot
  each : ∀ p ∈ rot, ∃ k x, l[k]? = some x ∧ b k = true ∧ p.idx = (k : Int) + 1 ∧ (p.knd ≠ 0 → p = ofE x)
  next : ∀ p ∈ rot, p.knd = 0 → ∃ q ∈ rot, q.idx = p.idx + 1
theorem ris_inj {l : List Idt} (h : RisI l) {p q : Idt} (hp : p ∈ l) (hq : q ∈ l) (he : p.idx = q.idx) : p = q := by
  obtain ⟨i, hi⟩ := List.getElem?_of_mem hp
  obtain ⟨j, hj⟩ := List.getElem?_of_mem hq
  obtain ⟨hi1, rfl⟩ := List.getElem?_eq_some_iff.1 hi
  obtain ⟨hj1, rfl⟩ := List.getElem?_eq_some_iff.1 hj
  have hp := List.pairwise_iff_getElem.1 h
  rcases Nat.lt_trichotomy i j with g | g | g
  · have := hp i j hi1 hj1 g; omega
  · subst g; rfl
  · have := hp j i hj1 hi1 g; omega
theorem wants_filter {rot : List Idt} (h : RisI rot) : wantsV rot = rot.filter knownI := by
  obtain ⟨b1, b2⟩ := wants_ris rot
  have hf : RisI (rot.filter knownI) := h.sublist List.filter_sublist
  refine risI_ext b1 hf fun x => ?_
  rw [b2]
  unfold FstI
  constructor
  · exact fun h => List.mem_of_find?_eq_some h
  · intro hx
    cases hq : (rot.filter knownI).find? (fun p => decide (p.idx = x.idx)) with
    | none =>
      rw [List.find?_eq_none] at hq
      exact absurd (hq x hx) (by simp)
    | some z =>
      have h1 := List.find?_some hq
      simp at h1
      rw [ris_inj hf (List.mem_of_find?_eq_some hq) hx h1]
def WantsV (rot : List Idt) (many : Int) : List Idt := (wantsV rot).take (min (((wantsV rot).length : Int)) (max many 0)).toNat
theorem give_map {l : List Rec} {f : Idt → Rec} {most : Int} : ∀ (want : List Idt) (out : List Rec), (∀ p ∈ want, l.find? (fitR p) = some (f p)) → ((out.length + want.length : Nat) : Int) ≤ most → want.foldl (giveS l most) out = out ++ want.map f := by
  intro want
  induction want with
  | nil => intro out _ _; simp
  | cons p want ih =>
    intro out h1 h2
    simp only [List.length_cons] at h2
    rw [List.foldl_cons]
    have e : giveS l most out p = out ++ [f p] := by
      unfold giveS
      rw [if_pos (by omega), h1 p (by simp)]
    rw [e, ih _ (fun q hq => h1 q (by simp [hq])) (by simp; omega)]
    simp
theorem give_none {l : List Rec} {most : Int} : ∀ (want : List Idt) (out : List Rec), (∀ p ∈ want, l.find? (fitR p) = none) → want.foldl (giveS l most) out = out := by
  intro want
  induction want with
  | nil => intro out _; rfl
  | cons p want ih =>
    intro out h1
    rw [List.foldl_cons]
    have e : giveS l most out p = out := by
      unfold giveS
      split
      · rw [h1 p (by simp)]
      · rfl
    rw [e]; exact ih _ fun q hq => h1 q (by simp [hq])

structure TurnOk (b : Nat → Bool) (l : List Ent) (rot : List Idt) (many : Int) (want : List Idt) (got took : List Rec) (left : List Idt) : Prop where
  some_ : want ≠ []
  few : (want.length : Int) ≤ many
  took_len : took.length = want.length
  got_len : got.length = want.length
  each : ∀ r ∈ took, ∃ k : Nat, l[k]? = some r.e ∧ r.e.idx = (k : Int) + 1 ∧ b k = true
  left_len : left.length + took.length = rot.length
  rot : RotI b l left
theorem heal_turn {b : Nat → Bool} {l : List Ent} {rot : List Idt} {many : Int} (hL : LogI l) (hR : RotI b l rot) (hne : rot ≠ []) (hm : 1 ≤ many) :
    TurnOk b l rot many (WantsV rot many) (giveV (logV zI0 l) (WantsV rot many) many) (takeV rot (giveV (logV zI0 l) (WantsV rot many) many)) (leftV rot (takeV rot (giveV (logV zI0 l) (WantsV rot many) many))) := by
  have hW := wants_filter hR.ris
  have hWr : RisI (wantsV rot) := (wants_ris rot).1
  -- what is known
  have hknown : ∀ p ∈ wantsV rot, p ∈ rot ∧ ∃ k x, l[k]? = some x ∧ b k = true ∧ p.idx = (k : Int) + 1 ∧ p = ofE x := by
    intro p hp
    rw [hW, List.mem_filter] at hp
    obtain ⟨k, x, h1, h2, h3, h4⟩ := hR.each p hp.1
    refine ⟨hp.1, k, x, h1, h2, h3, h4 ?_⟩
    have := hp.2
    simp only [knownI, Bool.and_eq_true, decide_eq_true_eq] at this
    omega
  have hlast : wantsV rot ≠ [] := by
    have hl := List.getLast_mem hne
    have hmax : ∀ q ∈ rot, q.idx ≤ (rot.getLast hne).idx := by
      intro q hq
      obtain ⟨i, hi⟩ := List.getElem?_of_mem hq
      obtain ⟨hi1, rfl⟩ := List.getElem?_eq_some_iff.1 hi
      rw [List.getLast_eq_getElem]
      rcases Nat.lt_or_ge i (rot.length - 1) with g | g
      · exact Int.le_of_lt (List.pairwise_iff_getElem.1 hR.ris i _ hi1 (by omega) g)
      · have : i = rot.length - 1 := by omega
        subst this; exact Int.le_refl _
    have hk : (rot.getLast hne).knd ≠ 0 := by
      intro h0
      obtain ⟨q, hq, he⟩ := hR.next _ hl h0
      have := hmax q hq; omega
    obtain ⟨k, x, h1, h2, h3, h4⟩ := hR.each _ hl
    have hb := goodE_bounds (hL.good k x h1)
    have e := h4 hk
    intro h0
    have : rot.getLast hne ∈ wantsV rot := by
      rw [hW, List.mem_filter]
      refine ⟨hl, ?_⟩
      have hki : knownI (ofE x) = true := by
        simp only [knownI, Bool.and_eq_true, decide_eq_true_eq]
        show (0 < x.idx ∧ 1 ≤ x.knd) ∧ x.knd ≤ 3
        omega
      rw [e]; exact hki
    rw [h0] at this; simp at this
  obtain ⟨n, hn⟩ : ∃ n, (min (((wantsV rot).length : Int)) (max many 0)).toNat = n := ⟨_, rfl⟩
  have hwl : 0 < (wantsV rot).length := List.length_pos_iff.2 hlast
  have hn1 : 0 < n ∧ n ≤ (wantsV rot).length ∧ (n : Int) ≤ many := by omega
  have hwant : WantsV rot many = (wantsV rot).take n := by unfold WantsV; rw [hn]
  rw [hwant]
  have hlen : ((wantsV rot).take n).length = n := by rw [List.length_take]; omega
  have hsub : ∀ p ∈ (wantsV rot).take n, p ∈ wantsV rot := fun p hp => List.mem_of_mem_take hp
  obtain ⟨f, hf⟩ : ∃ f : Idt → Rec, ∀ p ∈ wantsV rot, ∃ k x, l[k]? = some x ∧ b k = true ∧ p.idx = (k : Int) + 1 ∧ p = ofE x ∧ f p = ⟨x, prevI l k⟩ := by
    refine ⟨fun p => match l[(p.idx - 1).toNat]? with | some x => ⟨x, prevI l (p.idx - 1).toNat⟩ | none => ⟨⟨0, 0, 0, none, 0, []⟩, zI0⟩, fun p hp => ?_⟩
    obtain ⟨-, k, x, h1, h2, h3, h4⟩ := hknown p hp
    have hk : (p.idx - 1).toNat = k := by omega
    exact ⟨k, x, h1, h2, h3, h4, by simp only [hk, h1]⟩
  have hgot : giveV (logV zI0 l) ((wantsV rot).take n) many = ((wantsV rot).take n).map f := by
    have := give_map (l := logV zI0 l) (f := f) (most := many) ((wantsV rot).take n) [] (fun p hp => ?_) (by simp only [List.length_nil, Nat.zero_add, hlen]; exact hn1.2.2)
    · simpa [giveV] using this
    · obtain ⟨k, x, h1, h2, h3, h4, h5⟩ := hf p (hsub p hp)
      rw [h5, h4]; exact hL.find h1
  have hfit : ∀ p ∈ wantsV rot, fitR p (f p) = true ∧ (f p).e.idx = p.idx ∧ (f p).a.idx = p.idx - 1 := by
    intro p hp
    obtain ⟨k, x, h1, h2, h3, h4, h5⟩ := hf p hp
    obtain ⟨r1, -, r3⟩ := hL.reco h1
    rw [h5]
    refine ⟨by simp only [fitR, r1, Bool.true_and]; exact eqI_iff.2 h4.symm, ?_, by show (prevI l k).idx = _; rw [r3, h3]; omega⟩
    rw [h4]; rfl
  have hfe : ∀ p q, p ∈ wantsV rot → q ∈ wantsV rot → fitR p (f q) = true → p = q := by
    intro p q hp hq h
    unfold fitR at h
    rw [Bool.and_eq_true, eqI_iff] at h
    have h1 := congrArg Idt.idx h.2
    have h2 := (hfit q hq).2.1
    simp only [ofE] at h1
    exact ris_inj hWr hp hq (by omega)
  have hsplit : wantsV rot = (wantsV rot).take n ++ (wantsV rot).drop n := (List.take_append_drop n _).symm
  have htook : takeV rot (((wantsV rot).take n).map f) = ((wantsV rot).take n).map f := by
    unfold takeV giveV
    have hwl2 := wants_len rot
    have hfold : ∀ (g : List Rec → Idt → List Rec), (wantsV rot).foldl g [] = ((wantsV rot).drop n).foldl g (((wantsV rot).take n).foldl g []) := fun g => by rw [← List.foldl_append, List.take_append_drop]
    rw [hfold, give_map (f := f) ((wantsV rot).take n) [] (fun p hp => ?_) (by simp only [List.length_nil, Nat.zero_add, hlen]; omega)]
    · rw [List.nil_append]
      refine give_none _ _ fun p hp => ?_
      rw [List.find?_eq_none]
      intro r hr hfr
      obtain ⟨q, hq, rfl⟩ := List.mem_map.1 hr
      have hpw : p ∈ wantsV rot := List.mem_of_mem_drop hp
      have := hfe p q hpw (hsub q hq) hfr
      subst this
      have hnd : RisI ((wantsV rot).take n ++ (wantsV rot).drop n) := by rw [← hsplit]; exact hWr
      have := (List.pairwise_append.1 hnd).2.2 p hq p hp
      omega
    · rw [List.find?_map]
      have : ((wantsV rot).take n).find? (fitR p ∘ f) = some p := by
        rw [List.find?_eq_some_iff_getElem]
        obtain ⟨i, hi⟩ := List.getElem?_of_mem hp
        obtain ⟨hi1, hi2⟩ := List.getElem?_eq_some_iff.1 hi
        refine ⟨(hfit p (hsub p hp)).1, i, hi1, hi2, fun j hj => ?_⟩
        cases h : (fitR p ∘ f) ((wantsV rot).take n)[j] with
        | false => rfl
        | true =>
          exfalso
          have h1 := hfe p _ (hsub p hp) (hsub _ (List.getElem_mem _)) h
          have h2 := List.pairwise_iff_getElem.1 (hWr.sublist (List.take_sublist n _)) j i (by omega) hi1 hj
          rw [hi2] at h2
          rw [← h1] at h2; omega
      rw [this]; rfl
  rw [hgot, htook]
  obtain ⟨want, hwe⟩ : ∃ want, (wantsV rot).take n = want := ⟨_, rfl⟩
  rw [hwe] at hlen hsub ⊢
  have hwr : RisI want := by rw [← hwe]; exact hWr.sublist (List.take_sublist n _)
  have hin : ∀ p, isIn (want.map f) p = true ↔ ∃ q ∈ want, q.idx = p.idx := by
    intro p
    unfold isIn
    rw [List.any_eq_true]
    constructor
    · rintro ⟨r, hr, he⟩
      obtain ⟨q, hq, rfl⟩ := List.mem_map.1 hr
      simp at he
      exact ⟨q, hq, by rw [← he]; exact (hfit q (hsub q hq)).2.1.symm⟩
    · rintro ⟨q, hq, he⟩
      exact ⟨f q, List.mem_map_of_mem hq, by simp; rw [(hfit q (hsub q hq)).2.1, he]⟩
  have hfw : rot.filter (isIn (want.map f)) = want := by
    refine risI_ext (hR.ris.sublist List.filter_sublist) hwr fun p => ?_
    rw [List.mem_filter, hin]
    constructor
    · rintro ⟨hp, q, hq, he⟩
      rw [ris_inj hR.ris hp (hknown q (hsub q hq)).1 he.symm]; exact hq
    · intro hp
      exact ⟨(hknown p (hsub p hp)).1, p, hp, rfl⟩
  -- the identity ahead
  have hahead : ∀ q ∈ want, 1 ≤ q.idx - 1 → ∃ x, l[(q.idx - 2).toNat]? = some x ∧ (f q).a = ofE x := by
    intro q hq hq1
    obtain ⟨k, x, h1, h2, h3, h4, h5⟩ := hf q (hsub q hq)
    obtain ⟨y, hy⟩ : ∃ y, l[k - 1]? = some y := ⟨_, List.getElem?_eq_getElem (by have := (List.getElem?_eq_some_iff.1 h1).1; omega)⟩
    refine ⟨y, by rw [show (q.idx - 2).toNat = k - 1 by omega]; exact hy, ?_⟩
    rw [h5]
    show prevI l k = ofE y
    unfold prevI
    rw [if_neg (by omega), hy]; rfl
  have hturn : ∀ p ∈ rot, (turnI (want.map f) p).knd ≠ 0 → ∀ (k : Nat) (x : Ent), l[k]? = some x → p.idx = (k : Int) + 1 → (p.knd ≠ 0 → p = ofE x) → turnI (want.map f) p = ofE x := by
    intro p hp hk k x hx hi hpo
    unfold turnI at hk ⊢
    by_cases h0 : p.knd = 0
    · rw [if_pos h0] at hk ⊢
      cases ha : aheadOf (want.map f) p with
      | none => rw [ha] at hk; exact absurd h0 hk
      | some r =>
        simp only
        have hr1 := List.find?_some ha
        have hr2 := List.mem_of_find?_eq_some ha
        obtain ⟨q, hq, rfl⟩ := List.mem_map.1 hr2
        rw [Bool.and_eq_true] at hr1
        have he : (f q).a.idx = p.idx := by simpa using hr1.1
        have h3 := (hfit q (hsub q hq)).2.2
        obtain ⟨y, hy, hya⟩ := hahead q hq (by omega)
        rw [show (q.idx - 2).toNat = k by omega, hx] at hy
        cases hy; exact hya
    · rw [if_neg h0]; exact hpo h0
  refine ⟨fun h => ?_, by rw [hlen]; exact hn1.2.2, by simp, by simp, fun r hr => ?_, ?_, ?_⟩
  · rw [h] at hlen; simp at hlen; omega
  · obtain ⟨q, hq, rfl⟩ := List.mem_map.1 hr
    obtain ⟨k, x, h1, h2, h3, h4, h5⟩ := hf q (hsub q hq)
    rw [h5]
    exact ⟨k, h1, hL.idx k x h1, h2⟩
  · unfold leftV
    rw [List.length_map, List.length_map]
    have h1 := congrArg List.length hfw
    have h2 : ∀ (m : List Idt) (t : Idt → Bool), (m.filter fun p => !t p).length + (m.filter t).length = m.length := by
      intro m t
      induction m with
      | nil => rfl
      | cons p m ih => cases h : t p <;> simp [h] <;> omega
    have := h2 rot (isIn (want.map f))
    omega
  · have hmem : ∀ p', p' ∈ leftV rot (want.map f) ↔ ∃ p ∈ rot, isIn (want.map f) p = false ∧ p' = turnI (want.map f) p := by
      intro p'
      unfold leftV
      rw [List.mem_map]
      constructor
      · rintro ⟨p, hp, rfl⟩
        rw [List.mem_filter] at hp
        exact ⟨p, hp.1, by simpa using hp.2, rfl⟩
      · rintro ⟨p, h1, h2, rfl⟩
        exact ⟨p, by rw [List.mem_filter]; exact ⟨h1, by simpa using h2⟩, rfl⟩
    refine ⟨?_, fun p' hp' => ?_, fun p' hp' hk' => ?_⟩
    · unfold leftV RisI
      rw [List.pairwise_map]
      exact (hR.ris.sublist List.filter_sublist).imp fun h => by rw [turnI_idx, turnI_idx]; exact h
    · obtain ⟨p, hp, -, rfl⟩ := (hmem p').1 hp'
      obtain ⟨k, x, h1, h2, h3, h4⟩ := hR.each p hp
      exact ⟨k, x, h1, h2, by rw [turnI_idx]; exact h3, fun hk => hturn p hp hk k x h1 h3 h4⟩
    · obtain ⟨p, hp, hni, rfl⟩ := (hmem p').1 hp'
      have h0 : p.knd = 0 := by
        by_cases h0 : p.knd = 0
        · exact h0
        · unfold turnI at hk'; rw [if_neg h0] at hk'; exact hk'
      obtain ⟨q, hq, he⟩ := hR.next p hp h0
      rw [turnI_idx]
      by_cases hqi : isIn (want.map f) q = true
      · exfalso
        obtain ⟨z, hz, hze⟩ := (hin q).1 hqi
        have hzq := ris_inj hR.ris (hknown z (hsub z hz)).1 hq hze
        subst hzq
        obtain ⟨k, x, h1, h2, h3, h4⟩ := hR.each p hp
        obtain ⟨y, hy, hya⟩ := hahead z hz (by omega)
        have hyg := goodE_bounds (hL.good _ y hy)
        have h5 := (hfit z (hsub z hz)).2.2
        unfold turnI at hk'
        rw [if_pos h0] at hk'
        cases ha : aheadOf (want.map f) p with
        | none =>
          unfold aheadOf at ha
          rw [List.find?_eq_none] at ha
          refine ha (f z) (List.mem_map_of_mem hz) ?_
          have hknd : (f z).a.knd ≠ 0 := by rw [hya]; show y.knd ≠ 0; omega
          simp [hknd]; omega
        | some r =>
          rw [ha] at hk'
          have := List.find?_some ha
          rw [Bool.and_eq_true] at this
          simp at this
          exact this.2 hk'
      · exact ⟨turnI (want.map f) q, (hmem _).2 ⟨q, hq, by simpa using hqi, rfl⟩, by rw [turnI_idx, he]⟩
/-- As it begins. -/
def rotAt (b : Nat → Bool) (l : List Ent) (k : Nat) : Option Idt := if b k then (l[k]?).map (fun x => if decide (k + 1 < l.length) && b (k + 1) then ⟨x.idx, 0, 0⟩ else ofE x) else none
def rotV (b : Nat → Bool) (l : List Ent) (n : Nat) : List Idt := (List.range n).filterMap (rotAt b l)
theorem rotV_succ (b : Nat → Bool) (l : List Ent) (n : Nat) : rotV b l (n + 1) = rotV b l n ++ (rotAt b l n).toList := by
  unfold rotV
  rw [List.range_succ, List.filterMap_append]
  cases h : rotAt b l n <;> simp [h]
theorem rotV_len (b : Nat → Bool) (l : List Ent) (n : Nat) : (rotV b l n).length ≤ n := by
  have := List.length_filterMap_le (rotAt b l) (List.range n)
  simpa [rotV] using this
theorem rot_begin_ {b : Nat → Bool} {l : List Ent} (hL : LogI l) : RotI b l (rotV b l l.length) := by
  have hat : ∀ k p, rotAt b l k = some p → ∃ x, l[k]? = some x ∧ b k = true ∧ p.idx = (k : Int) + 1 ∧ ((k + 1 < l.length ∧ b (k + 1) = true ∧ p.knd = 0) ∨ p = ofE x) := by
    intro k p h
    unfold rotAt at h
    split at h
    · rename_i hb
      obtain ⟨x, hx, rfl⟩ := Option.map_eq_some_iff.1 h
      refine ⟨x, hx, hb, ?_, ?_⟩
      · have := hL.idx k x hx
        split
        · exact this
        · exact this
      · split
        · rename_i hc
          rw [Bool.and_eq_true] at hc
          exact .inl ⟨by simpa using hc.1, hc.2, rfl⟩
        · exact .inr rfl
    · cases h
  have hmem : ∀ p, p ∈ rotV b l l.length ↔ ∃ k, k < l.length ∧ rotAt b l k = some p := by
    intro p; unfold rotV; rw [List.mem_filterMap]; simp
  refine ⟨?_, fun p hp => ?_, fun p hp h0 => ?_⟩
  · have h1 : ∀ n, RisI (rotV b l n) ∧ ∀ p ∈ rotV b l n, p.idx ≤ (n : Int) := by
      intro n
      induction n with
      | zero => simp [rotV, RisI]
      | succ n ih =>
        rw [rotV_succ]
        cases h : rotAt b l n with
        | none => simpa using ⟨ih.1, fun p hp => by have := ih.2 p hp; omega⟩
        | some q =>
          obtain ⟨x, -, -, hi, -⟩ := hat n q h
          constructor
          · unfold RisI
            rw [List.pairwise_append]
            exact ⟨ih.1, by simp, fun a ha c hc => by simp at hc; subst hc; have := ih.2 a ha; omega⟩
          · intro p hp
            rcases List.mem_append.1 hp with g | g
            · have := ih.2 p g; push_cast; omega
            · simp at g; subst g; push_cast; omega
    exact (h1 _).1
  · obtain ⟨k, hk, hr⟩ := (hmem p).1 hp
    obtain ⟨x, hx, hb, hi, hc⟩ := hat k p hr
    refine ⟨k, x, hx, hb, hi, fun hk0 => ?_⟩
    rcases hc with ⟨-, -, h0⟩ | h
    · exact absurd h0 hk0
    · exact h
  · obtain ⟨k, hk, hr⟩ := (hmem p).1 hp
    obtain ⟨x, hx, hb, hi, hc⟩ := hat k p hr
    rcases hc with ⟨h1, h2, -⟩ | h
    · obtain ⟨y, hy⟩ : ∃ y, l[k + 1]? = some y := ⟨_, List.getElem?_eq_getElem h1⟩
      obtain ⟨q, hq⟩ : ∃ q, rotAt b l (k + 1) = some q := by
        unfold rotAt; rw [if_pos h2, hy]; exact ⟨_, rfl⟩
      obtain ⟨_, _, _, hqi, _⟩ := hat (k + 1) q hq
      exact ⟨q, (hmem q).2 ⟨k + 1, h1, hq⟩, by push_cast at hqi; omega⟩
    · exfalso
      have hg := goodE_bounds (hL.good k x hx)
      rw [h] at h0
      simp only [ofE] at h0; omega
end Go.Proofs.YtglkgmijhdkhpaaGreatDoor
/-
  RECORDS, but for where their bodies lie: plain Lean, no program.
-/
set_option linter.unusedVariables false
namespace Go.Proofs.YtglkgmijhdkhpaaGreatDoor

def nrmE (x : Ent) : Ent := ⟨x.idx, x.trm, x.knd, none, 0, x.bd⟩
def nrmR (r : Rec) : Rec := ⟨nrmE r.e, r.a⟩
theorem fitR_nrm (p : Idt) (r : Rec) : fitR p (nrmR r) = fitR p r := rfl
theorem find_nrm (l : List Rec) (p : Idt) : (l.map nrmR).find? (fitR p) = (l.find? (fitR p)).map nrmR := by
  rw [List.find?_map]; rfl
theorem giveS_nrm (l out : List Rec) (most : Int) (p : Idt) : giveS (l.map nrmR) most (out.map nrmR) p = (giveS l most out p).map nrmR := by
  unfold giveS
  rw [find_nrm, List.length_map]
  split
  · cases l.find? (fitR p) <;> simp
  · rfl
theorem give_nrm (l : List Rec) (want : List Idt) (most : Int) : giveV (l.map nrmR) want most = (giveV l want most).map nrmR := by
  have h : ∀ (m : List Idt) (out : List Rec), m.foldl (giveS (l.map nrmR) most) (out.map nrmR) = (m.foldl (giveS l most) out).map nrmR := by
    intro m
    induction m with
    | nil => intro out; rfl
    | cons p m ih => intro out; rw [List.foldl_cons, List.foldl_cons, giveS_nrm]; exact ih _
  exact h want []
theorem take_nrm (rot : List Idt) (l : List Rec) : takeV rot (l.map nrmR) = (takeV rot l).map nrmR := give_nrm _ _ _
theorem isIn_nrm (took : List Rec) (p : Idt) : isIn (took.map nrmR) p = isIn took p := by
  unfold isIn; rw [List.any_map]; rfl
theorem turnI_nrm (took : List Rec) (p : Idt) : turnI (took.map nrmR) p = turnI took p := by
  have h : aheadOf (took.map nrmR) p = (aheadOf took p).map nrmR := by unfold aheadOf; rw [List.find?_map]; rfl
  unfold turnI
  rw [h]
  cases aheadOf took p <;> rfl
theorem left_nrm (rot : List Idt) (took : List Rec) : leftV rot (took.map nrmR) = leftV rot took := by
  unfold leftV
  have e1 : (fun p => !isIn (took.map nrmR) p) = fun p => !isIn took p := funext fun p => by rw [isIn_nrm]
  have e2 : turnI (took.map nrmR) = turnI took := funext fun p => turnI_nrm took p
  rw [e1, e2]
theorem logV_nrm : ∀ (l : List Ent) (p : Idt), logV p (l.map nrmE) = (logV p l).map nrmR := by
  intro l
  induction l with
  | nil => intro p; rfl
  | cons x l ih => intro p; simp only [logV, List.map_cons]; rw [ih]; rfl
theorem folE_nrm : ∀ (l : List Ent) (p : Idt), folE p (l.map nrmE) = folE p l := by
  intro l
  induction l with
  | nil => intro p; rfl
  | cons x l ih =>
    intro p
    have h1 : stepE p (nrmE x) = stepE p x := rfl
    have h2 : ofE (nrmE x) = ofE x := rfl
    simp only [List.map_cons, folE]
    rw [h1, h2, ih]
theorem rotV_nrm (b : Nat → Bool) (l : List Ent) (n : Nat) : rotV b (l.map nrmE) n = rotV b l n := by
  unfold rotV
  congr 1
  funext k
  unfold rotAt
  rw [List.getElem?_map, List.length_map]
  cases l[k]? <;> rfl
theorem goodR_nrm (r : Rec) : goodR (nrmR r) = goodR r := rfl
end Go.Proofs.YtglkgmijhdkhpaaGreatDoor
