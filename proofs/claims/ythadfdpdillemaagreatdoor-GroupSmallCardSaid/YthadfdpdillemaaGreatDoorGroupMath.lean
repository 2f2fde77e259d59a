/-
  MEMBERS AND THEIR CHANGE; who wins: plain Lean, no program.
-/
import Derived.Test.YthadfdpdillemaaGreatDoorLeadKeepsMath
set_option linter.unusedVariables false
namespace Go.Proofs.YthadfdpdillemaaGreatDoor
open Go.RowKit

theorem memFrom_iff : ∀ (l : List Int) (p : Int), memFrom p l = true ↔ l.Pairwise (· < ·) ∧ ∀ m ∈ l, 1 ≤ m ∧ m ≤ 7 ∧ p < m := by
  intro l
  induction l with
  | nil => intro p; simp [memFrom]
  | cons x l ih =>
    intro p
    simp only [memFrom, Bool.and_eq_true, decide_eq_true_eq, ih x, List.pairwise_cons, List.mem_cons, forall_eq_or_imp]
    constructor
    · rintro ⟨h1, h2, h3⟩
      exact ⟨⟨fun y hy => (h3 y hy).2.2, h2⟩, h1, fun y hy => by have := h3 y hy; omega⟩
    · rintro ⟨⟨h1, h2⟩, h3, h4⟩
      exact ⟨h3, h2, fun y hy => by have := h4 y hy; have := h1 y hy; omega⟩
theorem right_iff {l : List Int} : memRight l = true ↔ l.Pairwise (· < ·) ∧ (∀ m ∈ l, 1 ≤ m ∧ m ≤ 7) ∧ l ≠ [] := by
  unfold memRight
  rw [Bool.and_eq_true, memFrom_iff]
  constructor
  · rintro ⟨⟨h1, h2⟩, h3⟩
    exact ⟨h1, fun m hm => ⟨(h2 m hm).1, (h2 m hm).2.1⟩, by rintro rfl; simp at h3⟩
  · rintro ⟨h1, h2, h3⟩
    exact ⟨⟨h1, fun m hm => ⟨(h2 m hm).1, (h2 m hm).2, by have := h2 m hm; omega⟩⟩, by cases l with
      | nil => exact absurd rfl h3
      | cons a l => rfl⟩
/-- Rising rows of the same members are one. -/
theorem rising_ext : ∀ (l m : List Int), l.Pairwise (· < ·) → m.Pairwise (· < ·) → (∀ x, x ∈ l ↔ x ∈ m) → l = m := by
  intro l
  induction l with
  | nil =>
    intro m _ _ h
    cases m with
    | nil => rfl
    | cons y m => exact absurd ((h y).2 (List.mem_cons_self ..)) (by simp)
  | cons x l ih =>
    intro m hl hm h
    cases m with
    | nil => exact absurd ((h x).1 (List.mem_cons_self ..)) (by simp)
    | cons y m =>
      rw [List.pairwise_cons] at hl hm
      have hxy : x = y := by
        rcases List.mem_cons.1 ((h x).1 (List.mem_cons_self ..)) with h1 | h1
        · exact h1
        · rcases List.mem_cons.1 ((h y).2 (List.mem_cons_self ..)) with h2 | h2
          · exact h2.symm
          · have := hm.1 x h1; have := hl.1 y h2; omega
      subst hxy
      rw [ih m hl.2 hm.2 fun z => ?_]
      constructor
      · intro hz
        rcases List.mem_cons.1 ((h z).1 (List.mem_cons_of_mem _ hz)) with h1 | h1
        · have := hl.1 z hz; omega
        · exact h1
      · intro hz
        rcases List.mem_cons.1 ((h z).2 (List.mem_cons_of_mem _ hz)) with h1 | h1
        · have := hm.1 z hz; omega
        · exact h1
def mayV (l : List Int) (add take : Int) : Bool :=
  memRight l && ((decide (take ≠ 0) && decide (add = 0) && l.contains take && decide (l.length ≠ 1)) || (decide (take = 0) && decide (add ≠ 0) && !l.contains add && decide (1 ≤ add ∧ add ≤ 7)))
/-- What is put together, ahead of the sort. -/
def rawV (l : List Int) (add take : Int) : List Int := l.filter (fun m => !decide (m = take)) ++ (if add = 0 then [] else [add])
def madeV (l : List Int) (add take : Int) : List Int := (rawV l add take).mergeSort fun x y => decide (x ≤ y)
def sevenV : List Int := [1, 2, 3, 4, 5, 6, 7]
def refV (l : List Int) (add take : Int) : List Int := sevenV.filter fun n => decide (n = add) || (l.contains n && !decide (n = take))
theorem sevenV_mem {n : Int} : n ∈ sevenV ↔ 1 ≤ n ∧ n ≤ 7 := by simp [sevenV]; omega
theorem sevenV_rising : sevenV.Pairwise (· < ·) := by simp [sevenV]
theorem refV_mem {l : List Int} {add take n : Int} : n ∈ refV l add take ↔ (1 ≤ n ∧ n ≤ 7) ∧ (n = add ∨ n ∈ l ∧ n ≠ take) := by
  simp [refV, List.mem_filter, sevenV_mem]
theorem refV_rising (l : List Int) (add take : Int) : (refV l add take).Pairwise (· < ·) := sevenV_rising.sublist List.filter_sublist
theorem may_cases {l : List Int} {add take : Int} (h : mayV l add take = true) : memRight l = true ∧ ((take ≠ 0 ∧ add = 0 ∧ take ∈ l ∧ l.length ≠ 1) ∨ (take = 0 ∧ add ≠ 0 ∧ add ∉ l ∧ 1 ≤ add ∧ add ≤ 7)) := by
  simpa [mayV, and_assoc] using h
theorem rawV_nodup {l : List Int} {add take : Int} (h : mayV l add take = true) : (rawV l add take).Nodup := by
  obtain ⟨hr, hc⟩ := may_cases h
  obtain ⟨h1, h2, h3⟩ := right_iff.1 hr
  have hn : l.Nodup := h1.imp (fun h => by omega)
  unfold rawV
  rcases hc with ⟨c1, c2, c3, c4⟩ | ⟨c1, c2, c3, c4, c5⟩
  · rw [if_pos c2, List.append_nil]; exact hn.sublist List.filter_sublist
  · rw [if_neg c2, List.nodup_append]
    refine ⟨hn.sublist List.filter_sublist, by simp, ?_⟩
    intro a ha b hb
    simp at hb; subst hb
    rintro rfl
    exact c3 (List.mem_filter.1 ha).1
theorem rawV_mem {l : List Int} {add take n : Int} (h : mayV l add take = true) : n ∈ rawV l add take ↔ n ∈ refV l add take := by
  obtain ⟨hr, hc⟩ := may_cases h
  obtain ⟨h1, h2, h3⟩ := right_iff.1 hr
  rw [refV_mem]
  unfold rawV
  rw [List.mem_append, List.mem_filter]
  rcases hc with ⟨c1, c2, c3, c4⟩ | ⟨c1, c2, c3, c4, c5⟩
  · rw [if_pos c2]
    simp only [List.not_mem_nil, or_false, Bool.not_eq_true', decide_eq_false_iff_not]
    constructor
    · rintro ⟨g1, g2⟩; exact ⟨h2 n g1, .inr ⟨g1, g2⟩⟩
    · rintro ⟨g1, g2 | g2⟩
      · omega
      · exact g2
  · rw [if_neg c2]
    simp only [List.mem_singleton, Bool.not_eq_true', decide_eq_false_iff_not]
    constructor
    · rintro (⟨g1, g2⟩ | g1)
      · exact ⟨h2 n g1, .inr ⟨g1, g2⟩⟩
      · exact ⟨by omega, .inl g1⟩
    · rintro ⟨g1, g2 | g2⟩
      · exact .inr g2
      · exact .inl g2
theorem made_ref {l : List Int} {add take : Int} (h : mayV l add take = true) : madeV l add take = refV l add take := by
  have hp := List.mergeSort_perm (rawV l add take) (fun x y => decide (x ≤ y))
  have hs : (madeV l add take).Pairwise (· ≤ ·) := by
    have h := List.pairwise_mergeSort (le := fun x y : Int => decide (x ≤ y)) (by intro a b c; simp; omega) (by intro a b; simp; omega) (rawV l add take)
    exact h.imp (by intro a b h; simpa using h)
  have hn : (madeV l add take).Nodup := hp.symm.nodup (rawV_nodup h)
  refine rising_ext _ _ ?_ (refV_rising _ _ _) (fun x => (hp.mem_iff (a := x)).trans (rawV_mem h))
  exact (hs.and hn).imp (fun h => by omega)

/-- Won: twice as many as are among some. -/
def cntIn (m a : List Int) : Nat := m.countP fun x => a.contains x
def wonV (m a : List Int) : Bool := decide (m.length < 2 * cntIn m a)
def meetV (a b : List Int) : Bool := a.any fun x => b.contains x
theorem meet_of {u a b : List Int} (h : u.length < cntIn u a + cntIn u b) : meetV a b = true := by
  by_cases hm : ∃ x ∈ u, x ∈ a ∧ x ∈ b
  · obtain ⟨x, -, h1, h2⟩ := hm
    unfold meetV
    rw [List.any_eq_true]
    exact ⟨x, h1, by simpa using h2⟩
  · exfalso
    have key : ∀ v : List Int, (∀ x ∈ v, ¬ (x ∈ a ∧ x ∈ b)) → cntIn v a + cntIn v b ≤ v.length := by
      intro v
      induction v with
      | nil => intro _; simp [cntIn]
      | cons x v ih =>
        intro hv
        have h1 := ih fun y hy => hv y (List.mem_cons_of_mem _ hy)
        have h2 := hv x (List.mem_cons_self ..)
        unfold cntIn at h1 ⊢
        rw [List.countP_cons, List.countP_cons, List.length_cons]
        by_cases ha : x ∈ a
        · have hb : x ∉ b := fun hb => h2 ⟨ha, hb⟩
          have ea : a.contains x = true := by simpa using ha
          have eb : ¬ b.contains x = true := by simpa using hb
          rw [if_pos ea, if_neg eb]; omega
        · have ea : ¬ a.contains x = true := by simpa using ha
          rw [if_neg ea]
          by_cases hb : x ∈ b
          · have eb : b.contains x = true := by simpa using hb
            rw [if_pos eb]; omega
          · have eb : ¬ b.contains x = true := by simpa using hb
            rw [if_neg eb]; omega
    have := key u fun x hx hab => hm ⟨x, hx, hab⟩
    omega
theorem cntIn_perm {u v a : List Int} (h : u.Perm v) : cntIn u a = cntIn v a := h.countP_eq _
theorem won_meet {m a b : List Int} (h1 : wonV m a = true) (h2 : wonV m b = true) : meetV a b = true := by
  simp only [wonV, decide_eq_true_eq] at h1 h2
  exact meet_of (u := m) (by omega)
theorem made_perm (l : List Int) (add take : Int) : (madeV l add take).Perm (rawV l add take) := List.mergeSort_perm _ _
/-- Behind a change there is one more, or one less. -/
theorem made_one {l : List Int} {add take : Int} (h : mayV l add take = true) : (add ≠ 0 ∧ take = 0 ∧ (madeV l add take).Perm (add :: l)) ∨ (take ≠ 0 ∧ add = 0 ∧ l.Perm (take :: madeV l add take)) := by
  obtain ⟨hr, hc⟩ := may_cases h
  obtain ⟨h1, h2, h3⟩ := right_iff.1 hr
  have hn : l.Nodup := h1.imp (fun h => by omega)
  rcases hc with ⟨c1, c2, c3, c4⟩ | ⟨c1, c2, c3, c4, c5⟩
  · right
    refine ⟨c1, c2, ?_⟩
    have e : rawV l add take = l.erase take := by
      unfold rawV
      rw [if_pos c2, List.append_nil, hn.erase_eq_filter]
      congr 1
    exact (List.perm_cons_erase c3).trans (((made_perm l add take).trans (by rw [e])).symm.cons _)
  · left
    refine ⟨c2, c1, (made_perm l add take).trans ?_⟩
    have e : l.filter (fun m => !decide (m = take)) = l := by
      rw [List.filter_eq_self]
      intro m hm
      have := h2 m hm
      simp; omega
    unfold rawV
    rw [if_neg c2, e]
    exact List.perm_append_comm
theorem won_meet_next {l a b : List Int} {add take : Int} (h : mayV l add take = true) (h1 : wonV l a = true) (h2 : wonV (madeV l add take) b = true) : meetV a b = true := by
  simp only [wonV, decide_eq_true_eq] at h1 h2
  rcases made_one h with ⟨-, -, hp⟩ | ⟨-, -, hp⟩
  · have e1 := cntIn_perm (a := a) hp
    have e2 := hp.length_eq
    have e3 : cntIn l a ≤ cntIn (add :: l) a := by unfold cntIn; rw [List.countP_cons]; omega
    rw [List.length_cons] at e2
    exact meet_of (u := madeV l add take) (by omega)
  · have e1 := cntIn_perm (a := b) hp
    have e2 := hp.length_eq
    have e3 : cntIn (madeV l add take) b ≤ cntIn (take :: madeV l add take) b := by unfold cntIn; rw [List.countP_cons]; omega
    rw [List.length_cons] at e2
    exact meet_of (u := l) (by omega)
theorem made_mem {l : List Int} {add take n : Int} (h : mayV l add take = true) : n ∈ madeV l add take ↔ (1 ≤ n ∧ n ≤ 7) ∧ (n = add ∨ n ∈ l ∧ n ≠ take) := by
  rw [made_ref h, refV_mem]
theorem made_right {l : List Int} {add take : Int} (h : mayV l add take = true) : memRight (madeV l add take) = true := by
  rw [right_iff]
  refine ⟨by rw [made_ref h]; exact refV_rising _ _ _, fun m hm => ((made_mem h).1 hm).1, ?_⟩
  intro h0
  have h1 := made_one h
  rw [h0] at h1
  obtain ⟨hr, hc⟩ := may_cases h
  obtain ⟨-, -, h3⟩ := right_iff.1 hr
  rcases h1 with ⟨-, -, hp⟩ | ⟨c1, c2, hp⟩
  · have := hp.length_eq; simp at this
  · have := hp.length_eq
    rcases hc with ⟨-, -, -, c4⟩ | ⟨c5, -⟩
    · exact c4 (by simpa using this)
    · exact c1 c5
/-- A change, taken back. -/
theorem may_back {l : List Int} {add take : Int} (h : mayV l add take = true) : mayV (madeV l add take) take add = true := by
  have hR := made_right h
  obtain ⟨hr, hc⟩ := may_cases h
  obtain ⟨h1, h2, h3⟩ := right_iff.1 hr
  have hone := made_one h
  unfold mayV
  rw [hR, Bool.true_and]
  rcases hc with ⟨c1, c2, c3, c4⟩ | ⟨c1, c2, c3, c4, c5⟩
  · have ht := h2 take c3
    have hnot : take ∉ madeV l add take := fun hm => by
      have := (made_mem h).1 hm
      omega
    have e1 : (madeV l add take).contains take = false := by simpa using hnot
    rw [e1]; simp [c1, c2]; exact ht
  · have hin : add ∈ madeV l add take := (made_mem h).2 ⟨⟨c4, c5⟩, .inl rfl⟩
    have hlen : (madeV l add take).length ≠ 1 := by
      rcases hone with ⟨-, -, hp⟩ | ⟨c6, -⟩
      · have := hp.length_eq
        rw [List.length_cons] at this
        have := List.length_pos_iff.2 h3; omega
      · exact absurd c1 c6
    have e1 : (madeV l add take).contains add = true := by simpa using hin
    rw [e1]; simp [c1, c2]; subst c1; exact hlen
theorem made_back {l : List Int} {add take : Int} (h : mayV l add take = true) : madeV (madeV l add take) take add = l := by
  have hb := may_back h
  obtain ⟨hr, hc⟩ := may_cases h
  obtain ⟨h1, h2, h3⟩ := right_iff.1 hr
  obtain ⟨g1, g2, g3⟩ := right_iff.1 (made_right hb)
  refine rising_ext _ _ g1 h1 fun x => ?_
  rw [made_mem hb, made_mem h]
  rcases hc with ⟨c1, c2, c3, c4⟩ | ⟨c1, c2, c3, c4, c5⟩
  · constructor
    · rintro ⟨k1, rfl | ⟨⟨k2, k3 | k3⟩, k4⟩⟩
      · exact c3
      · exact absurd k3 k4
      · exact k3.1
    · intro hx
      refine ⟨h2 x hx, ?_⟩
      by_cases hxt : x = take
      · exact .inl hxt
      · exact .inr ⟨⟨h2 x hx, .inr ⟨hx, hxt⟩⟩, by have := h2 x hx; omega⟩
  · constructor
    · rintro ⟨k1, k2 | ⟨⟨k2, k3 | k3⟩, k4⟩⟩
      · omega
      · exact absurd k3 k4
      · exact k3.1
    · intro hx
      refine ⟨h2 x hx, .inr ⟨⟨h2 x hx, .inr ⟨hx, by have := h2 x hx; omega⟩⟩, fun he => c3 (by rw [← he]; exact hx)⟩⟩
/-- In just one they are unlike. -/
def diffV (l m : List Int) : Nat := sevenV.countP fun n => l.contains n != m.contains n
theorem diff_one {l : List Int} {add take : Int} (h : mayV l add take = true) : diffV l (madeV l add take) = 1 := by
  obtain ⟨hr, hc⟩ := may_cases h
  obtain ⟨h1, h2, h3⟩ := right_iff.1 hr
  obtain ⟨z, hz, hz2⟩ : ∃ z : Int, (1 ≤ z ∧ z ≤ 7) ∧ ∀ n, 1 ≤ n → n ≤ 7 → (l.contains n != (madeV l add take).contains n) = decide (n = z) := by
    rcases hc with ⟨c1, c2, c3, c4⟩ | ⟨c1, c2, c3, c4, c5⟩
    · refine ⟨take, h2 take c3, fun n n1 n2 => ?_⟩
      have hm := made_mem (n := n) h
      by_cases hnt : n = take
      · subst hnt
        have : n ∉ madeV l add n := fun hh => by have := hm.1 hh; omega
        simp [c3, this]
      · by_cases hl : n ∈ l
        · have : n ∈ madeV l add take := hm.2 ⟨⟨n1, n2⟩, .inr ⟨hl, hnt⟩⟩
          simp [hl, this, hnt]
        · have : n ∉ madeV l add take := fun hh => by
            rcases (hm.1 hh).2 with g | g
            · omega
            · exact hl g.1
          simp [hl, this, hnt]
    · refine ⟨add, ⟨c4, c5⟩, fun n n1 n2 => ?_⟩
      have hm := made_mem (n := n) h
      by_cases hna : n = add
      · subst hna
        have : n ∈ madeV l n take := hm.2 ⟨⟨n1, n2⟩, .inl rfl⟩
        simp [c3, this]
      · by_cases hl : n ∈ l
        · have : n ∈ madeV l add take := hm.2 ⟨⟨n1, n2⟩, .inr ⟨hl, by omega⟩⟩
          simp [hl, this, hna]
        · have : n ∉ madeV l add take := fun hh => by
            rcases (hm.1 hh).2 with g | g
            · exact hna g
            · exact hl g.1
          simp [hl, this, hna]
  have e : diffV l (madeV l add take) = sevenV.countP fun n => decide (n = z) := by
    unfold diffV
    refine List.countP_congr fun n hn => ?_
    have := sevenV_mem.1 hn
    rw [hz2 n this.1 this.2]
  rw [e]
  obtain ⟨z1, z2⟩ := hz
  rcases (by omega : z = 1 ∨ z = 2 ∨ z = 3 ∨ z = 4 ∨ z = 5 ∨ z = 6 ∨ z = 7) with rfl | rfl | rfl | rfl | rfl | rfl | rfl <;> decide
end Go.Proofs.YthadfdpdillemaaGreatDoor
