/-
  Merged: HealKnown, HealMath2.
-/
import Derived.Test.YtglkgmijhdkhpaaDoorHa5
import Derived.Test.YtglkgmijhdkhpaaDoorHa7
/-
  heal.known, the comparisons: contracts.
-/
set_option linter.unusedVariables false
set_option linter.unusedSimpArgs false
namespace Go.Proofs.YtglkgmijhdkhpaaDoor
open Go.RowKit

set_option maxHeartbeats 1000000 in
theorem healKnown (p : Idt) (w : World) :
    Calls Tryd.prog 40 #[.agg #[.int .i64 p.idx, .int .i64 p.trm, .int .i64 p.knd]] w fun e w' => e = .returned (.bool (knownI p)) ∧ Below w.heap.size w w' := by
  by_cases h0 : 0 < p.idx
  · have d0 : decide (0 < p.idx) = true := decide_eq_true h0
    by_cases h1 : 1 ≤ p.knd
    · have d1 : decide (1 ≤ p.knd) = true := decide_eq_true h1
      have HK := Lib.hid (show knownI p = decide (p.knd ≤ 3) by unfold knownI; rw [d0, d1]; rfl)
      by_cases h2 : p.knd ≤ 3
      · have d2 : decide (p.knd ≤ 3) = true := decide_eq_true h2
        go_enter Tryd.func40, Tryd.ntmps40
        go_wp2_with fail
        go_ret
        exact ⟨ret_bool (by rw [HK.out, d2]), below_new _ _⟩
      · have d2 : decide (p.knd ≤ 3) = false := decide_eq_false h2
        have h3 : 3 < p.knd := by omega
        go_enter Tryd.func40, Tryd.ntmps40
        go_wp2_with fail
        go_ret
        exact ⟨ret_bool (by rw [HK.out, d2]), below_new _ _⟩
    · have d1 : decide (1 ≤ p.knd) = false := decide_eq_false h1
      have h3 : p.knd < 1 := by omega
      have HK := Lib.hid (show knownI p = false by unfold knownI; rw [d1]; simp)
      go_enter Tryd.func40, Tryd.ntmps40
      go_wp2_with fail
      go_ret
      exact ⟨ret_bool HK.out.symm, below_new _ _⟩
  · have d0 : decide (0 < p.idx) = false := decide_eq_false h0
    have h3 : p.idx ≤ 0 := by omega
    have HK := Lib.hid (show knownI p = false by unfold knownI; rw [d0]; rfl)
    go_enter Tryd.func40, Tryd.ntmps40
    go_wp2_with fail
    go_ret
    exact ⟨ret_bool HK.out.symm, below_new _ _⟩
end Go.Proofs.YtglkgmijhdkhpaaDoor
/-
  WHAT IS GIVEN, TAKEN, LEFT: plain Lean, no program.
-/
set_option linter.unusedVariables false
namespace Go.Proofs.YtglkgmijhdkhpaaDoor

structure Rec where
  e : Ent
  a : Idt
def recRow (r : Rec) : List Value := [.int .i64 r.e.idx, .int .i64 r.e.trm, .int .i64 r.e.knd, .slice r.e.ba r.e.bd.length r.e.bc, .int .i64 r.a.idx, .int .i64 r.a.trm, .int .i64 r.a.knd]
theorem recRow_length (r : Rec) : (recRow r).length = 7 := rfl
theorem recRow_one (r : Rec) : ∀ u ∈ recRow r, u.oneCell' = true := by
  intro u hu; simp [recRow] at hu; rcases hu with rfl | rfl | rfl | rfl | rfl | rfl | rfl <;> rfl
def zI0 : Idt := ⟨0, 0, 0⟩
def eqI (x y : Idt) : Bool := decide (x.idx = y.idx) && decide (x.trm = y.trm) && decide (x.knd = y.knd)
theorem eqI_iff {x y : Idt} : eqI x y = true ↔ x = y := by
  cases x; cases y; simp [eqI, and_assoc]
def goodR (r : Rec) : Bool := goodE r.e && decide (r.a.idx = r.e.idx - 1) && decide (r.a.trm ≤ r.e.trm) && (decide (1 < r.e.idx) || eqI r.a zI0)
def fitR (p : Idt) (r : Rec) : Bool := goodR r && eqI (ofE r.e) p
def giveS (l : List Rec) (most : Int) (out : List Rec) (p : Idt) : List Rec := if (out.length : Int) < most then (match l.find? (fitR p) with | some r => out ++ [r] | none => out) else out
def giveV (l : List Rec) (want : List Idt) (most : Int) : List Rec := want.foldl (giveS l most) []
def takeV (rot : List Idt) (l : List Rec) : List Rec := giveV l (wantsV rot) rot.length
def isIn (took : List Rec) (p : Idt) : Bool := took.any fun r => decide (r.e.idx = p.idx)
def aheadOf (took : List Rec) (p : Idt) : Option Rec := took.find? fun r => decide (r.a.idx = p.idx) && !decide (r.a.knd = 0)
def turnI (took : List Rec) (p : Idt) : Idt := if p.knd = 0 then (match aheadOf took p with | some r => r.a | none => p) else p
def leftV (rot : List Idt) (took : List Rec) : List Idt := (rot.filter fun p => !isIn took p).map (turnI took)

theorem giveS_le {l : List Rec} {most : Int} {out : List Rec} {p : Idt} (h : (out.length : Int) ≤ max most 0) : ((giveS l most out p).length : Int) ≤ max most 0 := by
  unfold giveS
  split
  · split
    · simp; omega
    · exact h
  · exact h
theorem giveS_len {l : List Rec} {most : Int} {out : List Rec} {p : Idt} : (giveS l most out p).length ≤ out.length + 1 := by
  unfold giveS
  split
  · split <;> simp
  · simp
theorem give_le (l : List Rec) (want : List Idt) (most : Int) : ((giveV l want most).length : Int) ≤ max most 0 := by
  have h : ∀ (m : List Idt) (out : List Rec), (out.length : Int) ≤ max most 0 → ((m.foldl (giveS l most) out).length : Int) ≤ max most 0 := by
    intro m
    induction m with
    | nil => intro out h; exact h
    | cons p m ih => intro out h; rw [List.foldl_cons]; exact ih _ (giveS_le h)
  exact h want [] (by simp; omega)
theorem give_len (l : List Rec) (want : List Idt) (most : Int) : (giveV l want most).length ≤ want.length := by
  have h : ∀ (m : List Idt) (out : List Rec), (m.foldl (giveS l most) out).length ≤ out.length + m.length := by
    intro m
    induction m with
    | nil => intro out; simp
    | cons p m ih => intro out; rw [List.foldl_cons]; have := ih (giveS l most out p); have := giveS_len (l := l) (most := most) (out := out) (p := p); simp; omega
  simpa [giveV] using h want []
/-- A round of the loop. -/
theorem give_take {l : List Rec} {want : List Idt} {most : Int} {k : Nat} {p : Idt} (hp : want[k]? = some p) : giveV l (want.take (k + 1)) most = giveS l most (giveV l (want.take k) most) p := by
  unfold giveV
  rw [List.take_add_one, hp, List.foldl_append]; rfl
/-- It is full. -/
theorem give_full {l : List Rec} {want : List Idt} {most : Int} {k : Nat} (h : most ≤ ((giveV l (want.take k) most).length : Int)) : giveV l want most = giveV l (want.take k) most := by
  have h1 : ∀ (m : List Idt) (out : List Rec), most ≤ (out.length : Int) → m.foldl (giveS l most) out = out := by
    intro m
    induction m with
    | nil => intro out _; rfl
    | cons p m ih => intro out h; rw [List.foldl_cons, show giveS l most out p = out by unfold giveS; rw [if_neg (by omega)]]; exact ih out h
  unfold giveV at h ⊢
  conv => lhs; rw [← List.take_append_drop k want, List.foldl_append]
  exact h1 _ _ h
/-- What is given, each was asked for, is good, and stood there. -/
theorem give_mem {l : List Rec} {want : List Idt} {most : Int} {r : Rec} (h : r ∈ giveV l want most) : r ∈ l ∧ goodR r = true ∧ ofE r.e ∈ want := by
  have h1 : ∀ (m : List Idt) (out : List Rec), r ∈ m.foldl (giveS l most) out → r ∈ out ∨ (r ∈ l ∧ goodR r = true ∧ ofE r.e ∈ m) := by
    intro m
    induction m with
    | nil => intro out h; exact .inl h
    | cons p m ih =>
      intro out h
      rw [List.foldl_cons] at h
      rcases ih _ h with g | ⟨g1, g2, g3⟩
      · unfold giveS at g
        split at g
        · split at g
          · rename_i z hz
            rcases List.mem_append.1 g with g | g
            · exact .inl g
            · simp at g; subst g
              have hf := List.find?_some hz
              unfold fitR at hf
              rw [Bool.and_eq_true, eqI_iff] at hf
              exact .inr ⟨List.mem_of_find?_eq_some hz, hf.1, by rw [hf.2]; simp⟩
          · exact .inl g
        · exact .inl g
      · exact .inr ⟨g1, g2, by simp [g3]⟩
  rcases h1 want [] h with g | g
  · simp at g
  · exact g
/-- In the order that was asked. -/
theorem give_order {l : List Rec} {most : Int} {want : List Idt} (h : RisI want) : (giveV l want most).Pairwise fun x y => x.e.idx < y.e.idx := by
  have h1 : ∀ (m : List Idt) (out : List Rec), RisI m → (out.Pairwise fun x y => x.e.idx < y.e.idx) → (∀ x ∈ out, ∀ p ∈ m, x.e.idx < p.idx) → (m.foldl (giveS l most) out).Pairwise fun x y => x.e.idx < y.e.idx := by
    intro m
    induction m with
    | nil => intro out _ h _; exact h
    | cons p m ih =>
      intro out hm h1 h2
      unfold RisI at hm
      rw [List.pairwise_cons] at hm
      rw [List.foldl_cons]
      refine ih _ hm.2 ?_ ?_
      · unfold giveS
        split
        · split
          · rename_i z hz
            have hf := List.find?_some hz
            unfold fitR at hf
            rw [Bool.and_eq_true, eqI_iff] at hf
            have he : z.e.idx = p.idx := by rw [← hf.2]; rfl
            rw [List.pairwise_append]
            exact ⟨h1, by simp, fun x hx y hy => by simp at hy; subst hy; rw [he]; exact h2 x hx p (by simp)⟩
          · exact h1
        · exact h1
      · intro x hx q hq
        unfold giveS at hx
        split at hx
        · split at hx
          · rename_i z hz
            have hf := List.find?_some hz
            unfold fitR at hf
            rw [Bool.and_eq_true, eqI_iff] at hf
            have he : z.e.idx = p.idx := by rw [← hf.2]; rfl
            rcases List.mem_append.1 hx with g | g
            · exact h2 x g q (by simp [hq])
            · simp at g; subst g; rw [he]; exact hm.1 q hq
          · exact h2 x hx q (by simp [hq])
        · exact h2 x hx q (by simp [hq])
  exact h1 want [] h (by simp) (by simp)
theorem take_order (rot : List Idt) (l : List Rec) : (takeV rot l).Pairwise fun x y => x.e.idx < y.e.idx := give_order (wants_ris rot).1
theorem goodR_ahead {r : Rec} (h : goodR r = true) : goodE r.e = true ∧ r.a.idx = r.e.idx - 1 ∧ r.a.trm ≤ r.e.trm := by
  simp only [goodR, Bool.and_eq_true, decide_eq_true_eq] at h
  exact ⟨h.1.1.1, h.1.1.2, h.1.2⟩
theorem left_len (rot : List Idt) (took : List Rec) : (leftV rot took).length ≤ rot.length := by
  unfold leftV; rw [List.length_map]; exact List.length_filter_le _ _
theorem turnI_idx {took : List Rec} {p : Idt} : (turnI took p).idx = p.idx := by
  unfold turnI
  split
  · split
    · rename_i r hr
      have := List.find?_some hr
      rw [Bool.and_eq_true] at this
      simpa using this.1
    · rfl
  · rfl
theorem left_not {rot : List Idt} {took : List Rec} {p : Idt} (h : p ∈ leftV rot took) : ∀ r ∈ took, p.idx ≠ r.e.idx := by
  unfold leftV at h
  obtain ⟨q, hq, rfl⟩ := List.mem_map.1 h
  rw [List.mem_filter] at hq
  intro r hr
  rw [turnI_idx]
  intro he
  have : isIn took q = true := by unfold isIn; rw [List.any_eq_true]; exact ⟨r, hr, by simp [he]⟩
  simp [this] at hq
theorem left_take {rot : List Idt} {took : List Rec} {k : Nat} {p : Idt} (hp : rot[k]? = some p) : leftV (rot.take (k + 1)) took = leftV (rot.take k) took ++ (if isIn took p then [] else [turnI took p]) := by
  unfold leftV
  rw [List.take_add_one, hp, List.filter_append, List.map_append]
  cases h : isIn took p <;> simp [h]

/-- Who is asked. -/
def whomL (members : List Int) (self : Int) : List Int := members.filter fun m => !decide (m = self)
def whomV (members : List Int) (self turn : Int) : Int :=
  if whomL members self = [] then 0 else ((whomL members self)[((turn.tmod (whomL members self).length + (whomL members self).length).tmod (whomL members self).length).toNat]?).getD 0
end Go.Proofs.YtglkgmijhdkhpaaDoor
