/-
  Merged: Ent, HealKnown, HealMath2, Append, Ext, Ent2.
-/
import Derived.Test.YtglkgmijhdkhpaaGreatDoorProg
import Derived.Test.YtglkgmijhdkhpaaGreatDoorHt3
import Derived.Test.YtglkgmijhdkhpaaGreatDoorHt2
import Derived.WalkLawsBesides
import Derived.Lib.Hide
import Derived.Deep.QuietTactic
import Derived.BigQuiet
import Derived.OwnWalk
import Derived.Deep.DeepCutAuto
/-
  THE PACKAGE entry, 1: members: contracts.
-/
set_option linter.unusedVariables false
namespace Go.Proofs.YtglkgmijhdkhpaaGreatDoor
open Go.RowKit

set_option maxHeartbeats 400000 in
theorem entryRight (l : List Int) (v : Value) (w : World) (h : Sl 1 i64Row w.heap.size w v l) :
    Calls Tryz.prog 119 #[v] w fun e w' => e = .returned (.bool (memRight l)) ∧ w = w' := by
  obtain ⟨A, cap, rfl, hlc, hcm, -, hA⟩ := h
  have hn : l.length ≤ 9223372036854775807 := by unfold maxLen at hcm; omega
  clear hcm
  go_enter Tryz.func119, Tryz.ntmps119
  go_wp2_with fail
  go_loop [3, 4, 7] (fun _ _ j => ∃ (k : Nat) (p : Int), k ≤ l.length ∧ j = .int .i64 k ∧ memFrom 0 l = memFrom p (l.drop k) ∧ (0 < k → l[k - 1]? = some p) ∧ (k = 0 → p = 0)) (fun _ _ j => l.length - (intOf j).toNat)
  case atStart => exact ⟨0, 0, by omega, rfl, by simp, by simp, by simp⟩
  case round =>
    obtain ⟨k, p, hk, rfl, hm, hp, h0⟩ := hrel
    by_cases hlt : k < l.length
    · obtain ⟨b, off, rfl, hb, hcell⟩ := hA (by intro h; subst h; simp at hlt)
      obtain ⟨x, hx⟩ : ∃ x, l[k]? = some x := ⟨_, List.getElem?_eq_getElem hlt⟩
      have c0 : w.cell? ⟨b, off + k, none⟩ = some (.int .i64 x) := by simpa using hcell k x hx 0 _ rfl
      have cp : 0 < k → w.cell? ⟨b, off + (k - 1), none⟩ = some (.int .i64 p) := fun h => by simpa using hcell (k - 1) p (hp h) 0 _ rfl
      have HM : Hid (memFrom 0 l = (decide (1 ≤ x ∧ x ≤ 7 ∧ p < x) && memFrom x (l.drop (k + 1)))) := by rw [hm, drop_at hx]; rfl
      have HX := Lib.hid hx
      have HE : Hid (l.isEmpty = false) := by cases l <;> first | rfl | simp at hlt
      have H0 := Lib.hid h0
      clear hcell hx hm hp h0
      go_wp2
      all_goals first
        | (go_roundw
           case rel => exact ⟨k + 1, x, by omega, by go_num, by rw [HM.out, show decide (1 ≤ x ∧ x ≤ 7 ∧ p < x) = true from decide_eq_true (by first | omega | (have := H0.out (by omega); omega))]; rfl, fun _ => HX.out, by omega⟩
           case measure => simp [intOf]; omega)
        | (go_ret
           exact ⟨ret_bool (by rw [memRight, HM.out, show decide (1 ≤ x ∧ x ≤ 7 ∧ p < x) = false from decide_eq_false (by omega)]; rfl), rfl⟩)
    · have : k = l.length := by omega
      subst this
      have HM := Lib.hid (show memFrom 0 l = true by rw [hm]; simp [memFrom])
      clear hm hp h0
      go_wp2
      go_ret
      exact ⟨ret_bool (by rw [memRight, HM.out]; cases l <;> simp), rfl⟩


end Go.Proofs.YtglkgmijhdkhpaaGreatDoor
/-
  heal.known, the comparisons: contracts.
-/
set_option linter.unusedVariables false
set_option linter.unusedSimpArgs false
namespace Go.Proofs.YtglkgmijhdkhpaaGreatDoor
open Go.RowKit

set_option maxHeartbeats 1000000 in
theorem healKnown (p : Idt) (w : World) :
    Calls Tryz.prog 60 #[.agg #[.int .i64 p.idx, .int .i64 p.trm, .int .i64 p.knd]] w fun e w' => e = .returned (.bool (knownI p)) ∧ Below w.heap.size w w' := by
  by_cases h0 : 0 < p.idx
  · have d0 : decide (0 < p.idx) = true := decide_eq_true h0
    by_cases h1 : 1 ≤ p.knd
    · have d1 : decide (1 ≤ p.knd) = true := decide_eq_true h1
      have HK := Lib.hid (show knownI p = decide (p.knd ≤ 3) by unfold knownI; rw [d0, d1]; rfl)
      by_cases h2 : p.knd ≤ 3
      · have d2 : decide (p.knd ≤ 3) = true := decide_eq_true h2
        go_enter Tryz.func60, Tryz.ntmps60
        go_wp2_with fail
        go_ret
        exact ⟨ret_bool (by rw [HK.out, d2]), below_new _ _⟩
      · have d2 : decide (p.knd ≤ 3) = false := decide_eq_false h2
        have h3 : 3 < p.knd := by omega
        go_enter Tryz.func60, Tryz.ntmps60
        go_wp2_with fail
        go_ret
        exact ⟨ret_bool (by rw [HK.out, d2]), below_new _ _⟩
    · have d1 : decide (1 ≤ p.knd) = false := decide_eq_false h1
      have h3 : p.knd < 1 := by omega
      have HK := Lib.hid (show knownI p = false by unfold knownI; rw [d1]; simp)
      go_enter Tryz.func60, Tryz.ntmps60
      go_wp2_with fail
      go_ret
      exact ⟨ret_bool HK.out.symm, below_new _ _⟩
  · have d0 : decide (0 < p.idx) = false := decide_eq_false h0
    have h3 : p.idx ≤ 0 := by omega
    have HK := Lib.hid (show knownI p = false by unfold knownI; rw [d0]; rfl)
    go_enter Tryz.func60, Tryz.ntmps60
    go_wp2_with fail
    go_ret
    exact ⟨ret_bool HK.out.symm, below_new _ _⟩
end Go.Proofs.YtglkgmijhdkhpaaGreatDoor
/-
  WHAT IS GIVEN, TAKEN, LEFT: plain Lean, no program.
-/
set_option linter.unusedVariables false
namespace Go.Proofs.YtglkgmijhdkhpaaGreatDoor

structure Rec where
  e : Ent
  a : Idt
def recRow (r : Rec) : List Value := [.int .i64 r.e.idx, .int .i64 r.e.trm, .int .i64 r.e.knd, .slice r.e.ba r.e.bd.length r.e.bc, .int .i64 r.a.idx, .int .i64 r.a.trm, .int .i64 r.a.knd]
theorem recRow_length (r : Rec) : (recRow r).length = 7 := rfl
theorem recRow_one (r : Rec) : ∀ u ∈ recRow r, u.oneCell' = true := by
  intro u hu; simp [recRow] at hu; rcases hu with rfl | rfl | rfl | rfl | rfl | rfl | rfl <;> rfl
def zI0 : Idt := ⟨0, 0, 0⟩
def eqI (x y : Idt) : Bool := decide (x.idx = y.idx) && decide (x.trm = y.trm) && decide (x.knd = y.knd)
theorem eqI_iff {x y : Idt} : eqI x y = true ↔ x = y := by
  cases x; cases y; simp [eqI, and_assoc]
def goodR (r : Rec) : Bool := goodE r.e && decide (r.a.idx = r.e.idx - 1) && decide (r.a.trm ≤ r.e.trm) && (decide (1 < r.e.idx) || eqI r.a zI0)
def fitR (p : Idt) (r : Rec) : Bool := goodR r && eqI (ofE r.e) p
def giveS (l : List Rec) (most : Int) (out : List Rec) (p : Idt) : List Rec := if (out.length : Int) < most then (match l.find? (fitR p) with | some r => out ++ [r] | none => out) else out
def giveV (l : List Rec) (want : List Idt) (most : Int) : List Rec := want.foldl (giveS l most) []
def takeV (rot : List Idt) (l : List Rec) : List Rec := giveV l (wantsV rot) rot.length
def isIn (took : List Rec) (p : Idt) : Bool := took.any fun r => decide (r.e.idx = p.idx)
def aheadOf (took : List Rec) (p : Idt) : Option Rec := took.find? fun r => decide (r.a.idx = p.idx) && !decide (r.a.knd = 0)
def turnI (took : List Rec) (p : Idt) : Idt := if p.knd = 0 then (match aheadOf took p with | some r => r.a | none => p) else p
def leftV (rot : List Idt) (took : List Rec) : List Idt := (rot.filter fun p => !isIn took p).map (turnI took)

theorem giveS_le {l : List Rec} {most : Int} {out : List Rec} {p : Idt} (h : (out.length : Int) ≤ max most 0) : ((giveS l most out p).length : Int) ≤ max most 0 := by
  unfold giveS
  split
  · split
    · simp; omega
    · exact h
  · exact h
theorem giveS_len {l : List Rec} {most : Int} {out : List Rec} {p : Idt} : (giveS l most out p).length ≤ out.length + 1 := by
  unfold giveS
  split
  · split <;> simp
  · simp
theorem give_le (l : List Rec) (want : List Idt) (most : Int) : ((giveV l want most).length : Int) ≤ max most 0 := by
  have h : ∀ (m : List Idt) (out : List Rec), (out.length : Int) ≤ max most 0 → ((m.foldl (giveS l most) out).length : Int) ≤ max most 0 := by
    intro m
    induction m with
    | nil => intro out h; exact h
    | cons p m ih => intro out h; rw [List.foldl_cons]; exact ih _ (giveS_le h)
  exact h want [] (by simp; omega)
theorem give_len (l : List Rec) (want : List Idt) (most : Int) : (giveV l want most).length ≤ want.length := by
  have h : ∀ (m : List Idt) (out : List Rec), (m.foldl (giveS l most) out).length ≤ out.length + m.length := by
    intro m
    induction m with
    | nil => intro out; simp
    | cons p m ih => intro out; rw [List.foldl_cons]; have := ih (giveS l most out p); have := giveS_len (l := l) (most := most) (out := out) (p := p); simp; omega
  simpa [giveV] using h want []
/-- A round of the loop. -/
theorem give_take {l : List Rec} {want : List Idt} {most : Int} {k : Nat} {p : Idt} (hp : want[k]? = some p) : giveV l (want.take (k + 1)) most = giveS l most (giveV l (want.take k) most) p := by
  unfold giveV
  rw [List.take_add_one, hp, List.foldl_append]; rfl
/-- It is full. -/
theorem give_full {l : List Rec} {want : List Idt} {most : Int} {k : Nat} (h : most ≤ ((giveV l (want.take k) most).length : Int)) : giveV l want most = giveV l (want.take k) most := by
  have h1 : ∀ (m : List Idt) (out : List Rec), most ≤ (out.length : Int) → m.foldl (giveS l most) out = out := by
    intro m
    induction m with
    | nil => intro out _; rfl
    | cons p m ih => intro out h; rw [List.foldl_cons, show giveS l most out p = out by unfold giveS; rw [if_neg (by omega)]]; exact ih out h
  unfold giveV at h ⊢
  conv => lhs; rw [← List.take_append_drop k want, List.foldl_append]
  exact h1 _ _ h
/-- What is given, each was asked for, is good, and stood there. -/
theorem give_mem {l : List Rec} {want : List Idt} {most : Int} {r : Rec} (h : r ∈ giveV l want most) : r ∈ l ∧ goodR r = true ∧ ofE r.e ∈ want := by
  have h1 : ∀ (m : List Idt) (out : List Rec), r ∈ m.foldl (giveS l most) out → r ∈ out ∨ (r ∈ l ∧ goodR r = true ∧ ofE r.e ∈ m) := by
    intro m
    induction m with
    | nil => intro out h; exact .inl h
    | cons p m ih =>
      intro out h
      rw [List.foldl_cons] at h
      rcases ih _ h with g | ⟨g1, g2, g3⟩
      · unfold giveS at g
        split at g
        · split at g
          · rename_i z hz
            rcases List.mem_append.1 g with g | g
            · exact .inl g
            · simp at g; subst g
              have hf := List.find?_some hz
              unfold fitR at hf
              rw [Bool.and_eq_true, eqI_iff] at hf
              exact .inr ⟨List.mem_of_find?_eq_some hz, hf.1, by rw [hf.2]; simp⟩
          · exact .inl g
        · exact .inl g
      · exact .inr ⟨g1, g2, by simp [g3]⟩
  rcases h1 want [] h with g | g
  · simp at g
  · exact g
/-- In the order that was asked. -/
theorem give_order {l : List Rec} {most : Int} {want : List Idt} (h : RisI want) : (giveV l want most).Pairwise fun x y => x.e.idx < y.e.idx := by
  have h1 : ∀ (m : List Idt) (out : List Rec), RisI m → (out.Pairwise fun x y => x.e.idx < y.e.idx) → (∀ x ∈ out, ∀ p ∈ m, x.e.idx < p.idx) → (m.foldl (giveS l most) out).Pairwise fun x y => x.e.idx < y.e.idx := by
    intro m
    induction m with
    | nil => intro out _ h _; exact h
    | cons p m ih =>
      intro out hm h1 h2
      unfold RisI at hm
      rw [List.pairwise_cons] at hm
      rw [List.foldl_cons]
      refine ih _ hm.2 ?_ ?_
      · unfold giveS
        split
        · split
          · rename_i z hz
            have hf := List.find?_some hz
            unfold fitR at hf
            rw [Bool.and_eq_true, eqI_iff] at hf
            have he : z.e.idx = p.idx := by rw [← hf.2]; rfl
            rw [List.pairwise_append]
            exact ⟨h1, by simp, fun x hx y hy => by simp at hy; subst hy; rw [he]; exact h2 x hx p (by simp)⟩
          · exact h1
        · exact h1
      · intro x hx q hq
        unfold giveS at hx
        split at hx
        · split at hx
          · rename_i z hz
            have hf := List.find?_some hz
            unfold fitR at hf
            rw [Bool.and_eq_true, eqI_iff] at hf
            have he : z.e.idx = p.idx := by rw [← hf.2]; rfl
            rcases List.mem_append.1 hx with g | g
            · exact h2 x g q (by simp [hq])
            · simp at g; subst g; rw [he]; exact hm.1 q hq
          · exact h2 x hx q (by simp [hq])
        · exact h2 x hx q (by simp [hq])
  exact h1 want [] h (by simp) (by simp)
theorem take_order (rot : List Idt) (l : List Rec) : (takeV rot l).Pairwise fun x y => x.e.idx < y.e.idx := give_order (wants_ris rot).1
theorem goodR_ahead {r : Rec} (h : goodR r = true) : goodE r.e = true ∧ r.a.idx = r.e.idx - 1 ∧ r.a.trm ≤ r.e.trm := by
  simp only [goodR, Bool.and_eq_true, decide_eq_true_eq] at h
  exact ⟨h.1.1.1, h.1.1.2, h.1.2⟩
theorem left_len (rot : List Idt) (took : List Rec) : (leftV rot took).length ≤ rot.length := by
  unfold leftV; rw [List.length_map]; exact List.length_filter_le _ _
theorem turnI_idx {took : List Rec} {p : Idt} : (turnI took p).idx = p.idx := by
  unfold turnI
  split
  · split
    · rename_i r hr
      have := List.find?_some hr
      rw [Bool.and_eq_true] at this
      simpa using this.1
    · rfl
  · rfl
theorem left_not {rot : List Idt} {took : List Rec} {p : Idt} (h : p ∈ leftV rot took) : ∀ r ∈ took, p.idx ≠ r.e.idx := by
  unfold leftV at h
  obtain ⟨q, hq, rfl⟩ := List.mem_map.1 h
  rw [List.mem_filter] at hq
  intro r hr
  rw [turnI_idx]
  intro he
  have : isIn took q = true := by unfold isIn; rw [List.any_eq_true]; exact ⟨r, hr, by simp [he]⟩
  simp [this] at hq
theorem left_take {rot : List Idt} {took : List Rec} {k : Nat} {p : Idt} (hp : rot[k]? = some p) : leftV (rot.take (k + 1)) took = leftV (rot.take k) took ++ (if isIn took p then [] else [turnI took p]) := by
  unfold leftV
  rw [List.take_add_one, hp, List.filter_append, List.map_append]
  cases h : isIn took p <;> simp [h]

/-- Who is asked. -/
def whomL (members : List Int) (self : Int) : List Int := members.filter fun m => !decide (m = self)
def whomV (members : List Int) (self turn : Int) : Int :=
  if whomL members self = [] then 0 else ((whomL members self)[((turn.tmod (whomL members self).length + (whomL members self).length).tmod (whomL members self).length).toNat]?).getD 0
end Go.Proofs.YtglkgmijhdkhpaaGreatDoor
/-
  'append(out, l...)' at a step of a region that draws: laws that name no program.
-/
set_option linter.unusedVariables false
namespace Go.Proofs.YtglkgmijhdkhpaaGreatDoor
open Go.RowKit

section
variable {α : Type} {P : Program}
/-- l a slice that reads as a list: nil, empty or not. -/
theorem wp_append_all {w : World} {o : Oper} {a : Act} {K : Act → World → Prop} {Q : Exit → Act → World → Prop} (s y : Operand) (t : TypeId)
    (ho : o.op = .call { callee := .builtin .append, args := #[s, y], argTypes := #[t, t] })
    (base : Nat) (e : TypeId) (z : Value) (k bytes : Nat) (ht : P.underlying t = some (.slice e)) (hinfo : (P.info? e).map (fun i => (i.zero, i.size, i.bytes)) = some (some z, k, bytes)) (hzs : z.cells.size = k) (hk0 : 0 < k)
    (row : α → List Value) (hrow : ∀ x, (row x).length = k) (hone : ∀ x, ∀ u ∈ row x, u.oneCell' = true)
    (l0 : List α) (v : Value) (hs : a.eval s = v) (hown : Own k row e base w v l0) (l : List α) (B : Nat) (vs : Value) (hsl : Sl k row B w vs l) (hy : a.eval y = vs)
    (h63 : l0.length + l.length ≤ 4294967296) (hbytes : bytes ≤ 4096) (hbase : base ≤ w.heap.size)
    (h : ∀ v' w', Own k row e base w' v' (l0 ++ l) → Below base w w' → w.heap.size ≤ w'.heap.size → (∀ g, g < w.heap.size → some g ≠ v.ownBlock → w'.heap[g]? = w.heap[g]?) → (v' = .slice none 0 0 → v = .slice none 0 0 ∧ l = []) → K (a.put o.dst v') w') : o.wp P a w K Q := by
  obtain ⟨i, hi, hz, hsz, hby⟩ := info_parts hinfo
  obtain ⟨A, cap, rfl, h1, h2, hN, hA⟩ := hsl
  cases A with
  | none =>
    have hc0 := hN rfl
    have hl : l = [] := List.eq_nil_of_length_eq_zero (by omega)
    subst hl; subst hc0
    have hrun := run_append_owned_none (P := P) (w := w) base t o.type e i k ht hi v l0.length (l0.flatMap row) hown
    unfold Oper.wp
    have hy' : a.eval y = .slice none 0 0 := hy
    simp [execOp, ho, resolve, invoke, builtin, hs, hy', hrun, Result.andThen]
    exact h v w (by simpa using hown) (Below.refl _ _) (Nat.le_refl _) (fun _ _ _ => rfl) (fun h => ⟨h, rfl⟩)
  | some ad =>
    refine wp_append_own w s y t ho base e i z k bytes ht hi hz hsz hby hzs hk0 v l0.length (l0.flatMap row) hs hown ad l.length cap (l.flatMap row) hy (flat_length hrow l) ?_ ?_ (by unfold maxLen; omega) ?_ hbase ?_
    · intro j u hu
      obtain ⟨i', x, j', e1, e2, rfl⟩ := flat_inv hrow l j u hu
      obtain ⟨b, off, hb, _, hc⟩ := hA (by rintro rfl; simp at e1)
      injection hb with hb
      subst hb
      rw [Addr.add_lit, ← Nat.add_assoc]
      exact hc i' x e1 j' u e2
    · intro u hu
      obtain ⟨x, _, hx⟩ := List.mem_flatMap.1 hu
      exact hone x u hx
    · calc (l0.length + l.length) * bytes ≤ 4294967296 * 4096 := Nat.mul_le_mul h63 hbytes
        _ ≤ 140737488355328 := by omega
    · intro v' w' h1 h2 h3
      have hb : ∀ g, v.ownBlock = some g → base ≤ g := fun g hg => (World.ownsRow.lt hown g hg).1
      refine h v' w' ?_ ((Below.refl base w).grown h2 hbase hb) h2.size (fun g hg hne => h2.block g hg hne) (fun hv => ?_)
      · unfold Own; rw [List.flatMap_append, List.length_append]; exact h1
      · obtain ⟨e1, e2⟩ := h3.1 hv
        exact ⟨e1, List.eq_nil_of_length_eq_zero e2⟩
theorem step_append_all {w : World} {ops : Array Oper} {o : Oper} {a : Act} {K : Act → World → Prop} {Q : Exit → Act → World → Prop} {E : Prop} (hgd : o.guard = none) (s y : Operand) (t : TypeId)
    (ho : o.op = .call { callee := .builtin .append, args := #[s, y], argTypes := #[t, t] })
    (base : Nat) (e : TypeId) (z : Value) (k bytes : Nat) (ht : P.underlying t = some (.slice e)) (hinfo : (P.info? e).map (fun i => (i.zero, i.size, i.bytes)) = some (some z, k, bytes)) (hzs : z.cells.size = k) (hk0 : 0 < k)
    (row : α → List Value) (hrow : ∀ x, (row x).length = k) (hone : ∀ x, ∀ u ∈ row x, u.oneCell' = true)
    (l0 : List α) (v : Value) (hs : a.eval s = v) (hown : Own k row e base w v l0) (l : List α) (B : Nat) (vs : Value) (hsl : Sl k row B w vs l) (hy : a.eval y = vs)
    (h63 : l0.length + l.length ≤ 4294967296) (hbytes : bytes ≤ 4096) (hbase : base ≤ w.heap.size)
    (h : ∀ v' w', Own k row e base w' v' (l0 ++ l) → Below base w w' → w.heap.size ≤ w'.heap.size → (∀ g, g < w.heap.size → some g ≠ v.ownBlock → w'.heap[g]? = w.heap[g]?) → (v' = .slice none 0 0 → v = .slice none 0 0 ∧ l = []) → K (a.put o.dst v') w') :
    if Region.wanted o (yielded ops a.tmps) = true then Oper.wp P o a w K Q else E := by
  have hw : Region.wanted o (yielded ops a.tmps) = true := by simp [Region.wanted, hgd]
  rw [if_pos hw]
  exact wp_append_all s y t ho base e z k bytes ht hinfo hzs hk0 row hrow hone l0 v hs hown l B vs hsl hy h63 hbytes hbase h
theorem step_append_any {w : World} {ops : Array Oper} {o : Oper} {a : Act} {K : Act → World → Prop} {Q : Exit → Act → World → Prop} {E : Prop} (hgd : o.guard = none) (s y : Operand) (t : TypeId)
    (ho : o.op = .call { callee := .builtin .append, args := #[s, y], argTypes := #[t, t] })
    (base : Nat) (e : TypeId) (z : Value) (k bytes : Nat) (ht : P.underlying t = some (.slice e)) (hinfo : (P.info? e).map (fun i => (i.zero, i.size, i.bytes)) = some (some z, k, bytes)) (hzs : z.cells.size = k) (hk0 : 0 < k)
    (row : α → List Value) (hrow : ∀ x, (row x).length = k) (hone : ∀ x, ∀ u ∈ row x, u.oneCell' = true)
    (l0 : List α) (v : Value) (hs : a.eval s = v) (hown : Own k row e base w v l0) (l : List α) (vs : Value) (hsl : ∃ B, Sl k row B w vs l) (hy : a.eval y = vs)
    (h63 : l0.length + l.length ≤ 4294967296) (hbytes : bytes ≤ 4096) (hbase : base ≤ w.heap.size)
    (h : ∀ v' w', Own k row e base w' v' (l0 ++ l) → Below base w w' → w.heap.size ≤ w'.heap.size → (∀ g, g < w.heap.size → some g ≠ v.ownBlock → w'.heap[g]? = w.heap[g]?) → (v' = .slice none 0 0 → v = .slice none 0 0 ∧ l = []) → K (a.put o.dst v') w') :
    if Region.wanted o (yielded ops a.tmps) = true then Oper.wp P o a w K Q else E := by
  obtain ⟨B, hsl⟩ := hsl
  exact step_append_all hgd s y t ho base e z k bytes ht hinfo hzs hk0 row hrow hone l0 v hs hown l B vs hsl hy h63 hbytes hbase h
end
/-- A block that is known whole, as a list of rows. -/
theorem Box.sl {α : Type} {row : α → List Value} {k : Nat} (hrow : ∀ x, (row x).length = k) {w : World} {n : Nat} {t : TypeId} (l : List α) {cs : Array Value} (h : Box w n cs t) (hcs : cs = (l.flatMap row).toArray) (hl : l.length ≤ maxLen) :
    Sl k row w.heap.size w (.slice (some ⟨n, 0, none⟩) l.length l.length) l := by
  refine ⟨_, _, rfl, Nat.le_refl _, hl, fun h => by simp at h, fun _ => ⟨n, 0, rfl, h.lt, fun i x hx j u hu => ?_⟩⟩
  rw [Nat.zero_add, h.cell, hcs]
  simpa using flat_at hrow l i x hx j u hu
end Go.Proofs.YtglkgmijhdkhpaaGreatDoor
/-
  A REGION, whether it draws its order or not, walked once over a class of worlds that is a type: laws that name no program.
-/
set_option linter.unusedVariables false
namespace Go.Proofs.YtglkgmijhdkhpaaGreatDoor
open Go.RowKit

/-! ### The class as a subtype: facts on its worlds hold without a condition, so that the walk's own simp uses them -/
/-- A world that leaves all that stood in W be. -/
def Ext (W : World) : Type := { w' : World // Below W.heap.size W w' }
/-- The world itself. -/
def Ext.wd {W : World} (x : Ext W) : World := x.val
theorem Ext.low {W : World} (x : Ext W) : Below W.heap.size W x.wd := x.property
def Ext.mk {W w : World} (h : Below W.heap.size W w) : Ext W := ⟨w, h⟩
instance ext_nonempty (W : World) : Nonempty (Ext W) := ⟨Ext.mk (Below.refl _ _)⟩

section
variable {P : Program} {ops : Array Oper} {C : World → Prop}
theorem wpList_of_quiet {Q : Act → Prop} {Q' : Exit → Act → World → Prop} (hQ : ∀ a w, C w → Q a → Q' .normal a w) : ∀ (l : List Oper) (a : Act) (w : World), C w → wpQuiet P ops C Q l a → wpList P ops Q' l a w
  | [], a, w, hw, h => hQ a w hw h
  | o :: rest, a, w, hw, h => by
    unfold wpQuiet at h
    unfold wpList
    split at h
    · rename_i hwant
      rw [if_pos hwant]
      exact .inl (Oper.wp_of_quiet hw (fun a' w' hw' h' => wpList_of_quiet hQ rest a' w' hw' h') h)
    · rename_i hwant
      rw [if_neg hwant]
      exact wpList_of_quiet hQ rest _ w hw h
end
/-- A region that draws its order, walked once. -/
theorem wp_region_ext {P : Program} {id : Nat} {Q : Exit → Act → World → Prop} {a : Act} {w : World} {l : List Oper} (hm : P.follows .mixedOrders = true) (hB : Region.lexB .any l.toArray = true)
    (h : wpQuiet P l.toArray (fun w' => ∃ x : Ext w, w' = x.wd) (fun a' => ∀ w', (∃ x : Ext w, w' = x.wd) → Q .normal a' w') l a) : (Code.region id l.toArray true).wp P Q a w :=
  wp_region_quiet (C := fun w' => ∃ x : Ext w, w' = x.wd) hm hB ⟨Ext.mk (Below.refl _ _).drew, rfl⟩ (by simpa using h)
/-- A region that does not. -/
theorem wp_region_ext_plain {P : Program} {id : Nat} {Q : Exit → Act → World → Prop} {a : Act} {w : World} {l : List Oper}
    (h : wpQuiet P l.toArray (fun w' => ∃ x : Ext w, w' = x.wd) (fun a' => ∀ w', (∃ x : Ext w, w' = x.wd) → Q .normal a' w') l a) : (Code.region id l.toArray false).wp P Q a w :=
  wp_region_lit (wpList_of_quiet (C := fun w' => ∃ x : Ext w, w' = x.wd) (fun _ w' hw h => h w' hw) l a w ⟨Ext.mk (Below.refl _ _), rfl⟩ h)
/-- The same, begun in a world of a class that stands. -/
theorem wp_region_ext_at {P : Program} {id : Nat} {Q : Exit → Act → World → Prop} {a : Act} {W : World} (x0 : Ext W) {l : List Oper} (hm : P.follows .mixedOrders = true) (hB : Region.lexB .any l.toArray = true)
    (h : wpQuiet P l.toArray (fun w' => ∃ x : Ext W, w' = x.wd) (fun a' => ∀ w', (∃ x : Ext W, w' = x.wd) → Q .normal a' w') l a) : (Code.region id l.toArray true).wp P Q a x0.wd :=
  wp_region_quiet (C := fun w' => ∃ x : Ext W, w' = x.wd) hm hB ⟨Ext.mk x0.low.drew, rfl⟩ (by simpa using h)
theorem wp_region_ext_plain_at {P : Program} {id : Nat} {Q : Exit → Act → World → Prop} {a : Act} {W : World} (x0 : Ext W) {l : List Oper}
    (h : wpQuiet P l.toArray (fun w' => ∃ x : Ext W, w' = x.wd) (fun a' => ∀ w', (∃ x : Ext W, w' = x.wd) → Q .normal a' w') l a) : (Code.region id l.toArray false).wp P Q a x0.wd :=
  wp_region_lit (wpList_of_quiet (C := fun w' => ∃ x : Ext W, w' = x.wd) (fun _ w' hw h => h w' hw) l a x0.wd ⟨x0, rfl⟩ h)
/-- A callee's contract, met in a world of the class. -/
theorem ext_of {P : Program} {f : FuncId} {args : Array Value} {W : World} {v : Value} (x : Ext W) (h : Calls P f args x.wd fun e w' => e = .returned v ∧ Below x.wd.heap.size x.wd w') :
    Calls P f args x.wd fun e w'' => e = .returned v ∧ ∃ y : Ext W, w'' = y.wd := h.mono fun _ w' ⟨he, hb⟩ => ⟨he, Ext.mk (below_call x.low hb), rfl⟩
theorem ext_of_same {P : Program} {f : FuncId} {args : Array Value} {W : World} {v : Value} (x : Ext W) (h : Calls P f args x.wd fun e w' => e = .returned v ∧ x.wd = w') :
    Calls P f args x.wd fun e w'' => e = .returned v ∧ ∃ y : Ext W, w'' = y.wd := h.mono fun _ w' ⟨he, hb⟩ => ⟨he, x, hb.symm⟩
theorem ext_of_drew {P : Program} {f : FuncId} {args : Array Value} {W : World} {v : Value} (x : Ext W) (h : Calls P f args x.wd fun e w' => e = .returned v ∧ ∃ n, w' = x.wd.drewN n) :
    Calls P f args x.wd fun e w'' => e = .returned v ∧ ∃ y : Ext W, w'' = y.wd := h.mono fun _ w' ⟨he, n, hb⟩ => ⟨he, Ext.mk (below_drewN x.low n), hb⟩
/-- What a box is in the class. -/
theorem Box.ext {W : World} {n : Nat} {cs : Array Value} {t : TypeId} (h : Box W n cs t) (i : Nat) : ∀ x : Ext W, x.wd.cell? ⟨n, i, none⟩ = cs[i]? := fun x => (h.later x.low).cell i
end Go.Proofs.YtglkgmijhdkhpaaGreatDoor
/-
  THE PACKAGE entry, 2: what is right, members of bytes: contracts.
-/
set_option linter.unusedVariables false
set_option linter.unusedSimpArgs false
namespace Go.Proofs.YtglkgmijhdkhpaaGreatDoor
open Go.RowKit

set_option maxHeartbeats 400000 in
theorem within (n least : Int) (b : Bool) (hb : (decide (least ≤ n) && decide (n ≤ 1099511627776)) = b) (w : World) :
    Calls Tryz.prog 118 #[.int .i64 n, .int .i64 least] w fun e w' => e = .returned (.bool b) ∧ w = w' := by
  by_cases h1 : least ≤ n
  · have d1 : decide (least ≤ n) = true := decide_eq_true h1
    by_cases h2 : n ≤ 1099511627776
    · have d2 : decide (n ≤ 1099511627776) = true := decide_eq_true h2
      have HB := Lib.hid (show true = b by rw [← hb, d1, d2]; rfl)
      clear hb
      go_enter Tryz.func118, Tryz.ntmps118
      go_wp2
      go_ret
      exact ⟨ret_bool HB.out, rfl⟩
    · have d2 : decide (n ≤ 1099511627776) = false := decide_eq_false h2
      have HB := Lib.hid (show false = b by rw [← hb, d1, d2]; rfl)
      clear hb
      go_enter Tryz.func118, Tryz.ntmps118
      go_wp2
      go_ret
      exact ⟨ret_bool HB.out, rfl⟩
  · have d1 : decide (least ≤ n) = false := decide_eq_false h1
    have HB := Lib.hid (show false = b by rw [← hb, d1]; rfl)
    clear hb
    go_enter Tryz.func118, Tryz.ntmps118
    go_wp2
    go_ret
    exact ⟨ret_bool HB.out, rfl⟩

set_option maxHeartbeats 2000000 in
theorem codeRight (x : Ent) (w : World) :
    Calls Tryz.prog 99 #[.agg #[.int .i64 x.idx, .int .i64 x.trm, .int .i64 x.knd, .slice x.ba x.bd.length x.bc]] w fun e w' => e = .returned (.bool (rangeE x)) ∧ Below w.heap.size w w' := by
  have hbx : Box (w.alloc (.cells #[.int .i64 x.idx, .int .i64 x.trm, .int .i64 x.knd, .slice x.ba x.bd.length x.bc] 54)) w.heap.size #[.int .i64 x.idx, .int .i64 x.trm, .int .i64 x.knd, .slice x.ba x.bd.length x.bc] 54 := Box.new _ _ _
  have hB : Below w.heap.size w (w.alloc (.cells #[.int .i64 x.idx, .int .i64 x.trm, .int .i64 x.knd, .slice x.ba x.bd.length x.bc] 54)) := below_new _ _
  obtain ⟨b1, h1⟩ : ∃ b, (decide (1 ≤ x.idx) && decide (x.idx ≤ 1099511627776)) = b := ⟨_, rfl⟩
  obtain ⟨b2, h2⟩ : ∃ b, (decide (0 ≤ x.trm) && decide (x.trm ≤ 1099511627776)) = b := ⟨_, rfl⟩
  obtain ⟨b3, h3⟩ : ∃ b, decide (1 ≤ x.knd) = b := ⟨_, rfl⟩
  obtain ⟨b4, h4⟩ : ∃ b, decide (x.knd ≤ 3) = b := ⟨_, rfl⟩
  obtain ⟨b5, h5⟩ : ∃ b, decide ((x.bd.length : Int) ≤ 200) = b := ⟨_, rfl⟩
  have h5' : decide (x.bd.length ≤ 200) = b5 := by rw [← h5]; simp only [decide_eq_decide]; omega
  have HR := Lib.hid (show rangeE x = (b1 && b2 && b3 && b4 && b5) by unfold rangeE; rw [← h1, ← h2, h3, h4, h5']; simp only [Bool.and_assoc])
  have C1 := Lib.hid (fun w => within x.idx 1 b1 h1 w)
  have C2 := Lib.hid (fun w => within x.trm 0 b2 h2 w)
  clear h1 h2
  obtain ⟨W, hW⟩ : ∃ W : World, W = w.alloc (.cells #[.int .i64 x.idx, .int .i64 x.trm, .int .i64 x.knd, .slice x.ba x.bd.length x.bc] 54) := ⟨_, rfl⟩
  rw [← hW] at hbx hB
  have HB := Lib.hid hB
  have k0 : ∀ zw : Ext W, zw.wd.cell? ⟨w.heap.size, 0, none⟩ = some (.int .i64 x.idx) := hbx.ext 0
  have k1 : ∀ zw : Ext W, zw.wd.cell? ⟨w.heap.size, 1, none⟩ = some (.int .i64 x.trm) := hbx.ext 1
  have k2 : ∀ zw : Ext W, zw.wd.cell? ⟨w.heap.size, 2, none⟩ = some (.int .i64 x.knd) := hbx.ext 2
  have k3 : ∀ zw : Ext W, zw.wd.cell? ⟨w.heap.size, 3, none⟩ = some (.slice x.ba x.bd.length x.bc) := hbx.ext 3
  clear hbx hB
  go_enter Tryz.func99, Tryz.ntmps99
  go_upto_region 2 with fail
  rw [← hW]
  clear hW
  have FIN : ∀ x5 : Ext W, Below w.heap.size w x5.wd := fun x5 => HB.out.trans (x5.low.mono HB.out.size)
  have FIN := Lib.hid FIN
  cases b1 with
  | false =>
    refine wp_region_ext_plain ?_
    repeat (go_big_quiet_step ((rename_i x5; have h5 := x5.low; first
      | (go_at_call 118; first | (with_reducible exact ext_of_same x5 (C1.out x5.wd)) | (with_reducible exact ext_of_same x5 (C2.out x5.wd))))))
    refine wpQuiet_nil ?_
    intro _ hw'
    obtain ⟨x5, hw''⟩ := hw'
    subst hw''
    go_wp2_with fail
    go_ret
    exact ⟨ret_bool (by rw [HR.out]; first | rfl | simp), FIN.out x5⟩
  | true =>
    cases b2 with
    | false =>
      refine wp_region_ext_plain ?_
      repeat (go_big_quiet_step ((rename_i x5; have h5 := x5.low; first
        | (go_at_call 118; first | (with_reducible exact ext_of_same x5 (C1.out x5.wd)) | (with_reducible exact ext_of_same x5 (C2.out x5.wd))))))
      refine wpQuiet_nil ?_
      intro _ hw'
      obtain ⟨x5, hw''⟩ := hw'
      subst hw''
      go_wp2_with fail
      go_ret
      exact ⟨ret_bool (by rw [HR.out]; first | rfl | simp), FIN.out x5⟩
    | true =>
      cases b3 with
      | false =>
        refine wp_region_ext_plain ?_
        repeat (go_big_quiet_step ((rename_i x5; have h5 := x5.low; first
          | (go_at_call 118; first | (with_reducible exact ext_of_same x5 (C1.out x5.wd)) | (with_reducible exact ext_of_same x5 (C2.out x5.wd))))))
        refine wpQuiet_nil ?_
        intro _ hw'
        obtain ⟨x5, hw''⟩ := hw'
        subst hw''
        go_wp2_with fail
        go_ret
        exact ⟨ret_bool (by rw [HR.out]; first | rfl | simp), FIN.out x5⟩
      | true =>
        cases b4 with
        | false =>
          refine wp_region_ext_plain ?_
          repeat (go_big_quiet_step ((rename_i x5; have h5 := x5.low; first
            | (go_at_call 118; first | (with_reducible exact ext_of_same x5 (C1.out x5.wd)) | (with_reducible exact ext_of_same x5 (C2.out x5.wd))))))
          refine wpQuiet_nil ?_
          intro _ hw'
          obtain ⟨x5, hw''⟩ := hw'
          subst hw''
          go_wp2_with fail
          go_ret
          exact ⟨ret_bool (by rw [HR.out]; first | rfl | simp), FIN.out x5⟩
        | true =>
          cases b5 with
          | false =>
            refine wp_region_ext_plain ?_
            repeat (go_big_quiet_step ((rename_i x5; have h5 := x5.low; first
              | (go_at_call 118; first | (with_reducible exact ext_of_same x5 (C1.out x5.wd)) | (with_reducible exact ext_of_same x5 (C2.out x5.wd))))))
            refine wpQuiet_nil ?_
            intro _ hw'
            obtain ⟨x5, hw''⟩ := hw'
            subst hw''
            go_wp2_with fail
            go_ret
            exact ⟨ret_bool (by rw [HR.out]; first | rfl | simp), FIN.out x5⟩
          | true =>
            refine wp_region_ext_plain ?_
            repeat (go_big_quiet_step ((rename_i x5; have h5 := x5.low; first
              | (go_at_call 118; first | (with_reducible exact ext_of_same x5 (C1.out x5.wd)) | (with_reducible exact ext_of_same x5 (C2.out x5.wd))))))
            refine wpQuiet_nil ?_
            intro _ hw'
            obtain ⟨x5, hw''⟩ := hw'
            subst hw''
            go_wp2_with fail
            go_ret
            exact ⟨ret_bool (by rw [HR.out]; first | rfl | simp), FIN.out x5⟩
end Go.Proofs.YtglkgmijhdkhpaaGreatDoor
