/-
  THE MEMBERS OF A LOG: plain Lean, no program.
-/
import Derived.Test.YthadfdpdillemaaGreatDoorEntMath
set_option linter.unusedVariables false
namespace Go.Proofs.YthadfdpdillemaaGreatDoor

def grpE (x : Ent) : Bool := memOk x.bd && decide (x.knd = 3)
def grpS (s : List Int × Int) (x : Ent) : List Int × Int := if grpE x then (x.bd, x.idx) else s
def grpV (base : List Int) (l : List Ent) : List Int × Int := l.foldl grpS (base, 0)
theorem grp_take {base : List Int} {l : List Ent} {k : Nat} {x : Ent} (hx : l[k]? = some x) : grpV base (l.take (k + 1)) = grpS (grpV base (l.take k)) x := by
  unfold grpV; rw [List.take_add_one, hx, List.foldl_append]; rfl
/-- From behind: the first that is one. -/
theorem grp_back {base : List Int} {l : List Ent} {k : Nat} {x : Ent} (hx : l[k]? = some x) (hno : ∀ (j : Nat) (y : Ent), k < j → l[j]? = some y → grpE y = false) (h : grpE x = true) : grpV base l = (x.bd, x.idx) := by
  have e : l = l.take (k + 1) ++ l.drop (k + 1) := (List.take_append_drop _ _).symm
  have h2 : ∀ (m : List Ent) (s : List Int × Int), (∀ y ∈ m, grpE y = false) → m.foldl grpS s = s := by
    intro m
    induction m with
    | nil => intro s _; rfl
    | cons y m ih => intro s hm; rw [List.foldl_cons, show grpS s y = s by unfold grpS; rw [if_neg (by simp [hm y (by simp)])]]; exact ih s fun z hz => hm z (by simp [hz])
  unfold grpV
  rw [e, List.foldl_append, h2 _ _ fun y hy => ?_]
  · have := grp_take (base := base) hx
    unfold grpV at this
    rw [this]; unfold grpS; rw [if_pos h]
  · obtain ⟨j, hj⟩ := List.getElem?_of_mem hy
    rw [List.getElem?_drop] at hj
    exact hno (k + 1 + j) y (by omega) hj
theorem grp_none {base : List Int} {l : List Ent} (hno : ∀ (j : Nat) (y : Ent), l[j]? = some y → grpE y = false) : grpV base l = (base, 0) := by
  unfold grpV
  have h2 : ∀ (m : List Ent) (s : List Int × Int), (∀ y ∈ m, grpE y = false) → m.foldl grpS s = s := by
    intro m
    induction m with
    | nil => intro s _; rfl
    | cons y m ih => intro s hm; rw [List.foldl_cons, show grpS s y = s by unfold grpS; rw [if_neg (by simp [hm y (by simp)])]]; exact ih s fun z hz => hm z (by simp [hz])
  exact h2 l _ fun y hy => by obtain ⟨j, hj⟩ := List.getElem?_of_mem hy; exact hno j y hj
/-- What is no group changes nothing. -/
theorem grp_more {base : List Int} {l m r : List Ent} (hm : ∀ y ∈ m, grpE y = false) : grpV base (l ++ m ++ r) = grpV base (l ++ r) := by
  have h2 : ∀ (m : List Ent) (s : List Int × Int), (∀ y ∈ m, grpE y = false) → m.foldl grpS s = s := by
    intro m
    induction m with
    | nil => intro s _; rfl
    | cons y m ih => intro s hm; rw [List.foldl_cons, show grpS s y = s by unfold grpS; rw [if_neg (by simp [hm y (by simp)])]]; exact ih s fun z hz => hm z (by simp [hz])
  unfold grpV
  rw [List.foldl_append, List.foldl_append, List.foldl_append, h2 m _ hm]
theorem grp_last {base : List Int} {l : List Ent} {x : Ent} (h : grpE x = true) : grpV base (l ++ [x]) = (x.bd, x.idx) := by
  unfold grpV; rw [List.foldl_append]; show grpS _ x = _; unfold grpS; rw [if_pos h]
theorem grp_right {base : List Int} {l : List Ent} (hb : memRight base = true) : memRight (grpV base l).1 = true := by
  unfold grpV
  have h2 : ∀ (m : List Ent) (s : List Int × Int), memRight s.1 = true → memRight (m.foldl grpS s).1 = true := by
    intro m
    induction m with
    | nil => intro s h; exact h
    | cons y m ih =>
      intro s h
      rw [List.foldl_cons]
      refine ih _ ?_
      unfold grpS
      split
      · rename_i hg
        unfold grpE memOk at hg
        simp only [Bool.and_eq_true] at hg
        exact hg.1.2
      · exact h
  exact h2 l _ hb
/-- It depends on what the entries are, not on where their bodies lie. -/
theorem grp_key {base : List Int} : ∀ {l m : List Ent}, l.map (fun x => (x.idx, x.trm, x.knd, x.bd)) = m.map (fun x => (x.idx, x.trm, x.knd, x.bd)) → grpV base l = grpV base m := by
  have h : ∀ (l m : List Ent) (s : List Int × Int), l.map (fun x => (x.idx, x.trm, x.knd, x.bd)) = m.map (fun x => (x.idx, x.trm, x.knd, x.bd)) → l.foldl grpS s = m.foldl grpS s := by
    intro l
    induction l with
    | nil => intro m s h; cases m with | nil => rfl | cons y m => simp at h
    | cons x l ih =>
      intro m s h
      cases m with
      | nil => simp at h
      | cons y m =>
        simp only [List.map_cons, List.cons.injEq, Prod.mk.injEq] at h
        rw [List.foldl_cons, List.foldl_cons, show grpS s x = grpS s y by unfold grpS grpE; rw [h.1.1, h.1.2.2.1, h.1.2.2.2]]
        exact ih m _ h.2
  intro l m h'
  exact h l m _ h'
end Go.Proofs.YthadfdpdillemaaGreatDoor
