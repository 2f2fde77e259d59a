/-
  RECORDS, but for where their bodies lie: plain Lean, no program.
-/
import Derived.Test.YtglkgmijhdkhpaaDoorHealAllMath
set_option linter.unusedVariables false
namespace Go.Proofs.YtglkgmijhdkhpaaDoor

def nrmE (x : Ent) : Ent := ⟨x.idx, x.trm, x.knd, none, 0, x.bd⟩
def nrmR (r : Rec) : Rec := ⟨nrmE r.e, r.a⟩
theorem fitR_nrm (p : Idt) (r : Rec) : fitR p (nrmR r) = fitR p r := rfl
theorem find_nrm (l : List Rec) (p : Idt) : (l.map nrmR).find? (fitR p) = (l.find? (fitR p)).map nrmR := by
  rw [List.find?_map]; rfl
theorem giveS_nrm (l out : List Rec) (most : Int) (p : Idt) : giveS (l.map nrmR) most (out.map nrmR) p = (giveS l most out p).map nrmR := by
  unfold giveS
  rw [find_nrm, List.length_map]
  split
  · cases l.find? (fitR p) <;> simp
  · rfl
theorem give_nrm (l : List Rec) (want : List Idt) (most : Int) : giveV (l.map nrmR) want most = (giveV l want most).map nrmR := by
  have h : ∀ (m : List Idt) (out : List Rec), m.foldl (giveS (l.map nrmR) most) (out.map nrmR) = (m.foldl (giveS l most) out).map nrmR := by
    intro m
    induction m with
    | nil => intro out; rfl
    | cons p m ih => intro out; rw [List.foldl_cons, List.foldl_cons, giveS_nrm]; exact ih _
  exact h want []
theorem take_nrm (rot : List Idt) (l : List Rec) : takeV rot (l.map nrmR) = (takeV rot l).map nrmR := give_nrm _ _ _
theorem isIn_nrm (took : List Rec) (p : Idt) : isIn (took.map nrmR) p = isIn took p := by
  unfold isIn; rw [List.any_map]; rfl
theorem turnI_nrm (took : List Rec) (p : Idt) : turnI (took.map nrmR) p = turnI took p := by
  have h : aheadOf (took.map nrmR) p = (aheadOf took p).map nrmR := by unfold aheadOf; rw [List.find?_map]; rfl
  unfold turnI
  rw [h]
  cases aheadOf took p <;> rfl
theorem left_nrm (rot : List Idt) (took : List Rec) : leftV rot (took.map nrmR) = leftV rot took := by
  unfold leftV
  have e1 : (fun p => !isIn (took.map nrmR) p) = fun p => !isIn took p := funext fun p => by rw [isIn_nrm]
  have e2 : turnI (took.map nrmR) = turnI took := funext fun p => turnI_nrm took p
  rw [e1, e2]
theorem logV_nrm : ∀ (l : List Ent) (p : Idt), logV p (l.map nrmE) = (logV p l).map nrmR := by
  intro l
  induction l with
  | nil => intro p; rfl
  | cons x l ih => intro p; simp only [logV, List.map_cons]; rw [ih]; rfl
theorem folE_nrm : ∀ (l : List Ent) (p : Idt), folE p (l.map nrmE) = folE p l := by
  intro l
  induction l with
  | nil => intro p; rfl
  | cons x l ih =>
    intro p
    have h1 : stepE p (nrmE x) = stepE p x := rfl
    have h2 : ofE (nrmE x) = ofE x := rfl
    simp only [List.map_cons, folE]
    rw [h1, h2, ih]
theorem rotV_nrm (b : Nat → Bool) (l : List Ent) (n : Nat) : rotV b (l.map nrmE) n = rotV b l n := by
  unfold rotV
  congr 1
  funext k
  unfold rotAt
  rw [List.getElem?_map, List.length_map]
  cases l[k]? <;> rfl
theorem goodR_nrm (r : Rec) : goodR (nrmR r) = goodR r := rfl
end Go.Proofs.YtglkgmijhdkhpaaDoor
