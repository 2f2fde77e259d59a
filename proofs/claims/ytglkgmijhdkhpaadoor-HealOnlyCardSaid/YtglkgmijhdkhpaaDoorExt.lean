/-
  A REGION, whether it draws its order or not, walked once over a class of worlds that is a type: laws that name no program.
-/
import Derived.Test.YtglkgmijhdkhpaaDoorBase
import Derived.Deep.QuietTactic
import Derived.BigQuiet
set_option linter.unusedVariables false
namespace Go.Proofs.YtglkgmijhdkhpaaDoor
open Go.RowKit

/-! ### The class as a subtype: facts on its worlds hold without a condition, so that the walk's own simp uses them -/
/-- A world that leaves all that stood in W be. -/
def Ext (W : World) : Type := { w' : World // Below W.heap.size W w' }
/-- The world itself. -/
def Ext.wd {W : World} (x : Ext W) : World := x.val
theorem Ext.low {W : World} (x : Ext W) : Below W.heap.size W x.wd := x.property
def Ext.mk {W w : World} (h : Below W.heap.size W w) : Ext W := ⟨w, h⟩
instance ext_nonempty (W : World) : Nonempty (Ext W) := ⟨Ext.mk (Below.refl _ _)⟩

section
variable {P : Program} {ops : Array Oper} {C : World → Prop}
theorem wpList_of_quiet {Q : Act → Prop} {Q' : Exit → Act → World → Prop} (hQ : ∀ a w, C w → Q a → Q' .normal a w) : ∀ (l : List Oper) (a : Act) (w : World), C w → wpQuiet P ops C Q l a → wpList P ops Q' l a w
  | [], a, w, hw, h => hQ a w hw h
  | o :: rest, a, w, hw, h => by
    unfold wpQuiet at h
    unfold wpList
    split at h
    · rename_i hwant
      rw [if_pos hwant]
      exact .inl (Oper.wp_of_quiet hw (fun a' w' hw' h' => wpList_of_quiet hQ rest a' w' hw' h') h)
    · rename_i hwant
      rw [if_neg hwant]
      exact wpList_of_quiet hQ rest _ w hw h
end
/-- A region that draws its order, walked once. -/
theorem wp_region_ext {P : Program} {id : Nat} {Q : Exit → Act → World → Prop} {a : Act} {w : World} {l : List Oper} (hm : P.follows .mixedOrders = true) (hB : Region.lexB .any l.toArray = true)
    (h : wpQuiet P l.toArray (fun w' => ∃ x : Ext w, w' = x.wd) (fun a' => ∀ w', (∃ x : Ext w, w' = x.wd) → Q .normal a' w') l a) : (Code.region id l.toArray true).wp P Q a w :=
  wp_region_quiet (C := fun w' => ∃ x : Ext w, w' = x.wd) hm hB ⟨Ext.mk (Below.refl _ _).drew, rfl⟩ (by simpa using h)
/-- A region that does not. -/
theorem wp_region_ext_plain {P : Program} {id : Nat} {Q : Exit → Act → World → Prop} {a : Act} {w : World} {l : List Oper}
    (h : wpQuiet P l.toArray (fun w' => ∃ x : Ext w, w' = x.wd) (fun a' => ∀ w', (∃ x : Ext w, w' = x.wd) → Q .normal a' w') l a) : (Code.region id l.toArray false).wp P Q a w :=
  wp_region_lit (wpList_of_quiet (C := fun w' => ∃ x : Ext w, w' = x.wd) (fun _ w' hw h => h w' hw) l a w ⟨Ext.mk (Below.refl _ _), rfl⟩ h)
/-- The same, begun in a world of a class that stands. -/
theorem wp_region_ext_at {P : Program} {id : Nat} {Q : Exit → Act → World → Prop} {a : Act} {W : World} (x0 : Ext W) {l : List Oper} (hm : P.follows .mixedOrders = true) (hB : Region.lexB .any l.toArray = true)
    (h : wpQuiet P l.toArray (fun w' => ∃ x : Ext W, w' = x.wd) (fun a' => ∀ w', (∃ x : Ext W, w' = x.wd) → Q .normal a' w') l a) : (Code.region id l.toArray true).wp P Q a x0.wd :=
  wp_region_quiet (C := fun w' => ∃ x : Ext W, w' = x.wd) hm hB ⟨Ext.mk x0.low.drew, rfl⟩ (by simpa using h)
theorem wp_region_ext_plain_at {P : Program} {id : Nat} {Q : Exit → Act → World → Prop} {a : Act} {W : World} (x0 : Ext W) {l : List Oper}
    (h : wpQuiet P l.toArray (fun w' => ∃ x : Ext W, w' = x.wd) (fun a' => ∀ w', (∃ x : Ext W, w' = x.wd) → Q .normal a' w') l a) : (Code.region id l.toArray false).wp P Q a x0.wd :=
  wp_region_lit (wpList_of_quiet (C := fun w' => ∃ x : Ext W, w' = x.wd) (fun _ w' hw h => h w' hw) l a x0.wd ⟨x0, rfl⟩ h)
/-- A callee's contract, met in a world of the class. -/
theorem ext_of {P : Program} {f : FuncId} {args : Array Value} {W : World} {v : Value} (x : Ext W) (h : Calls P f args x.wd fun e w' => e = .returned v ∧ Below x.wd.heap.size x.wd w') :
    Calls P f args x.wd fun e w'' => e = .returned v ∧ ∃ y : Ext W, w'' = y.wd := h.mono fun _ w' ⟨he, hb⟩ => ⟨he, Ext.mk (below_call x.low hb), rfl⟩
theorem ext_of_same {P : Program} {f : FuncId} {args : Array Value} {W : World} {v : Value} (x : Ext W) (h : Calls P f args x.wd fun e w' => e = .returned v ∧ x.wd = w') :
    Calls P f args x.wd fun e w'' => e = .returned v ∧ ∃ y : Ext W, w'' = y.wd := h.mono fun _ w' ⟨he, hb⟩ => ⟨he, x, hb.symm⟩
theorem ext_of_drew {P : Program} {f : FuncId} {args : Array Value} {W : World} {v : Value} (x : Ext W) (h : Calls P f args x.wd fun e w' => e = .returned v ∧ ∃ n, w' = x.wd.drewN n) :
    Calls P f args x.wd fun e w'' => e = .returned v ∧ ∃ y : Ext W, w'' = y.wd := h.mono fun _ w' ⟨he, n, hb⟩ => ⟨he, Ext.mk (below_drewN x.low n), hb⟩
/-- What a box is in the class. -/
theorem Box.ext {W : World} {n : Nat} {cs : Array Value} {t : TypeId} (h : Box W n cs t) (i : Nat) : ∀ x : Ext W, x.wd.cell? ⟨n, i, none⟩ = cs[i]? := fun x => (h.later x.low).cell i
end Go.Proofs.YtglkgmijhdkhpaaDoor
