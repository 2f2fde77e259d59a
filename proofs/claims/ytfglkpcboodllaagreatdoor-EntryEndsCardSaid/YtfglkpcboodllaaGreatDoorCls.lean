/-
  A REGION walked once over any class of worlds that is closed under a draw: laws that name no program.
-/
import Derived.Test.YtfglkpcboodllaaGreatDoorExt
set_option linter.unusedVariables false
namespace Go.Proofs.YtfglkpcboodllaaGreatDoor
open Go.RowKit

def Cls (C : World → Prop) : Type := { w : World // C w }
def Cls.wd {C : World → Prop} (x : Cls C) : World := x.val
theorem Cls.is {C : World → Prop} (x : Cls C) : C x.wd := x.property
def Cls.mk {C : World → Prop} {w : World} (h : C w) : Cls C := ⟨w, h⟩
theorem wp_region_cls {P : Program} {id : Nat} {Q : Exit → Act → World → Prop} {a : Act} {w : World} {l : List Oper} (C : World → Prop) (hm : P.follows .mixedOrders = true) (hB : Region.lexB .any l.toArray = true) (h0 : C w.drew)
    (h : Nonempty (Cls C) → wpQuiet P l.toArray (fun w' => ∃ x : Cls C, w' = x.wd) (fun a' => ∀ w', (∃ x : Cls C, w' = x.wd) → Q .normal a' w') l a) : (Code.region id l.toArray true).wp P Q a w :=
  wp_region_quiet (C := fun w' => ∃ x : Cls C, w' = x.wd) hm hB ⟨Cls.mk h0, rfl⟩ (by simpa using h ⟨Cls.mk h0⟩)
theorem wp_region_cls_plain {P : Program} {id : Nat} {Q : Exit → Act → World → Prop} {a : Act} {w : World} {l : List Oper} (C : World → Prop) (h0 : C w)
    (h : Nonempty (Cls C) → wpQuiet P l.toArray (fun w' => ∃ x : Cls C, w' = x.wd) (fun a' => ∀ w', (∃ x : Cls C, w' = x.wd) → Q .normal a' w') l a) : (Code.region id l.toArray false).wp P Q a w :=
  wp_region_lit (wpList_of_quiet (C := fun w' => ∃ x : Cls C, w' = x.wd) (fun _ w' hw h => h w' hw) l a w ⟨Cls.mk h0, rfl⟩ (h ⟨Cls.mk h0⟩))
/-- A callee's contract, met in a world of the class. -/
theorem cls_of {P : Program} {f : FuncId} {args : Array Value} {C : World → Prop} {v : Value} (x : Cls C) (h : Calls P f args x.wd fun e w' => e = .returned v ∧ C w') :
    Calls P f args x.wd fun e w'' => e = .returned v ∧ ∃ y : Cls C, w'' = y.wd := h.mono fun _ w' ⟨he, hb⟩ => ⟨he, Cls.mk hb, rfl⟩
end Go.Proofs.YtfglkpcboodllaaGreatDoor
