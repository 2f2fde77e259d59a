/-
  A REGION THAT DRAWS ITS ORDER, walked once, in the order of the text, over a class of worlds: laws that name no program.
-/
import Derived.Test.YtaembglohjgkhaaDoorBase
import Derived.Deep.QuietTactic
import Derived.BigQuiet
set_option linter.unusedVariables false
namespace Go.Proofs.YtaembglohjgkhaaDoor
open Go.RowKit

section
variable {P : Program} {ops : Array Oper} {C : World → Prop} {Q : Act → Prop} {a : Act} {o : Oper} {rest : List Oper}
theorem cls_want {v : Value} (hw : Region.wanted o (yielded ops a.tmps) = true) (h1 : ∀ w, C w → o.quietAt P a C w v) (h2 : wpQuiet P ops C Q rest (a.put o.dst v)) : wpQuiet P ops C Q (o :: rest) a :=
  wpQuiet_step fun K hK => by rw [if_pos hw]; exact ⟨v, h1, hK _ h2⟩
theorem cls_skip (hw : Region.wanted o (yielded ops a.tmps) = false) (h2 : wpQuiet P ops C Q rest (a.put o.dst undef)) : wpQuiet P ops C Q (o :: rest) a :=
  wpQuiet_step fun K hK => by rw [if_neg (by rw [hw]; exact Bool.false_ne_true)]; exact hK _ h2
theorem cls_move {x : Operand} (hw : Region.wanted o (yielded ops a.tmps) = true) (h : o.op = .move x) (h2 : wpQuiet P ops C Q rest (a.put o.dst (a.eval x))) : wpQuiet P ops C Q (o :: rest) a :=
  cls_want hw (fun w _ => by unfold Oper.quietAt; rw [BigFrame.run_move x h]; exact ⟨rfl, rfl⟩) h2
theorem cls_assign {x : Operand} (hw : Region.wanted o (yielded ops a.tmps) = true) (h : o.op = .assign x) (h2 : wpQuiet P ops C Q rest (a.put o.dst (a.eval x))) : wpQuiet P ops C Q (o :: rest) a :=
  cls_want hw (fun w _ => by unfold Oper.quietAt; rw [BigFrame.run_assign x h]; exact ⟨rfl, rfl⟩) h2
end
/-- The region's beginning: whatever the order, one walk, in the class of the worlds that leave all that stood be. -/
theorem wp_region_class {P : Program} {id : Nat} {Q : Exit → Act → World → Prop} {a : Act} {w : World} {l : List Oper} (hm : P.follows .mixedOrders = true) (hB : Region.lexB .any l.toArray = true)
    (h : wpQuiet P l.toArray (fun w' => Below w.heap.size w w') (fun a' => ∀ w', Below w.heap.size w w' → Q .normal a' w') l a) : (Code.region id l.toArray true).wp P Q a w :=
  wp_region_quiet (C := fun w' => Below w.heap.size w w') hm hB (Below.refl _ _).drew (by simpa using h)
/-- A callee's contract, met in a world of the class. -/
theorem cls_of {P : Program} {f : FuncId} {args : Array Value} {W w : World} {v : Value} (h5 : Below W.heap.size W w) (h : Calls P f args w fun e w' => e = .returned v ∧ Below w.heap.size w w') :
    Calls P f args w fun e w' => e = .returned v ∧ Below W.heap.size W w' := h.mono fun _ _ ⟨he, hb⟩ => ⟨he, below_call h5 hb⟩
theorem cls_of_same {P : Program} {f : FuncId} {args : Array Value} {W w : World} {v : Value} (h5 : Below W.heap.size W w) (h : Calls P f args w fun e w' => e = .returned v ∧ w = w') :
    Calls P f args w fun e w' => e = .returned v ∧ Below W.heap.size W w' := h.mono fun _ _ ⟨he, hb⟩ => ⟨he, hb ▸ h5⟩
theorem cls_of_drew {P : Program} {f : FuncId} {args : Array Value} {W w : World} {v : Value} (h5 : Below W.heap.size W w) (h : Calls P f args w fun e w' => e = .returned v ∧ ∃ n, w' = w.drewN n) :
    Calls P f args w fun e w' => e = .returned v ∧ Below W.heap.size W w' := h.mono fun _ _ ⟨he, n, hb⟩ => ⟨he, by subst hb; exact below_drewN h5 n⟩
end Go.Proofs.YtaembglohjgkhaaDoor
