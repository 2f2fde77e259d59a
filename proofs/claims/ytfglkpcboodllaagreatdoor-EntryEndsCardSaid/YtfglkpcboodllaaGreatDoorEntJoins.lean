/-
  limpetlaw17's EntryJoins: true.
-/
import Derived.Test.YtfglkpcboodllaaGreatDoorEntAwake2
import Derived.Test.YtfglkpcboodllaaGreatDoorEntJoinsMath
import Derived.Test.YtfglkpcboodllaaGreatDoorSlCut
set_option linter.unusedVariables false
set_option linter.unusedSimpArgs false
namespace Go.Proofs.YtfglkpcboodllaaGreatDoor
open Go.RowKit
theorem cnt4000 (l : List Ent) (v : Value) (w : World) (hl : Sl 4 entRow w.heap.size w v l) (hbig : ∀ x ∈ l, x.bd.length ≤ 140737488351232) :
    Calls Tryz.prog 50 #[v, .int .i64 4000] w fun e w' => ∃ n : Nat, e = .returned (.int .i64 n) ∧ (n = sizeE l ∨ 4000 < n ∧ 4000 < sizeE l) ∧ w = w' :=
  entriesOf l 4000 v w hl hbig (by omega)

end Go.Proofs.YtfglkpcboodllaaGreatDoor
