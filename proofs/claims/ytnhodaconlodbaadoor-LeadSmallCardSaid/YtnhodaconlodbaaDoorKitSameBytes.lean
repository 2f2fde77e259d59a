/-
  limpetkit's SameBytes: contract.
-/
import Derived.Test.YtnhodaconlodbaaDoorKitInts
import Derived.Test.YtnhodaconlodbaaDoorEntMath
namespace Go.Proofs.YtnhodaconlodbaaDoor
open Go.RowKit
set_option linter.unusedVariables false
end Go.Proofs.YtnhodaconlodbaaDoor
