/-
  No cell of these rows narrows 'for every input' (looked for: loops, veiled, ifaces, maps, wideKeys, modest, calm, conditions, laid).
  DERIVED. THE GIVEN ROWS OF THIS SEAT. 3 by the template 'for every input the law returns true; each argument reads behind the call as it read before'; 0 by the template 'total and deterministic' (their statements: YtnmlmnhgjnkbhaaTotals.lean).
  GIVEN WITH THE SEED: the statements are not yours to turn. If you find one false, say at which input.
  Laid BY PROGRAM, IN A SANDBOX (cutbox-rows.mjs): the forced cells as the released guide's own fill.sh prints them over the translation 6b941fce141dfe0a… (all of the seat's roots in one cut). By AI agents, Wed Nov 11 2026. No macro, syntax, notation, axiom, sorry.
-/
import Derived.Test.YtnmlmnhgjnkbhaaChecked
import GoSem.Claim
import GoSem.ClaimJoined
import GoSem.ClaimMapViews
import Derived.JoinedTies
import Derived.KernelRfl
namespace Go.Proofs.Ytnmlmnhgjnkbhaa
/- THE CELL 'sum', in the pinned program and in every row, IS THE sha256 OF THE DUMP (.gsa) THAT YtnmlmnhgjnkbhaaProg.lean LOADS. Nothing in Lean hashes anything: it is a label: what it is worth is what the hold of that sum in a sandbox is worth. -/
noncomputable def Try.pinned : Pinned := { name := "ytnmlmnhgjnkbhaa", sum := "6b941fce141dfe0a03369a118c51a6c852a762cf4fa729719d4a1a9379b4dd2a", checked := Try.checked }
namespace Rows
def none {H : Type} : Left H := { results := [], args := [] }

/-- 'limpetlaw12.WardTells': WHATEVER THE INPUT: true; the input reads as it did. -/
def wardTellsSpec : ChangeSpec := { name := "wardTells", fn := fun _ => fun
  | [d1, d2, d3, d4] => { results := [.lit (.bool true)], args := [d1, d2, d3, d4] }
  | _ => none }
def wardTellsRow : OpenClaim := { program := "ytnmlmnhgjnkbhaa", sum := "6b941fce141dfe0a03369a118c51a6c852a762cf4fa729719d4a1a9379b4dd2a", func := "limpet/limpetlaw12.WardTells", spec := "wardTells", inPlace := ["internal/reflectlite.TypeOf"], unfollowed := true, recurses := true, apart := false }
def WardTellsSaid : Prop := wardTellsRow.holds Try.pinned (OpenSpec.ofChange wardTellsSpec)

/-- ITS FALSE NEIGHBOUR: 'it returns false'. Refute it at one input. -/
def wardTellsWrong : ChangeSpec := { name := "wardTells", fn := fun _ => fun
  | [d1, d2, d3, d4] => { results := [.lit (.bool false)], args := [d1, d2, d3, d4] }
  | _ => none }
def WardTellsWrongFalsely : Prop := wardTellsRow.holds Try.pinned (OpenSpec.ofChange wardTellsWrong)

/-- 'limpetlaw12.WardShapes': WHATEVER THE INPUT: true; the input reads as it did. -/
def wardShapesSpec : ChangeSpec := { name := "wardShapes", fn := fun _ => fun
  | [] => { results := [.lit (.bool true)], args := [] }
  | _ => none }
def wardShapesRow : OpenClaim := { program := "ytnmlmnhgjnkbhaa", sum := "6b941fce141dfe0a03369a118c51a6c852a762cf4fa729719d4a1a9379b4dd2a", func := "limpet/limpetlaw12.WardShapes", spec := "wardShapes", inPlace := ["internal/reflectlite.TypeOf"], unfollowed := true, recurses := true, apart := false }
def WardShapesSaid : Prop := wardShapesRow.holds Try.pinned (OpenSpec.ofChange wardShapesSpec)

/-- ITS FALSE NEIGHBOUR: 'it returns false'. Refute it at one input. -/
def wardShapesWrong : ChangeSpec := { name := "wardShapes", fn := fun _ => fun
  | [] => { results := [.lit (.bool false)], args := [] }
  | _ => none }
def WardShapesWrongFalsely : Prop := wardShapesRow.holds Try.pinned (OpenSpec.ofChange wardShapesWrong)

/-- 'limpetlaw12.WardKeeps': WHATEVER THE INPUT: true; the input reads as it did. -/
def wardKeepsSpec : ChangeSpec := { name := "wardKeeps", fn := fun _ => fun
  | [d1, d2, d3, d4] => { results := [.lit (.bool true)], args := [d1, d2, d3, d4] }
  | _ => none }
def wardKeepsRow : OpenClaim := { program := "ytnmlmnhgjnkbhaa", sum := "6b941fce141dfe0a03369a118c51a6c852a762cf4fa729719d4a1a9379b4dd2a", func := "limpet/limpetlaw12.WardKeeps", spec := "wardKeeps", inPlace := ["internal/reflectlite.TypeOf"], unfollowed := true, recurses := true, apart := false }
def WardKeepsSaid : Prop := wardKeepsRow.holds Try.pinned (OpenSpec.ofChange wardKeepsSpec)

/-- ITS FALSE NEIGHBOUR: 'it returns false'. Refute it at one input. -/
def wardKeepsWrong : ChangeSpec := { name := "wardKeeps", fn := fun _ => fun
  | [d1, d2, d3, d4] => { results := [.lit (.bool false)], args := [d1, d2, d3, d4] }
  | _ => none }
def WardKeepsWrongFalsely : Prop := wardKeepsRow.holds Try.pinned (OpenSpec.ofChange wardKeepsWrong)

/- THE SECOND FORM. 'bulk': how many values and letters a reading holds, each counted each time it is reached (what is shared counts as often as it is met; a slice's spare places count too). A statement '..UptoSaid' is the law's where the arguments, and the package variables that the reading takes, are together of bulk at most 1048576: NARROWER than '..Said'. Prove '..Said' where nothing that the law and all that it calls make is longer than what came in: it says more and counts as full. Else prove '..UptoSaid'. A law counts once. -/
mutual
def uptoBulk {H : Type} : DataW H → Nat
  | .lit (.string bytes) => bytes.length + 1
  | .lit _ => 1
  | .nil => 1
  | .ptr d => uptoBulk d + 1
  | .slice elems spare => uptoBulkAll elems + uptoBulkAll spare + 1
  | .agg parts => uptoBulkAll parts + 1
  | .iface _ d => uptoBulk d + 1
  | .map entries => uptoBulkEntries entries + 1
  | .held _ => 1
def uptoBulkAll {H : Type} : List (DataW H) → Nat
  | [] => 0
  | d :: r => uptoBulk d + uptoBulkAll r
def uptoBulkEntries {H : Type} : List (Lit × DataW H) → Nat
  | [] => 0
  | x :: r => uptoBulkEntry x + uptoBulkEntries r
def uptoBulkEntry {H : Type} : Lit × DataW H → Nat
  | (.string bytes, d) => bytes.length + uptoBulk d + 1
  | (_, d) => uptoBulk d + 1
 end
def uptoSmall : (H : Type) → List (DataW H) → Bool := fun _ ds => decide (uptoBulkAll ds ≤ 1048576)
def OpenSpec.upto (s : _root_.Go.ChangeSpec) : _root_.Go.OpenSpec := { _root_.Go.OpenSpec.ofChange s with cond := some uptoSmall }

/-- 'limpetlaw12.WardTells', WHERE WHAT IT READS IS OF BULK AT MOST 1048576: true; the input reads as it did. -/
def wardTellsUptoRow : OpenClaim := { program := "ytnmlmnhgjnkbhaa", sum := "6b941fce141dfe0a03369a118c51a6c852a762cf4fa729719d4a1a9379b4dd2a", func := "limpet/limpetlaw12.WardTells", spec := "wardTells", inPlace := ["internal/reflectlite.TypeOf"], unfollowed := true, recurses := true, apart := false, narrowed := true }
def WardTellsUptoSaid : Prop := wardTellsUptoRow.holds Try.pinned (OpenSpec.upto wardTellsSpec)

/-- 'limpetlaw12.WardShapes', WHERE WHAT IT READS IS OF BULK AT MOST 1048576: true; the input reads as it did. -/
def wardShapesUptoRow : OpenClaim := { program := "ytnmlmnhgjnkbhaa", sum := "6b941fce141dfe0a03369a118c51a6c852a762cf4fa729719d4a1a9379b4dd2a", func := "limpet/limpetlaw12.WardShapes", spec := "wardShapes", inPlace := ["internal/reflectlite.TypeOf"], unfollowed := true, recurses := true, apart := false, narrowed := true }
def WardShapesUptoSaid : Prop := wardShapesUptoRow.holds Try.pinned (OpenSpec.upto wardShapesSpec)

/-- 'limpetlaw12.WardKeeps', WHERE WHAT IT READS IS OF BULK AT MOST 1048576: true; the input reads as it did. -/
def wardKeepsUptoRow : OpenClaim := { program := "ytnmlmnhgjnkbhaa", sum := "6b941fce141dfe0a03369a118c51a6c852a762cf4fa729719d4a1a9379b4dd2a", func := "limpet/limpetlaw12.WardKeeps", spec := "wardKeeps", inPlace := ["internal/reflectlite.TypeOf"], unfollowed := true, recurses := true, apart := false, narrowed := true }
def WardKeepsUptoSaid : Prop := wardKeepsUptoRow.holds Try.pinned (OpenSpec.upto wardKeepsSpec)

end Rows
end Go.Proofs.Ytnmlmnhgjnkbhaa
