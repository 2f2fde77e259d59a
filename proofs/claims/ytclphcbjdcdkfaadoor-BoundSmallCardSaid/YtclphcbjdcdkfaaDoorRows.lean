/-
  NARROWER THAN 'FOR EVERY INPUT', by the rows' own cells (each row's printed sentence says how): MatchPlans: laid · MatchOne: laid · BoundHalf: laid · BoundTells: laid · BoundSmall: laid · BoundRises: laid · GroupMeets: laid.
  DERIVED. THE GIVEN ROWS OF THIS SEAT. 7 by the template 'for every input the law returns true; each argument reads behind the call as it read before'; 0 by the template 'total and deterministic' (their statements: YtclphcbjdcdkfaaDoorTotals.lean).
  GIVEN WITH THE SEED: the statements are not yours to turn. If you find one false, say at which input.
  Laid BY PROGRAM, IN A SANDBOX (cutbox-rows.mjs): the forced cells as the released guide's own fill.sh prints them over the translation b3805e75b88ad1bf… (all of the seat's roots in one cut). By AI agents, Wed Nov 11 2026. No macro, syntax, notation, axiom, sorry.
-/
import Derived.Test.YtclphcbjdcdkfaaDoorChecked
import GoSem.Claim
import GoSem.ClaimJoined
import GoSem.ClaimMapViews
import Derived.JoinedTies
import Derived.KernelRfl
namespace Go.Proofs.YtclphcbjdcdkfaaDoor
/- THE CELL 'sum', in the pinned program and in every row, IS THE sha256 OF THE DUMP (.gsa) THAT YtclphcbjdcdkfaaDoorProg.lean LOADS. Nothing in Lean hashes anything: it is a label: what it is worth is what the hold of that sum in a sandbox is worth. -/
noncomputable def Tryd.pinned : Pinned := { name := "ytclphcbjdcdkfaadoor", sum := "b3805e75b88ad1bf1e1bc7dfae70195abd5aa14e6dd4b059f498594cab33ffce", checked := Tryd.checked }
namespace Rows
def none {H : Type} : Left H := { results := [], args := [] }

/- WHAT THE LISTED PACKAGE-LEVEL VARIABLES READ AS WHEN THE CALL BEGINS. Each datum BY PROGRAM (the guide's laid-datum.mjs) off the statement by which the dump's own 'gosem.cut.vars' lays the variable. In a bare row this is a premise. The card (YtclphcbjdcdkfaaDoorCards.lean) ties it to the program's text. -/
def laid_errors_errorType {H : Type} : DataW H := .iface "internal/reflectlite.rtype" (.agg [.ptr (.lit (.string [101, 114, 114, 111, 114]))])

/-- 'limpetlaw20.MatchPlans': WHATEVER THE INPUT: true; the input reads as it did. -/
def matchPlansSpec : ChangeSpec := { name := "matchPlans", fn := fun _ => fun
  | [d1, d2, d3] => { results := [.lit (.bool true)], args := [d1, d2, d3] }
  | _ => none }
def matchPlansRow : OpenClaim := { program := "ytclphcbjdcdkfaadoor", sum := "b3805e75b88ad1bf1e1bc7dfae70195abd5aa14e6dd4b059f498594cab33ffce", func := "limpet/limpetlaw20.MatchPlans", spec := "matchPlans", inPlace := ["internal/reflectlite.TypeOf", "internal/reflectlite.ValueOf", "(internal/reflectlite.Value).Type", "(internal/reflectlite.Value).IsNil", "(internal/reflectlite.Value).Elem", "(internal/reflectlite.Value).Set"], unfollowed := true, recurses := true, named := ["errors.errorType"], apart := false, laid := [("errors.errorType", laid_errors_errorType)] }
def MatchPlansSaid : Prop := matchPlansRow.holds Tryd.pinned (OpenSpec.ofChange matchPlansSpec)

/-- ITS FALSE NEIGHBOUR: 'it returns false'. Refute it at one input. -/
def matchPlansWrong : ChangeSpec := { name := "matchPlans", fn := fun _ => fun
  | [d1, d2, d3] => { results := [.lit (.bool false)], args := [d1, d2, d3] }
  | _ => none }
def MatchPlansWrongFalsely : Prop := matchPlansRow.holds Tryd.pinned (OpenSpec.ofChange matchPlansWrong)

/-- 'limpetlaw20.MatchOne': WHATEVER THE INPUT: true; the input reads as it did. -/
def matchOneSpec : ChangeSpec := { name := "matchOne", fn := fun _ => fun
  | [d1, d2, d3, d4] => { results := [.lit (.bool true)], args := [d1, d2, d3, d4] }
  | _ => none }
def matchOneRow : OpenClaim := { program := "ytclphcbjdcdkfaadoor", sum := "b3805e75b88ad1bf1e1bc7dfae70195abd5aa14e6dd4b059f498594cab33ffce", func := "limpet/limpetlaw20.MatchOne", spec := "matchOne", inPlace := ["internal/reflectlite.TypeOf", "internal/reflectlite.ValueOf", "(internal/reflectlite.Value).Type", "(internal/reflectlite.Value).IsNil", "(internal/reflectlite.Value).Elem", "(internal/reflectlite.Value).Set"], unfollowed := true, recurses := true, named := ["errors.errorType"], apart := false, laid := [("errors.errorType", laid_errors_errorType)] }
def MatchOneSaid : Prop := matchOneRow.holds Tryd.pinned (OpenSpec.ofChange matchOneSpec)

/-- ITS FALSE NEIGHBOUR: 'it returns false'. Refute it at one input. -/
def matchOneWrong : ChangeSpec := { name := "matchOne", fn := fun _ => fun
  | [d1, d2, d3, d4] => { results := [.lit (.bool false)], args := [d1, d2, d3, d4] }
  | _ => none }
def MatchOneWrongFalsely : Prop := matchOneRow.holds Tryd.pinned (OpenSpec.ofChange matchOneWrong)

/-- 'limpetlaw21.BoundHalf': WHATEVER THE INPUT: true; the input reads as it did. -/
def boundHalfSpec : ChangeSpec := { name := "boundHalf", fn := fun _ => fun
  | [d1, d2, d3, d4] => { results := [.lit (.bool true)], args := [d1, d2, d3, d4] }
  | _ => none }
def boundHalfRow : OpenClaim := { program := "ytclphcbjdcdkfaadoor", sum := "b3805e75b88ad1bf1e1bc7dfae70195abd5aa14e6dd4b059f498594cab33ffce", func := "limpet/limpetlaw21.BoundHalf", spec := "boundHalf", inPlace := ["internal/reflectlite.TypeOf", "internal/reflectlite.ValueOf", "(internal/reflectlite.Value).Type", "(internal/reflectlite.Value).IsNil", "(internal/reflectlite.Value).Elem", "(internal/reflectlite.Value).Set"], unfollowed := true, recurses := true, named := ["errors.errorType"], apart := false, laid := [("errors.errorType", laid_errors_errorType)] }
def BoundHalfSaid : Prop := boundHalfRow.holds Tryd.pinned (OpenSpec.ofChange boundHalfSpec)

/-- ITS FALSE NEIGHBOUR: 'it returns false'. Refute it at one input. -/
def boundHalfWrong : ChangeSpec := { name := "boundHalf", fn := fun _ => fun
  | [d1, d2, d3, d4] => { results := [.lit (.bool false)], args := [d1, d2, d3, d4] }
  | _ => none }
def BoundHalfWrongFalsely : Prop := boundHalfRow.holds Tryd.pinned (OpenSpec.ofChange boundHalfWrong)

/-- 'limpetlaw21.BoundTells': WHATEVER THE INPUT: true; the input reads as it did. -/
def boundTellsSpec : ChangeSpec := { name := "boundTells", fn := fun _ => fun
  | [d1, d2, d3, d4, d5, d6, d7] => { results := [.lit (.bool true)], args := [d1, d2, d3, d4, d5, d6, d7] }
  | _ => none }
def boundTellsRow : OpenClaim := { program := "ytclphcbjdcdkfaadoor", sum := "b3805e75b88ad1bf1e1bc7dfae70195abd5aa14e6dd4b059f498594cab33ffce", func := "limpet/limpetlaw21.BoundTells", spec := "boundTells", inPlace := ["internal/reflectlite.TypeOf", "internal/reflectlite.ValueOf", "(internal/reflectlite.Value).Type", "(internal/reflectlite.Value).IsNil", "(internal/reflectlite.Value).Elem", "(internal/reflectlite.Value).Set"], unfollowed := true, recurses := true, named := ["errors.errorType"], apart := false, laid := [("errors.errorType", laid_errors_errorType)] }
def BoundTellsSaid : Prop := boundTellsRow.holds Tryd.pinned (OpenSpec.ofChange boundTellsSpec)

/-- ITS FALSE NEIGHBOUR: 'it returns false'. Refute it at one input. -/
def boundTellsWrong : ChangeSpec := { name := "boundTells", fn := fun _ => fun
  | [d1, d2, d3, d4, d5, d6, d7] => { results := [.lit (.bool false)], args := [d1, d2, d3, d4, d5, d6, d7] }
  | _ => none }
def BoundTellsWrongFalsely : Prop := boundTellsRow.holds Tryd.pinned (OpenSpec.ofChange boundTellsWrong)

/-- 'limpetlaw21.BoundSmall': WHATEVER THE INPUT: true; the input reads as it did. -/
def boundSmallSpec : ChangeSpec := { name := "boundSmall", fn := fun _ => fun
  | [] => { results := [.lit (.bool true)], args := [] }
  | _ => none }
def boundSmallRow : OpenClaim := { program := "ytclphcbjdcdkfaadoor", sum := "b3805e75b88ad1bf1e1bc7dfae70195abd5aa14e6dd4b059f498594cab33ffce", func := "limpet/limpetlaw21.BoundSmall", spec := "boundSmall", inPlace := ["internal/reflectlite.TypeOf", "internal/reflectlite.ValueOf", "(internal/reflectlite.Value).Type", "(internal/reflectlite.Value).IsNil", "(internal/reflectlite.Value).Elem", "(internal/reflectlite.Value).Set"], unfollowed := true, recurses := true, named := ["errors.errorType"], apart := false, laid := [("errors.errorType", laid_errors_errorType)] }
def BoundSmallSaid : Prop := boundSmallRow.holds Tryd.pinned (OpenSpec.ofChange boundSmallSpec)

/-- ITS FALSE NEIGHBOUR: 'it returns false'. Refute it at one input. -/
def boundSmallWrong : ChangeSpec := { name := "boundSmall", fn := fun _ => fun
  | [] => { results := [.lit (.bool false)], args := [] }
  | _ => none }
def BoundSmallWrongFalsely : Prop := boundSmallRow.holds Tryd.pinned (OpenSpec.ofChange boundSmallWrong)

/-- 'limpetlaw21.BoundRises': WHATEVER THE INPUT: true; the input reads as it did. -/
def boundRisesSpec : ChangeSpec := { name := "boundRises", fn := fun _ => fun
  | [d1, d2, d3, d4, d5, d6, d7] => { results := [.lit (.bool true)], args := [d1, d2, d3, d4, d5, d6, d7] }
  | _ => none }
def boundRisesRow : OpenClaim := { program := "ytclphcbjdcdkfaadoor", sum := "b3805e75b88ad1bf1e1bc7dfae70195abd5aa14e6dd4b059f498594cab33ffce", func := "limpet/limpetlaw21.BoundRises", spec := "boundRises", inPlace := ["internal/reflectlite.TypeOf", "internal/reflectlite.ValueOf", "(internal/reflectlite.Value).Type", "(internal/reflectlite.Value).IsNil", "(internal/reflectlite.Value).Elem", "(internal/reflectlite.Value).Set"], unfollowed := true, recurses := true, named := ["errors.errorType"], apart := false, laid := [("errors.errorType", laid_errors_errorType)] }
def BoundRisesSaid : Prop := boundRisesRow.holds Tryd.pinned (OpenSpec.ofChange boundRisesSpec)

/-- ITS FALSE NEIGHBOUR: 'it returns false'. Refute it at one input. -/
def boundRisesWrong : ChangeSpec := { name := "boundRises", fn := fun _ => fun
  | [d1, d2, d3, d4, d5, d6, d7] => { results := [.lit (.bool false)], args := [d1, d2, d3, d4, d5, d6, d7] }
  | _ => none }
def BoundRisesWrongFalsely : Prop := boundRisesRow.holds Tryd.pinned (OpenSpec.ofChange boundRisesWrong)

/-- 'limpetlaw22.GroupMeets': WHATEVER THE INPUT: true; the input reads as it did. -/
def groupMeetsSpec : ChangeSpec := { name := "groupMeets", fn := fun _ => fun
  | [d1, d2, d3, d4, d5] => { results := [.lit (.bool true)], args := [d1, d2, d3, d4, d5] }
  | _ => none }
def groupMeetsRow : OpenClaim := { program := "ytclphcbjdcdkfaadoor", sum := "b3805e75b88ad1bf1e1bc7dfae70195abd5aa14e6dd4b059f498594cab33ffce", func := "limpet/limpetlaw22.GroupMeets", spec := "groupMeets", inPlace := ["internal/reflectlite.TypeOf", "internal/reflectlite.ValueOf", "(internal/reflectlite.Value).Type", "(internal/reflectlite.Value).IsNil", "(internal/reflectlite.Value).Elem", "(internal/reflectlite.Value).Set"], unfollowed := true, recurses := true, named := ["errors.errorType"], apart := false, laid := [("errors.errorType", laid_errors_errorType)] }
def GroupMeetsSaid : Prop := groupMeetsRow.holds Tryd.pinned (OpenSpec.ofChange groupMeetsSpec)

/-- ITS FALSE NEIGHBOUR: 'it returns false'. Refute it at one input. -/
def groupMeetsWrong : ChangeSpec := { name := "groupMeets", fn := fun _ => fun
  | [d1, d2, d3, d4, d5] => { results := [.lit (.bool false)], args := [d1, d2, d3, d4, d5] }
  | _ => none }
def GroupMeetsWrongFalsely : Prop := groupMeetsRow.holds Tryd.pinned (OpenSpec.ofChange groupMeetsWrong)

/- THE SECOND FORM. 'bulk': how many values and letters a reading holds, each counted each time it is reached (what is shared counts as often as it is met; a slice's spare places count too). A statement '..UptoSaid' is the law's where the arguments, and the package variables that the reading takes, are together of bulk at most 1048576: NARROWER than '..Said'. Prove '..Said' where nothing that the law and all that it calls make is longer than what came in: it says more and counts as full. Else prove '..UptoSaid'. A law counts once. -/
mutual
def uptoBulk {H : Type} : DataW H → Nat
  | .lit (.string bytes) => bytes.length + 1
  | .lit _ => 1
  | .nil => 1
  | .ptr d => uptoBulk d + 1
  | .slice elems spare => uptoBulkAll elems + uptoBulkAll spare + 1
  | .agg parts => uptoBulkAll parts + 1
  | .iface _ d => uptoBulk d + 1
  | .map entries => uptoBulkEntries entries + 1
  | .held _ => 1
def uptoBulkAll {H : Type} : List (DataW H) → Nat
  | [] => 0
  | d :: r => uptoBulk d + uptoBulkAll r
def uptoBulkEntries {H : Type} : List (Lit × DataW H) → Nat
  | [] => 0
  | x :: r => uptoBulkEntry x + uptoBulkEntries r
def uptoBulkEntry {H : Type} : Lit × DataW H → Nat
  | (.string bytes, d) => bytes.length + uptoBulk d + 1
  | (_, d) => uptoBulk d + 1
 end
def uptoSmall : (H : Type) → List (DataW H) → Bool := fun _ ds => decide (uptoBulkAll ds ≤ 1048576)
def OpenSpec.upto (s : _root_.Go.ChangeSpec) : _root_.Go.OpenSpec := { _root_.Go.OpenSpec.ofChange s with cond := some uptoSmall }

/-- 'limpetlaw20.MatchPlans', WHERE WHAT IT READS IS OF BULK AT MOST 1048576: true; the input reads as it did. -/
def matchPlansUptoRow : OpenClaim := { program := "ytclphcbjdcdkfaadoor", sum := "b3805e75b88ad1bf1e1bc7dfae70195abd5aa14e6dd4b059f498594cab33ffce", func := "limpet/limpetlaw20.MatchPlans", spec := "matchPlans", inPlace := ["internal/reflectlite.TypeOf", "internal/reflectlite.ValueOf", "(internal/reflectlite.Value).Type", "(internal/reflectlite.Value).IsNil", "(internal/reflectlite.Value).Elem", "(internal/reflectlite.Value).Set"], unfollowed := true, recurses := true, named := ["errors.errorType"], apart := false, laid := [("errors.errorType", laid_errors_errorType)], narrowed := true }
def MatchPlansUptoSaid : Prop := matchPlansUptoRow.holds Tryd.pinned (OpenSpec.upto matchPlansSpec)

/-- 'limpetlaw20.MatchOne', WHERE WHAT IT READS IS OF BULK AT MOST 1048576: true; the input reads as it did. -/
def matchOneUptoRow : OpenClaim := { program := "ytclphcbjdcdkfaadoor", sum := "b3805e75b88ad1bf1e1bc7dfae70195abd5aa14e6dd4b059f498594cab33ffce", func := "limpet/limpetlaw20.MatchOne", spec := "matchOne", inPlace := ["internal/reflectlite.TypeOf", "internal/reflectlite.ValueOf", "(internal/reflectlite.Value).Type", "(internal/reflectlite.Value).IsNil", "(internal/reflectlite.Value).Elem", "(internal/reflectlite.Value).Set"], unfollowed := true, recurses := true, named := ["errors.errorType"], apart := false, laid := [("errors.errorType", laid_errors_errorType)], narrowed := true }
def MatchOneUptoSaid : Prop := matchOneUptoRow.holds Tryd.pinned (OpenSpec.upto matchOneSpec)

/-- 'limpetlaw21.BoundHalf', WHERE WHAT IT READS IS OF BULK AT MOST 1048576: true; the input reads as it did. -/
def boundHalfUptoRow : OpenClaim := { program := "ytclphcbjdcdkfaadoor", sum := "b3805e75b88ad1bf1e1bc7dfae70195abd5aa14e6dd4b059f498594cab33ffce", func := "limpet/limpetlaw21.BoundHalf", spec := "boundHalf", inPlace := ["internal/reflectlite.TypeOf", "internal/reflectlite.ValueOf", "(internal/reflectlite.Value).Type", "(internal/reflectlite.Value).IsNil", "(internal/reflectlite.Value).Elem", "(internal/reflectlite.Value).Set"], unfollowed := true, recurses := true, named := ["errors.errorType"], apart := false, laid := [("errors.errorType", laid_errors_errorType)], narrowed := true }
def BoundHalfUptoSaid : Prop := boundHalfUptoRow.holds Tryd.pinned (OpenSpec.upto boundHalfSpec)

/-- 'limpetlaw21.BoundTells', WHERE WHAT IT READS IS OF BULK AT MOST 1048576: true; the input reads as it did. -/
def boundTellsUptoRow : OpenClaim := { program := "ytclphcbjdcdkfaadoor", sum := "b3805e75b88ad1bf1e1bc7dfae70195abd5aa14e6dd4b059f498594cab33ffce", func := "limpet/limpetlaw21.BoundTells", spec := "boundTells", inPlace := ["internal/reflectlite.TypeOf", "internal/reflectlite.ValueOf", "(internal/reflectlite.Value).Type", "(internal/reflectlite.Value).IsNil", "(internal/reflectlite.Value).Elem", "(internal/reflectlite.Value).Set"], unfollowed := true, recurses := true, named := ["errors.errorType"], apart := false, laid := [("errors.errorType", laid_errors_errorType)], narrowed := true }
def BoundTellsUptoSaid : Prop := boundTellsUptoRow.holds Tryd.pinned (OpenSpec.upto boundTellsSpec)

/-- 'limpetlaw21.BoundSmall', WHERE WHAT IT READS IS OF BULK AT MOST 1048576: true; the input reads as it did. -/
def boundSmallUptoRow : OpenClaim := { program := "ytclphcbjdcdkfaadoor", sum := "b3805e75b88ad1bf1e1bc7dfae70195abd5aa14e6dd4b059f498594cab33ffce", func := "limpet/limpetlaw21.BoundSmall", spec := "boundSmall", inPlace := ["internal/reflectlite.TypeOf", "internal/reflectlite.ValueOf", "(internal/reflectlite.Value).Type", "(internal/reflectlite.Value).IsNil", "(internal/reflectlite.Value).Elem", "(internal/reflectlite.Value).Set"], unfollowed := true, recurses := true, named := ["errors.errorType"], apart := false, laid := [("errors.errorType", laid_errors_errorType)], narrowed := true }
def BoundSmallUptoSaid : Prop := boundSmallUptoRow.holds Tryd.pinned (OpenSpec.upto boundSmallSpec)

/-- 'limpetlaw21.BoundRises', WHERE WHAT IT READS IS OF BULK AT MOST 1048576: true; the input reads as it did. -/
def boundRisesUptoRow : OpenClaim := { program := "ytclphcbjdcdkfaadoor", sum := "b3805e75b88ad1bf1e1bc7dfae70195abd5aa14e6dd4b059f498594cab33ffce", func := "limpet/limpetlaw21.BoundRises", spec := "boundRises", inPlace := ["internal/reflectlite.TypeOf", "internal/reflectlite.ValueOf", "(internal/reflectlite.Value).Type", "(internal/reflectlite.Value).IsNil", "(internal/reflectlite.Value).Elem", "(internal/reflectlite.Value).Set"], unfollowed := true, recurses := true, named := ["errors.errorType"], apart := false, laid := [("errors.errorType", laid_errors_errorType)], narrowed := true }
def BoundRisesUptoSaid : Prop := boundRisesUptoRow.holds Tryd.pinned (OpenSpec.upto boundRisesSpec)

/-- 'limpetlaw22.GroupMeets', WHERE WHAT IT READS IS OF BULK AT MOST 1048576: true; the input reads as it did. -/
def groupMeetsUptoRow : OpenClaim := { program := "ytclphcbjdcdkfaadoor", sum := "b3805e75b88ad1bf1e1bc7dfae70195abd5aa14e6dd4b059f498594cab33ffce", func := "limpet/limpetlaw22.GroupMeets", spec := "groupMeets", inPlace := ["internal/reflectlite.TypeOf", "internal/reflectlite.ValueOf", "(internal/reflectlite.Value).Type", "(internal/reflectlite.Value).IsNil", "(internal/reflectlite.Value).Elem", "(internal/reflectlite.Value).Set"], unfollowed := true, recurses := true, named := ["errors.errorType"], apart := false, laid := [("errors.errorType", laid_errors_errorType)], narrowed := true }
def GroupMeetsUptoSaid : Prop := groupMeetsUptoRow.holds Tryd.pinned (OpenSpec.upto groupMeetsSpec)

end Rows
end Go.Proofs.YtclphcbjdcdkfaaDoor
