/-
  NARROWER THAN 'FOR EVERY INPUT', by the rows' own cells (each row's printed sentence says how): MatchTells: laid · MatchRows: laid · HealTells: laid · HealSmall: laid · GroupTells: laid · GroupLogs: laid · GroupSmall: laid.
  DERIVED. THE GIVEN ROWS OF THIS SEAT. 7 by the template 'for every input the law returns true; each argument reads behind the call as it read before'; 0 by the template 'total and deterministic' (their statements: YthadfdpdillemaaGreatDoorTotals.lean).
  GIVEN WITH THE SEED: the statements are not yours to turn. If you find one false, say at which input.
  Laid BY PROGRAM, IN A SANDBOX (cutbox-rows.mjs): the forced cells as the released guide's own fill.sh prints them over the translation c259129ca86f12d4… (all of the seat's roots in one cut). By AI agents, Wed Nov 11 2026. No macro, syntax, notation, axiom, sorry.
-/
import Derived.Test.YthadfdpdillemaaGreatDoorChecked
import GoSem.Claim
import GoSem.ClaimJoined
import GoSem.ClaimMapViews
import Derived.JoinedTies
import Derived.KernelRfl
namespace Go.Proofs.YthadfdpdillemaaGreatDoor
/- THE CELL 'sum', in the pinned program and in every row, IS THE sha256 OF THE DUMP (.gsa) THAT YthadfdpdillemaaGreatDoorProg.lean LOADS. Nothing in Lean hashes anything: it is a label: what it is worth is what the hold of that sum in a sandbox is worth. -/
noncomputable def Tryz.pinned : Pinned := { name := "ythadfdpdillemaagreatdoor", sum := "c259129ca86f12d4a756c9fde6beb78d15a531b86f7f94215da4fb91a7d6e4bc", checked := Tryz.checked }
namespace Rows
def none {H : Type} : Left H := { results := [], args := [] }

/- WHAT THE LISTED PACKAGE-LEVEL VARIABLES READ AS WHEN THE CALL BEGINS. Each datum BY PROGRAM (the guide's laid-datum.mjs) off the statement by which the dump's own 'gosem.cut.vars' lays the variable. In a bare row this is a premise. The card (YthadfdpdillemaaGreatDoorCards.lean) ties it to the program's text. -/
def laid_errors_errorType {H : Type} : DataW H := .iface "internal/reflectlite.rtype" (.agg [.ptr (.lit (.string [101, 114, 114, 111, 114]))])

/-- 'limpetlaw20.MatchTells': WHATEVER THE INPUT: true; the input reads as it did. -/
def matchTellsSpec : ChangeSpec := { name := "matchTells", fn := fun _ => fun
  | [d1, d2, d3, d4] => { results := [.lit (.bool true)], args := [d1, d2, d3, d4] }
  | _ => none }
def matchTellsRow : OpenClaim := { program := "ythadfdpdillemaagreatdoor", sum := "c259129ca86f12d4a756c9fde6beb78d15a531b86f7f94215da4fb91a7d6e4bc", func := "limpet/limpetlaw20.MatchTells", spec := "matchTells", inPlace := ["internal/reflectlite.TypeOf", "internal/reflectlite.ValueOf", "(internal/reflectlite.Value).Type", "(internal/reflectlite.Value).IsNil", "(internal/reflectlite.Value).Elem", "(internal/reflectlite.Value).Set"], unfollowed := true, recurses := true, named := ["errors.errorType"], apart := false, laid := [("errors.errorType", laid_errors_errorType)] }
def MatchTellsSaid : Prop := matchTellsRow.holds Tryz.pinned (OpenSpec.ofChange matchTellsSpec)

/-- ITS FALSE NEIGHBOUR: 'it returns false'. Refute it at one input. -/
def matchTellsWrong : ChangeSpec := { name := "matchTells", fn := fun _ => fun
  | [d1, d2, d3, d4] => { results := [.lit (.bool false)], args := [d1, d2, d3, d4] }
  | _ => none }
def MatchTellsWrongFalsely : Prop := matchTellsRow.holds Tryz.pinned (OpenSpec.ofChange matchTellsWrong)

/-- 'limpetlaw20.MatchRows': WHATEVER THE INPUT: true; the input reads as it did. -/
def matchRowsSpec : ChangeSpec := { name := "matchRows", fn := fun _ => fun
  | [] => { results := [.lit (.bool true)], args := [] }
  | _ => none }
def matchRowsRow : OpenClaim := { program := "ythadfdpdillemaagreatdoor", sum := "c259129ca86f12d4a756c9fde6beb78d15a531b86f7f94215da4fb91a7d6e4bc", func := "limpet/limpetlaw20.MatchRows", spec := "matchRows", inPlace := ["internal/reflectlite.TypeOf", "internal/reflectlite.ValueOf", "(internal/reflectlite.Value).Type", "(internal/reflectlite.Value).IsNil", "(internal/reflectlite.Value).Elem", "(internal/reflectlite.Value).Set"], unfollowed := true, recurses := true, named := ["errors.errorType"], apart := false, laid := [("errors.errorType", laid_errors_errorType)] }
def MatchRowsSaid : Prop := matchRowsRow.holds Tryz.pinned (OpenSpec.ofChange matchRowsSpec)

/-- ITS FALSE NEIGHBOUR: 'it returns false'. Refute it at one input. -/
def matchRowsWrong : ChangeSpec := { name := "matchRows", fn := fun _ => fun
  | [] => { results := [.lit (.bool false)], args := [] }
  | _ => none }
def MatchRowsWrongFalsely : Prop := matchRowsRow.holds Tryz.pinned (OpenSpec.ofChange matchRowsWrong)

/-- 'limpetlaw24.HealTells': WHATEVER THE INPUT: true; the input reads as it did. -/
def healTellsSpec : ChangeSpec := { name := "healTells", fn := fun _ => fun
  | [d1, d2, d3, d4, d5, d6] => { results := [.lit (.bool true)], args := [d1, d2, d3, d4, d5, d6] }
  | _ => none }
def healTellsRow : OpenClaim := { program := "ythadfdpdillemaagreatdoor", sum := "c259129ca86f12d4a756c9fde6beb78d15a531b86f7f94215da4fb91a7d6e4bc", func := "limpet/limpetlaw24.HealTells", spec := "healTells", inPlace := ["internal/reflectlite.TypeOf", "internal/reflectlite.ValueOf", "(internal/reflectlite.Value).Type", "(internal/reflectlite.Value).IsNil", "(internal/reflectlite.Value).Elem", "(internal/reflectlite.Value).Set"], unfollowed := true, recurses := true, named := ["errors.errorType"], apart := false, laid := [("errors.errorType", laid_errors_errorType)] }
def HealTellsSaid : Prop := healTellsRow.holds Tryz.pinned (OpenSpec.ofChange healTellsSpec)

/-- ITS FALSE NEIGHBOUR: 'it returns false'. Refute it at one input. -/
def healTellsWrong : ChangeSpec := { name := "healTells", fn := fun _ => fun
  | [d1, d2, d3, d4, d5, d6] => { results := [.lit (.bool false)], args := [d1, d2, d3, d4, d5, d6] }
  | _ => none }
def HealTellsWrongFalsely : Prop := healTellsRow.holds Tryz.pinned (OpenSpec.ofChange healTellsWrong)

/-- 'limpetlaw24.HealSmall': WHATEVER THE INPUT: true; the input reads as it did. -/
def healSmallSpec : ChangeSpec := { name := "healSmall", fn := fun _ => fun
  | [] => { results := [.lit (.bool true)], args := [] }
  | _ => none }
def healSmallRow : OpenClaim := { program := "ythadfdpdillemaagreatdoor", sum := "c259129ca86f12d4a756c9fde6beb78d15a531b86f7f94215da4fb91a7d6e4bc", func := "limpet/limpetlaw24.HealSmall", spec := "healSmall", inPlace := ["internal/reflectlite.TypeOf", "internal/reflectlite.ValueOf", "(internal/reflectlite.Value).Type", "(internal/reflectlite.Value).IsNil", "(internal/reflectlite.Value).Elem", "(internal/reflectlite.Value).Set"], unfollowed := true, recurses := true, named := ["errors.errorType"], apart := false, laid := [("errors.errorType", laid_errors_errorType)] }
def HealSmallSaid : Prop := healSmallRow.holds Tryz.pinned (OpenSpec.ofChange healSmallSpec)

/-- ITS FALSE NEIGHBOUR: 'it returns false'. Refute it at one input. -/
def healSmallWrong : ChangeSpec := { name := "healSmall", fn := fun _ => fun
  | [] => { results := [.lit (.bool false)], args := [] }
  | _ => none }
def HealSmallWrongFalsely : Prop := healSmallRow.holds Tryz.pinned (OpenSpec.ofChange healSmallWrong)

/-- 'limpetlaw22.GroupTells': WHATEVER THE INPUT: true; the input reads as it did. -/
def groupTellsSpec : ChangeSpec := { name := "groupTells", fn := fun _ => fun
  | [d1, d2, d3, d4] => { results := [.lit (.bool true)], args := [d1, d2, d3, d4] }
  | _ => none }
def groupTellsRow : OpenClaim := { program := "ythadfdpdillemaagreatdoor", sum := "c259129ca86f12d4a756c9fde6beb78d15a531b86f7f94215da4fb91a7d6e4bc", func := "limpet/limpetlaw22.GroupTells", spec := "groupTells", inPlace := ["internal/reflectlite.TypeOf", "internal/reflectlite.ValueOf", "(internal/reflectlite.Value).Type", "(internal/reflectlite.Value).IsNil", "(internal/reflectlite.Value).Elem", "(internal/reflectlite.Value).Set"], unfollowed := true, recurses := true, named := ["errors.errorType"], apart := false, laid := [("errors.errorType", laid_errors_errorType)] }
def GroupTellsSaid : Prop := groupTellsRow.holds Tryz.pinned (OpenSpec.ofChange groupTellsSpec)

/-- ITS FALSE NEIGHBOUR: 'it returns false'. Refute it at one input. -/
def groupTellsWrong : ChangeSpec := { name := "groupTells", fn := fun _ => fun
  | [d1, d2, d3, d4] => { results := [.lit (.bool false)], args := [d1, d2, d3, d4] }
  | _ => none }
def GroupTellsWrongFalsely : Prop := groupTellsRow.holds Tryz.pinned (OpenSpec.ofChange groupTellsWrong)

/-- 'limpetlaw22.GroupLogs': WHATEVER THE INPUT: true; the input reads as it did. -/
def groupLogsSpec : ChangeSpec := { name := "groupLogs", fn := fun _ => fun
  | [d1, d2] => { results := [.lit (.bool true)], args := [d1, d2] }
  | _ => none }
def groupLogsRow : OpenClaim := { program := "ythadfdpdillemaagreatdoor", sum := "c259129ca86f12d4a756c9fde6beb78d15a531b86f7f94215da4fb91a7d6e4bc", func := "limpet/limpetlaw22.GroupLogs", spec := "groupLogs", inPlace := ["internal/reflectlite.TypeOf", "internal/reflectlite.ValueOf", "(internal/reflectlite.Value).Type", "(internal/reflectlite.Value).IsNil", "(internal/reflectlite.Value).Elem", "(internal/reflectlite.Value).Set"], unfollowed := true, recurses := true, named := ["errors.errorType"], apart := false, laid := [("errors.errorType", laid_errors_errorType)] }
def GroupLogsSaid : Prop := groupLogsRow.holds Tryz.pinned (OpenSpec.ofChange groupLogsSpec)

/-- ITS FALSE NEIGHBOUR: 'it returns false'. Refute it at one input. -/
def groupLogsWrong : ChangeSpec := { name := "groupLogs", fn := fun _ => fun
  | [d1, d2] => { results := [.lit (.bool false)], args := [d1, d2] }
  | _ => none }
def GroupLogsWrongFalsely : Prop := groupLogsRow.holds Tryz.pinned (OpenSpec.ofChange groupLogsWrong)

/-- 'limpetlaw22.GroupSmall': WHATEVER THE INPUT: true; the input reads as it did. -/
def groupSmallSpec : ChangeSpec := { name := "groupSmall", fn := fun _ => fun
  | [] => { results := [.lit (.bool true)], args := [] }
  | _ => none }
def groupSmallRow : OpenClaim := { program := "ythadfdpdillemaagreatdoor", sum := "c259129ca86f12d4a756c9fde6beb78d15a531b86f7f94215da4fb91a7d6e4bc", func := "limpet/limpetlaw22.GroupSmall", spec := "groupSmall", inPlace := ["internal/reflectlite.TypeOf", "internal/reflectlite.ValueOf", "(internal/reflectlite.Value).Type", "(internal/reflectlite.Value).IsNil", "(internal/reflectlite.Value).Elem", "(internal/reflectlite.Value).Set"], unfollowed := true, recurses := true, named := ["errors.errorType"], apart := false, laid := [("errors.errorType", laid_errors_errorType)] }
def GroupSmallSaid : Prop := groupSmallRow.holds Tryz.pinned (OpenSpec.ofChange groupSmallSpec)

/-- ITS FALSE NEIGHBOUR: 'it returns false'. Refute it at one input. -/
def groupSmallWrong : ChangeSpec := { name := "groupSmall", fn := fun _ => fun
  | [] => { results := [.lit (.bool false)], args := [] }
  | _ => none }
def GroupSmallWrongFalsely : Prop := groupSmallRow.holds Tryz.pinned (OpenSpec.ofChange groupSmallWrong)

/- THE SECOND FORM. 'bulk': how many values and letters a reading holds, each counted each time it is reached (what is shared counts as often as it is met; a slice's spare places count too). A statement '..UptoSaid' is the law's where the arguments, and the package variables that the reading takes, are together of bulk at most 1048576: NARROWER than '..Said'. Prove '..Said' where nothing that the law and all that it calls make is longer than what came in: it says more and counts as full. Else prove '..UptoSaid'. A law counts once. -/
mutual
def uptoBulk {H : Type} : DataW H → Nat
  | .lit (.string bytes) => bytes.length + 1
  | .lit _ => 1
  | .nil => 1
  | .ptr d => uptoBulk d + 1
  | .slice elems spare => uptoBulkAll elems + uptoBulkAll spare + 1
  | .agg parts => uptoBulkAll parts + 1
  | .iface _ d => uptoBulk d + 1
  | .map entries => uptoBulkEntries entries + 1
  | .held _ => 1
def uptoBulkAll {H : Type} : List (DataW H) → Nat
  | [] => 0
  | d :: r => uptoBulk d + uptoBulkAll r
def uptoBulkEntries {H : Type} : List (Lit × DataW H) → Nat
  | [] => 0
  | x :: r => uptoBulkEntry x + uptoBulkEntries r
def uptoBulkEntry {H : Type} : Lit × DataW H → Nat
  | (.string bytes, d) => bytes.length + uptoBulk d + 1
  | (_, d) => uptoBulk d + 1
 end
def uptoSmall : (H : Type) → List (DataW H) → Bool := fun _ ds => decide (uptoBulkAll ds ≤ 1048576)
def OpenSpec.upto (s : _root_.Go.ChangeSpec) : _root_.Go.OpenSpec := { _root_.Go.OpenSpec.ofChange s with cond := some uptoSmall }

/-- 'limpetlaw20.MatchTells', WHERE WHAT IT READS IS OF BULK AT MOST 1048576: true; the input reads as it did. -/
def matchTellsUptoRow : OpenClaim := { program := "ythadfdpdillemaagreatdoor", sum := "c259129ca86f12d4a756c9fde6beb78d15a531b86f7f94215da4fb91a7d6e4bc", func := "limpet/limpetlaw20.MatchTells", spec := "matchTells", inPlace := ["internal/reflectlite.TypeOf", "internal/reflectlite.ValueOf", "(internal/reflectlite.Value).Type", "(internal/reflectlite.Value).IsNil", "(internal/reflectlite.Value).Elem", "(internal/reflectlite.Value).Set"], unfollowed := true, recurses := true, named := ["errors.errorType"], apart := false, laid := [("errors.errorType", laid_errors_errorType)], narrowed := true }
def MatchTellsUptoSaid : Prop := matchTellsUptoRow.holds Tryz.pinned (OpenSpec.upto matchTellsSpec)

/-- 'limpetlaw20.MatchRows', WHERE WHAT IT READS IS OF BULK AT MOST 1048576: true; the input reads as it did. -/
def matchRowsUptoRow : OpenClaim := { program := "ythadfdpdillemaagreatdoor", sum := "c259129ca86f12d4a756c9fde6beb78d15a531b86f7f94215da4fb91a7d6e4bc", func := "limpet/limpetlaw20.MatchRows", spec := "matchRows", inPlace := ["internal/reflectlite.TypeOf", "internal/reflectlite.ValueOf", "(internal/reflectlite.Value).Type", "(internal/reflectlite.Value).IsNil", "(internal/reflectlite.Value).Elem", "(internal/reflectlite.Value).Set"], unfollowed := true, recurses := true, named := ["errors.errorType"], apart := false, laid := [("errors.errorType", laid_errors_errorType)], narrowed := true }
def MatchRowsUptoSaid : Prop := matchRowsUptoRow.holds Tryz.pinned (OpenSpec.upto matchRowsSpec)

/-- 'limpetlaw24.HealTells', WHERE WHAT IT READS IS OF BULK AT MOST 1048576: true; the input reads as it did. -/
def healTellsUptoRow : OpenClaim := { program := "ythadfdpdillemaagreatdoor", sum := "c259129ca86f12d4a756c9fde6beb78d15a531b86f7f94215da4fb91a7d6e4bc", func := "limpet/limpetlaw24.HealTells", spec := "healTells", inPlace := ["internal/reflectlite.TypeOf", "internal/reflectlite.ValueOf", "(internal/reflectlite.Value).Type", "(internal/reflectlite.Value).IsNil", "(internal/reflectlite.Value).Elem", "(internal/reflectlite.Value).Set"], unfollowed := true, recurses := true, named := ["errors.errorType"], apart := false, laid := [("errors.errorType", laid_errors_errorType)], narrowed := true }
def HealTellsUptoSaid : Prop := healTellsUptoRow.holds Tryz.pinned (OpenSpec.upto healTellsSpec)

/-- 'limpetlaw24.HealSmall', WHERE WHAT IT READS IS OF BULK AT MOST 1048576: true; the input reads as it did. -/
def healSmallUptoRow : OpenClaim := { program := "ythadfdpdillemaagreatdoor", sum := "c259129ca86f12d4a756c9fde6beb78d15a531b86f7f94215da4fb91a7d6e4bc", func := "limpet/limpetlaw24.HealSmall", spec := "healSmall", inPlace := ["internal/reflectlite.TypeOf", "internal/reflectlite.ValueOf", "(internal/reflectlite.Value).Type", "(internal/reflectlite.Value).IsNil", "(internal/reflectlite.Value).Elem", "(internal/reflectlite.Value).Set"], unfollowed := true, recurses := true, named := ["errors.errorType"], apart := false, laid := [("errors.errorType", laid_errors_errorType)], narrowed := true }
def HealSmallUptoSaid : Prop := healSmallUptoRow.holds Tryz.pinned (OpenSpec.upto healSmallSpec)

/-- 'limpetlaw22.GroupTells', WHERE WHAT IT READS IS OF BULK AT MOST 1048576: true; the input reads as it did. -/
def groupTellsUptoRow : OpenClaim := { program := "ythadfdpdillemaagreatdoor", sum := "c259129ca86f12d4a756c9fde6beb78d15a531b86f7f94215da4fb91a7d6e4bc", func := "limpet/limpetlaw22.GroupTells", spec := "groupTells", inPlace := ["internal/reflectlite.TypeOf", "internal/reflectlite.ValueOf", "(internal/reflectlite.Value).Type", "(internal/reflectlite.Value).IsNil", "(internal/reflectlite.Value).Elem", "(internal/reflectlite.Value).Set"], unfollowed := true, recurses := true, named := ["errors.errorType"], apart := false, laid := [("errors.errorType", laid_errors_errorType)], narrowed := true }
def GroupTellsUptoSaid : Prop := groupTellsUptoRow.holds Tryz.pinned (OpenSpec.upto groupTellsSpec)

/-- 'limpetlaw22.GroupLogs', WHERE WHAT IT READS IS OF BULK AT MOST 1048576: true; the input reads as it did. -/
def groupLogsUptoRow : OpenClaim := { program := "ythadfdpdillemaagreatdoor", sum := "c259129ca86f12d4a756c9fde6beb78d15a531b86f7f94215da4fb91a7d6e4bc", func := "limpet/limpetlaw22.GroupLogs", spec := "groupLogs", inPlace := ["internal/reflectlite.TypeOf", "internal/reflectlite.ValueOf", "(internal/reflectlite.Value).Type", "(internal/reflectlite.Value).IsNil", "(internal/reflectlite.Value).Elem", "(internal/reflectlite.Value).Set"], unfollowed := true, recurses := true, named := ["errors.errorType"], apart := false, laid := [("errors.errorType", laid_errors_errorType)], narrowed := true }
def GroupLogsUptoSaid : Prop := groupLogsUptoRow.holds Tryz.pinned (OpenSpec.upto groupLogsSpec)

/-- 'limpetlaw22.GroupSmall', WHERE WHAT IT READS IS OF BULK AT MOST 1048576: true; the input reads as it did. -/
def groupSmallUptoRow : OpenClaim := { program := "ythadfdpdillemaagreatdoor", sum := "c259129ca86f12d4a756c9fde6beb78d15a531b86f7f94215da4fb91a7d6e4bc", func := "limpet/limpetlaw22.GroupSmall", spec := "groupSmall", inPlace := ["internal/reflectlite.TypeOf", "internal/reflectlite.ValueOf", "(internal/reflectlite.Value).Type", "(internal/reflectlite.Value).IsNil", "(internal/reflectlite.Value).Elem", "(internal/reflectlite.Value).Set"], unfollowed := true, recurses := true, named := ["errors.errorType"], apart := false, laid := [("errors.errorType", laid_errors_errorType)], narrowed := true }
def GroupSmallUptoSaid : Prop := groupSmallUptoRow.holds Tryz.pinned (OpenSpec.upto groupSmallSpec)

end Rows
end Go.Proofs.YthadfdpdillemaaGreatDoor
