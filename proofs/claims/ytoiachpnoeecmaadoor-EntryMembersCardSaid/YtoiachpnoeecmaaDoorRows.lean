/-
  NARROWER THAN 'FOR EVERY INPUT', by the rows' own cells (each row's printed sentence says how): EntryMembers: laid · LeadSmall: laid · MatchPlans: laid · MatchOne: laid · HealOnly: laid · HealAll: laid.
  DERIVED. THE GIVEN ROWS OF THIS SEAT. 6 by the template 'for every input the law returns true; each argument reads behind the call as it read before'; 0 by the template 'total and deterministic' (their statements: YtoiachpnoeecmaaDoorTotals.lean).
  GIVEN WITH THE SEED: the statements are not yours to turn. If you find one false, say at which input.
  Laid BY PROGRAM, IN A SANDBOX (cutbox-rows.mjs): the forced cells as the released guide's own fill.sh prints them over the translation e9fc56fd7c360d01… (all of the seat's roots in one cut). By AI agents, Wed Nov 11 2026. No macro, syntax, notation, axiom, sorry.
-/
import Derived.Test.YtoiachpnoeecmaaDoorChecked
import GoSem.Claim
import GoSem.ClaimJoined
import GoSem.ClaimMapViews
import Derived.JoinedTies
import Derived.KernelRfl
namespace Go.Proofs.YtoiachpnoeecmaaDoor
/- THE CELL 'sum', in the pinned program and in every row, IS THE sha256 OF THE DUMP (.gsa) THAT YtoiachpnoeecmaaDoorProg.lean LOADS. Nothing in Lean hashes anything: it is a label: what it is worth is what the hold of that sum in a sandbox is worth. -/
noncomputable def Tryd.pinned : Pinned := { name := "ytoiachpnoeecmaadoor", sum := "e9fc56fd7c360d01870c328dfb215cd3c2419e4acb19d077b6be690b54727a09", checked := Tryd.checked }
namespace Rows
def none {H : Type} : Left H := { results := [], args := [] }

/- WHAT THE LISTED PACKAGE-LEVEL VARIABLES READ AS WHEN THE CALL BEGINS. Each datum BY PROGRAM (the guide's laid-datum.mjs) off the statement by which the dump's own 'gosem.cut.vars' lays the variable. In a bare row this is a premise. The card (YtoiachpnoeecmaaDoorCards.lean) ties it to the program's text. -/
def laid_errors_errorType {H : Type} : DataW H := .iface "internal/reflectlite.rtype" (.agg [.ptr (.lit (.string [101, 114, 114, 111, 114]))])

/-- 'limpetlaw17.EntryMembers': WHATEVER THE INPUT: true; the input reads as it did. -/
def entryMembersSpec : ChangeSpec := { name := "entryMembers", fn := fun _ => fun
  | [d1, d2] => { results := [.lit (.bool true)], args := [d1, d2] }
  | _ => none }
def entryMembersRow : OpenClaim := { program := "ytoiachpnoeecmaadoor", sum := "e9fc56fd7c360d01870c328dfb215cd3c2419e4acb19d077b6be690b54727a09", func := "limpet/limpetlaw17.EntryMembers", spec := "entryMembers", inPlace := ["internal/reflectlite.TypeOf", "internal/reflectlite.ValueOf", "(internal/reflectlite.Value).Type", "(internal/reflectlite.Value).IsNil", "(internal/reflectlite.Value).Elem", "(internal/reflectlite.Value).Set"], unfollowed := true, recurses := true, named := ["errors.errorType"], apart := false, laid := [("errors.errorType", laid_errors_errorType)] }
def EntryMembersSaid : Prop := entryMembersRow.holds Tryd.pinned (OpenSpec.ofChange entryMembersSpec)

/-- ITS FALSE NEIGHBOUR: 'it returns false'. Refute it at one input. -/
def entryMembersWrong : ChangeSpec := { name := "entryMembers", fn := fun _ => fun
  | [d1, d2] => { results := [.lit (.bool false)], args := [d1, d2] }
  | _ => none }
def EntryMembersWrongFalsely : Prop := entryMembersRow.holds Tryd.pinned (OpenSpec.ofChange entryMembersWrong)

/-- 'limpetlaw25.LeadSmall': WHATEVER THE INPUT: true; the input reads as it did. -/
def leadSmallSpec : ChangeSpec := { name := "leadSmall", fn := fun _ => fun
  | [] => { results := [.lit (.bool true)], args := [] }
  | _ => none }
def leadSmallRow : OpenClaim := { program := "ytoiachpnoeecmaadoor", sum := "e9fc56fd7c360d01870c328dfb215cd3c2419e4acb19d077b6be690b54727a09", func := "limpet/limpetlaw25.LeadSmall", spec := "leadSmall", inPlace := ["internal/reflectlite.TypeOf", "internal/reflectlite.ValueOf", "(internal/reflectlite.Value).Type", "(internal/reflectlite.Value).IsNil", "(internal/reflectlite.Value).Elem", "(internal/reflectlite.Value).Set"], unfollowed := true, recurses := true, named := ["errors.errorType"], apart := false, laid := [("errors.errorType", laid_errors_errorType)] }
def LeadSmallSaid : Prop := leadSmallRow.holds Tryd.pinned (OpenSpec.ofChange leadSmallSpec)

/-- ITS FALSE NEIGHBOUR: 'it returns false'. Refute it at one input. -/
def leadSmallWrong : ChangeSpec := { name := "leadSmall", fn := fun _ => fun
  | [] => { results := [.lit (.bool false)], args := [] }
  | _ => none }
def LeadSmallWrongFalsely : Prop := leadSmallRow.holds Tryd.pinned (OpenSpec.ofChange leadSmallWrong)

/-- 'limpetlaw20.MatchPlans': WHATEVER THE INPUT: true; the input reads as it did. -/
def matchPlansSpec : ChangeSpec := { name := "matchPlans", fn := fun _ => fun
  | [d1, d2, d3] => { results := [.lit (.bool true)], args := [d1, d2, d3] }
  | _ => none }
def matchPlansRow : OpenClaim := { program := "ytoiachpnoeecmaadoor", sum := "e9fc56fd7c360d01870c328dfb215cd3c2419e4acb19d077b6be690b54727a09", func := "limpet/limpetlaw20.MatchPlans", spec := "matchPlans", inPlace := ["internal/reflectlite.TypeOf", "internal/reflectlite.ValueOf", "(internal/reflectlite.Value).Type", "(internal/reflectlite.Value).IsNil", "(internal/reflectlite.Value).Elem", "(internal/reflectlite.Value).Set"], unfollowed := true, recurses := true, named := ["errors.errorType"], apart := false, laid := [("errors.errorType", laid_errors_errorType)] }
def MatchPlansSaid : Prop := matchPlansRow.holds Tryd.pinned (OpenSpec.ofChange matchPlansSpec)

/-- ITS FALSE NEIGHBOUR: 'it returns false'. Refute it at one input. -/
def matchPlansWrong : ChangeSpec := { name := "matchPlans", fn := fun _ => fun
  | [d1, d2, d3] => { results := [.lit (.bool false)], args := [d1, d2, d3] }
  | _ => none }
def MatchPlansWrongFalsely : Prop := matchPlansRow.holds Tryd.pinned (OpenSpec.ofChange matchPlansWrong)

/-- 'limpetlaw20.MatchOne': WHATEVER THE INPUT: true; the input reads as it did. -/
def matchOneSpec : ChangeSpec := { name := "matchOne", fn := fun _ => fun
  | [d1, d2, d3, d4] => { results := [.lit (.bool true)], args := [d1, d2, d3, d4] }
  | _ => none }
def matchOneRow : OpenClaim := { program := "ytoiachpnoeecmaadoor", sum := "e9fc56fd7c360d01870c328dfb215cd3c2419e4acb19d077b6be690b54727a09", func := "limpet/limpetlaw20.MatchOne", spec := "matchOne", inPlace := ["internal/reflectlite.TypeOf", "internal/reflectlite.ValueOf", "(internal/reflectlite.Value).Type", "(internal/reflectlite.Value).IsNil", "(internal/reflectlite.Value).Elem", "(internal/reflectlite.Value).Set"], unfollowed := true, recurses := true, named := ["errors.errorType"], apart := false, laid := [("errors.errorType", laid_errors_errorType)] }
def MatchOneSaid : Prop := matchOneRow.holds Tryd.pinned (OpenSpec.ofChange matchOneSpec)

/-- ITS FALSE NEIGHBOUR: 'it returns false'. Refute it at one input. -/
def matchOneWrong : ChangeSpec := { name := "matchOne", fn := fun _ => fun
  | [d1, d2, d3, d4] => { results := [.lit (.bool false)], args := [d1, d2, d3, d4] }
  | _ => none }
def MatchOneWrongFalsely : Prop := matchOneRow.holds Tryd.pinned (OpenSpec.ofChange matchOneWrong)

/-- 'limpetlaw24.HealOnly': WHATEVER THE INPUT: true; the input reads as it did. -/
def healOnlySpec : ChangeSpec := { name := "healOnly", fn := fun _ => fun
  | [d1, d2, d3, d4] => { results := [.lit (.bool true)], args := [d1, d2, d3, d4] }
  | _ => none }
def healOnlyRow : OpenClaim := { program := "ytoiachpnoeecmaadoor", sum := "e9fc56fd7c360d01870c328dfb215cd3c2419e4acb19d077b6be690b54727a09", func := "limpet/limpetlaw24.HealOnly", spec := "healOnly", inPlace := ["internal/reflectlite.TypeOf", "internal/reflectlite.ValueOf", "(internal/reflectlite.Value).Type", "(internal/reflectlite.Value).IsNil", "(internal/reflectlite.Value).Elem", "(internal/reflectlite.Value).Set"], unfollowed := true, recurses := true, named := ["errors.errorType"], apart := false, laid := [("errors.errorType", laid_errors_errorType)] }
def HealOnlySaid : Prop := healOnlyRow.holds Tryd.pinned (OpenSpec.ofChange healOnlySpec)

/-- ITS FALSE NEIGHBOUR: 'it returns false'. Refute it at one input. -/
def healOnlyWrong : ChangeSpec := { name := "healOnly", fn := fun _ => fun
  | [d1, d2, d3, d4] => { results := [.lit (.bool false)], args := [d1, d2, d3, d4] }
  | _ => none }
def HealOnlyWrongFalsely : Prop := healOnlyRow.holds Tryd.pinned (OpenSpec.ofChange healOnlyWrong)

/-- 'limpetlaw24.HealAll': WHATEVER THE INPUT: true; the input reads as it did. -/
def healAllSpec : ChangeSpec := { name := "healAll", fn := fun _ => fun
  | [d1, d2, d3] => { results := [.lit (.bool true)], args := [d1, d2, d3] }
  | _ => none }
def healAllRow : OpenClaim := { program := "ytoiachpnoeecmaadoor", sum := "e9fc56fd7c360d01870c328dfb215cd3c2419e4acb19d077b6be690b54727a09", func := "limpet/limpetlaw24.HealAll", spec := "healAll", inPlace := ["internal/reflectlite.TypeOf", "internal/reflectlite.ValueOf", "(internal/reflectlite.Value).Type", "(internal/reflectlite.Value).IsNil", "(internal/reflectlite.Value).Elem", "(internal/reflectlite.Value).Set"], unfollowed := true, recurses := true, named := ["errors.errorType"], apart := false, laid := [("errors.errorType", laid_errors_errorType)] }
def HealAllSaid : Prop := healAllRow.holds Tryd.pinned (OpenSpec.ofChange healAllSpec)

/-- ITS FALSE NEIGHBOUR: 'it returns false'. Refute it at one input. -/
def healAllWrong : ChangeSpec := { name := "healAll", fn := fun _ => fun
  | [d1, d2, d3] => { results := [.lit (.bool false)], args := [d1, d2, d3] }
  | _ => none }
def HealAllWrongFalsely : Prop := healAllRow.holds Tryd.pinned (OpenSpec.ofChange healAllWrong)

/- THE SECOND FORM. 'bulk': how many values and letters a reading holds, each counted each time it is reached (what is shared counts as often as it is met; a slice's spare places count too). A statement '..UptoSaid' is the law's where the arguments, and the package variables that the reading takes, are together of bulk at most 1048576: NARROWER than '..Said'. Prove '..Said' where nothing that the law and all that it calls make is longer than what came in: it says more and counts as full. Else prove '..UptoSaid'. A law counts once. -/
mutual
def uptoBulk {H : Type} : DataW H → Nat
  | .lit (.string bytes) => bytes.length + 1
  | .lit _ => 1
  | .nil => 1
  | .ptr d => uptoBulk d + 1
  | .slice elems spare => uptoBulkAll elems + uptoBulkAll spare + 1
  | .agg parts => uptoBulkAll parts + 1
  | .iface _ d => uptoBulk d + 1
  | .map entries => uptoBulkEntries entries + 1
  | .held _ => 1
def uptoBulkAll {H : Type} : List (DataW H) → Nat
  | [] => 0
  | d :: r => uptoBulk d + uptoBulkAll r
def uptoBulkEntries {H : Type} : List (Lit × DataW H) → Nat
  | [] => 0
  | x :: r => uptoBulkEntry x + uptoBulkEntries r
def uptoBulkEntry {H : Type} : Lit × DataW H → Nat
  | (.string bytes, d) => bytes.length + uptoBulk d + 1
  | (_, d) => uptoBulk d + 1
 end
def uptoSmall : (H : Type) → List (DataW H) → Bool := fun _ ds => decide (uptoBulkAll ds ≤ 1048576)
def OpenSpec.upto (s : _root_.Go.ChangeSpec) : _root_.Go.OpenSpec := { _root_.Go.OpenSpec.ofChange s with cond := some uptoSmall }

/-- 'limpetlaw17.EntryMembers', WHERE WHAT IT READS IS OF BULK AT MOST 1048576: true; the input reads as it did. -/
def entryMembersUptoRow : OpenClaim := { program := "ytoiachpnoeecmaadoor", sum := "e9fc56fd7c360d01870c328dfb215cd3c2419e4acb19d077b6be690b54727a09", func := "limpet/limpetlaw17.EntryMembers", spec := "entryMembers", inPlace := ["internal/reflectlite.TypeOf", "internal/reflectlite.ValueOf", "(internal/reflectlite.Value).Type", "(internal/reflectlite.Value).IsNil", "(internal/reflectlite.Value).Elem", "(internal/reflectlite.Value).Set"], unfollowed := true, recurses := true, named := ["errors.errorType"], apart := false, laid := [("errors.errorType", laid_errors_errorType)], narrowed := true }
def EntryMembersUptoSaid : Prop := entryMembersUptoRow.holds Tryd.pinned (OpenSpec.upto entryMembersSpec)

/-- 'limpetlaw25.LeadSmall', WHERE WHAT IT READS IS OF BULK AT MOST 1048576: true; the input reads as it did. -/
def leadSmallUptoRow : OpenClaim := { program := "ytoiachpnoeecmaadoor", sum := "e9fc56fd7c360d01870c328dfb215cd3c2419e4acb19d077b6be690b54727a09", func := "limpet/limpetlaw25.LeadSmall", spec := "leadSmall", inPlace := ["internal/reflectlite.TypeOf", "internal/reflectlite.ValueOf", "(internal/reflectlite.Value).Type", "(internal/reflectlite.Value).IsNil", "(internal/reflectlite.Value).Elem", "(internal/reflectlite.Value).Set"], unfollowed := true, recurses := true, named := ["errors.errorType"], apart := false, laid := [("errors.errorType", laid_errors_errorType)], narrowed := true }
def LeadSmallUptoSaid : Prop := leadSmallUptoRow.holds Tryd.pinned (OpenSpec.upto leadSmallSpec)

/-- 'limpetlaw20.MatchPlans', WHERE WHAT IT READS IS OF BULK AT MOST 1048576: true; the input reads as it did. -/
def matchPlansUptoRow : OpenClaim := { program := "ytoiachpnoeecmaadoor", sum := "e9fc56fd7c360d01870c328dfb215cd3c2419e4acb19d077b6be690b54727a09", func := "limpet/limpetlaw20.MatchPlans", spec := "matchPlans", inPlace := ["internal/reflectlite.TypeOf", "internal/reflectlite.ValueOf", "(internal/reflectlite.Value).Type", "(internal/reflectlite.Value).IsNil", "(internal/reflectlite.Value).Elem", "(internal/reflectlite.Value).Set"], unfollowed := true, recurses := true, named := ["errors.errorType"], apart := false, laid := [("errors.errorType", laid_errors_errorType)], narrowed := true }
def MatchPlansUptoSaid : Prop := matchPlansUptoRow.holds Tryd.pinned (OpenSpec.upto matchPlansSpec)

/-- 'limpetlaw20.MatchOne', WHERE WHAT IT READS IS OF BULK AT MOST 1048576: true; the input reads as it did. -/
def matchOneUptoRow : OpenClaim := { program := "ytoiachpnoeecmaadoor", sum := "e9fc56fd7c360d01870c328dfb215cd3c2419e4acb19d077b6be690b54727a09", func := "limpet/limpetlaw20.MatchOne", spec := "matchOne", inPlace := ["internal/reflectlite.TypeOf", "internal/reflectlite.ValueOf", "(internal/reflectlite.Value).Type", "(internal/reflectlite.Value).IsNil", "(internal/reflectlite.Value).Elem", "(internal/reflectlite.Value).Set"], unfollowed := true, recurses := true, named := ["errors.errorType"], apart := false, laid := [("errors.errorType", laid_errors_errorType)], narrowed := true }
def MatchOneUptoSaid : Prop := matchOneUptoRow.holds Tryd.pinned (OpenSpec.upto matchOneSpec)

/-- 'limpetlaw24.HealOnly', WHERE WHAT IT READS IS OF BULK AT MOST 1048576: true; the input reads as it did. -/
def healOnlyUptoRow : OpenClaim := { program := "ytoiachpnoeecmaadoor", sum := "e9fc56fd7c360d01870c328dfb215cd3c2419e4acb19d077b6be690b54727a09", func := "limpet/limpetlaw24.HealOnly", spec := "healOnly", inPlace := ["internal/reflectlite.TypeOf", "internal/reflectlite.ValueOf", "(internal/reflectlite.Value).Type", "(internal/reflectlite.Value).IsNil", "(internal/reflectlite.Value).Elem", "(internal/reflectlite.Value).Set"], unfollowed := true, recurses := true, named := ["errors.errorType"], apart := false, laid := [("errors.errorType", laid_errors_errorType)], narrowed := true }
def HealOnlyUptoSaid : Prop := healOnlyUptoRow.holds Tryd.pinned (OpenSpec.upto healOnlySpec)

/-- 'limpetlaw24.HealAll', WHERE WHAT IT READS IS OF BULK AT MOST 1048576: true; the input reads as it did. -/
def healAllUptoRow : OpenClaim := { program := "ytoiachpnoeecmaadoor", sum := "e9fc56fd7c360d01870c328dfb215cd3c2419e4acb19d077b6be690b54727a09", func := "limpet/limpetlaw24.HealAll", spec := "healAll", inPlace := ["internal/reflectlite.TypeOf", "internal/reflectlite.ValueOf", "(internal/reflectlite.Value).Type", "(internal/reflectlite.Value).IsNil", "(internal/reflectlite.Value).Elem", "(internal/reflectlite.Value).Set"], unfollowed := true, recurses := true, named := ["errors.errorType"], apart := false, laid := [("errors.errorType", laid_errors_errorType)], narrowed := true }
def HealAllUptoSaid : Prop := healAllUptoRow.holds Tryd.pinned (OpenSpec.upto healAllSpec)

end Rows
end Go.Proofs.YtoiachpnoeecmaaDoor
