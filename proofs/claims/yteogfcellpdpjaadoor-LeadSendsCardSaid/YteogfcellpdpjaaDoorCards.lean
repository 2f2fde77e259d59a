/-
  DERIVED. GIVEN WITH THE SEED: THE CARDS: each row of YteogfcellpdpjaaDoorRows.lean that lists a variable, with what it lists TIED to the program's text (the seventh form; the later family's looks); each row that meets fmt, with fmt's text TOLD by the authors' own Lean function (tested against real Go, not proved from fmt's source: count such statements apart). THE CARD IS WHAT COUNTS. Prove the row's statement (the work); the ties are given (YteogfcellpdpjaaDoorTie.lean); close each card by the builder's one call (the guide's Derived/Test/ToyasCard.lean, 'card_holds'). Laid BY PROGRAM, IN A SANDBOX (cutbox-door.mjs). By AI agents, Wed Nov 11 2026. No macro, syntax, notation, axiom, sorry.
-/
import Derived.Test.YteogfcellpdpjaaDoorRows
import GoSem.ClaimSeven
namespace Go.Proofs.YteogfcellpdpjaaDoor
namespace Rows

/-- THE TIED CARD OF 'limpetlaw17.EntryMembers'. -/
def entryMembersCard : Claim7 := { stood := { row := entryMembersRow, standIns := [], harness := (true, "355f28e77f590ba110887591070d6a7ddfa69c143162296f5f27d2a1f866677f"), looks := true }, kinds := [], alts := [], laidByText := true, laidKinds := [.handle], laidTests := true, laidLooks := .later }
def EntryMembersCardSaid : Prop := Claim7.holds Tryd.pinned (.plain (OpenSpec.ofChange entryMembersSpec)) entryMembersCard

/-- THE TIED CARD OF 'limpetlaw17.EntryJoins'. -/
def entryJoinsCard : Claim7 := { stood := { row := entryJoinsRow, standIns := [], harness := (true, "355f28e77f590ba110887591070d6a7ddfa69c143162296f5f27d2a1f866677f"), looks := true }, kinds := [], alts := [], laidByText := true, laidKinds := [.handle], laidTests := true, laidLooks := .later }
def EntryJoinsCardSaid : Prop := Claim7.holds Tryd.pinned (.plain (OpenSpec.ofChange entryJoinsSpec)) entryJoinsCard

/-- THE TIED CARD OF 'limpetlaw17.EntryRows'. -/
def entryRowsCard : Claim7 := { stood := { row := entryRowsRow, standIns := [], harness := (true, "355f28e77f590ba110887591070d6a7ddfa69c143162296f5f27d2a1f866677f"), looks := true }, kinds := [], alts := [], laidByText := true, laidKinds := [.handle], laidTests := true, laidLooks := .later }
def EntryRowsCardSaid : Prop := Claim7.holds Tryd.pinned (.plain (OpenSpec.ofChange entryRowsSpec)) entryRowsCard

/-- THE TIED CARD OF 'limpetlaw25.LeadNext'. -/
def leadNextCard : Claim7 := { stood := { row := leadNextRow, standIns := [], harness := (true, "355f28e77f590ba110887591070d6a7ddfa69c143162296f5f27d2a1f866677f"), looks := true }, kinds := [], alts := [], laidByText := true, laidKinds := [.handle], laidTests := true, laidLooks := .later }
def LeadNextCardSaid : Prop := Claim7.holds Tryd.pinned (.plain (OpenSpec.ofChange leadNextSpec)) leadNextCard

/-- THE TIED CARD OF 'limpetlaw25.LeadSmall'. -/
def leadSmallCard : Claim7 := { stood := { row := leadSmallRow, standIns := [], harness := (true, "355f28e77f590ba110887591070d6a7ddfa69c143162296f5f27d2a1f866677f"), looks := true }, kinds := [], alts := [], laidByText := true, laidKinds := [.handle], laidTests := true, laidLooks := .later }
def LeadSmallCardSaid : Prop := Claim7.holds Tryd.pinned (.plain (OpenSpec.ofChange leadSmallSpec)) leadSmallCard

/-- THE TIED CARD OF 'limpetlaw20.MatchPlans'. -/
def matchPlansCard : Claim7 := { stood := { row := matchPlansRow, standIns := [], harness := (true, "355f28e77f590ba110887591070d6a7ddfa69c143162296f5f27d2a1f866677f"), looks := true }, kinds := [], alts := [], laidByText := true, laidKinds := [.handle], laidTests := true, laidLooks := .later }
def MatchPlansCardSaid : Prop := Claim7.holds Tryd.pinned (.plain (OpenSpec.ofChange matchPlansSpec)) matchPlansCard

/-- THE TIED CARD OF 'limpetlaw20.MatchOne'. -/
def matchOneCard : Claim7 := { stood := { row := matchOneRow, standIns := [], harness := (true, "355f28e77f590ba110887591070d6a7ddfa69c143162296f5f27d2a1f866677f"), looks := true }, kinds := [], alts := [], laidByText := true, laidKinds := [.handle], laidTests := true, laidLooks := .later }
def MatchOneCardSaid : Prop := Claim7.holds Tryd.pinned (.plain (OpenSpec.ofChange matchOneSpec)) matchOneCard

/-- THE TIED CARD OF 'limpetlaw25.LeadSends'. -/
def leadSendsCard : Claim7 := { stood := { row := leadSendsRow, standIns := [], harness := (true, "355f28e77f590ba110887591070d6a7ddfa69c143162296f5f27d2a1f866677f"), looks := true }, kinds := [], alts := [], laidByText := true, laidKinds := [.handle], laidTests := true, laidLooks := .later }
def LeadSendsCardSaid : Prop := Claim7.holds Tryd.pinned (.plain (OpenSpec.ofChange leadSendsSpec)) leadSendsCard

/-- THE SECOND FORM's CARD OF 'limpetlaw17.EntryMembers'. -/
def entryMembersUptoCard : Claim7 := { stood := { row := entryMembersUptoRow, standIns := [], harness := (true, "355f28e77f590ba110887591070d6a7ddfa69c143162296f5f27d2a1f866677f"), looks := true }, kinds := [], alts := [], laidByText := true, laidKinds := [.handle], laidTests := true, laidLooks := .later }
def EntryMembersUptoCardSaid : Prop := Claim7.holds Tryd.pinned (.plain (OpenSpec.upto entryMembersSpec)) entryMembersUptoCard

/-- THE SECOND FORM's CARD OF 'limpetlaw17.EntryJoins'. -/
def entryJoinsUptoCard : Claim7 := { stood := { row := entryJoinsUptoRow, standIns := [], harness := (true, "355f28e77f590ba110887591070d6a7ddfa69c143162296f5f27d2a1f866677f"), looks := true }, kinds := [], alts := [], laidByText := true, laidKinds := [.handle], laidTests := true, laidLooks := .later }
def EntryJoinsUptoCardSaid : Prop := Claim7.holds Tryd.pinned (.plain (OpenSpec.upto entryJoinsSpec)) entryJoinsUptoCard

/-- THE SECOND FORM's CARD OF 'limpetlaw17.EntryRows'. -/
def entryRowsUptoCard : Claim7 := { stood := { row := entryRowsUptoRow, standIns := [], harness := (true, "355f28e77f590ba110887591070d6a7ddfa69c143162296f5f27d2a1f866677f"), looks := true }, kinds := [], alts := [], laidByText := true, laidKinds := [.handle], laidTests := true, laidLooks := .later }
def EntryRowsUptoCardSaid : Prop := Claim7.holds Tryd.pinned (.plain (OpenSpec.upto entryRowsSpec)) entryRowsUptoCard

/-- THE SECOND FORM's CARD OF 'limpetlaw25.LeadNext'. -/
def leadNextUptoCard : Claim7 := { stood := { row := leadNextUptoRow, standIns := [], harness := (true, "355f28e77f590ba110887591070d6a7ddfa69c143162296f5f27d2a1f866677f"), looks := true }, kinds := [], alts := [], laidByText := true, laidKinds := [.handle], laidTests := true, laidLooks := .later }
def LeadNextUptoCardSaid : Prop := Claim7.holds Tryd.pinned (.plain (OpenSpec.upto leadNextSpec)) leadNextUptoCard

/-- THE SECOND FORM's CARD OF 'limpetlaw25.LeadSmall'. -/
def leadSmallUptoCard : Claim7 := { stood := { row := leadSmallUptoRow, standIns := [], harness := (true, "355f28e77f590ba110887591070d6a7ddfa69c143162296f5f27d2a1f866677f"), looks := true }, kinds := [], alts := [], laidByText := true, laidKinds := [.handle], laidTests := true, laidLooks := .later }
def LeadSmallUptoCardSaid : Prop := Claim7.holds Tryd.pinned (.plain (OpenSpec.upto leadSmallSpec)) leadSmallUptoCard

/-- THE SECOND FORM's CARD OF 'limpetlaw20.MatchPlans'. -/
def matchPlansUptoCard : Claim7 := { stood := { row := matchPlansUptoRow, standIns := [], harness := (true, "355f28e77f590ba110887591070d6a7ddfa69c143162296f5f27d2a1f866677f"), looks := true }, kinds := [], alts := [], laidByText := true, laidKinds := [.handle], laidTests := true, laidLooks := .later }
def MatchPlansUptoCardSaid : Prop := Claim7.holds Tryd.pinned (.plain (OpenSpec.upto matchPlansSpec)) matchPlansUptoCard

/-- THE SECOND FORM's CARD OF 'limpetlaw20.MatchOne'. -/
def matchOneUptoCard : Claim7 := { stood := { row := matchOneUptoRow, standIns := [], harness := (true, "355f28e77f590ba110887591070d6a7ddfa69c143162296f5f27d2a1f866677f"), looks := true }, kinds := [], alts := [], laidByText := true, laidKinds := [.handle], laidTests := true, laidLooks := .later }
def MatchOneUptoCardSaid : Prop := Claim7.holds Tryd.pinned (.plain (OpenSpec.upto matchOneSpec)) matchOneUptoCard

/-- THE SECOND FORM's CARD OF 'limpetlaw25.LeadSends'. -/
def leadSendsUptoCard : Claim7 := { stood := { row := leadSendsUptoRow, standIns := [], harness := (true, "355f28e77f590ba110887591070d6a7ddfa69c143162296f5f27d2a1f866677f"), looks := true }, kinds := [], alts := [], laidByText := true, laidKinds := [.handle], laidTests := true, laidLooks := .later }
def LeadSendsUptoCardSaid : Prop := Claim7.holds Tryd.pinned (.plain (OpenSpec.upto leadSendsSpec)) leadSendsUptoCard
end Rows
end Go.Proofs.YteogfcellpdpjaaDoor
