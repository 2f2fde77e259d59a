/-
  DERIVED. GIVEN WITH THE SEED: THE CARDS: each row of YtoiachpnoeecmaaDoorRows.lean that lists a variable, with what it lists TIED to the program's text (the seventh form; the later family's looks); each row that meets fmt, with fmt's text TOLD by the authors' own Lean function (tested against real Go, not proved from fmt's source: count such statements apart). THE CARD IS WHAT COUNTS. Prove the row's statement (the work); the ties are given (YtoiachpnoeecmaaDoorTie.lean); close each card by the builder's one call (the guide's Derived/Test/ToyasCard.lean, 'card_holds'). Laid BY PROGRAM, IN A SANDBOX (cutbox-door.mjs). By AI agents, Wed Nov 11 2026. No macro, syntax, notation, axiom, sorry.
-/
import Derived.Test.YtoiachpnoeecmaaDoorRows
import GoSem.ClaimSeven
namespace Go.Proofs.YtoiachpnoeecmaaDoor
namespace Rows

/-- THE TIED CARD OF 'limpetlaw17.EntryMembers'. -/
def entryMembersCard : Claim7 := { stood := { row := entryMembersRow, standIns := [], harness := (true, "f86ef582cbce69c49046d59d062d9ef286ac5f210e0f76a0bdfc56e7b64a2f81"), looks := true }, kinds := [], alts := [], laidByText := true, laidKinds := [.handle], laidTests := true, laidLooks := .later }
def EntryMembersCardSaid : Prop := Claim7.holds Tryd.pinned (.plain (OpenSpec.ofChange entryMembersSpec)) entryMembersCard

/-- THE TIED CARD OF 'limpetlaw25.LeadSmall'. -/
def leadSmallCard : Claim7 := { stood := { row := leadSmallRow, standIns := [], harness := (true, "f86ef582cbce69c49046d59d062d9ef286ac5f210e0f76a0bdfc56e7b64a2f81"), looks := true }, kinds := [], alts := [], laidByText := true, laidKinds := [.handle], laidTests := true, laidLooks := .later }
def LeadSmallCardSaid : Prop := Claim7.holds Tryd.pinned (.plain (OpenSpec.ofChange leadSmallSpec)) leadSmallCard

/-- THE TIED CARD OF 'limpetlaw20.MatchPlans'. -/
def matchPlansCard : Claim7 := { stood := { row := matchPlansRow, standIns := [], harness := (true, "f86ef582cbce69c49046d59d062d9ef286ac5f210e0f76a0bdfc56e7b64a2f81"), looks := true }, kinds := [], alts := [], laidByText := true, laidKinds := [.handle], laidTests := true, laidLooks := .later }
def MatchPlansCardSaid : Prop := Claim7.holds Tryd.pinned (.plain (OpenSpec.ofChange matchPlansSpec)) matchPlansCard

/-- THE TIED CARD OF 'limpetlaw20.MatchOne'. -/
def matchOneCard : Claim7 := { stood := { row := matchOneRow, standIns := [], harness := (true, "f86ef582cbce69c49046d59d062d9ef286ac5f210e0f76a0bdfc56e7b64a2f81"), looks := true }, kinds := [], alts := [], laidByText := true, laidKinds := [.handle], laidTests := true, laidLooks := .later }
def MatchOneCardSaid : Prop := Claim7.holds Tryd.pinned (.plain (OpenSpec.ofChange matchOneSpec)) matchOneCard

/-- THE TIED CARD OF 'limpetlaw24.HealOnly'. -/
def healOnlyCard : Claim7 := { stood := { row := healOnlyRow, standIns := [], harness := (true, "f86ef582cbce69c49046d59d062d9ef286ac5f210e0f76a0bdfc56e7b64a2f81"), looks := true }, kinds := [], alts := [], laidByText := true, laidKinds := [.handle], laidTests := true, laidLooks := .later }
def HealOnlyCardSaid : Prop := Claim7.holds Tryd.pinned (.plain (OpenSpec.ofChange healOnlySpec)) healOnlyCard

/-- THE TIED CARD OF 'limpetlaw24.HealAll'. -/
def healAllCard : Claim7 := { stood := { row := healAllRow, standIns := [], harness := (true, "f86ef582cbce69c49046d59d062d9ef286ac5f210e0f76a0bdfc56e7b64a2f81"), looks := true }, kinds := [], alts := [], laidByText := true, laidKinds := [.handle], laidTests := true, laidLooks := .later }
def HealAllCardSaid : Prop := Claim7.holds Tryd.pinned (.plain (OpenSpec.ofChange healAllSpec)) healAllCard

/-- THE SECOND FORM's CARD OF 'limpetlaw17.EntryMembers'. -/
def entryMembersUptoCard : Claim7 := { stood := { row := entryMembersUptoRow, standIns := [], harness := (true, "f86ef582cbce69c49046d59d062d9ef286ac5f210e0f76a0bdfc56e7b64a2f81"), looks := true }, kinds := [], alts := [], laidByText := true, laidKinds := [.handle], laidTests := true, laidLooks := .later }
def EntryMembersUptoCardSaid : Prop := Claim7.holds Tryd.pinned (.plain (OpenSpec.upto entryMembersSpec)) entryMembersUptoCard

/-- THE SECOND FORM's CARD OF 'limpetlaw25.LeadSmall'. -/
def leadSmallUptoCard : Claim7 := { stood := { row := leadSmallUptoRow, standIns := [], harness := (true, "f86ef582cbce69c49046d59d062d9ef286ac5f210e0f76a0bdfc56e7b64a2f81"), looks := true }, kinds := [], alts := [], laidByText := true, laidKinds := [.handle], laidTests := true, laidLooks := .later }
def LeadSmallUptoCardSaid : Prop := Claim7.holds Tryd.pinned (.plain (OpenSpec.upto leadSmallSpec)) leadSmallUptoCard

/-- THE SECOND FORM's CARD OF 'limpetlaw20.MatchPlans'. -/
def matchPlansUptoCard : Claim7 := { stood := { row := matchPlansUptoRow, standIns := [], harness := (true, "f86ef582cbce69c49046d59d062d9ef286ac5f210e0f76a0bdfc56e7b64a2f81"), looks := true }, kinds := [], alts := [], laidByText := true, laidKinds := [.handle], laidTests := true, laidLooks := .later }
def MatchPlansUptoCardSaid : Prop := Claim7.holds Tryd.pinned (.plain (OpenSpec.upto matchPlansSpec)) matchPlansUptoCard

/-- THE SECOND FORM's CARD OF 'limpetlaw20.MatchOne'. -/
def matchOneUptoCard : Claim7 := { stood := { row := matchOneUptoRow, standIns := [], harness := (true, "f86ef582cbce69c49046d59d062d9ef286ac5f210e0f76a0bdfc56e7b64a2f81"), looks := true }, kinds := [], alts := [], laidByText := true, laidKinds := [.handle], laidTests := true, laidLooks := .later }
def MatchOneUptoCardSaid : Prop := Claim7.holds Tryd.pinned (.plain (OpenSpec.upto matchOneSpec)) matchOneUptoCard

/-- THE SECOND FORM's CARD OF 'limpetlaw24.HealOnly'. -/
def healOnlyUptoCard : Claim7 := { stood := { row := healOnlyUptoRow, standIns := [], harness := (true, "f86ef582cbce69c49046d59d062d9ef286ac5f210e0f76a0bdfc56e7b64a2f81"), looks := true }, kinds := [], alts := [], laidByText := true, laidKinds := [.handle], laidTests := true, laidLooks := .later }
def HealOnlyUptoCardSaid : Prop := Claim7.holds Tryd.pinned (.plain (OpenSpec.upto healOnlySpec)) healOnlyUptoCard

/-- THE SECOND FORM's CARD OF 'limpetlaw24.HealAll'. -/
def healAllUptoCard : Claim7 := { stood := { row := healAllUptoRow, standIns := [], harness := (true, "f86ef582cbce69c49046d59d062d9ef286ac5f210e0f76a0bdfc56e7b64a2f81"), looks := true }, kinds := [], alts := [], laidByText := true, laidKinds := [.handle], laidTests := true, laidLooks := .later }
def HealAllUptoCardSaid : Prop := Claim7.holds Tryd.pinned (.plain (OpenSpec.upto healAllSpec)) healAllUptoCard
end Rows
end Go.Proofs.YtoiachpnoeecmaaDoor
