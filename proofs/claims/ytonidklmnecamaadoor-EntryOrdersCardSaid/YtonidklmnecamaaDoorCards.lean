/-
  DERIVED. GIVEN WITH THE SEED: THE CARDS: each row of YtonidklmnecamaaDoorRows.lean that lists a variable, with what it lists TIED to the program's text (the seventh form; the later family's looks); each row that meets fmt, with fmt's text TOLD by the authors' own Lean function (tested against real Go, not proved from fmt's source: count such statements apart). THE CARD IS WHAT COUNTS. Prove the row's statement (the work); the ties are given (YtonidklmnecamaaDoorTie.lean); close each card by the builder's one call (the guide's Derived/Test/ToyasCard.lean, 'card_holds'). Laid BY PROGRAM, IN A SANDBOX (cutbox-door.mjs). By AI agents, Wed Nov 11 2026. No macro, syntax, notation, axiom, sorry.
-/
import Derived.Test.YtonidklmnecamaaDoorRows
import GoSem.ClaimSeven
namespace Go.Proofs.YtonidklmnecamaaDoor
namespace Rows

/-- THE TIED CARD OF 'limpetlaw17.EntryMembers'. -/
def entryMembersCard : Claim7 := { stood := { row := entryMembersRow, standIns := [], harness := (true, "e1ef3afcb31de718e68ea3d763cb16253ff7629005bf56784f27d7132860a95d"), looks := true }, kinds := [], alts := [], laidByText := true, laidKinds := [.handle], laidTests := true, laidLooks := .later }
def EntryMembersCardSaid : Prop := Claim7.holds Tryd.pinned (.plain (OpenSpec.ofChange entryMembersSpec)) entryMembersCard

/-- THE TIED CARD OF 'limpetlaw17.EntryJoins'. -/
def entryJoinsCard : Claim7 := { stood := { row := entryJoinsRow, standIns := [], harness := (true, "e1ef3afcb31de718e68ea3d763cb16253ff7629005bf56784f27d7132860a95d"), looks := true }, kinds := [], alts := [], laidByText := true, laidKinds := [.handle], laidTests := true, laidLooks := .later }
def EntryJoinsCardSaid : Prop := Claim7.holds Tryd.pinned (.plain (OpenSpec.ofChange entryJoinsSpec)) entryJoinsCard

/-- THE TIED CARD OF 'limpetlaw17.EntryRows'. -/
def entryRowsCard : Claim7 := { stood := { row := entryRowsRow, standIns := [], harness := (true, "e1ef3afcb31de718e68ea3d763cb16253ff7629005bf56784f27d7132860a95d"), looks := true }, kinds := [], alts := [], laidByText := true, laidKinds := [.handle], laidTests := true, laidLooks := .later }
def EntryRowsCardSaid : Prop := Claim7.holds Tryd.pinned (.plain (OpenSpec.ofChange entryRowsSpec)) entryRowsCard

/-- THE TIED CARD OF 'limpetlaw17.EntryOrders'. -/
def entryOrdersCard : Claim7 := { stood := { row := entryOrdersRow, standIns := [], harness := (true, "e1ef3afcb31de718e68ea3d763cb16253ff7629005bf56784f27d7132860a95d"), looks := true }, kinds := [], alts := [], laidByText := true, laidKinds := [.handle], laidTests := true, laidLooks := .later }
def EntryOrdersCardSaid : Prop := Claim7.holds Tryd.pinned (.plain (OpenSpec.ofChange entryOrdersSpec)) entryOrdersCard

/-- THE SECOND FORM's CARD OF 'limpetlaw17.EntryMembers'. -/
def entryMembersUptoCard : Claim7 := { stood := { row := entryMembersUptoRow, standIns := [], harness := (true, "e1ef3afcb31de718e68ea3d763cb16253ff7629005bf56784f27d7132860a95d"), looks := true }, kinds := [], alts := [], laidByText := true, laidKinds := [.handle], laidTests := true, laidLooks := .later }
def EntryMembersUptoCardSaid : Prop := Claim7.holds Tryd.pinned (.plain (OpenSpec.upto entryMembersSpec)) entryMembersUptoCard

/-- THE SECOND FORM's CARD OF 'limpetlaw17.EntryJoins'. -/
def entryJoinsUptoCard : Claim7 := { stood := { row := entryJoinsUptoRow, standIns := [], harness := (true, "e1ef3afcb31de718e68ea3d763cb16253ff7629005bf56784f27d7132860a95d"), looks := true }, kinds := [], alts := [], laidByText := true, laidKinds := [.handle], laidTests := true, laidLooks := .later }
def EntryJoinsUptoCardSaid : Prop := Claim7.holds Tryd.pinned (.plain (OpenSpec.upto entryJoinsSpec)) entryJoinsUptoCard

/-- THE SECOND FORM's CARD OF 'limpetlaw17.EntryRows'. -/
def entryRowsUptoCard : Claim7 := { stood := { row := entryRowsUptoRow, standIns := [], harness := (true, "e1ef3afcb31de718e68ea3d763cb16253ff7629005bf56784f27d7132860a95d"), looks := true }, kinds := [], alts := [], laidByText := true, laidKinds := [.handle], laidTests := true, laidLooks := .later }
def EntryRowsUptoCardSaid : Prop := Claim7.holds Tryd.pinned (.plain (OpenSpec.upto entryRowsSpec)) entryRowsUptoCard

/-- THE SECOND FORM's CARD OF 'limpetlaw17.EntryOrders'. -/
def entryOrdersUptoCard : Claim7 := { stood := { row := entryOrdersUptoRow, standIns := [], harness := (true, "e1ef3afcb31de718e68ea3d763cb16253ff7629005bf56784f27d7132860a95d"), looks := true }, kinds := [], alts := [], laidByText := true, laidKinds := [.handle], laidTests := true, laidLooks := .later }
def EntryOrdersUptoCardSaid : Prop := Claim7.holds Tryd.pinned (.plain (OpenSpec.upto entryOrdersSpec)) entryOrdersUptoCard
end Rows
end Go.Proofs.YtonidklmnecamaaDoor
