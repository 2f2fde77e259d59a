/-
  DERIVED. GIVEN WITH THE SEED: THE CARDS: each row of YtfglkpcboodllaaGreatDoorRows.lean that lists a variable, with what it lists TIED to the program's text (the seventh form; the later family's looks); each row that meets fmt, with fmt's text TOLD by the authors' own Lean function (tested against real Go, not proved from fmt's source: count such statements apart). THE CARD IS WHAT COUNTS. Prove the row's statement (the work); the ties are given (YtfglkpcboodllaaGreatDoorTie.lean); close each card by the builder's one call (the guide's Derived/Test/ToyasCard.lean, 'card_holds'). Laid BY PROGRAM, IN A SANDBOX (cutbox-door.mjs). By AI agents, Wed Nov 11 2026. No macro, syntax, notation, axiom, sorry.
-/
import Derived.Test.YtfglkpcboodllaaGreatDoorRows
import GoSem.ClaimSeven
namespace Go.Proofs.YtfglkpcboodllaaGreatDoor
namespace Rows

/-- THE TIED CARD OF 'limpetlaw17.EntryEnds'. -/
def entryEndsCard : Claim7 := { stood := { row := entryEndsRow, standIns := [], harness := (true, "b22e08d0bb1e9a9950a65d3af7e580fbf44afd6a1295216be720d0de69a806b2"), looks := true }, kinds := [], alts := [], laidByText := true, laidKinds := [.handle], laidTests := true, laidLooks := .later }
def EntryEndsCardSaid : Prop := Claim7.holds Tryz.pinned (.plain (OpenSpec.ofChange entryEndsSpec)) entryEndsCard

/-- THE TIED CARD OF 'limpetlaw20.MatchTells'. -/
def matchTellsCard : Claim7 := { stood := { row := matchTellsRow, standIns := [], harness := (true, "b22e08d0bb1e9a9950a65d3af7e580fbf44afd6a1295216be720d0de69a806b2"), looks := true }, kinds := [], alts := [], laidByText := true, laidKinds := [.handle], laidTests := true, laidLooks := .later }
def MatchTellsCardSaid : Prop := Claim7.holds Tryz.pinned (.plain (OpenSpec.ofChange matchTellsSpec)) matchTellsCard

/-- THE TIED CARD OF 'limpetlaw20.MatchRows'. -/
def matchRowsCard : Claim7 := { stood := { row := matchRowsRow, standIns := [], harness := (true, "b22e08d0bb1e9a9950a65d3af7e580fbf44afd6a1295216be720d0de69a806b2"), looks := true }, kinds := [], alts := [], laidByText := true, laidKinds := [.handle], laidTests := true, laidLooks := .later }
def MatchRowsCardSaid : Prop := Claim7.holds Tryz.pinned (.plain (OpenSpec.ofChange matchRowsSpec)) matchRowsCard

/-- THE TIED CARD OF 'limpetlaw24.HealTells'. -/
def healTellsCard : Claim7 := { stood := { row := healTellsRow, standIns := [], harness := (true, "b22e08d0bb1e9a9950a65d3af7e580fbf44afd6a1295216be720d0de69a806b2"), looks := true }, kinds := [], alts := [], laidByText := true, laidKinds := [.handle], laidTests := true, laidLooks := .later }
def HealTellsCardSaid : Prop := Claim7.holds Tryz.pinned (.plain (OpenSpec.ofChange healTellsSpec)) healTellsCard

/-- THE TIED CARD OF 'limpetlaw24.HealSmall'. -/
def healSmallCard : Claim7 := { stood := { row := healSmallRow, standIns := [], harness := (true, "b22e08d0bb1e9a9950a65d3af7e580fbf44afd6a1295216be720d0de69a806b2"), looks := true }, kinds := [], alts := [], laidByText := true, laidKinds := [.handle], laidTests := true, laidLooks := .later }
def HealSmallCardSaid : Prop := Claim7.holds Tryz.pinned (.plain (OpenSpec.ofChange healSmallSpec)) healSmallCard

/-- THE SECOND FORM's CARD OF 'limpetlaw17.EntryEnds'. -/
def entryEndsUptoCard : Claim7 := { stood := { row := entryEndsUptoRow, standIns := [], harness := (true, "b22e08d0bb1e9a9950a65d3af7e580fbf44afd6a1295216be720d0de69a806b2"), looks := true }, kinds := [], alts := [], laidByText := true, laidKinds := [.handle], laidTests := true, laidLooks := .later }
def EntryEndsUptoCardSaid : Prop := Claim7.holds Tryz.pinned (.plain (OpenSpec.upto entryEndsSpec)) entryEndsUptoCard

/-- THE SECOND FORM's CARD OF 'limpetlaw20.MatchTells'. -/
def matchTellsUptoCard : Claim7 := { stood := { row := matchTellsUptoRow, standIns := [], harness := (true, "b22e08d0bb1e9a9950a65d3af7e580fbf44afd6a1295216be720d0de69a806b2"), looks := true }, kinds := [], alts := [], laidByText := true, laidKinds := [.handle], laidTests := true, laidLooks := .later }
def MatchTellsUptoCardSaid : Prop := Claim7.holds Tryz.pinned (.plain (OpenSpec.upto matchTellsSpec)) matchTellsUptoCard

/-- THE SECOND FORM's CARD OF 'limpetlaw20.MatchRows'. -/
def matchRowsUptoCard : Claim7 := { stood := { row := matchRowsUptoRow, standIns := [], harness := (true, "b22e08d0bb1e9a9950a65d3af7e580fbf44afd6a1295216be720d0de69a806b2"), looks := true }, kinds := [], alts := [], laidByText := true, laidKinds := [.handle], laidTests := true, laidLooks := .later }
def MatchRowsUptoCardSaid : Prop := Claim7.holds Tryz.pinned (.plain (OpenSpec.upto matchRowsSpec)) matchRowsUptoCard

/-- THE SECOND FORM's CARD OF 'limpetlaw24.HealTells'. -/
def healTellsUptoCard : Claim7 := { stood := { row := healTellsUptoRow, standIns := [], harness := (true, "b22e08d0bb1e9a9950a65d3af7e580fbf44afd6a1295216be720d0de69a806b2"), looks := true }, kinds := [], alts := [], laidByText := true, laidKinds := [.handle], laidTests := true, laidLooks := .later }
def HealTellsUptoCardSaid : Prop := Claim7.holds Tryz.pinned (.plain (OpenSpec.upto healTellsSpec)) healTellsUptoCard

/-- THE SECOND FORM's CARD OF 'limpetlaw24.HealSmall'. -/
def healSmallUptoCard : Claim7 := { stood := { row := healSmallUptoRow, standIns := [], harness := (true, "b22e08d0bb1e9a9950a65d3af7e580fbf44afd6a1295216be720d0de69a806b2"), looks := true }, kinds := [], alts := [], laidByText := true, laidKinds := [.handle], laidTests := true, laidLooks := .later }
def HealSmallUptoCardSaid : Prop := Claim7.holds Tryz.pinned (.plain (OpenSpec.upto healSmallSpec)) healSmallUptoCard
end Rows
end Go.Proofs.YtfglkpcboodllaaGreatDoor
