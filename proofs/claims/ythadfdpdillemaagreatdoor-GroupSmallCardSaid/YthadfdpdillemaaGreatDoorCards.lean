/-
  DERIVED. GIVEN WITH THE SEED: THE CARDS: each row of YthadfdpdillemaaGreatDoorRows.lean that lists a variable, with what it lists TIED to the program's text (the seventh form; the later family's looks); each row that meets fmt, with fmt's text TOLD by the authors' own Lean function (tested against real Go, not proved from fmt's source: count such statements apart). THE CARD IS WHAT COUNTS. Prove the row's statement (the work); the ties are given (YthadfdpdillemaaGreatDoorTie.lean); close each card by the builder's one call (the guide's Derived/Test/ToyasCard.lean, 'card_holds'). Laid BY PROGRAM, IN A SANDBOX (cutbox-door.mjs). By AI agents, Wed Nov 11 2026. No macro, syntax, notation, axiom, sorry.
-/
import Derived.Test.YthadfdpdillemaaGreatDoorRows
import GoSem.ClaimSeven
namespace Go.Proofs.YthadfdpdillemaaGreatDoor
namespace Rows

/-- THE TIED CARD OF 'limpetlaw20.MatchTells'. -/
def matchTellsCard : Claim7 := { stood := { row := matchTellsRow, standIns := [], harness := (true, "8d407f4dd41b82734af7b16ea9cf06dc7ee24b63a118707d554cc524f1604a16"), looks := true }, kinds := [], alts := [], laidByText := true, laidKinds := [.handle], laidTests := true, laidLooks := .later }
def MatchTellsCardSaid : Prop := Claim7.holds Tryz.pinned (.plain (OpenSpec.ofChange matchTellsSpec)) matchTellsCard

/-- THE TIED CARD OF 'limpetlaw20.MatchRows'. -/
def matchRowsCard : Claim7 := { stood := { row := matchRowsRow, standIns := [], harness := (true, "8d407f4dd41b82734af7b16ea9cf06dc7ee24b63a118707d554cc524f1604a16"), looks := true }, kinds := [], alts := [], laidByText := true, laidKinds := [.handle], laidTests := true, laidLooks := .later }
def MatchRowsCardSaid : Prop := Claim7.holds Tryz.pinned (.plain (OpenSpec.ofChange matchRowsSpec)) matchRowsCard

/-- THE TIED CARD OF 'limpetlaw24.HealTells'. -/
def healTellsCard : Claim7 := { stood := { row := healTellsRow, standIns := [], harness := (true, "8d407f4dd41b82734af7b16ea9cf06dc7ee24b63a118707d554cc524f1604a16"), looks := true }, kinds := [], alts := [], laidByText := true, laidKinds := [.handle], laidTests := true, laidLooks := .later }
def HealTellsCardSaid : Prop := Claim7.holds Tryz.pinned (.plain (OpenSpec.ofChange healTellsSpec)) healTellsCard

/-- THE TIED CARD OF 'limpetlaw24.HealSmall'. -/
def healSmallCard : Claim7 := { stood := { row := healSmallRow, standIns := [], harness := (true, "8d407f4dd41b82734af7b16ea9cf06dc7ee24b63a118707d554cc524f1604a16"), looks := true }, kinds := [], alts := [], laidByText := true, laidKinds := [.handle], laidTests := true, laidLooks := .later }
def HealSmallCardSaid : Prop := Claim7.holds Tryz.pinned (.plain (OpenSpec.ofChange healSmallSpec)) healSmallCard

/-- THE TIED CARD OF 'limpetlaw22.GroupTells'. -/
def groupTellsCard : Claim7 := { stood := { row := groupTellsRow, standIns := [], harness := (true, "8d407f4dd41b82734af7b16ea9cf06dc7ee24b63a118707d554cc524f1604a16"), looks := true }, kinds := [], alts := [], laidByText := true, laidKinds := [.handle], laidTests := true, laidLooks := .later }
def GroupTellsCardSaid : Prop := Claim7.holds Tryz.pinned (.plain (OpenSpec.ofChange groupTellsSpec)) groupTellsCard

/-- THE TIED CARD OF 'limpetlaw22.GroupLogs'. -/
def groupLogsCard : Claim7 := { stood := { row := groupLogsRow, standIns := [], harness := (true, "8d407f4dd41b82734af7b16ea9cf06dc7ee24b63a118707d554cc524f1604a16"), looks := true }, kinds := [], alts := [], laidByText := true, laidKinds := [.handle], laidTests := true, laidLooks := .later }
def GroupLogsCardSaid : Prop := Claim7.holds Tryz.pinned (.plain (OpenSpec.ofChange groupLogsSpec)) groupLogsCard

/-- THE TIED CARD OF 'limpetlaw22.GroupSmall'. -/
def groupSmallCard : Claim7 := { stood := { row := groupSmallRow, standIns := [], harness := (true, "8d407f4dd41b82734af7b16ea9cf06dc7ee24b63a118707d554cc524f1604a16"), looks := true }, kinds := [], alts := [], laidByText := true, laidKinds := [.handle], laidTests := true, laidLooks := .later }
def GroupSmallCardSaid : Prop := Claim7.holds Tryz.pinned (.plain (OpenSpec.ofChange groupSmallSpec)) groupSmallCard

/-- THE SECOND FORM's CARD OF 'limpetlaw20.MatchTells'. -/
def matchTellsUptoCard : Claim7 := { stood := { row := matchTellsUptoRow, standIns := [], harness := (true, "8d407f4dd41b82734af7b16ea9cf06dc7ee24b63a118707d554cc524f1604a16"), looks := true }, kinds := [], alts := [], laidByText := true, laidKinds := [.handle], laidTests := true, laidLooks := .later }
def MatchTellsUptoCardSaid : Prop := Claim7.holds Tryz.pinned (.plain (OpenSpec.upto matchTellsSpec)) matchTellsUptoCard

/-- THE SECOND FORM's CARD OF 'limpetlaw20.MatchRows'. -/
def matchRowsUptoCard : Claim7 := { stood := { row := matchRowsUptoRow, standIns := [], harness := (true, "8d407f4dd41b82734af7b16ea9cf06dc7ee24b63a118707d554cc524f1604a16"), looks := true }, kinds := [], alts := [], laidByText := true, laidKinds := [.handle], laidTests := true, laidLooks := .later }
def MatchRowsUptoCardSaid : Prop := Claim7.holds Tryz.pinned (.plain (OpenSpec.upto matchRowsSpec)) matchRowsUptoCard

/-- THE SECOND FORM's CARD OF 'limpetlaw24.HealTells'. -/
def healTellsUptoCard : Claim7 := { stood := { row := healTellsUptoRow, standIns := [], harness := (true, "8d407f4dd41b82734af7b16ea9cf06dc7ee24b63a118707d554cc524f1604a16"), looks := true }, kinds := [], alts := [], laidByText := true, laidKinds := [.handle], laidTests := true, laidLooks := .later }
def HealTellsUptoCardSaid : Prop := Claim7.holds Tryz.pinned (.plain (OpenSpec.upto healTellsSpec)) healTellsUptoCard

/-- THE SECOND FORM's CARD OF 'limpetlaw24.HealSmall'. -/
def healSmallUptoCard : Claim7 := { stood := { row := healSmallUptoRow, standIns := [], harness := (true, "8d407f4dd41b82734af7b16ea9cf06dc7ee24b63a118707d554cc524f1604a16"), looks := true }, kinds := [], alts := [], laidByText := true, laidKinds := [.handle], laidTests := true, laidLooks := .later }
def HealSmallUptoCardSaid : Prop := Claim7.holds Tryz.pinned (.plain (OpenSpec.upto healSmallSpec)) healSmallUptoCard

/-- THE SECOND FORM's CARD OF 'limpetlaw22.GroupTells'. -/
def groupTellsUptoCard : Claim7 := { stood := { row := groupTellsUptoRow, standIns := [], harness := (true, "8d407f4dd41b82734af7b16ea9cf06dc7ee24b63a118707d554cc524f1604a16"), looks := true }, kinds := [], alts := [], laidByText := true, laidKinds := [.handle], laidTests := true, laidLooks := .later }
def GroupTellsUptoCardSaid : Prop := Claim7.holds Tryz.pinned (.plain (OpenSpec.upto groupTellsSpec)) groupTellsUptoCard

/-- THE SECOND FORM's CARD OF 'limpetlaw22.GroupLogs'. -/
def groupLogsUptoCard : Claim7 := { stood := { row := groupLogsUptoRow, standIns := [], harness := (true, "8d407f4dd41b82734af7b16ea9cf06dc7ee24b63a118707d554cc524f1604a16"), looks := true }, kinds := [], alts := [], laidByText := true, laidKinds := [.handle], laidTests := true, laidLooks := .later }
def GroupLogsUptoCardSaid : Prop := Claim7.holds Tryz.pinned (.plain (OpenSpec.upto groupLogsSpec)) groupLogsUptoCard

/-- THE SECOND FORM's CARD OF 'limpetlaw22.GroupSmall'. -/
def groupSmallUptoCard : Claim7 := { stood := { row := groupSmallUptoRow, standIns := [], harness := (true, "8d407f4dd41b82734af7b16ea9cf06dc7ee24b63a118707d554cc524f1604a16"), looks := true }, kinds := [], alts := [], laidByText := true, laidKinds := [.handle], laidTests := true, laidLooks := .later }
def GroupSmallUptoCardSaid : Prop := Claim7.holds Tryz.pinned (.plain (OpenSpec.upto groupSmallSpec)) groupSmallUptoCard
end Rows
end Go.Proofs.YthadfdpdillemaaGreatDoor
