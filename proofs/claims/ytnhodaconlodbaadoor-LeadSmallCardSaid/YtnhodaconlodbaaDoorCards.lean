/-
  DERIVED. GIVEN WITH THE SEED: THE CARDS: each row of YtnhodaconlodbaaDoorRows.lean that lists a variable, with what it lists TIED to the program's text (the seventh form; the later family's looks); each row that meets fmt, with fmt's text TOLD by the authors' own Lean function (tested against real Go, not proved from fmt's source: count such statements apart). THE CARD IS WHAT COUNTS. Prove the row's statement (the work); the ties are given (YtnhodaconlodbaaDoorTie.lean); close each card by the builder's one call (the guide's Derived/Test/ToyasCard.lean, 'card_holds'). Laid BY PROGRAM, IN A SANDBOX (cutbox-door.mjs). By AI agents, Wed Nov 11 2026. No macro, syntax, notation, axiom, sorry.
-/
import Derived.Test.YtnhodaconlodbaaDoorRows
import GoSem.ClaimSeven
namespace Go.Proofs.YtnhodaconlodbaaDoor
namespace Rows

/-- THE TIED CARD OF 'limpetlaw25.LeadSmall'. -/
def leadSmallCard : Claim7 := { stood := { row := leadSmallRow, standIns := [], harness := (true, "6281fccb87d5c447f19f523fbe27d9b114e44a977a2ac3168a8a1c2efdbe9fbf"), looks := true }, kinds := [], alts := [], laidByText := true, laidKinds := [.handle], laidTests := true, laidLooks := .later }
def LeadSmallCardSaid : Prop := Claim7.holds Tryd.pinned (.plain (OpenSpec.ofChange leadSmallSpec)) leadSmallCard

/-- THE TIED CARD OF 'limpetlaw20.MatchPlans'. -/
def matchPlansCard : Claim7 := { stood := { row := matchPlansRow, standIns := [], harness := (true, "6281fccb87d5c447f19f523fbe27d9b114e44a977a2ac3168a8a1c2efdbe9fbf"), looks := true }, kinds := [], alts := [], laidByText := true, laidKinds := [.handle], laidTests := true, laidLooks := .later }
def MatchPlansCardSaid : Prop := Claim7.holds Tryd.pinned (.plain (OpenSpec.ofChange matchPlansSpec)) matchPlansCard

/-- THE TIED CARD OF 'limpetlaw20.MatchOne'. -/
def matchOneCard : Claim7 := { stood := { row := matchOneRow, standIns := [], harness := (true, "6281fccb87d5c447f19f523fbe27d9b114e44a977a2ac3168a8a1c2efdbe9fbf"), looks := true }, kinds := [], alts := [], laidByText := true, laidKinds := [.handle], laidTests := true, laidLooks := .later }
def MatchOneCardSaid : Prop := Claim7.holds Tryd.pinned (.plain (OpenSpec.ofChange matchOneSpec)) matchOneCard

/-- THE TIED CARD OF 'limpetlaw21.BoundHalf'. -/
def boundHalfCard : Claim7 := { stood := { row := boundHalfRow, standIns := [], harness := (true, "6281fccb87d5c447f19f523fbe27d9b114e44a977a2ac3168a8a1c2efdbe9fbf"), looks := true }, kinds := [], alts := [], laidByText := true, laidKinds := [.handle], laidTests := true, laidLooks := .later }
def BoundHalfCardSaid : Prop := Claim7.holds Tryd.pinned (.plain (OpenSpec.ofChange boundHalfSpec)) boundHalfCard

/-- THE TIED CARD OF 'limpetlaw21.BoundTells'. -/
def boundTellsCard : Claim7 := { stood := { row := boundTellsRow, standIns := [], harness := (true, "6281fccb87d5c447f19f523fbe27d9b114e44a977a2ac3168a8a1c2efdbe9fbf"), looks := true }, kinds := [], alts := [], laidByText := true, laidKinds := [.handle], laidTests := true, laidLooks := .later }
def BoundTellsCardSaid : Prop := Claim7.holds Tryd.pinned (.plain (OpenSpec.ofChange boundTellsSpec)) boundTellsCard

/-- THE TIED CARD OF 'limpetlaw21.BoundSmall'. -/
def boundSmallCard : Claim7 := { stood := { row := boundSmallRow, standIns := [], harness := (true, "6281fccb87d5c447f19f523fbe27d9b114e44a977a2ac3168a8a1c2efdbe9fbf"), looks := true }, kinds := [], alts := [], laidByText := true, laidKinds := [.handle], laidTests := true, laidLooks := .later }
def BoundSmallCardSaid : Prop := Claim7.holds Tryd.pinned (.plain (OpenSpec.ofChange boundSmallSpec)) boundSmallCard

/-- THE TIED CARD OF 'limpetlaw21.BoundRises'. -/
def boundRisesCard : Claim7 := { stood := { row := boundRisesRow, standIns := [], harness := (true, "6281fccb87d5c447f19f523fbe27d9b114e44a977a2ac3168a8a1c2efdbe9fbf"), looks := true }, kinds := [], alts := [], laidByText := true, laidKinds := [.handle], laidTests := true, laidLooks := .later }
def BoundRisesCardSaid : Prop := Claim7.holds Tryd.pinned (.plain (OpenSpec.ofChange boundRisesSpec)) boundRisesCard

/-- THE SECOND FORM's CARD OF 'limpetlaw25.LeadSmall'. -/
def leadSmallUptoCard : Claim7 := { stood := { row := leadSmallUptoRow, standIns := [], harness := (true, "6281fccb87d5c447f19f523fbe27d9b114e44a977a2ac3168a8a1c2efdbe9fbf"), looks := true }, kinds := [], alts := [], laidByText := true, laidKinds := [.handle], laidTests := true, laidLooks := .later }
def LeadSmallUptoCardSaid : Prop := Claim7.holds Tryd.pinned (.plain (OpenSpec.upto leadSmallSpec)) leadSmallUptoCard

/-- THE SECOND FORM's CARD OF 'limpetlaw20.MatchPlans'. -/
def matchPlansUptoCard : Claim7 := { stood := { row := matchPlansUptoRow, standIns := [], harness := (true, "6281fccb87d5c447f19f523fbe27d9b114e44a977a2ac3168a8a1c2efdbe9fbf"), looks := true }, kinds := [], alts := [], laidByText := true, laidKinds := [.handle], laidTests := true, laidLooks := .later }
def MatchPlansUptoCardSaid : Prop := Claim7.holds Tryd.pinned (.plain (OpenSpec.upto matchPlansSpec)) matchPlansUptoCard

/-- THE SECOND FORM's CARD OF 'limpetlaw20.MatchOne'. -/
def matchOneUptoCard : Claim7 := { stood := { row := matchOneUptoRow, standIns := [], harness := (true, "6281fccb87d5c447f19f523fbe27d9b114e44a977a2ac3168a8a1c2efdbe9fbf"), looks := true }, kinds := [], alts := [], laidByText := true, laidKinds := [.handle], laidTests := true, laidLooks := .later }
def MatchOneUptoCardSaid : Prop := Claim7.holds Tryd.pinned (.plain (OpenSpec.upto matchOneSpec)) matchOneUptoCard

/-- THE SECOND FORM's CARD OF 'limpetlaw21.BoundHalf'. -/
def boundHalfUptoCard : Claim7 := { stood := { row := boundHalfUptoRow, standIns := [], harness := (true, "6281fccb87d5c447f19f523fbe27d9b114e44a977a2ac3168a8a1c2efdbe9fbf"), looks := true }, kinds := [], alts := [], laidByText := true, laidKinds := [.handle], laidTests := true, laidLooks := .later }
def BoundHalfUptoCardSaid : Prop := Claim7.holds Tryd.pinned (.plain (OpenSpec.upto boundHalfSpec)) boundHalfUptoCard

/-- THE SECOND FORM's CARD OF 'limpetlaw21.BoundTells'. -/
def boundTellsUptoCard : Claim7 := { stood := { row := boundTellsUptoRow, standIns := [], harness := (true, "6281fccb87d5c447f19f523fbe27d9b114e44a977a2ac3168a8a1c2efdbe9fbf"), looks := true }, kinds := [], alts := [], laidByText := true, laidKinds := [.handle], laidTests := true, laidLooks := .later }
def BoundTellsUptoCardSaid : Prop := Claim7.holds Tryd.pinned (.plain (OpenSpec.upto boundTellsSpec)) boundTellsUptoCard

/-- THE SECOND FORM's CARD OF 'limpetlaw21.BoundSmall'. -/
def boundSmallUptoCard : Claim7 := { stood := { row := boundSmallUptoRow, standIns := [], harness := (true, "6281fccb87d5c447f19f523fbe27d9b114e44a977a2ac3168a8a1c2efdbe9fbf"), looks := true }, kinds := [], alts := [], laidByText := true, laidKinds := [.handle], laidTests := true, laidLooks := .later }
def BoundSmallUptoCardSaid : Prop := Claim7.holds Tryd.pinned (.plain (OpenSpec.upto boundSmallSpec)) boundSmallUptoCard

/-- THE SECOND FORM's CARD OF 'limpetlaw21.BoundRises'. -/
def boundRisesUptoCard : Claim7 := { stood := { row := boundRisesUptoRow, standIns := [], harness := (true, "6281fccb87d5c447f19f523fbe27d9b114e44a977a2ac3168a8a1c2efdbe9fbf"), looks := true }, kinds := [], alts := [], laidByText := true, laidKinds := [.handle], laidTests := true, laidLooks := .later }
def BoundRisesUptoCardSaid : Prop := Claim7.holds Tryd.pinned (.plain (OpenSpec.upto boundRisesSpec)) boundRisesUptoCard
end Rows
end Go.Proofs.YtnhodaconlodbaaDoor
