/-
  DERIVED. GIVEN WITH THE SEED: THE CARDS: each row of YtclphcbjdcdkfaaDoorRows.lean that lists a variable, with what it lists TIED to the program's text (the seventh form; the later family's looks); each row that meets fmt, with fmt's text TOLD by the authors' own Lean function (tested against real Go, not proved from fmt's source: count such statements apart). THE CARD IS WHAT COUNTS. Prove the row's statement (the work); the ties are given (YtclphcbjdcdkfaaDoorTie.lean); close each card by the builder's one call (the guide's Derived/Test/ToyasCard.lean, 'card_holds'). Laid BY PROGRAM, IN A SANDBOX (cutbox-door.mjs). By AI agents, Wed Nov 11 2026. No macro, syntax, notation, axiom, sorry.
-/
import Derived.Test.YtclphcbjdcdkfaaDoorRows
import GoSem.ClaimSeven
namespace Go.Proofs.YtclphcbjdcdkfaaDoor
namespace Rows

/-- THE TIED CARD OF 'limpetlaw20.MatchPlans'. -/
def matchPlansCard : Claim7 := { stood := { row := matchPlansRow, standIns := [], harness := (true, "dbf9e32b3a20f4adb0f61aa098f63565e45e711f2a9a09ff2b8cc8bd8411d1d1"), looks := true }, kinds := [], alts := [], laidByText := true, laidKinds := [.handle], laidTests := true, laidLooks := .later }
def MatchPlansCardSaid : Prop := Claim7.holds Tryd.pinned (.plain (OpenSpec.ofChange matchPlansSpec)) matchPlansCard

/-- THE TIED CARD OF 'limpetlaw20.MatchOne'. -/
def matchOneCard : Claim7 := { stood := { row := matchOneRow, standIns := [], harness := (true, "dbf9e32b3a20f4adb0f61aa098f63565e45e711f2a9a09ff2b8cc8bd8411d1d1"), looks := true }, kinds := [], alts := [], laidByText := true, laidKinds := [.handle], laidTests := true, laidLooks := .later }
def MatchOneCardSaid : Prop := Claim7.holds Tryd.pinned (.plain (OpenSpec.ofChange matchOneSpec)) matchOneCard

/-- THE TIED CARD OF 'limpetlaw21.BoundHalf'. -/
def boundHalfCard : Claim7 := { stood := { row := boundHalfRow, standIns := [], harness := (true, "dbf9e32b3a20f4adb0f61aa098f63565e45e711f2a9a09ff2b8cc8bd8411d1d1"), looks := true }, kinds := [], alts := [], laidByText := true, laidKinds := [.handle], laidTests := true, laidLooks := .later }
def BoundHalfCardSaid : Prop := Claim7.holds Tryd.pinned (.plain (OpenSpec.ofChange boundHalfSpec)) boundHalfCard

/-- THE TIED CARD OF 'limpetlaw21.BoundTells'. -/
def boundTellsCard : Claim7 := { stood := { row := boundTellsRow, standIns := [], harness := (true, "dbf9e32b3a20f4adb0f61aa098f63565e45e711f2a9a09ff2b8cc8bd8411d1d1"), looks := true }, kinds := [], alts := [], laidByText := true, laidKinds := [.handle], laidTests := true, laidLooks := .later }
def BoundTellsCardSaid : Prop := Claim7.holds Tryd.pinned (.plain (OpenSpec.ofChange boundTellsSpec)) boundTellsCard

/-- THE TIED CARD OF 'limpetlaw21.BoundSmall'. -/
def boundSmallCard : Claim7 := { stood := { row := boundSmallRow, standIns := [], harness := (true, "dbf9e32b3a20f4adb0f61aa098f63565e45e711f2a9a09ff2b8cc8bd8411d1d1"), looks := true }, kinds := [], alts := [], laidByText := true, laidKinds := [.handle], laidTests := true, laidLooks := .later }
def BoundSmallCardSaid : Prop := Claim7.holds Tryd.pinned (.plain (OpenSpec.ofChange boundSmallSpec)) boundSmallCard

/-- THE TIED CARD OF 'limpetlaw21.BoundRises'. -/
def boundRisesCard : Claim7 := { stood := { row := boundRisesRow, standIns := [], harness := (true, "dbf9e32b3a20f4adb0f61aa098f63565e45e711f2a9a09ff2b8cc8bd8411d1d1"), looks := true }, kinds := [], alts := [], laidByText := true, laidKinds := [.handle], laidTests := true, laidLooks := .later }
def BoundRisesCardSaid : Prop := Claim7.holds Tryd.pinned (.plain (OpenSpec.ofChange boundRisesSpec)) boundRisesCard

/-- THE TIED CARD OF 'limpetlaw22.GroupMeets'. -/
def groupMeetsCard : Claim7 := { stood := { row := groupMeetsRow, standIns := [], harness := (true, "dbf9e32b3a20f4adb0f61aa098f63565e45e711f2a9a09ff2b8cc8bd8411d1d1"), looks := true }, kinds := [], alts := [], laidByText := true, laidKinds := [.handle], laidTests := true, laidLooks := .later }
def GroupMeetsCardSaid : Prop := Claim7.holds Tryd.pinned (.plain (OpenSpec.ofChange groupMeetsSpec)) groupMeetsCard

/-- THE SECOND FORM's CARD OF 'limpetlaw20.MatchPlans'. -/
def matchPlansUptoCard : Claim7 := { stood := { row := matchPlansUptoRow, standIns := [], harness := (true, "dbf9e32b3a20f4adb0f61aa098f63565e45e711f2a9a09ff2b8cc8bd8411d1d1"), looks := true }, kinds := [], alts := [], laidByText := true, laidKinds := [.handle], laidTests := true, laidLooks := .later }
def MatchPlansUptoCardSaid : Prop := Claim7.holds Tryd.pinned (.plain (OpenSpec.upto matchPlansSpec)) matchPlansUptoCard

/-- THE SECOND FORM's CARD OF 'limpetlaw20.MatchOne'. -/
def matchOneUptoCard : Claim7 := { stood := { row := matchOneUptoRow, standIns := [], harness := (true, "dbf9e32b3a20f4adb0f61aa098f63565e45e711f2a9a09ff2b8cc8bd8411d1d1"), looks := true }, kinds := [], alts := [], laidByText := true, laidKinds := [.handle], laidTests := true, laidLooks := .later }
def MatchOneUptoCardSaid : Prop := Claim7.holds Tryd.pinned (.plain (OpenSpec.upto matchOneSpec)) matchOneUptoCard

/-- THE SECOND FORM's CARD OF 'limpetlaw21.BoundHalf'. -/
def boundHalfUptoCard : Claim7 := { stood := { row := boundHalfUptoRow, standIns := [], harness := (true, "dbf9e32b3a20f4adb0f61aa098f63565e45e711f2a9a09ff2b8cc8bd8411d1d1"), looks := true }, kinds := [], alts := [], laidByText := true, laidKinds := [.handle], laidTests := true, laidLooks := .later }
def BoundHalfUptoCardSaid : Prop := Claim7.holds Tryd.pinned (.plain (OpenSpec.upto boundHalfSpec)) boundHalfUptoCard

/-- THE SECOND FORM's CARD OF 'limpetlaw21.BoundTells'. -/
def boundTellsUptoCard : Claim7 := { stood := { row := boundTellsUptoRow, standIns := [], harness := (true, "dbf9e32b3a20f4adb0f61aa098f63565e45e711f2a9a09ff2b8cc8bd8411d1d1"), looks := true }, kinds := [], alts := [], laidByText := true, laidKinds := [.handle], laidTests := true, laidLooks := .later }
def BoundTellsUptoCardSaid : Prop := Claim7.holds Tryd.pinned (.plain (OpenSpec.upto boundTellsSpec)) boundTellsUptoCard

/-- THE SECOND FORM's CARD OF 'limpetlaw21.BoundSmall'. -/
def boundSmallUptoCard : Claim7 := { stood := { row := boundSmallUptoRow, standIns := [], harness := (true, "dbf9e32b3a20f4adb0f61aa098f63565e45e711f2a9a09ff2b8cc8bd8411d1d1"), looks := true }, kinds := [], alts := [], laidByText := true, laidKinds := [.handle], laidTests := true, laidLooks := .later }
def BoundSmallUptoCardSaid : Prop := Claim7.holds Tryd.pinned (.plain (OpenSpec.upto boundSmallSpec)) boundSmallUptoCard

/-- THE SECOND FORM's CARD OF 'limpetlaw21.BoundRises'. -/
def boundRisesUptoCard : Claim7 := { stood := { row := boundRisesUptoRow, standIns := [], harness := (true, "dbf9e32b3a20f4adb0f61aa098f63565e45e711f2a9a09ff2b8cc8bd8411d1d1"), looks := true }, kinds := [], alts := [], laidByText := true, laidKinds := [.handle], laidTests := true, laidLooks := .later }
def BoundRisesUptoCardSaid : Prop := Claim7.holds Tryd.pinned (.plain (OpenSpec.upto boundRisesSpec)) boundRisesUptoCard

/-- THE SECOND FORM's CARD OF 'limpetlaw22.GroupMeets'. -/
def groupMeetsUptoCard : Claim7 := { stood := { row := groupMeetsUptoRow, standIns := [], harness := (true, "dbf9e32b3a20f4adb0f61aa098f63565e45e711f2a9a09ff2b8cc8bd8411d1d1"), looks := true }, kinds := [], alts := [], laidByText := true, laidKinds := [.handle], laidTests := true, laidLooks := .later }
def GroupMeetsUptoCardSaid : Prop := Claim7.holds Tryd.pinned (.plain (OpenSpec.upto groupMeetsSpec)) groupMeetsUptoCard
end Rows
end Go.Proofs.YtclphcbjdcdkfaaDoor
