/-
  DERIVED. GIVEN WITH THE SEED: THE CARDS: each row of YtglkgmijhdkhpaaGreatDoorRows.lean that lists a variable, with what it lists TIED to the program's text (the seventh form; the later family's looks); each row that meets fmt, with fmt's text TOLD by the authors' own Lean function (tested against real Go, not proved from fmt's source: count such statements apart). THE CARD IS WHAT COUNTS. Prove the row's statement (the work); the ties are given (YtglkgmijhdkhpaaGreatDoorTie.lean); close each card by the builder's one call (the guide's Derived/Test/ToyasCard.lean, 'card_holds'). Laid BY PROGRAM, IN A SANDBOX (cutbox-door.mjs). By AI agents, Wed Nov 11 2026. No macro, syntax, notation, axiom, sorry.
-/
import Derived.Test.YtglkgmijhdkhpaaGreatDoorRows
import GoSem.ClaimSeven
namespace Go.Proofs.YtglkgmijhdkhpaaGreatDoor
namespace Rows

/-- THE TIED CARD OF 'limpetlaw24.HealTells'. -/
def healTellsCard : Claim7 := { stood := { row := healTellsRow, standIns := [], harness := (true, "3f56f04c12b66f4177fea2517c5f30bb2d33f217278f3d5f4756e102f16868d6"), looks := true }, kinds := [], alts := [], laidByText := true, laidKinds := [.handle], laidTests := true, laidLooks := .later }
def HealTellsCardSaid : Prop := Claim7.holds Tryz.pinned (.plain (OpenSpec.ofChange healTellsSpec)) healTellsCard

/-- THE TIED CARD OF 'limpetlaw24.HealSmall'. -/
def healSmallCard : Claim7 := { stood := { row := healSmallRow, standIns := [], harness := (true, "3f56f04c12b66f4177fea2517c5f30bb2d33f217278f3d5f4756e102f16868d6"), looks := true }, kinds := [], alts := [], laidByText := true, laidKinds := [.handle], laidTests := true, laidLooks := .later }
def HealSmallCardSaid : Prop := Claim7.holds Tryz.pinned (.plain (OpenSpec.ofChange healSmallSpec)) healSmallCard

/-- THE SECOND FORM's CARD OF 'limpetlaw24.HealTells'. -/
def healTellsUptoCard : Claim7 := { stood := { row := healTellsUptoRow, standIns := [], harness := (true, "3f56f04c12b66f4177fea2517c5f30bb2d33f217278f3d5f4756e102f16868d6"), looks := true }, kinds := [], alts := [], laidByText := true, laidKinds := [.handle], laidTests := true, laidLooks := .later }
def HealTellsUptoCardSaid : Prop := Claim7.holds Tryz.pinned (.plain (OpenSpec.upto healTellsSpec)) healTellsUptoCard

/-- THE SECOND FORM's CARD OF 'limpetlaw24.HealSmall'. -/
def healSmallUptoCard : Claim7 := { stood := { row := healSmallUptoRow, standIns := [], harness := (true, "3f56f04c12b66f4177fea2517c5f30bb2d33f217278f3d5f4756e102f16868d6"), looks := true }, kinds := [], alts := [], laidByText := true, laidKinds := [.handle], laidTests := true, laidLooks := .later }
def HealSmallUptoCardSaid : Prop := Claim7.holds Tryz.pinned (.plain (OpenSpec.upto healSmallSpec)) healSmallUptoCard
end Rows
end Go.Proofs.YtglkgmijhdkhpaaGreatDoor
