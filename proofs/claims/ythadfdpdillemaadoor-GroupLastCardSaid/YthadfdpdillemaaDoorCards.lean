/-
  DERIVED. GIVEN WITH THE SEED: THE CARDS: each row of YthadfdpdillemaaDoorRows.lean that lists a variable, with what it lists TIED to the program's text (the seventh form; the later family's looks); each row that meets fmt, with fmt's text TOLD by the authors' own Lean function (tested against real Go, not proved from fmt's source: count such statements apart). THE CARD IS WHAT COUNTS. Prove the row's statement (the work); the ties are given (YthadfdpdillemaaDoorTie.lean); close each card by the builder's one call (the guide's Derived/Test/ToyasCard.lean, 'card_holds'). Laid BY PROGRAM, IN A SANDBOX (cutbox-door.mjs). By AI agents, Wed Nov 11 2026. No macro, syntax, notation, axiom, sorry.
-/
import Derived.Test.YthadfdpdillemaaDoorRows
import GoSem.ClaimSeven
namespace Go.Proofs.YthadfdpdillemaaDoor
namespace Rows

/-- THE TIED CARD OF 'limpetlaw20.MatchOne'. -/
def matchOneCard : Claim7 := { stood := { row := matchOneRow, standIns := [], harness := (true, "ac31c387beeb5d26d8602d401e14d8599ff7b45739f3998071ae38693a78b8e7"), looks := true }, kinds := [], alts := [], laidByText := true, laidKinds := [.handle], laidTests := true, laidLooks := .later }
def MatchOneCardSaid : Prop := Claim7.holds Tryd.pinned (.plain (OpenSpec.ofChange matchOneSpec)) matchOneCard

/-- THE TIED CARD OF 'limpetlaw24.HealOnly'. -/
def healOnlyCard : Claim7 := { stood := { row := healOnlyRow, standIns := [], harness := (true, "ac31c387beeb5d26d8602d401e14d8599ff7b45739f3998071ae38693a78b8e7"), looks := true }, kinds := [], alts := [], laidByText := true, laidKinds := [.handle], laidTests := true, laidLooks := .later }
def HealOnlyCardSaid : Prop := Claim7.holds Tryd.pinned (.plain (OpenSpec.ofChange healOnlySpec)) healOnlyCard

/-- THE TIED CARD OF 'limpetlaw24.HealAll'. -/
def healAllCard : Claim7 := { stood := { row := healAllRow, standIns := [], harness := (true, "ac31c387beeb5d26d8602d401e14d8599ff7b45739f3998071ae38693a78b8e7"), looks := true }, kinds := [], alts := [], laidByText := true, laidKinds := [.handle], laidTests := true, laidLooks := .later }
def HealAllCardSaid : Prop := Claim7.holds Tryd.pinned (.plain (OpenSpec.ofChange healAllSpec)) healAllCard

/-- THE TIED CARD OF 'limpetlaw22.GroupMeets'. -/
def groupMeetsCard : Claim7 := { stood := { row := groupMeetsRow, standIns := [], harness := (true, "ac31c387beeb5d26d8602d401e14d8599ff7b45739f3998071ae38693a78b8e7"), looks := true }, kinds := [], alts := [], laidByText := true, laidKinds := [.handle], laidTests := true, laidLooks := .later }
def GroupMeetsCardSaid : Prop := Claim7.holds Tryd.pinned (.plain (OpenSpec.ofChange groupMeetsSpec)) groupMeetsCard

/-- THE TIED CARD OF 'limpetlaw22.GroupLast'. -/
def groupLastCard : Claim7 := { stood := { row := groupLastRow, standIns := [], harness := (true, "ac31c387beeb5d26d8602d401e14d8599ff7b45739f3998071ae38693a78b8e7"), looks := true }, kinds := [], alts := [], laidByText := true, laidKinds := [.handle], laidTests := true, laidLooks := .later }
def GroupLastCardSaid : Prop := Claim7.holds Tryd.pinned (.plain (OpenSpec.ofChange groupLastSpec)) groupLastCard

/-- THE SECOND FORM's CARD OF 'limpetlaw20.MatchOne'. -/
def matchOneUptoCard : Claim7 := { stood := { row := matchOneUptoRow, standIns := [], harness := (true, "ac31c387beeb5d26d8602d401e14d8599ff7b45739f3998071ae38693a78b8e7"), looks := true }, kinds := [], alts := [], laidByText := true, laidKinds := [.handle], laidTests := true, laidLooks := .later }
def MatchOneUptoCardSaid : Prop := Claim7.holds Tryd.pinned (.plain (OpenSpec.upto matchOneSpec)) matchOneUptoCard

/-- THE SECOND FORM's CARD OF 'limpetlaw24.HealOnly'. -/
def healOnlyUptoCard : Claim7 := { stood := { row := healOnlyUptoRow, standIns := [], harness := (true, "ac31c387beeb5d26d8602d401e14d8599ff7b45739f3998071ae38693a78b8e7"), looks := true }, kinds := [], alts := [], laidByText := true, laidKinds := [.handle], laidTests := true, laidLooks := .later }
def HealOnlyUptoCardSaid : Prop := Claim7.holds Tryd.pinned (.plain (OpenSpec.upto healOnlySpec)) healOnlyUptoCard

/-- THE SECOND FORM's CARD OF 'limpetlaw24.HealAll'. -/
def healAllUptoCard : Claim7 := { stood := { row := healAllUptoRow, standIns := [], harness := (true, "ac31c387beeb5d26d8602d401e14d8599ff7b45739f3998071ae38693a78b8e7"), looks := true }, kinds := [], alts := [], laidByText := true, laidKinds := [.handle], laidTests := true, laidLooks := .later }
def HealAllUptoCardSaid : Prop := Claim7.holds Tryd.pinned (.plain (OpenSpec.upto healAllSpec)) healAllUptoCard

/-- THE SECOND FORM's CARD OF 'limpetlaw22.GroupMeets'. -/
def groupMeetsUptoCard : Claim7 := { stood := { row := groupMeetsUptoRow, standIns := [], harness := (true, "ac31c387beeb5d26d8602d401e14d8599ff7b45739f3998071ae38693a78b8e7"), looks := true }, kinds := [], alts := [], laidByText := true, laidKinds := [.handle], laidTests := true, laidLooks := .later }
def GroupMeetsUptoCardSaid : Prop := Claim7.holds Tryd.pinned (.plain (OpenSpec.upto groupMeetsSpec)) groupMeetsUptoCard

/-- THE SECOND FORM's CARD OF 'limpetlaw22.GroupLast'. -/
def groupLastUptoCard : Claim7 := { stood := { row := groupLastUptoRow, standIns := [], harness := (true, "ac31c387beeb5d26d8602d401e14d8599ff7b45739f3998071ae38693a78b8e7"), looks := true }, kinds := [], alts := [], laidByText := true, laidKinds := [.handle], laidTests := true, laidLooks := .later }
def GroupLastUptoCardSaid : Prop := Claim7.holds Tryd.pinned (.plain (OpenSpec.upto groupLastSpec)) groupLastUptoCard
end Rows
end Go.Proofs.YthadfdpdillemaaDoor
