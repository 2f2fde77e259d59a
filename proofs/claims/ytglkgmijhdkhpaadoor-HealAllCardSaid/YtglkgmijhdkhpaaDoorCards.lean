/-
  DERIVED. GIVEN WITH THE SEED: THE CARDS: each row of YtglkgmijhdkhpaaDoorRows.lean that lists a variable, with what it lists TIED to the program's text (the seventh form; the later family's looks); each row that meets fmt, with fmt's text TOLD by the authors' own Lean function (tested against real Go, not proved from fmt's source: count such statements apart). THE CARD IS WHAT COUNTS. Prove the row's statement (the work); the ties are given (YtglkgmijhdkhpaaDoorTie.lean); close each card by the builder's one call (the guide's Derived/Test/ToyasCard.lean, 'card_holds'). Laid BY PROGRAM, IN A SANDBOX (cutbox-door.mjs). By AI agents, Wed Nov 11 2026. No macro, syntax, notation, axiom, sorry.
-/
import Derived.Test.YtglkgmijhdkhpaaDoorRows
import GoSem.ClaimSeven
namespace Go.Proofs.YtglkgmijhdkhpaaDoor
namespace Rows

/-- THE TIED CARD OF 'limpetlaw24.HealOnly'. -/
def healOnlyCard : Claim7 := { stood := { row := healOnlyRow, standIns := [], harness := (true, "9b23e7c938c97d0ec5d0af72020ee4026f83aa1febec937a6d5e4eac06036940"), looks := true }, kinds := [], alts := [], laidByText := true, laidKinds := [.handle], laidTests := true, laidLooks := .later }
def HealOnlyCardSaid : Prop := Claim7.holds Tryd.pinned (.plain (OpenSpec.ofChange healOnlySpec)) healOnlyCard

/-- THE TIED CARD OF 'limpetlaw24.HealAll'. -/
def healAllCard : Claim7 := { stood := { row := healAllRow, standIns := [], harness := (true, "9b23e7c938c97d0ec5d0af72020ee4026f83aa1febec937a6d5e4eac06036940"), looks := true }, kinds := [], alts := [], laidByText := true, laidKinds := [.handle], laidTests := true, laidLooks := .later }
def HealAllCardSaid : Prop := Claim7.holds Tryd.pinned (.plain (OpenSpec.ofChange healAllSpec)) healAllCard

/-- THE SECOND FORM's CARD OF 'limpetlaw24.HealOnly'. -/
def healOnlyUptoCard : Claim7 := { stood := { row := healOnlyUptoRow, standIns := [], harness := (true, "9b23e7c938c97d0ec5d0af72020ee4026f83aa1febec937a6d5e4eac06036940"), looks := true }, kinds := [], alts := [], laidByText := true, laidKinds := [.handle], laidTests := true, laidLooks := .later }
def HealOnlyUptoCardSaid : Prop := Claim7.holds Tryd.pinned (.plain (OpenSpec.upto healOnlySpec)) healOnlyUptoCard

/-- THE SECOND FORM's CARD OF 'limpetlaw24.HealAll'. -/
def healAllUptoCard : Claim7 := { stood := { row := healAllUptoRow, standIns := [], harness := (true, "9b23e7c938c97d0ec5d0af72020ee4026f83aa1febec937a6d5e4eac06036940"), looks := true }, kinds := [], alts := [], laidByText := true, laidKinds := [.handle], laidTests := true, laidLooks := .later }
def HealAllUptoCardSaid : Prop := Claim7.holds Tryd.pinned (.plain (OpenSpec.upto healAllSpec)) healAllUptoCard
end Rows
end Go.Proofs.YtglkgmijhdkhpaaDoor
