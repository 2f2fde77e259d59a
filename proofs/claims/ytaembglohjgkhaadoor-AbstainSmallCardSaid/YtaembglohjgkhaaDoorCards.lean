/-
  DERIVED. GIVEN WITH THE SEED: THE CARDS: each row of YtaembglohjgkhaaDoorRows.lean that lists a variable, with what it lists TIED to the program's text (the seventh form; the later family's looks); each row that meets fmt, with fmt's text TOLD by the authors' own Lean function (tested against real Go, not proved from fmt's source: count such statements apart). THE CARD IS WHAT COUNTS. Prove the row's statement (the work); the ties are given (YtaembglohjgkhaaDoorTie.lean); close each card by the builder's one call (the guide's Derived/Test/ToyasCard.lean, 'card_holds'). Laid BY PROGRAM, IN A SANDBOX (cutbox-door.mjs). By AI agents, Wed Nov 11 2026. No macro, syntax, notation, axiom, sorry.
-/
import Derived.Test.YtaembglohjgkhaaDoorRows
import GoSem.ClaimSeven
namespace Go.Proofs.YtaembglohjgkhaaDoor
namespace Rows

/-- THE TIED CARD OF 'limpetlaw23.AbstainTells'. -/
def abstainTellsCard : Claim7 := { stood := { row := abstainTellsRow, standIns := [], harness := (true, "7d5ccd91612fc21322b73d1f530afe5efa5f55e0b24e42c2c3ea43e1d426e176"), looks := true }, kinds := [], alts := [], laidByText := true, laidKinds := [.handle], laidTests := true, laidLooks := .later }
def AbstainTellsCardSaid : Prop := Claim7.holds Tryd.pinned (.plain (OpenSpec.ofChange abstainTellsSpec)) abstainTellsCard

/-- THE TIED CARD OF 'limpetlaw23.AbstainSmall'. -/
def abstainSmallCard : Claim7 := { stood := { row := abstainSmallRow, standIns := [], harness := (true, "7d5ccd91612fc21322b73d1f530afe5efa5f55e0b24e42c2c3ea43e1d426e176"), looks := true }, kinds := [], alts := [], laidByText := true, laidKinds := [.handle], laidTests := true, laidLooks := .later }
def AbstainSmallCardSaid : Prop := Claim7.holds Tryd.pinned (.plain (OpenSpec.ofChange abstainSmallSpec)) abstainSmallCard

/-- THE TIED CARD OF 'limpetlaw23.AbstainHeals'. -/
def abstainHealsCard : Claim7 := { stood := { row := abstainHealsRow, standIns := [], harness := (true, "7d5ccd91612fc21322b73d1f530afe5efa5f55e0b24e42c2c3ea43e1d426e176"), looks := true }, kinds := [], alts := [], laidByText := true, laidKinds := [.handle], laidTests := true, laidLooks := .later }
def AbstainHealsCardSaid : Prop := Claim7.holds Tryd.pinned (.plain (OpenSpec.ofChange abstainHealsSpec)) abstainHealsCard

/-- THE SECOND FORM's CARD OF 'limpetlaw23.AbstainTells'. -/
def abstainTellsUptoCard : Claim7 := { stood := { row := abstainTellsUptoRow, standIns := [], harness := (true, "7d5ccd91612fc21322b73d1f530afe5efa5f55e0b24e42c2c3ea43e1d426e176"), looks := true }, kinds := [], alts := [], laidByText := true, laidKinds := [.handle], laidTests := true, laidLooks := .later }
def AbstainTellsUptoCardSaid : Prop := Claim7.holds Tryd.pinned (.plain (OpenSpec.upto abstainTellsSpec)) abstainTellsUptoCard

/-- THE SECOND FORM's CARD OF 'limpetlaw23.AbstainSmall'. -/
def abstainSmallUptoCard : Claim7 := { stood := { row := abstainSmallUptoRow, standIns := [], harness := (true, "7d5ccd91612fc21322b73d1f530afe5efa5f55e0b24e42c2c3ea43e1d426e176"), looks := true }, kinds := [], alts := [], laidByText := true, laidKinds := [.handle], laidTests := true, laidLooks := .later }
def AbstainSmallUptoCardSaid : Prop := Claim7.holds Tryd.pinned (.plain (OpenSpec.upto abstainSmallSpec)) abstainSmallUptoCard

/-- THE SECOND FORM's CARD OF 'limpetlaw23.AbstainHeals'. -/
def abstainHealsUptoCard : Claim7 := { stood := { row := abstainHealsUptoRow, standIns := [], harness := (true, "7d5ccd91612fc21322b73d1f530afe5efa5f55e0b24e42c2c3ea43e1d426e176"), looks := true }, kinds := [], alts := [], laidByText := true, laidKinds := [.handle], laidTests := true, laidLooks := .later }
def AbstainHealsUptoCardSaid : Prop := Claim7.holds Tryd.pinned (.plain (OpenSpec.upto abstainHealsSpec)) abstainHealsUptoCard
end Rows
end Go.Proofs.YtaembglohjgkhaaDoor
