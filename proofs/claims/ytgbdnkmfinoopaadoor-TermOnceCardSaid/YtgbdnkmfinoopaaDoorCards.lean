/-
  DERIVED. GIVEN WITH THE SEED: THE CARDS: each row of YtgbdnkmfinoopaaDoorRows.lean that lists a variable, with what it lists TIED to the program's text (the seventh form; the later family's looks); each row that meets fmt, with fmt's text TOLD by the authors' own Lean function (tested against real Go, not proved from fmt's source: count such statements apart). THE CARD IS WHAT COUNTS. Prove the row's statement (the work); the ties are given (YtgbdnkmfinoopaaDoorTie.lean); close each card by the builder's one call (the guide's Derived/Test/ToyasCard.lean, 'card_holds'). Laid BY PROGRAM, IN A SANDBOX (cutbox-door.mjs). By AI agents, Wed Nov 11 2026. No macro, syntax, notation, axiom, sorry.
-/
import Derived.Test.YtgbdnkmfinoopaaDoorRows
import GoSem.ClaimSeven
namespace Go.Proofs.YtgbdnkmfinoopaaDoor
namespace Rows

/-- THE TIED CARD OF 'limpetlaw19.TermAgain'. -/
def termAgainCard : Claim7 := { stood := { row := termAgainRow, standIns := [], harness := (true, "bab39327f1f560024e908629382bc285c4262aa36c85edf4ca9e50e1fdb3d12a"), looks := true }, kinds := [], alts := [], laidByText := true, laidKinds := [.handle], laidTests := true, laidLooks := .later }
def TermAgainCardSaid : Prop := Claim7.holds Tryd.pinned (.plain (OpenSpec.ofChange termAgainSpec)) termAgainCard

/-- THE TIED CARD OF 'limpetlaw19.TermTells'. -/
def termTellsCard : Claim7 := { stood := { row := termTellsRow, standIns := [], harness := (true, "bab39327f1f560024e908629382bc285c4262aa36c85edf4ca9e50e1fdb3d12a"), looks := true }, kinds := [], alts := [], laidByText := true, laidKinds := [.handle], laidTests := true, laidLooks := .later }
def TermTellsCardSaid : Prop := Claim7.holds Tryd.pinned (.plain (OpenSpec.ofChange termTellsSpec)) termTellsCard

/-- THE TIED CARD OF 'limpetlaw19.TermEnds'. -/
def termEndsCard : Claim7 := { stood := { row := termEndsRow, standIns := [], harness := (true, "bab39327f1f560024e908629382bc285c4262aa36c85edf4ca9e50e1fdb3d12a"), looks := true }, kinds := [], alts := [], laidByText := true, laidKinds := [.handle], laidTests := true, laidLooks := .later }
def TermEndsCardSaid : Prop := Claim7.holds Tryd.pinned (.plain (OpenSpec.ofChange termEndsSpec)) termEndsCard

/-- THE TIED CARD OF 'limpetlaw19.TermOnce'. -/
def termOnceCard : Claim7 := { stood := { row := termOnceRow, standIns := [], harness := (true, "bab39327f1f560024e908629382bc285c4262aa36c85edf4ca9e50e1fdb3d12a"), looks := true }, kinds := [], alts := [], laidByText := true, laidKinds := [.handle], laidTests := true, laidLooks := .later }
def TermOnceCardSaid : Prop := Claim7.holds Tryd.pinned (.plain (OpenSpec.ofChange termOnceSpec)) termOnceCard

/-- THE SECOND FORM's CARD OF 'limpetlaw19.TermAgain'. -/
def termAgainUptoCard : Claim7 := { stood := { row := termAgainUptoRow, standIns := [], harness := (true, "bab39327f1f560024e908629382bc285c4262aa36c85edf4ca9e50e1fdb3d12a"), looks := true }, kinds := [], alts := [], laidByText := true, laidKinds := [.handle], laidTests := true, laidLooks := .later }
def TermAgainUptoCardSaid : Prop := Claim7.holds Tryd.pinned (.plain (OpenSpec.upto termAgainSpec)) termAgainUptoCard

/-- THE SECOND FORM's CARD OF 'limpetlaw19.TermTells'. -/
def termTellsUptoCard : Claim7 := { stood := { row := termTellsUptoRow, standIns := [], harness := (true, "bab39327f1f560024e908629382bc285c4262aa36c85edf4ca9e50e1fdb3d12a"), looks := true }, kinds := [], alts := [], laidByText := true, laidKinds := [.handle], laidTests := true, laidLooks := .later }
def TermTellsUptoCardSaid : Prop := Claim7.holds Tryd.pinned (.plain (OpenSpec.upto termTellsSpec)) termTellsUptoCard

/-- THE SECOND FORM's CARD OF 'limpetlaw19.TermEnds'. -/
def termEndsUptoCard : Claim7 := { stood := { row := termEndsUptoRow, standIns := [], harness := (true, "bab39327f1f560024e908629382bc285c4262aa36c85edf4ca9e50e1fdb3d12a"), looks := true }, kinds := [], alts := [], laidByText := true, laidKinds := [.handle], laidTests := true, laidLooks := .later }
def TermEndsUptoCardSaid : Prop := Claim7.holds Tryd.pinned (.plain (OpenSpec.upto termEndsSpec)) termEndsUptoCard

/-- THE SECOND FORM's CARD OF 'limpetlaw19.TermOnce'. -/
def termOnceUptoCard : Claim7 := { stood := { row := termOnceUptoRow, standIns := [], harness := (true, "bab39327f1f560024e908629382bc285c4262aa36c85edf4ca9e50e1fdb3d12a"), looks := true }, kinds := [], alts := [], laidByText := true, laidKinds := [.handle], laidTests := true, laidLooks := .later }
def TermOnceUptoCardSaid : Prop := Claim7.holds Tryd.pinned (.plain (OpenSpec.upto termOnceSpec)) termOnceUptoCard
end Rows
end Go.Proofs.YtgbdnkmfinoopaaDoor
