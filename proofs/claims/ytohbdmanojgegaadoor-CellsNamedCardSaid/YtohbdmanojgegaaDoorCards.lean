/-
  DERIVED. GIVEN WITH THE SEED: THE CARDS: each row of YtohbdmanojgegaaDoorRows.lean that lists a variable, with what it lists TIED to the program's text (the seventh form; the later family's looks); each row that meets fmt, with fmt's text TOLD by the authors' own Lean function (tested against real Go, not proved from fmt's source: count such statements apart). THE CARD IS WHAT COUNTS. Prove the row's statement (the work); the ties are given (YtohbdmanojgegaaDoorTie.lean); close each card by the builder's one call (the guide's Derived/Test/ToyasCard.lean, 'card_holds'). Laid BY PROGRAM, IN A SANDBOX (cutbox-door.mjs). By AI agents, Wed Nov 11 2026. No macro, syntax, notation, axiom, sorry.
-/
import Derived.Test.YtohbdmanojgegaaDoorRows
import GoSem.ClaimSeven
namespace Go.Proofs.YtohbdmanojgegaaDoor
namespace Rows

/-- THE TIED CARD OF 'fleetlaw2.CellsNamed'. -/
def cellsNamedCard : Claim7 := { stood := { row := cellsNamedRow, standIns := [], harness := (true, "4449b60e5c400c56e531ab05ddacb310497feda0f01362ee9f7caae2f763b0cf"), looks := false }, kinds := [], alts := [], laidByText := true, laidKinds := [.data, .data, .data, .data, .pinned], laidTests := true, laidLooks := .later }
def CellsNamedCardSaid : Prop := Claim7.holds Tryd.pinned (.plain (OpenSpec.ofChange cellsNamedSpec)) cellsNamedCard

/-- THE SECOND FORM's CARD OF 'fleetlaw2.CellsNamed'. -/
def cellsNamedUptoCard : Claim7 := { stood := { row := cellsNamedUptoRow, standIns := [], harness := (true, "4449b60e5c400c56e531ab05ddacb310497feda0f01362ee9f7caae2f763b0cf"), looks := false }, kinds := [], alts := [], laidByText := true, laidKinds := [.data, .data, .data, .data, .pinned], laidTests := true, laidLooks := .later }
def CellsNamedUptoCardSaid : Prop := Claim7.holds Tryd.pinned (.plain (OpenSpec.upto cellsNamedSpec)) cellsNamedUptoCard
end Rows
end Go.Proofs.YtohbdmanojgegaaDoor
