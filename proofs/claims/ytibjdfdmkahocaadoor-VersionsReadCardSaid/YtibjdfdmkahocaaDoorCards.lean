/-
  DERIVED. GIVEN WITH THE SEED: THE CARDS: each row of YtibjdfdmkahocaaDoorRows.lean that lists a variable, with what it lists TIED to the program's text (the seventh form; the later family's looks); each row that meets fmt, with fmt's text TOLD by the authors' own Lean function (tested against real Go, not proved from fmt's source: count such statements apart). THE CARD IS WHAT COUNTS. Prove the row's statement (the work); the ties are given (YtibjdfdmkahocaaDoorTie.lean); close each card by the builder's one call (the guide's Derived/Test/ToyasCard.lean, 'card_holds'). Laid BY PROGRAM, IN A SANDBOX (cutbox-door.mjs). By AI agents, Wed Nov 11 2026. No macro, syntax, notation, axiom, sorry.
-/
import Derived.Test.YtibjdfdmkahocaaDoorRows
import GoSem.ClaimSeven
namespace Go.Proofs.YtibjdfdmkahocaaDoor
namespace Rows

/-- THE TIED CARD OF 'fleetlaw2.CellsNamed'. -/
def cellsNamedCard : Claim7 := { stood := { row := cellsNamedRow, standIns := [], harness := (true, "7a0cde2d60c1d7f20c395106df9515fccfc68e6fe7715fa414557fdfe7ab3271"), looks := true }, kinds := [], alts := [], laidByText := true, laidKinds := [.data, .data, .data, .data, .pinned], laidTests := true, laidLooks := .later }
def CellsNamedCardSaid : Prop := Claim7.holds Tryd.pinned (.plain (OpenSpec.ofChange cellsNamedSpec)) cellsNamedCard

/-- THE TIED CARD OF 'fleetlaw2.VersionsRead'. -/
def versionsReadCard : Claim7 := { stood := { row := versionsReadRow, standIns := [], harness := (true, "7a0cde2d60c1d7f20c395106df9515fccfc68e6fe7715fa414557fdfe7ab3271"), looks := true }, kinds := [], alts := [], laidByText := true, laidKinds := [.data, .data, .data, .data, .sentinel, .sentinel, .pinned], laidTests := true, laidLooks := .later }
def VersionsReadCardSaid : Prop := Claim7.holds Tryd.pinned (.plain (OpenSpec.ofChange versionsReadSpec)) versionsReadCard

/-- THE SECOND FORM's CARD OF 'fleetlaw2.CellsNamed'. -/
def cellsNamedUptoCard : Claim7 := { stood := { row := cellsNamedUptoRow, standIns := [], harness := (true, "7a0cde2d60c1d7f20c395106df9515fccfc68e6fe7715fa414557fdfe7ab3271"), looks := true }, kinds := [], alts := [], laidByText := true, laidKinds := [.data, .data, .data, .data, .pinned], laidTests := true, laidLooks := .later }
def CellsNamedUptoCardSaid : Prop := Claim7.holds Tryd.pinned (.plain (OpenSpec.upto cellsNamedSpec)) cellsNamedUptoCard

/-- THE SECOND FORM's CARD OF 'fleetlaw2.VersionsRead'. -/
def versionsReadUptoCard : Claim7 := { stood := { row := versionsReadUptoRow, standIns := [], harness := (true, "7a0cde2d60c1d7f20c395106df9515fccfc68e6fe7715fa414557fdfe7ab3271"), looks := true }, kinds := [], alts := [], laidByText := true, laidKinds := [.data, .data, .data, .data, .sentinel, .sentinel, .pinned], laidTests := true, laidLooks := .later }
def VersionsReadUptoCardSaid : Prop := Claim7.holds Tryd.pinned (.plain (OpenSpec.upto versionsReadSpec)) versionsReadUptoCard
end Rows
end Go.Proofs.YtibjdfdmkahocaaDoor
