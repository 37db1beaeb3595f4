/-
  DERIVED. GIVEN WITH THE SEED: THE CARDS: each row of YtmlgacejioccmaaGreatDoorRows.lean that lists a variable, with what it lists TIED to the program's text (the seventh form; the later family's looks); each row that meets fmt, with fmt's text TOLD by the authors' own Lean function (tested against real Go, not proved from fmt's source: count such statements apart). THE CARD IS WHAT COUNTS. Prove the row's statement (the work); the ties are given (YtmlgacejioccmaaGreatDoorTie.lean); close each card by the builder's one call (the guide's Derived/Test/ToyasCard.lean, 'card_holds'). Laid BY PROGRAM, IN A SANDBOX (cutbox-door.mjs). By AI agents, Wed Nov 11 2026. No macro, syntax, notation, axiom, sorry.
-/
import Derived.Test.YtmlgacejioccmaaGreatDoorRows
import GoSem.ClaimSeven
namespace Go.Proofs.YtmlgacejioccmaaGreatDoor
namespace Rows

/-- THE TIED CARD OF 'fleetlaw2.CellsSeen'. -/
def cellsSeenCard : Claim7 := { stood := { row := cellsSeenRow, standIns := [], harness := (true, "458ec4a6d4578ceceb4893bece020d819d39675cb173fa860248e3602f118e51"), looks := false }, kinds := [], alts := [], laidByText := true, laidKinds := [.data, .pinned], laidTests := true, laidLooks := .later }
def CellsSeenCardSaid : Prop := Claim7.holds Tryz.pinned (.plain (OpenSpec.ofChange cellsSeenSpec)) cellsSeenCard

/-- THE TIED CARD OF 'fleetlaw2.CellsMerge'. -/
def cellsMergeCard : Claim7 := { stood := { row := cellsMergeRow, standIns := [], harness := (true, "458ec4a6d4578ceceb4893bece020d819d39675cb173fa860248e3602f118e51"), looks := false }, kinds := [], alts := [], laidByText := true, laidKinds := [.data, .pinned], laidTests := true, laidLooks := .later }
def CellsMergeCardSaid : Prop := Claim7.holds Tryz.pinned (.plain (OpenSpec.ofChange cellsMergeSpec)) cellsMergeCard

/-- THE TIED CARD OF 'fleetlaw2.TwinsSettle'. -/
def twinsSettleCard : Claim7 := { stood := { row := twinsSettleRow, standIns := [], harness := (true, "458ec4a6d4578ceceb4893bece020d819d39675cb173fa860248e3602f118e51"), looks := false }, kinds := [], alts := [], laidByText := true, laidKinds := [.data, .pinned], laidTests := true, laidLooks := .later }
def TwinsSettleCardSaid : Prop := Claim7.holds Tryz.pinned (.plain (OpenSpec.ofChange twinsSettleSpec)) twinsSettleCard

/-- THE SECOND FORM's CARD OF 'fleetlaw2.CellsSeen'. -/
def cellsSeenUptoCard : Claim7 := { stood := { row := cellsSeenUptoRow, standIns := [], harness := (true, "458ec4a6d4578ceceb4893bece020d819d39675cb173fa860248e3602f118e51"), looks := false }, kinds := [], alts := [], laidByText := true, laidKinds := [.data, .pinned], laidTests := true, laidLooks := .later }
def CellsSeenUptoCardSaid : Prop := Claim7.holds Tryz.pinned (.plain (OpenSpec.upto cellsSeenSpec)) cellsSeenUptoCard

/-- THE SECOND FORM's CARD OF 'fleetlaw2.CellsMerge'. -/
def cellsMergeUptoCard : Claim7 := { stood := { row := cellsMergeUptoRow, standIns := [], harness := (true, "458ec4a6d4578ceceb4893bece020d819d39675cb173fa860248e3602f118e51"), looks := false }, kinds := [], alts := [], laidByText := true, laidKinds := [.data, .pinned], laidTests := true, laidLooks := .later }
def CellsMergeUptoCardSaid : Prop := Claim7.holds Tryz.pinned (.plain (OpenSpec.upto cellsMergeSpec)) cellsMergeUptoCard

/-- THE SECOND FORM's CARD OF 'fleetlaw2.TwinsSettle'. -/
def twinsSettleUptoCard : Claim7 := { stood := { row := twinsSettleUptoRow, standIns := [], harness := (true, "458ec4a6d4578ceceb4893bece020d819d39675cb173fa860248e3602f118e51"), looks := false }, kinds := [], alts := [], laidByText := true, laidKinds := [.data, .pinned], laidTests := true, laidLooks := .later }
def TwinsSettleUptoCardSaid : Prop := Claim7.holds Tryz.pinned (.plain (OpenSpec.upto twinsSettleSpec)) twinsSettleUptoCard
end Rows
end Go.Proofs.YtmlgacejioccmaaGreatDoor
