/-
  DERIVED. GIVEN WITH THE SEED: THE CARDS: each row of YtnahbimoaekobaaGreatDoorRows.lean that lists a variable, with what it lists TIED to the program's text (the seventh form; the later family's looks); each row that meets fmt, with fmt's text TOLD by the authors' own Lean function (tested against real Go, not proved from fmt's source: count such statements apart). THE CARD IS WHAT COUNTS. Prove the row's statement (the work); the ties are given (YtnahbimoaekobaaGreatDoorTie.lean); close each card by the builder's one call (the guide's Derived/Test/ToyasCard.lean, 'card_holds'). Laid BY PROGRAM, IN A SANDBOX (cutbox-door.mjs). By AI agents, Wed Nov 11 2026. No macro, syntax, notation, axiom, sorry.
-/
import Derived.Test.YtnahbimoaekobaaGreatDoorRows
import GoSem.ClaimSeven
namespace Go.Proofs.YtnahbimoaekobaaGreatDoor
namespace Rows

/-- THE TIED CARD OF 'fleetlaw2.SidesJoined'. -/
def sidesJoinedCard : Claim7 := { stood := { row := sidesJoinedRow, standIns := [], harness := (true, "c1daa96727f289b2bb325d44ea1f2881ec141d16821faa924ca29dfe58e3a02c"), looks := false }, kinds := [], alts := [], laidByText := true, laidKinds := [.data, .pinned], laidTests := true, laidLooks := .later }
def SidesJoinedCardSaid : Prop := Claim7.holds Tryz.pinned (.plain (OpenSpec.ofChange sidesJoinedSpec)) sidesJoinedCard

/-- THE TIED CARD OF 'fleetlaw2.PropsTell'. -/
def propsTellCard : Claim7 := { stood := { row := propsTellRow, standIns := [], harness := (true, "c1daa96727f289b2bb325d44ea1f2881ec141d16821faa924ca29dfe58e3a02c"), looks := false }, kinds := [], alts := [], laidByText := true, laidKinds := [.data, .pinned], laidTests := true, laidLooks := .later }
def PropsTellCardSaid : Prop := Claim7.holds Tryz.pinned (.plain (OpenSpec.ofChange propsTellSpec)) propsTellCard

/-- THE TIED CARD OF 'fleetlaw2.ChangesMade'. -/
def changesMadeCard : Claim7 := { stood := { row := changesMadeRow, standIns := [], harness := (true, "c1daa96727f289b2bb325d44ea1f2881ec141d16821faa924ca29dfe58e3a02c"), looks := false }, kinds := [], alts := [], laidByText := true, laidKinds := [.data, .pinned], laidTests := true, laidLooks := .later }
def ChangesMadeCardSaid : Prop := Claim7.holds Tryz.pinned (.plain (OpenSpec.ofChange changesMadeSpec)) changesMadeCard

/-- THE TIED CARD OF 'fleetlaw2.CellsSeen'. -/
def cellsSeenCard : Claim7 := { stood := { row := cellsSeenRow, standIns := [], harness := (true, "c1daa96727f289b2bb325d44ea1f2881ec141d16821faa924ca29dfe58e3a02c"), looks := false }, kinds := [], alts := [], laidByText := true, laidKinds := [.data, .pinned], laidTests := true, laidLooks := .later }
def CellsSeenCardSaid : Prop := Claim7.holds Tryz.pinned (.plain (OpenSpec.ofChange cellsSeenSpec)) cellsSeenCard

/-- THE SECOND FORM's CARD OF 'fleetlaw2.SidesJoined'. -/
def sidesJoinedUptoCard : Claim7 := { stood := { row := sidesJoinedUptoRow, standIns := [], harness := (true, "c1daa96727f289b2bb325d44ea1f2881ec141d16821faa924ca29dfe58e3a02c"), looks := false }, kinds := [], alts := [], laidByText := true, laidKinds := [.data, .pinned], laidTests := true, laidLooks := .later }
def SidesJoinedUptoCardSaid : Prop := Claim7.holds Tryz.pinned (.plain (OpenSpec.upto sidesJoinedSpec)) sidesJoinedUptoCard

/-- THE SECOND FORM's CARD OF 'fleetlaw2.PropsTell'. -/
def propsTellUptoCard : Claim7 := { stood := { row := propsTellUptoRow, standIns := [], harness := (true, "c1daa96727f289b2bb325d44ea1f2881ec141d16821faa924ca29dfe58e3a02c"), looks := false }, kinds := [], alts := [], laidByText := true, laidKinds := [.data, .pinned], laidTests := true, laidLooks := .later }
def PropsTellUptoCardSaid : Prop := Claim7.holds Tryz.pinned (.plain (OpenSpec.upto propsTellSpec)) propsTellUptoCard

/-- THE SECOND FORM's CARD OF 'fleetlaw2.ChangesMade'. -/
def changesMadeUptoCard : Claim7 := { stood := { row := changesMadeUptoRow, standIns := [], harness := (true, "c1daa96727f289b2bb325d44ea1f2881ec141d16821faa924ca29dfe58e3a02c"), looks := false }, kinds := [], alts := [], laidByText := true, laidKinds := [.data, .pinned], laidTests := true, laidLooks := .later }
def ChangesMadeUptoCardSaid : Prop := Claim7.holds Tryz.pinned (.plain (OpenSpec.upto changesMadeSpec)) changesMadeUptoCard

/-- THE SECOND FORM's CARD OF 'fleetlaw2.CellsSeen'. -/
def cellsSeenUptoCard : Claim7 := { stood := { row := cellsSeenUptoRow, standIns := [], harness := (true, "c1daa96727f289b2bb325d44ea1f2881ec141d16821faa924ca29dfe58e3a02c"), looks := false }, kinds := [], alts := [], laidByText := true, laidKinds := [.data, .pinned], laidTests := true, laidLooks := .later }
def CellsSeenUptoCardSaid : Prop := Claim7.holds Tryz.pinned (.plain (OpenSpec.upto cellsSeenSpec)) cellsSeenUptoCard
end Rows
end Go.Proofs.YtnahbimoaekobaaGreatDoor
