/-
  DERIVED. GIVEN WITH THE SEED: THE CARDS: each row of YtibjdfdmkahocaaGreatDoorRows.lean that lists a variable, with what it lists TIED to the program's text (the seventh form; the later family's looks); each row that meets fmt, with fmt's text TOLD by the authors' own Lean function (tested against real Go, not proved from fmt's source: count such statements apart). THE CARD IS WHAT COUNTS. Prove the row's statement (the work); the ties are given (YtibjdfdmkahocaaGreatDoorTie.lean); close each card by the builder's one call (the guide's Derived/Test/ToyasCard.lean, 'card_holds'). Laid BY PROGRAM, IN A SANDBOX (cutbox-door.mjs). By AI agents, Wed Nov 11 2026. No macro, syntax, notation, axiom, sorry.
-/
import Derived.Test.YtibjdfdmkahocaaGreatDoorRows
import GoSem.ClaimSeven
namespace Go.Proofs.YtibjdfdmkahocaaGreatDoor
namespace Rows

/-- THE TIED CARD OF 'fleetlaw2.DevicesRemember'. -/
def devicesRememberCard : Claim7 := { stood := { row := devicesRememberRow, standIns := [], harness := (true, "c33d3c5947901017f2cc1235edb483caabd41ffef5113a24b30a0e683f1b0c63"), looks := false }, kinds := [], alts := [], laidByText := true, laidKinds := [.data, .pinned], laidTests := true, laidLooks := .later }
def DevicesRememberCardSaid : Prop := Claim7.holds Tryz.pinned (.plain (OpenSpec.ofChange devicesRememberSpec)) devicesRememberCard

/-- THE TIED CARD OF 'fleetlaw2.OfficesKeep'. -/
def officesKeepCard : Claim7 := { stood := { row := officesKeepRow, standIns := [], harness := (true, "c33d3c5947901017f2cc1235edb483caabd41ffef5113a24b30a0e683f1b0c63"), looks := false }, kinds := [], alts := [], laidByText := true, laidKinds := [.data, .pinned], laidTests := true, laidLooks := .later }
def OfficesKeepCardSaid : Prop := Claim7.holds Tryz.pinned (.plain (OpenSpec.ofChange officesKeepSpec)) officesKeepCard

/-- THE SECOND FORM's CARD OF 'fleetlaw2.DevicesRemember'. -/
def devicesRememberUptoCard : Claim7 := { stood := { row := devicesRememberUptoRow, standIns := [], harness := (true, "c33d3c5947901017f2cc1235edb483caabd41ffef5113a24b30a0e683f1b0c63"), looks := false }, kinds := [], alts := [], laidByText := true, laidKinds := [.data, .pinned], laidTests := true, laidLooks := .later }
def DevicesRememberUptoCardSaid : Prop := Claim7.holds Tryz.pinned (.plain (OpenSpec.upto devicesRememberSpec)) devicesRememberUptoCard

/-- THE SECOND FORM's CARD OF 'fleetlaw2.OfficesKeep'. -/
def officesKeepUptoCard : Claim7 := { stood := { row := officesKeepUptoRow, standIns := [], harness := (true, "c33d3c5947901017f2cc1235edb483caabd41ffef5113a24b30a0e683f1b0c63"), looks := false }, kinds := [], alts := [], laidByText := true, laidKinds := [.data, .pinned], laidTests := true, laidLooks := .later }
def OfficesKeepUptoCardSaid : Prop := Claim7.holds Tryz.pinned (.plain (OpenSpec.upto officesKeepSpec)) officesKeepUptoCard
end Rows
end Go.Proofs.YtibjdfdmkahocaaGreatDoor
