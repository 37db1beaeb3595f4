/-
  DERIVED. GIVEN WITH THE SEED: THE CARDS: each row of YtfhlfjnjcjbomaaGreatDoorRows.lean that lists a variable, with what it lists TIED to the program's text (the seventh form; the later family's looks); each row that meets fmt, with fmt's text TOLD by the authors' own Lean function (tested against real Go, not proved from fmt's source: count such statements apart). THE CARD IS WHAT COUNTS. Prove the row's statement (the work); the ties are given (YtfhlfjnjcjbomaaGreatDoorTie.lean); close each card by the builder's one call (the guide's Derived/Test/ToyasCard.lean, 'card_holds'). Laid BY PROGRAM, IN A SANDBOX (cutbox-door.mjs). By AI agents, Wed Nov 11 2026. No macro, syntax, notation, axiom, sorry.
-/
import Derived.Test.YtfhlfjnjcjbomaaGreatDoorRows
import GoSem.ClaimSeven
namespace Go.Proofs.YtfhlfjnjcjbomaaGreatDoor
namespace Rows

/-- THE TIED CARD OF 'fleetlaw2.DevicesRemember'. -/
def devicesRememberCard : Claim7 := { stood := { row := devicesRememberRow, standIns := [], harness := (true, "dca0df078dc55c917ece4ddcddce1c5d6cc3c41b812aebf25c84e327ae1bf7b7"), looks := false }, kinds := [], alts := [], laidByText := true, laidKinds := [.data, .pinned], laidTests := true, laidLooks := .later }
def DevicesRememberCardSaid : Prop := Claim7.holds Tryz.pinned (.plain (OpenSpec.ofChange devicesRememberSpec)) devicesRememberCard

/-- THE TIED CARD OF 'fleetlaw2.OfficesKeep'. -/
def officesKeepCard : Claim7 := { stood := { row := officesKeepRow, standIns := [], harness := (true, "dca0df078dc55c917ece4ddcddce1c5d6cc3c41b812aebf25c84e327ae1bf7b7"), looks := false }, kinds := [], alts := [], laidByText := true, laidKinds := [.data, .pinned], laidTests := true, laidLooks := .later }
def OfficesKeepCardSaid : Prop := Claim7.holds Tryz.pinned (.plain (OpenSpec.ofChange officesKeepSpec)) officesKeepCard

/-- THE TIED CARD OF 'fleetlaw2.LettersChecked'. -/
def lettersCheckedCard : Claim7 := { stood := { row := lettersCheckedRow, standIns := [], harness := (true, "dca0df078dc55c917ece4ddcddce1c5d6cc3c41b812aebf25c84e327ae1bf7b7"), looks := false }, kinds := [], alts := [], laidByText := true, laidKinds := [.data, .pinned], laidTests := true, laidLooks := .later }
def LettersCheckedCardSaid : Prop := Claim7.holds Tryz.pinned (.plain (OpenSpec.ofChange lettersCheckedSpec)) lettersCheckedCard

/-- THE SECOND FORM's CARD OF 'fleetlaw2.DevicesRemember'. -/
def devicesRememberUptoCard : Claim7 := { stood := { row := devicesRememberUptoRow, standIns := [], harness := (true, "dca0df078dc55c917ece4ddcddce1c5d6cc3c41b812aebf25c84e327ae1bf7b7"), looks := false }, kinds := [], alts := [], laidByText := true, laidKinds := [.data, .pinned], laidTests := true, laidLooks := .later }
def DevicesRememberUptoCardSaid : Prop := Claim7.holds Tryz.pinned (.plain (OpenSpec.upto devicesRememberSpec)) devicesRememberUptoCard

/-- THE SECOND FORM's CARD OF 'fleetlaw2.OfficesKeep'. -/
def officesKeepUptoCard : Claim7 := { stood := { row := officesKeepUptoRow, standIns := [], harness := (true, "dca0df078dc55c917ece4ddcddce1c5d6cc3c41b812aebf25c84e327ae1bf7b7"), looks := false }, kinds := [], alts := [], laidByText := true, laidKinds := [.data, .pinned], laidTests := true, laidLooks := .later }
def OfficesKeepUptoCardSaid : Prop := Claim7.holds Tryz.pinned (.plain (OpenSpec.upto officesKeepSpec)) officesKeepUptoCard

/-- THE SECOND FORM's CARD OF 'fleetlaw2.LettersChecked'. -/
def lettersCheckedUptoCard : Claim7 := { stood := { row := lettersCheckedUptoRow, standIns := [], harness := (true, "dca0df078dc55c917ece4ddcddce1c5d6cc3c41b812aebf25c84e327ae1bf7b7"), looks := false }, kinds := [], alts := [], laidByText := true, laidKinds := [.data, .pinned], laidTests := true, laidLooks := .later }
def LettersCheckedUptoCardSaid : Prop := Claim7.holds Tryz.pinned (.plain (OpenSpec.upto lettersCheckedSpec)) lettersCheckedUptoCard
end Rows
end Go.Proofs.YtfhlfjnjcjbomaaGreatDoor
