/-
  DERIVED. GIVEN WITH THE SEED: THE CARDS: each row of YtodkphmmhgkodaaGreatDoorRows.lean that lists a variable, with what it lists TIED to the program's text (the seventh form; the later family's looks); each row that meets fmt, with fmt's text TOLD by the authors' own Lean function (tested against real Go, not proved from fmt's source: count such statements apart). THE CARD IS WHAT COUNTS. Prove the row's statement (the work); the ties are given (YtodkphmmhgkodaaGreatDoorTie.lean); close each card by the builder's one call (the guide's Derived/Test/ToyasCard.lean, 'card_holds'). Laid BY PROGRAM, IN A SANDBOX (cutbox-door.mjs). By AI agents, Wed Nov 11 2026. No macro, syntax, notation, axiom, sorry.
-/
import Derived.Test.YtodkphmmhgkodaaGreatDoorRows
import GoSem.ClaimSeven
namespace Go.Proofs.YtodkphmmhgkodaaGreatDoor
namespace Rows

/-- THE TIED CARD OF 'fleetlaw1.PeopleTold'. -/
def peopleToldCard : Claim7 := { stood := { row := peopleToldRow, standIns := [], harness := (true, "caa73bcb472c2a5f51c02af61f9e9cdec6057005189a77bf13c832d777dae17f"), looks := false }, kinds := [], alts := [], laidByText := true, laidKinds := [.data, .pinned], laidTests := true, laidLooks := .later }
def PeopleToldCardSaid : Prop := Claim7.holds Tryz.pinned (.plain (OpenSpec.ofChange peopleToldSpec)) peopleToldCard

/-- THE SECOND FORM's CARD OF 'fleetlaw1.PeopleTold'. -/
def peopleToldUptoCard : Claim7 := { stood := { row := peopleToldUptoRow, standIns := [], harness := (true, "caa73bcb472c2a5f51c02af61f9e9cdec6057005189a77bf13c832d777dae17f"), looks := false }, kinds := [], alts := [], laidByText := true, laidKinds := [.data, .pinned], laidTests := true, laidLooks := .later }
def PeopleToldUptoCardSaid : Prop := Claim7.holds Tryz.pinned (.plain (OpenSpec.upto peopleToldSpec)) peopleToldUptoCard
end Rows
end Go.Proofs.YtodkphmmhgkodaaGreatDoor
