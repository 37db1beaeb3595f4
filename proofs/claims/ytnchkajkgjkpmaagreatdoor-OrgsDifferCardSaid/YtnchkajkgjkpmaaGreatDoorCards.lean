/-
  DERIVED. GIVEN WITH THE SEED: THE CARDS: each row of YtnchkajkgjkpmaaGreatDoorRows.lean that lists a variable, with what it lists TIED to the program's text (the seventh form; the later family's looks); each row that meets fmt, with fmt's text TOLD by the authors' own Lean function (tested against real Go, not proved from fmt's source: count such statements apart). THE CARD IS WHAT COUNTS. Prove the row's statement (the work); the ties are given (YtnchkajkgjkpmaaGreatDoorTie.lean); close each card by the builder's one call (the guide's Derived/Test/ToyasCard.lean, 'card_holds'). Laid BY PROGRAM, IN A SANDBOX (cutbox-door.mjs). By AI agents, Wed Nov 11 2026. No macro, syntax, notation, axiom, sorry.
-/
import Derived.Test.YtnchkajkgjkpmaaGreatDoorRows
import GoSem.ClaimSeven
namespace Go.Proofs.YtnchkajkgjkpmaaGreatDoor
namespace Rows

/-- THE TIED CARD OF 'fleetlaw1.RightsDecided'. -/
def rightsDecidedCard : Claim7 := { stood := { row := rightsDecidedRow, standIns := [], harness := (true, "762f830f2bee1232eed1a728fe8f9f175ca8d1b9be740684a45d386e9c3f8620"), looks := true }, kinds := [], alts := [], laidByText := true, laidKinds := [.data, .pinned], laidTests := true, laidLooks := .later }
def RightsDecidedCardSaid : Prop := Claim7.holds Tryz.pinned (.plain (OpenSpec.ofChange rightsDecidedSpec)) rightsDecidedCard

/-- THE TIED CARD OF 'fleetlaw1.OrgsDiffer'. -/
def orgsDifferCard : Claim7 := { stood := { row := orgsDifferRow, standIns := [], harness := (true, "762f830f2bee1232eed1a728fe8f9f175ca8d1b9be740684a45d386e9c3f8620"), looks := true }, kinds := [], alts := [], laidByText := true, laidKinds := [.data, .pinned], laidTests := true, laidLooks := .later }
def OrgsDifferCardSaid : Prop := Claim7.holds Tryz.pinned (.plain (OpenSpec.ofChange orgsDifferSpec)) orgsDifferCard

/-- THE TIED CARD OF 'fleetlaw1.OrgTexts'. -/
def orgTextsCard : Claim7 := { stood := { row := orgTextsRow, standIns := [], harness := (true, "762f830f2bee1232eed1a728fe8f9f175ca8d1b9be740684a45d386e9c3f8620"), looks := true }, kinds := [], alts := [], laidByText := true, laidKinds := [.data, .data, .data, .data, .sentinel, .sentinel, .pinned], laidTests := true, laidLooks := .later }
def OrgTextsCardSaid : Prop := Claim7.holds Tryz.pinned (.plain (OpenSpec.ofChange orgTextsSpec)) orgTextsCard

/-- THE SECOND FORM's CARD OF 'fleetlaw1.RightsDecided'. -/
def rightsDecidedUptoCard : Claim7 := { stood := { row := rightsDecidedUptoRow, standIns := [], harness := (true, "762f830f2bee1232eed1a728fe8f9f175ca8d1b9be740684a45d386e9c3f8620"), looks := true }, kinds := [], alts := [], laidByText := true, laidKinds := [.data, .pinned], laidTests := true, laidLooks := .later }
def RightsDecidedUptoCardSaid : Prop := Claim7.holds Tryz.pinned (.plain (OpenSpec.upto rightsDecidedSpec)) rightsDecidedUptoCard

/-- THE SECOND FORM's CARD OF 'fleetlaw1.OrgsDiffer'. -/
def orgsDifferUptoCard : Claim7 := { stood := { row := orgsDifferUptoRow, standIns := [], harness := (true, "762f830f2bee1232eed1a728fe8f9f175ca8d1b9be740684a45d386e9c3f8620"), looks := true }, kinds := [], alts := [], laidByText := true, laidKinds := [.data, .pinned], laidTests := true, laidLooks := .later }
def OrgsDifferUptoCardSaid : Prop := Claim7.holds Tryz.pinned (.plain (OpenSpec.upto orgsDifferSpec)) orgsDifferUptoCard

/-- THE SECOND FORM's CARD OF 'fleetlaw1.OrgTexts'. -/
def orgTextsUptoCard : Claim7 := { stood := { row := orgTextsUptoRow, standIns := [], harness := (true, "762f830f2bee1232eed1a728fe8f9f175ca8d1b9be740684a45d386e9c3f8620"), looks := true }, kinds := [], alts := [], laidByText := true, laidKinds := [.data, .data, .data, .data, .sentinel, .sentinel, .pinned], laidTests := true, laidLooks := .later }
def OrgTextsUptoCardSaid : Prop := Claim7.holds Tryz.pinned (.plain (OpenSpec.upto orgTextsSpec)) orgTextsUptoCard
end Rows
end Go.Proofs.YtnchkajkgjkpmaaGreatDoor
