/-
  DERIVED. GIVEN WITH THE SEED: THE CARDS: each row of YtlhoigimdehaeaaGreatDoorRows.lean that lists a variable, with what it lists TIED to the program's text (the seventh form; the later family's looks); each row that meets fmt, with fmt's text TOLD by the authors' own Lean function (tested against real Go, not proved from fmt's source: count such statements apart). THE CARD IS WHAT COUNTS. Prove the row's statement (the work); the ties are given (YtlhoigimdehaeaaGreatDoorTie.lean); close each card by the builder's one call (the guide's Derived/Test/ToyasCard.lean, 'card_holds'). Laid BY PROGRAM, IN A SANDBOX (cutbox-door.mjs). By AI agents, Wed Nov 11 2026. No macro, syntax, notation, axiom, sorry.
-/
import Derived.Test.YtlhoigimdehaeaaGreatDoorRows
import GoSem.ClaimSeven
namespace Go.Proofs.YtlhoigimdehaeaaGreatDoor
namespace Rows

/-- THE TIED CARD OF 'fleetlaw2.FixTexts'. -/
def fixTextsCard : Claim7 := { stood := { row := fixTextsRow, standIns := [], harness := (true, "1c5dfe3716c37e59b71d082dac44ea9c4cba75c5ff2e20b074f720d90fab0371"), looks := true }, kinds := [], alts := [], laidByText := true, laidKinds := [.data, .data, .data, .data, .sentinel, .sentinel, .pinned], laidTests := true, laidLooks := .later }
def FixTextsCardSaid : Prop := Claim7.holds Tryz.pinned (.plain (OpenSpec.ofChange fixTextsSpec)) fixTextsCard

/-- THE TIED CARD OF 'fleetlaw2.SampleTexts'. -/
def sampleTextsCard : Claim7 := { stood := { row := sampleTextsRow, standIns := [], harness := (true, "1c5dfe3716c37e59b71d082dac44ea9c4cba75c5ff2e20b074f720d90fab0371"), looks := true }, kinds := [], alts := [], laidByText := true, laidKinds := [.data, .data, .data, .data, .sentinel, .sentinel, .pinned], laidTests := true, laidLooks := .later }
def SampleTextsCardSaid : Prop := Claim7.holds Tryz.pinned (.plain (OpenSpec.ofChange sampleTextsSpec)) sampleTextsCard

/-- THE TIED CARD OF 'fleetlaw2.NoteTexts'. -/
def noteTextsCard : Claim7 := { stood := { row := noteTextsRow, standIns := [], harness := (true, "1c5dfe3716c37e59b71d082dac44ea9c4cba75c5ff2e20b074f720d90fab0371"), looks := true }, kinds := [], alts := [], laidByText := true, laidKinds := [.data, .data, .data, .data, .sentinel, .sentinel, .pinned], laidTests := true, laidLooks := .later }
def NoteTextsCardSaid : Prop := Claim7.holds Tryz.pinned (.plain (OpenSpec.ofChange noteTextsSpec)) noteTextsCard

/-- THE TIED CARD OF 'fleetlaw2.CellTexts'. -/
def cellTextsCard : Claim7 := { stood := { row := cellTextsRow, standIns := [], harness := (true, "1c5dfe3716c37e59b71d082dac44ea9c4cba75c5ff2e20b074f720d90fab0371"), looks := true }, kinds := [], alts := [], laidByText := true, laidKinds := [.data, .data, .data, .data, .sentinel, .sentinel, .pinned], laidTests := true, laidLooks := .later }
def CellTextsCardSaid : Prop := Claim7.holds Tryz.pinned (.plain (OpenSpec.ofChange cellTextsSpec)) cellTextsCard

/-- THE SECOND FORM's CARD OF 'fleetlaw2.FixTexts'. -/
def fixTextsUptoCard : Claim7 := { stood := { row := fixTextsUptoRow, standIns := [], harness := (true, "1c5dfe3716c37e59b71d082dac44ea9c4cba75c5ff2e20b074f720d90fab0371"), looks := true }, kinds := [], alts := [], laidByText := true, laidKinds := [.data, .data, .data, .data, .sentinel, .sentinel, .pinned], laidTests := true, laidLooks := .later }
def FixTextsUptoCardSaid : Prop := Claim7.holds Tryz.pinned (.plain (OpenSpec.upto fixTextsSpec)) fixTextsUptoCard

/-- THE SECOND FORM's CARD OF 'fleetlaw2.SampleTexts'. -/
def sampleTextsUptoCard : Claim7 := { stood := { row := sampleTextsUptoRow, standIns := [], harness := (true, "1c5dfe3716c37e59b71d082dac44ea9c4cba75c5ff2e20b074f720d90fab0371"), looks := true }, kinds := [], alts := [], laidByText := true, laidKinds := [.data, .data, .data, .data, .sentinel, .sentinel, .pinned], laidTests := true, laidLooks := .later }
def SampleTextsUptoCardSaid : Prop := Claim7.holds Tryz.pinned (.plain (OpenSpec.upto sampleTextsSpec)) sampleTextsUptoCard

/-- THE SECOND FORM's CARD OF 'fleetlaw2.NoteTexts'. -/
def noteTextsUptoCard : Claim7 := { stood := { row := noteTextsUptoRow, standIns := [], harness := (true, "1c5dfe3716c37e59b71d082dac44ea9c4cba75c5ff2e20b074f720d90fab0371"), looks := true }, kinds := [], alts := [], laidByText := true, laidKinds := [.data, .data, .data, .data, .sentinel, .sentinel, .pinned], laidTests := true, laidLooks := .later }
def NoteTextsUptoCardSaid : Prop := Claim7.holds Tryz.pinned (.plain (OpenSpec.upto noteTextsSpec)) noteTextsUptoCard

/-- THE SECOND FORM's CARD OF 'fleetlaw2.CellTexts'. -/
def cellTextsUptoCard : Claim7 := { stood := { row := cellTextsUptoRow, standIns := [], harness := (true, "1c5dfe3716c37e59b71d082dac44ea9c4cba75c5ff2e20b074f720d90fab0371"), looks := true }, kinds := [], alts := [], laidByText := true, laidKinds := [.data, .data, .data, .data, .sentinel, .sentinel, .pinned], laidTests := true, laidLooks := .later }
def CellTextsUptoCardSaid : Prop := Claim7.holds Tryz.pinned (.plain (OpenSpec.upto cellTextsSpec)) cellTextsUptoCard
end Rows
end Go.Proofs.YtlhoigimdehaeaaGreatDoor
