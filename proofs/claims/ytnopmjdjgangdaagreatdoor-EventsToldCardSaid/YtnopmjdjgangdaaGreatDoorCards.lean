/-
  DERIVED. GIVEN WITH THE SEED: THE CARDS: each row of YtnopmjdjgangdaaGreatDoorRows.lean that lists a variable, with what it lists TIED to the program's text (the seventh form; the later family's looks); each row that meets fmt, with fmt's text TOLD by the authors' own Lean function (tested against real Go, not proved from fmt's source: count such statements apart). THE CARD IS WHAT COUNTS. Prove the row's statement (the work); the ties are given (YtnopmjdjgangdaaGreatDoorTie.lean); close each card by the builder's one call (the guide's Derived/Test/ToyasCard.lean, 'card_holds'). Laid BY PROGRAM, IN A SANDBOX (cutbox-door.mjs). By AI agents, Wed Nov 11 2026. No macro, syntax, notation, axiom, sorry.
-/
import Derived.Test.YtnopmjdjgangdaaGreatDoorRows
import GoSem.ClaimSeven
namespace Go.Proofs.YtnopmjdjgangdaaGreatDoor
namespace Rows

/-- THE TIED CARD OF 'fleetlaw1.LivesFollowed'. -/
def livesFollowedCard : Claim7 := { stood := { row := livesFollowedRow, standIns := [], harness := (true, "18d473f817df7589c3cb48f2867554bacc9f0e9d8f35d19589aa9eba7d725d2b"), looks := true }, kinds := [], alts := [], laidByText := true, laidKinds := [.data, .data, .data, .data, .pinned, .pinned], laidTests := true, laidLooks := .later }
def LivesFollowedCardSaid : Prop := Claim7.holds Tryz.pinned (.plain (OpenSpec.ofChange livesFollowedSpec)) livesFollowedCard

/-- THE TIED CARD OF 'fleetlaw1.EventsTold'. -/
def eventsToldCard : Claim7 := { stood := { row := eventsToldRow, standIns := [], harness := (true, "18d473f817df7589c3cb48f2867554bacc9f0e9d8f35d19589aa9eba7d725d2b"), looks := true }, kinds := [], alts := [], laidByText := true, laidKinds := [.data, .data, .data, .data, .pinned, .pinned], laidTests := true, laidLooks := .later }
def EventsToldCardSaid : Prop := Claim7.holds Tryz.pinned (.plain (OpenSpec.ofChange eventsToldSpec)) eventsToldCard

/-- THE TIED CARD OF 'fleetlaw1.EventsWritten'. -/
def eventsWrittenCard : Claim7 := { stood := { row := eventsWrittenRow, standIns := [], harness := (true, "18d473f817df7589c3cb48f2867554bacc9f0e9d8f35d19589aa9eba7d725d2b"), looks := true }, kinds := [], alts := [], laidByText := true, laidKinds := [.data, .data, .data, .data, .pinned, .pinned], laidTests := true, laidLooks := .later }
def EventsWrittenCardSaid : Prop := Claim7.holds Tryz.pinned (.plain (OpenSpec.ofChange eventsWrittenSpec)) eventsWrittenCard

/-- THE TIED CARD OF 'fleetlaw1.CodesFit'. -/
def codesFitCard : Claim7 := { stood := { row := codesFitRow, standIns := [], harness := (true, "18d473f817df7589c3cb48f2867554bacc9f0e9d8f35d19589aa9eba7d725d2b"), looks := true }, kinds := [], alts := [], laidByText := true, laidKinds := [.data, .data, .data, .data, .pinned, .pinned], laidTests := true, laidLooks := .later }
def CodesFitCardSaid : Prop := Claim7.holds Tryz.pinned (.plain (OpenSpec.ofChange codesFitSpec)) codesFitCard

/-- THE SECOND FORM's CARD OF 'fleetlaw1.LivesFollowed'. -/
def livesFollowedUptoCard : Claim7 := { stood := { row := livesFollowedUptoRow, standIns := [], harness := (true, "18d473f817df7589c3cb48f2867554bacc9f0e9d8f35d19589aa9eba7d725d2b"), looks := true }, kinds := [], alts := [], laidByText := true, laidKinds := [.data, .data, .data, .data, .pinned, .pinned], laidTests := true, laidLooks := .later }
def LivesFollowedUptoCardSaid : Prop := Claim7.holds Tryz.pinned (.plain (OpenSpec.upto livesFollowedSpec)) livesFollowedUptoCard

/-- THE SECOND FORM's CARD OF 'fleetlaw1.EventsTold'. -/
def eventsToldUptoCard : Claim7 := { stood := { row := eventsToldUptoRow, standIns := [], harness := (true, "18d473f817df7589c3cb48f2867554bacc9f0e9d8f35d19589aa9eba7d725d2b"), looks := true }, kinds := [], alts := [], laidByText := true, laidKinds := [.data, .data, .data, .data, .pinned, .pinned], laidTests := true, laidLooks := .later }
def EventsToldUptoCardSaid : Prop := Claim7.holds Tryz.pinned (.plain (OpenSpec.upto eventsToldSpec)) eventsToldUptoCard

/-- THE SECOND FORM's CARD OF 'fleetlaw1.EventsWritten'. -/
def eventsWrittenUptoCard : Claim7 := { stood := { row := eventsWrittenUptoRow, standIns := [], harness := (true, "18d473f817df7589c3cb48f2867554bacc9f0e9d8f35d19589aa9eba7d725d2b"), looks := true }, kinds := [], alts := [], laidByText := true, laidKinds := [.data, .data, .data, .data, .pinned, .pinned], laidTests := true, laidLooks := .later }
def EventsWrittenUptoCardSaid : Prop := Claim7.holds Tryz.pinned (.plain (OpenSpec.upto eventsWrittenSpec)) eventsWrittenUptoCard

/-- THE SECOND FORM's CARD OF 'fleetlaw1.CodesFit'. -/
def codesFitUptoCard : Claim7 := { stood := { row := codesFitUptoRow, standIns := [], harness := (true, "18d473f817df7589c3cb48f2867554bacc9f0e9d8f35d19589aa9eba7d725d2b"), looks := true }, kinds := [], alts := [], laidByText := true, laidKinds := [.data, .data, .data, .data, .pinned, .pinned], laidTests := true, laidLooks := .later }
def CodesFitUptoCardSaid : Prop := Claim7.holds Tryz.pinned (.plain (OpenSpec.upto codesFitSpec)) codesFitUptoCard
end Rows
end Go.Proofs.YtnopmjdjgangdaaGreatDoor
