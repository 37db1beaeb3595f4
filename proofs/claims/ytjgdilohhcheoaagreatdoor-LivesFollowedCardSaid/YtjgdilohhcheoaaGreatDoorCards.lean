/-
  DERIVED. GIVEN WITH THE SEED: THE CARDS: each row of YtjgdilohhcheoaaGreatDoorRows.lean that lists a variable, with what it lists TIED to the program's text (the seventh form; the later family's looks); each row that meets fmt, with fmt's text TOLD by the authors' own Lean function (tested against real Go, not proved from fmt's source: count such statements apart). THE CARD IS WHAT COUNTS. Prove the row's statement (the work); the ties are given (YtjgdilohhcheoaaGreatDoorTie.lean); close each card by the builder's one call (the guide's Derived/Test/ToyasCard.lean, 'card_holds'). Laid BY PROGRAM, IN A SANDBOX (cutbox-door.mjs). By AI agents, Wed Nov 11 2026. No macro, syntax, notation, axiom, sorry.
-/
import Derived.Test.YtjgdilohhcheoaaGreatDoorRows
import GoSem.ClaimSeven
namespace Go.Proofs.YtjgdilohhcheoaaGreatDoor
namespace Rows

/-- THE TIED CARD OF 'fleetlaw1.EventsWritten'. -/
def eventsWrittenCard : Claim7 := { stood := { row := eventsWrittenRow, standIns := [], harness := (true, "5d3043f22d73b3e071fa6e9e2f81bbaa783b544109df3abd5a1ef40d0e80f97d"), looks := false }, kinds := [], alts := [], laidByText := true, laidKinds := [.data, .data, .data, .data, .pinned, .pinned], laidTests := true, laidLooks := .later }
def EventsWrittenCardSaid : Prop := Claim7.holds Tryz.pinned (.plain (OpenSpec.ofChange eventsWrittenSpec)) eventsWrittenCard

/-- THE TIED CARD OF 'fleetlaw1.LivesFollowed'. -/
def livesFollowedCard : Claim7 := { stood := { row := livesFollowedRow, standIns := [], harness := (true, "5d3043f22d73b3e071fa6e9e2f81bbaa783b544109df3abd5a1ef40d0e80f97d"), looks := false }, kinds := [], alts := [], laidByText := true, laidKinds := [.data, .data, .data, .data, .pinned, .pinned], laidTests := true, laidLooks := .later }
def LivesFollowedCardSaid : Prop := Claim7.holds Tryz.pinned (.plain (OpenSpec.ofChange livesFollowedSpec)) livesFollowedCard

/-- THE SECOND FORM's CARD OF 'fleetlaw1.EventsWritten'. -/
def eventsWrittenUptoCard : Claim7 := { stood := { row := eventsWrittenUptoRow, standIns := [], harness := (true, "5d3043f22d73b3e071fa6e9e2f81bbaa783b544109df3abd5a1ef40d0e80f97d"), looks := false }, kinds := [], alts := [], laidByText := true, laidKinds := [.data, .data, .data, .data, .pinned, .pinned], laidTests := true, laidLooks := .later }
def EventsWrittenUptoCardSaid : Prop := Claim7.holds Tryz.pinned (.plain (OpenSpec.upto eventsWrittenSpec)) eventsWrittenUptoCard

/-- THE SECOND FORM's CARD OF 'fleetlaw1.LivesFollowed'. -/
def livesFollowedUptoCard : Claim7 := { stood := { row := livesFollowedUptoRow, standIns := [], harness := (true, "5d3043f22d73b3e071fa6e9e2f81bbaa783b544109df3abd5a1ef40d0e80f97d"), looks := false }, kinds := [], alts := [], laidByText := true, laidKinds := [.data, .data, .data, .data, .pinned, .pinned], laidTests := true, laidLooks := .later }
def LivesFollowedUptoCardSaid : Prop := Claim7.holds Tryz.pinned (.plain (OpenSpec.upto livesFollowedSpec)) livesFollowedUptoCard
end Rows
end Go.Proofs.YtjgdilohhcheoaaGreatDoor
