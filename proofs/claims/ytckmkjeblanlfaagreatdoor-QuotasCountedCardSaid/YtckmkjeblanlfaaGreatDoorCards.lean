/-
  DERIVED. GIVEN WITH THE SEED: THE CARDS: each row of YtckmkjeblanlfaaGreatDoorRows.lean that lists a variable, with what it lists TIED to the program's text (the seventh form; the later family's looks); each row that meets fmt, with fmt's text TOLD by the authors' own Lean function (tested against real Go, not proved from fmt's source: count such statements apart). THE CARD IS WHAT COUNTS. Prove the row's statement (the work); the ties are given (YtckmkjeblanlfaaGreatDoorTie.lean); close each card by the builder's one call (the guide's Derived/Test/ToyasCard.lean, 'card_holds'). Laid BY PROGRAM, IN A SANDBOX (cutbox-door.mjs). By AI agents, Wed Nov 11 2026. No macro, syntax, notation, axiom, sorry.
-/
import Derived.Test.YtckmkjeblanlfaaGreatDoorRows
import GoSem.ClaimSeven
namespace Go.Proofs.YtckmkjeblanlfaaGreatDoor
namespace Rows

/-- THE TIED CARD OF 'fleetlaw1.SignalsFollowed'. -/
def signalsFollowedCard : Claim7 := { stood := { row := signalsFollowedRow, standIns := [], harness := (true, "7b4d88c267d34d4b7de269134085da11420a1e0e1bac4b8853fa6ad1900c6824"), looks := true }, kinds := [], alts := [], laidByText := true, laidKinds := [.data, .pinned], laidTests := true, laidLooks := .later }
def SignalsFollowedCardSaid : Prop := Claim7.holds Tryz.pinned (.plain (OpenSpec.ofChange signalsFollowedSpec)) signalsFollowedCard

/-- THE TIED CARD OF 'fleetlaw1.QuotasCounted'. -/
def quotasCountedCard : Claim7 := { stood := { row := quotasCountedRow, standIns := [], harness := (true, "7b4d88c267d34d4b7de269134085da11420a1e0e1bac4b8853fa6ad1900c6824"), looks := true }, kinds := [], alts := [], laidByText := true, laidKinds := [.data, .pinned], laidTests := true, laidLooks := .later }
def QuotasCountedCardSaid : Prop := Claim7.holds Tryz.pinned (.plain (OpenSpec.ofChange quotasCountedSpec)) quotasCountedCard

/-- THE TIED CARD OF 'fleetlaw2.DevicesStand'. -/
def devicesStandCard : Claim7 := { stood := { row := devicesStandRow, standIns := [], harness := (true, "7b4d88c267d34d4b7de269134085da11420a1e0e1bac4b8853fa6ad1900c6824"), looks := true }, kinds := [], alts := [], laidByText := true, laidKinds := [.data, .data, .data, .data, .sentinel, .sentinel, .pinned], laidTests := true, laidLooks := .later }
def DevicesStandCardSaid : Prop := Claim7.holds Tryz.pinned (.plain (OpenSpec.ofChange devicesStandSpec)) devicesStandCard

/-- THE SECOND FORM's CARD OF 'fleetlaw1.SignalsFollowed'. -/
def signalsFollowedUptoCard : Claim7 := { stood := { row := signalsFollowedUptoRow, standIns := [], harness := (true, "7b4d88c267d34d4b7de269134085da11420a1e0e1bac4b8853fa6ad1900c6824"), looks := true }, kinds := [], alts := [], laidByText := true, laidKinds := [.data, .pinned], laidTests := true, laidLooks := .later }
def SignalsFollowedUptoCardSaid : Prop := Claim7.holds Tryz.pinned (.plain (OpenSpec.upto signalsFollowedSpec)) signalsFollowedUptoCard

/-- THE SECOND FORM's CARD OF 'fleetlaw1.QuotasCounted'. -/
def quotasCountedUptoCard : Claim7 := { stood := { row := quotasCountedUptoRow, standIns := [], harness := (true, "7b4d88c267d34d4b7de269134085da11420a1e0e1bac4b8853fa6ad1900c6824"), looks := true }, kinds := [], alts := [], laidByText := true, laidKinds := [.data, .pinned], laidTests := true, laidLooks := .later }
def QuotasCountedUptoCardSaid : Prop := Claim7.holds Tryz.pinned (.plain (OpenSpec.upto quotasCountedSpec)) quotasCountedUptoCard

/-- THE SECOND FORM's CARD OF 'fleetlaw2.DevicesStand'. -/
def devicesStandUptoCard : Claim7 := { stood := { row := devicesStandUptoRow, standIns := [], harness := (true, "7b4d88c267d34d4b7de269134085da11420a1e0e1bac4b8853fa6ad1900c6824"), looks := true }, kinds := [], alts := [], laidByText := true, laidKinds := [.data, .data, .data, .data, .sentinel, .sentinel, .pinned], laidTests := true, laidLooks := .later }
def DevicesStandUptoCardSaid : Prop := Claim7.holds Tryz.pinned (.plain (OpenSpec.upto devicesStandSpec)) devicesStandUptoCard
end Rows
end Go.Proofs.YtckmkjeblanlfaaGreatDoor
