/-
  DERIVED. GIVEN WITH THE SEED: THE CARDS: each row of YtipbfaojbmendaaGreatDoorRows.lean that lists a variable, with what it lists TIED to the program's text (the seventh form; the later family's looks); each row that meets fmt, with fmt's text TOLD by the authors' own Lean function (tested against real Go, not proved from fmt's source: count such statements apart). THE CARD IS WHAT COUNTS. Prove the row's statement (the work); the ties are given (YtipbfaojbmendaaGreatDoorTie.lean); close each card by the builder's one call (the guide's Derived/Test/ToyasCard.lean, 'card_holds'). Laid BY PROGRAM, IN A SANDBOX (cutbox-door.mjs). By AI agents, Wed Nov 11 2026. No macro, syntax, notation, axiom, sorry.
-/
import Derived.Test.YtipbfaojbmendaaGreatDoorRows
import GoSem.ClaimSeven
namespace Go.Proofs.YtipbfaojbmendaaGreatDoor
namespace Rows

/-- THE TIED CARD OF 'fleettop.TopCampaignsReach'. -/
def topCampaignsReachCard : Claim7 := { stood := { row := topCampaignsReachRow, standIns := [], harness := (true, "95bedefd35c31b367e8de980f087b2effd3812914838798f102c9215045bea40"), looks := true }, kinds := [], alts := [], laidByText := true, laidKinds := [.data, .data, .data, .data, .sentinel, .sentinel, .pinned], laidTests := true, laidLooks := .later }
def TopCampaignsReachCardSaid : Prop := Claim7.holds Tryz.pinned (.plain (OpenSpec.ofChange topCampaignsReachSpec)) topCampaignsReachCard

/-- THE SECOND FORM's CARD OF 'fleettop.TopCampaignsReach'. -/
def topCampaignsReachUptoCard : Claim7 := { stood := { row := topCampaignsReachUptoRow, standIns := [], harness := (true, "95bedefd35c31b367e8de980f087b2effd3812914838798f102c9215045bea40"), looks := true }, kinds := [], alts := [], laidByText := true, laidKinds := [.data, .data, .data, .data, .sentinel, .sentinel, .pinned], laidTests := true, laidLooks := .later }
def TopCampaignsReachUptoCardSaid : Prop := Claim7.holds Tryz.pinned (.plain (OpenSpec.upto topCampaignsReachSpec)) topCampaignsReachUptoCard
end Rows
end Go.Proofs.YtipbfaojbmendaaGreatDoor
