/-
  DERIVED. GIVEN WITH THE SEED: THE CARDS: each row of YthfphcbipahkmaaGreatDoorRows.lean that lists a variable, with what it lists TIED to the program's text (the seventh form; the later family's looks); each row that meets fmt, with fmt's text TOLD by the authors' own Lean function (tested against real Go, not proved from fmt's source: count such statements apart). THE CARD IS WHAT COUNTS. Prove the row's statement (the work); the ties are given (YthfphcbipahkmaaGreatDoorTie.lean); close each card by the builder's one call (the guide's Derived/Test/ToyasCard.lean, 'card_holds'). Laid BY PROGRAM, IN A SANDBOX (cutbox-door.mjs). By AI agents, Wed Nov 11 2026. No macro, syntax, notation, axiom, sorry.
-/
import Derived.Test.YthfphcbipahkmaaGreatDoorRows
import GoSem.ClaimSeven
namespace Go.Proofs.YthfphcbipahkmaaGreatDoor
namespace Rows

/-- THE TIED CARD OF 'fleetlaw2.OffersMade'. -/
def offersMadeCard : Claim7 := { stood := { row := offersMadeRow, standIns := [], harness := (true, "8e8ea8536a3e14b99e80ea8c97f0b5e879897e7df9eab39aa1ae298b599112fe"), looks := true }, kinds := [], alts := [], laidByText := true, laidKinds := [.data, .data, .data, .data, .sentinel, .sentinel, .pinned], laidTests := true, laidLooks := .later }
def OffersMadeCardSaid : Prop := Claim7.holds Tryz.pinned (.plain (OpenSpec.ofChange offersMadeSpec)) offersMadeCard

/-- THE TIED CARD OF 'fleetlaw2.CampaignsPlayed'. -/
def campaignsPlayedCard : Claim7 := { stood := { row := campaignsPlayedRow, standIns := [], harness := (true, "8e8ea8536a3e14b99e80ea8c97f0b5e879897e7df9eab39aa1ae298b599112fe"), looks := true }, kinds := [], alts := [], laidByText := true, laidKinds := [.data, .data, .data, .data, .sentinel, .sentinel, .pinned], laidTests := true, laidLooks := .later }
def CampaignsPlayedCardSaid : Prop := Claim7.holds Tryz.pinned (.plain (OpenSpec.ofChange campaignsPlayedSpec)) campaignsPlayedCard

/-- THE SECOND FORM's CARD OF 'fleetlaw2.OffersMade'. -/
def offersMadeUptoCard : Claim7 := { stood := { row := offersMadeUptoRow, standIns := [], harness := (true, "8e8ea8536a3e14b99e80ea8c97f0b5e879897e7df9eab39aa1ae298b599112fe"), looks := true }, kinds := [], alts := [], laidByText := true, laidKinds := [.data, .data, .data, .data, .sentinel, .sentinel, .pinned], laidTests := true, laidLooks := .later }
def OffersMadeUptoCardSaid : Prop := Claim7.holds Tryz.pinned (.plain (OpenSpec.upto offersMadeSpec)) offersMadeUptoCard

/-- THE SECOND FORM's CARD OF 'fleetlaw2.CampaignsPlayed'. -/
def campaignsPlayedUptoCard : Claim7 := { stood := { row := campaignsPlayedUptoRow, standIns := [], harness := (true, "8e8ea8536a3e14b99e80ea8c97f0b5e879897e7df9eab39aa1ae298b599112fe"), looks := true }, kinds := [], alts := [], laidByText := true, laidKinds := [.data, .data, .data, .data, .sentinel, .sentinel, .pinned], laidTests := true, laidLooks := .later }
def CampaignsPlayedUptoCardSaid : Prop := Claim7.holds Tryz.pinned (.plain (OpenSpec.upto campaignsPlayedSpec)) campaignsPlayedUptoCard
end Rows
end Go.Proofs.YthfphcbipahkmaaGreatDoor
