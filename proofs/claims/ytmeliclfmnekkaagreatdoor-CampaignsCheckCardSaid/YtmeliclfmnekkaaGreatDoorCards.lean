/-
  DERIVED. GIVEN WITH THE SEED: THE CARDS: each row of YtmeliclfmnekkaaGreatDoorRows.lean that lists a variable, with what it lists TIED to the program's text (the seventh form; the later family's looks); each row that meets fmt, with fmt's text TOLD by the authors' own Lean function (tested against real Go, not proved from fmt's source: count such statements apart). THE CARD IS WHAT COUNTS. Prove the row's statement (the work); the ties are given (YtmeliclfmnekkaaGreatDoorTie.lean); close each card by the builder's one call (the guide's Derived/Test/ToyasCard.lean, 'card_holds'). Laid BY PROGRAM, IN A SANDBOX (cutbox-door.mjs). By AI agents, Wed Nov 11 2026. No macro, syntax, notation, axiom, sorry.
-/
import Derived.Test.YtmeliclfmnekkaaGreatDoorRows
import GoSem.ClaimSeven
namespace Go.Proofs.YtmeliclfmnekkaaGreatDoor
namespace Rows

/-- THE TIED CARD OF 'fleetlaw2.CampaignsCheck'. -/
def campaignsCheckCard : Claim7 := { stood := { row := campaignsCheckRow, standIns := [], harness := (true, "81149048df57e7228c49826aa5429bde0cf6780d9ff7cd9089a8b873f5f26599"), looks := true }, kinds := [], alts := [], laidByText := true, laidKinds := [.data, .data, .data, .data, .sentinel, .sentinel, .pinned], laidTests := true, laidLooks := .later }
def CampaignsCheckCardSaid : Prop := Claim7.holds Tryz.pinned (.plain (OpenSpec.ofChange campaignsCheckSpec)) campaignsCheckCard

/-- THE TIED CARD OF 'fleetlaw1.PropsChecked'. -/
def propsCheckedCard : Claim7 := { stood := { row := propsCheckedRow, standIns := [], harness := (true, "81149048df57e7228c49826aa5429bde0cf6780d9ff7cd9089a8b873f5f26599"), looks := true }, kinds := [], alts := [], laidByText := true, laidKinds := [.data, .data, .data, .data, .pinned, .pinned], laidTests := true, laidLooks := .later }
def PropsCheckedCardSaid : Prop := Claim7.holds Tryz.pinned (.plain (OpenSpec.ofChange propsCheckedSpec)) propsCheckedCard

/-- THE TIED CARD OF 'fleetlaw1.SerialsRead'. -/
def serialsReadCard : Claim7 := { stood := { row := serialsReadRow, standIns := [], harness := (true, "81149048df57e7228c49826aa5429bde0cf6780d9ff7cd9089a8b873f5f26599"), looks := true }, kinds := [], alts := [], laidByText := true, laidKinds := [.data, .data, .data, .data, .sentinel, .sentinel, .pinned, .pinned], laidTests := true, laidLooks := .later }
def SerialsReadCardSaid : Prop := Claim7.holds Tryz.pinned (.plain (OpenSpec.ofChange serialsReadSpec)) serialsReadCard

/-- THE SECOND FORM's CARD OF 'fleetlaw2.CampaignsCheck'. -/
def campaignsCheckUptoCard : Claim7 := { stood := { row := campaignsCheckUptoRow, standIns := [], harness := (true, "81149048df57e7228c49826aa5429bde0cf6780d9ff7cd9089a8b873f5f26599"), looks := true }, kinds := [], alts := [], laidByText := true, laidKinds := [.data, .data, .data, .data, .sentinel, .sentinel, .pinned], laidTests := true, laidLooks := .later }
def CampaignsCheckUptoCardSaid : Prop := Claim7.holds Tryz.pinned (.plain (OpenSpec.upto campaignsCheckSpec)) campaignsCheckUptoCard

/-- THE SECOND FORM's CARD OF 'fleetlaw1.PropsChecked'. -/
def propsCheckedUptoCard : Claim7 := { stood := { row := propsCheckedUptoRow, standIns := [], harness := (true, "81149048df57e7228c49826aa5429bde0cf6780d9ff7cd9089a8b873f5f26599"), looks := true }, kinds := [], alts := [], laidByText := true, laidKinds := [.data, .data, .data, .data, .pinned, .pinned], laidTests := true, laidLooks := .later }
def PropsCheckedUptoCardSaid : Prop := Claim7.holds Tryz.pinned (.plain (OpenSpec.upto propsCheckedSpec)) propsCheckedUptoCard

/-- THE SECOND FORM's CARD OF 'fleetlaw1.SerialsRead'. -/
def serialsReadUptoCard : Claim7 := { stood := { row := serialsReadUptoRow, standIns := [], harness := (true, "81149048df57e7228c49826aa5429bde0cf6780d9ff7cd9089a8b873f5f26599"), looks := true }, kinds := [], alts := [], laidByText := true, laidKinds := [.data, .data, .data, .data, .sentinel, .sentinel, .pinned, .pinned], laidTests := true, laidLooks := .later }
def SerialsReadUptoCardSaid : Prop := Claim7.holds Tryz.pinned (.plain (OpenSpec.upto serialsReadSpec)) serialsReadUptoCard
end Rows
end Go.Proofs.YtmeliclfmnekkaaGreatDoor
