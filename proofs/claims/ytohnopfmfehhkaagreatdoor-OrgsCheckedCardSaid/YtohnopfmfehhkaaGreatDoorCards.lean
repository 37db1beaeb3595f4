/-
  DERIVED. GIVEN WITH THE SEED: THE CARDS: each row of YtohnopfmfehhkaaGreatDoorRows.lean that lists a variable, with what it lists TIED to the program's text (the seventh form; the later family's looks); each row that meets fmt, with fmt's text TOLD by the authors' own Lean function (tested against real Go, not proved from fmt's source: count such statements apart). THE CARD IS WHAT COUNTS. Prove the row's statement (the work); the ties are given (YtohnopfmfehhkaaGreatDoorTie.lean); close each card by the builder's one call (the guide's Derived/Test/ToyasCard.lean, 'card_holds'). Laid BY PROGRAM, IN A SANDBOX (cutbox-door.mjs). By AI agents, Wed Nov 11 2026. No macro, syntax, notation, axiom, sorry.
-/
import Derived.Test.YtohnopfmfehhkaaGreatDoorRows
import GoSem.ClaimSeven
namespace Go.Proofs.YtohnopfmfehhkaaGreatDoor
namespace Rows

/-- THE TIED CARD OF 'fleetlaw1.OrgsChecked'. -/
def orgsCheckedCard : Claim7 := { stood := { row := orgsCheckedRow, standIns := [], harness := (true, "34f27dbf38a2fd16496231e23c210f453297dca42fa402bc8ef5f118411adb21"), looks := false }, kinds := [], alts := [], laidByText := true, laidKinds := [.data, .pinned], laidTests := true, laidLooks := .later }
def OrgsCheckedCardSaid : Prop := Claim7.holds Tryz.pinned (.plain (OpenSpec.ofChange orgsCheckedSpec)) orgsCheckedCard

/-- THE TIED CARD OF 'fleetlaw1.QuotasCounted'. -/
def quotasCountedCard : Claim7 := { stood := { row := quotasCountedRow, standIns := [], harness := (true, "34f27dbf38a2fd16496231e23c210f453297dca42fa402bc8ef5f118411adb21"), looks := false }, kinds := [], alts := [], laidByText := true, laidKinds := [.data, .pinned], laidTests := true, laidLooks := .later }
def QuotasCountedCardSaid : Prop := Claim7.holds Tryz.pinned (.plain (OpenSpec.ofChange quotasCountedSpec)) quotasCountedCard

/-- THE TIED CARD OF 'fleetlaw1.QueriesMatch'. -/
def queriesMatchCard : Claim7 := { stood := { row := queriesMatchRow, standIns := [], harness := (true, "34f27dbf38a2fd16496231e23c210f453297dca42fa402bc8ef5f118411adb21"), looks := false }, kinds := [], alts := [], laidByText := true, laidKinds := [.data, .data, .data, .data, .pinned], laidTests := true, laidLooks := .later }
def QueriesMatchCardSaid : Prop := Claim7.holds Tryz.pinned (.plain (OpenSpec.ofChange queriesMatchSpec)) queriesMatchCard

/-- THE SECOND FORM's CARD OF 'fleetlaw1.OrgsChecked'. -/
def orgsCheckedUptoCard : Claim7 := { stood := { row := orgsCheckedUptoRow, standIns := [], harness := (true, "34f27dbf38a2fd16496231e23c210f453297dca42fa402bc8ef5f118411adb21"), looks := false }, kinds := [], alts := [], laidByText := true, laidKinds := [.data, .pinned], laidTests := true, laidLooks := .later }
def OrgsCheckedUptoCardSaid : Prop := Claim7.holds Tryz.pinned (.plain (OpenSpec.upto orgsCheckedSpec)) orgsCheckedUptoCard

/-- THE SECOND FORM's CARD OF 'fleetlaw1.QuotasCounted'. -/
def quotasCountedUptoCard : Claim7 := { stood := { row := quotasCountedUptoRow, standIns := [], harness := (true, "34f27dbf38a2fd16496231e23c210f453297dca42fa402bc8ef5f118411adb21"), looks := false }, kinds := [], alts := [], laidByText := true, laidKinds := [.data, .pinned], laidTests := true, laidLooks := .later }
def QuotasCountedUptoCardSaid : Prop := Claim7.holds Tryz.pinned (.plain (OpenSpec.upto quotasCountedSpec)) quotasCountedUptoCard

/-- THE SECOND FORM's CARD OF 'fleetlaw1.QueriesMatch'. -/
def queriesMatchUptoCard : Claim7 := { stood := { row := queriesMatchUptoRow, standIns := [], harness := (true, "34f27dbf38a2fd16496231e23c210f453297dca42fa402bc8ef5f118411adb21"), looks := false }, kinds := [], alts := [], laidByText := true, laidKinds := [.data, .data, .data, .data, .pinned], laidTests := true, laidLooks := .later }
def QueriesMatchUptoCardSaid : Prop := Claim7.holds Tryz.pinned (.plain (OpenSpec.upto queriesMatchSpec)) queriesMatchUptoCard
end Rows
end Go.Proofs.YtohnopfmfehhkaaGreatDoor
