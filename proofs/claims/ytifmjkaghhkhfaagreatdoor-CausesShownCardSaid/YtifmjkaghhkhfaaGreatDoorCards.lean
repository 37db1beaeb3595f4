/-
  DERIVED. GIVEN WITH THE SEED: THE CARDS: each row of YtifmjkaghhkhfaaGreatDoorRows.lean that lists a variable, with what it lists TIED to the program's text (the seventh form; the later family's looks); each row that meets fmt, with fmt's text TOLD by the authors' own Lean function (tested against real Go, not proved from fmt's source: count such statements apart). THE CARD IS WHAT COUNTS. Prove the row's statement (the work); the ties are given (YtifmjkaghhkhfaaGreatDoorTie.lean); close each card by the builder's one call (the guide's Derived/Test/ToyasCard.lean, 'card_holds'). Laid BY PROGRAM, IN A SANDBOX (cutbox-door.mjs). By AI agents, Wed Nov 11 2026. No macro, syntax, notation, axiom, sorry.
-/
import Derived.Test.YtifmjkaghhkhfaaGreatDoorRows
import GoSem.ClaimSeven
namespace Go.Proofs.YtifmjkaghhkhfaaGreatDoor
namespace Rows

/-- THE TIED CARD OF 'fleetlaw1.SignalsFollowed'. -/
def signalsFollowedCard : Claim7 := { stood := { row := signalsFollowedRow, standIns := [], harness := (true, "603ac94b0a5123568708e431cd230a70b2f1fc192d43385dc4323c18a3c85c64"), looks := false }, kinds := [], alts := [], laidByText := true, laidKinds := [.data, .pinned], laidTests := true, laidLooks := .later }
def SignalsFollowedCardSaid : Prop := Claim7.holds Tryz.pinned (.plain (OpenSpec.ofChange signalsFollowedSpec)) signalsFollowedCard

/-- THE TIED CARD OF 'fleetlaw1.PeopleTold'. -/
def peopleToldCard : Claim7 := { stood := { row := peopleToldRow, standIns := [], harness := (true, "603ac94b0a5123568708e431cd230a70b2f1fc192d43385dc4323c18a3c85c64"), looks := false }, kinds := [], alts := [], laidByText := true, laidKinds := [.data, .pinned], laidTests := true, laidLooks := .later }
def PeopleToldCardSaid : Prop := Claim7.holds Tryz.pinned (.plain (OpenSpec.ofChange peopleToldSpec)) peopleToldCard

/-- THE TIED CARD OF 'fleetlaw1.CausesShown'. -/
def causesShownCard : Claim7 := { stood := { row := causesShownRow, standIns := [], harness := (true, "603ac94b0a5123568708e431cd230a70b2f1fc192d43385dc4323c18a3c85c64"), looks := false }, kinds := [], alts := [], laidByText := true, laidKinds := [.data, .pinned], laidTests := true, laidLooks := .later }
def CausesShownCardSaid : Prop := Claim7.holds Tryz.pinned (.plain (OpenSpec.ofChange causesShownSpec)) causesShownCard

/-- THE TIED CARD OF 'fleetlaw1.AlarmsTimed'. -/
def alarmsTimedCard : Claim7 := { stood := { row := alarmsTimedRow, standIns := [], harness := (true, "603ac94b0a5123568708e431cd230a70b2f1fc192d43385dc4323c18a3c85c64"), looks := false }, kinds := [], alts := [], laidByText := true, laidKinds := [.data, .pinned], laidTests := true, laidLooks := .later }
def AlarmsTimedCardSaid : Prop := Claim7.holds Tryz.pinned (.plain (OpenSpec.ofChange alarmsTimedSpec)) alarmsTimedCard

/-- THE SECOND FORM's CARD OF 'fleetlaw1.SignalsFollowed'. -/
def signalsFollowedUptoCard : Claim7 := { stood := { row := signalsFollowedUptoRow, standIns := [], harness := (true, "603ac94b0a5123568708e431cd230a70b2f1fc192d43385dc4323c18a3c85c64"), looks := false }, kinds := [], alts := [], laidByText := true, laidKinds := [.data, .pinned], laidTests := true, laidLooks := .later }
def SignalsFollowedUptoCardSaid : Prop := Claim7.holds Tryz.pinned (.plain (OpenSpec.upto signalsFollowedSpec)) signalsFollowedUptoCard

/-- THE SECOND FORM's CARD OF 'fleetlaw1.PeopleTold'. -/
def peopleToldUptoCard : Claim7 := { stood := { row := peopleToldUptoRow, standIns := [], harness := (true, "603ac94b0a5123568708e431cd230a70b2f1fc192d43385dc4323c18a3c85c64"), looks := false }, kinds := [], alts := [], laidByText := true, laidKinds := [.data, .pinned], laidTests := true, laidLooks := .later }
def PeopleToldUptoCardSaid : Prop := Claim7.holds Tryz.pinned (.plain (OpenSpec.upto peopleToldSpec)) peopleToldUptoCard

/-- THE SECOND FORM's CARD OF 'fleetlaw1.CausesShown'. -/
def causesShownUptoCard : Claim7 := { stood := { row := causesShownUptoRow, standIns := [], harness := (true, "603ac94b0a5123568708e431cd230a70b2f1fc192d43385dc4323c18a3c85c64"), looks := false }, kinds := [], alts := [], laidByText := true, laidKinds := [.data, .pinned], laidTests := true, laidLooks := .later }
def CausesShownUptoCardSaid : Prop := Claim7.holds Tryz.pinned (.plain (OpenSpec.upto causesShownSpec)) causesShownUptoCard

/-- THE SECOND FORM's CARD OF 'fleetlaw1.AlarmsTimed'. -/
def alarmsTimedUptoCard : Claim7 := { stood := { row := alarmsTimedUptoRow, standIns := [], harness := (true, "603ac94b0a5123568708e431cd230a70b2f1fc192d43385dc4323c18a3c85c64"), looks := false }, kinds := [], alts := [], laidByText := true, laidKinds := [.data, .pinned], laidTests := true, laidLooks := .later }
def AlarmsTimedUptoCardSaid : Prop := Claim7.holds Tryz.pinned (.plain (OpenSpec.upto alarmsTimedSpec)) alarmsTimedUptoCard
end Rows
end Go.Proofs.YtifmjkaghhkhfaaGreatDoor
