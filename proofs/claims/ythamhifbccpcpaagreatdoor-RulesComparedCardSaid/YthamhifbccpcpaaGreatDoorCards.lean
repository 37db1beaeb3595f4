/-
  DERIVED. GIVEN WITH THE SEED: THE CARDS: each row of YthamhifbccpcpaaGreatDoorRows.lean that lists a variable, with what it lists TIED to the program's text (the seventh form; the later family's looks); each row that meets fmt, with fmt's text TOLD by the authors' own Lean function (tested against real Go, not proved from fmt's source: count such statements apart). THE CARD IS WHAT COUNTS. Prove the row's statement (the work); the ties are given (YthamhifbccpcpaaGreatDoorTie.lean); close each card by the builder's one call (the guide's Derived/Test/ToyasCard.lean, 'card_holds'). Laid BY PROGRAM, IN A SANDBOX (cutbox-door.mjs). By AI agents, Wed Nov 11 2026. No macro, syntax, notation, axiom, sorry.
-/
import Derived.Test.YthamhifbccpcpaaGreatDoorRows
import GoSem.ClaimSeven
namespace Go.Proofs.YthamhifbccpcpaaGreatDoor
namespace Rows

/-- THE TIED CARD OF 'fleetlaw1.AlarmsSummed'. -/
def alarmsSummedCard : Claim7 := { stood := { row := alarmsSummedRow, standIns := [], harness := (true, "62e4c716bfad14c648ee31d301576f1e1957f7241f9dd54450bd8b15fc13ce50"), looks := true }, kinds := [], alts := [], laidByText := true, laidKinds := [.data, .data, .data, .data, .sentinel, .sentinel, .pinned], laidTests := true, laidLooks := .later }
def AlarmsSummedCardSaid : Prop := Claim7.holds Tryz.pinned (.plain (OpenSpec.ofChange alarmsSummedSpec)) alarmsSummedCard

/-- THE TIED CARD OF 'fleetlaw1.RulesCompared'. -/
def rulesComparedCard : Claim7 := { stood := { row := rulesComparedRow, standIns := [], harness := (true, "62e4c716bfad14c648ee31d301576f1e1957f7241f9dd54450bd8b15fc13ce50"), looks := true }, kinds := [], alts := [], laidByText := true, laidKinds := [.data, .pinned], laidTests := true, laidLooks := .later }
def RulesComparedCardSaid : Prop := Claim7.holds Tryz.pinned (.plain (OpenSpec.ofChange rulesComparedSpec)) rulesComparedCard

/-- THE SECOND FORM's CARD OF 'fleetlaw1.AlarmsSummed'. -/
def alarmsSummedUptoCard : Claim7 := { stood := { row := alarmsSummedUptoRow, standIns := [], harness := (true, "62e4c716bfad14c648ee31d301576f1e1957f7241f9dd54450bd8b15fc13ce50"), looks := true }, kinds := [], alts := [], laidByText := true, laidKinds := [.data, .data, .data, .data, .sentinel, .sentinel, .pinned], laidTests := true, laidLooks := .later }
def AlarmsSummedUptoCardSaid : Prop := Claim7.holds Tryz.pinned (.plain (OpenSpec.upto alarmsSummedSpec)) alarmsSummedUptoCard

/-- THE SECOND FORM's CARD OF 'fleetlaw1.RulesCompared'. -/
def rulesComparedUptoCard : Claim7 := { stood := { row := rulesComparedUptoRow, standIns := [], harness := (true, "62e4c716bfad14c648ee31d301576f1e1957f7241f9dd54450bd8b15fc13ce50"), looks := true }, kinds := [], alts := [], laidByText := true, laidKinds := [.data, .pinned], laidTests := true, laidLooks := .later }
def RulesComparedUptoCardSaid : Prop := Claim7.holds Tryz.pinned (.plain (OpenSpec.upto rulesComparedSpec)) rulesComparedUptoCard
end Rows
end Go.Proofs.YthamhifbccpcpaaGreatDoor
