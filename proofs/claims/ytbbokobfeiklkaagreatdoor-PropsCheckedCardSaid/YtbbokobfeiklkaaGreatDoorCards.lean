/-
  DERIVED. GIVEN WITH THE SEED: THE CARDS: each row of YtbbokobfeiklkaaGreatDoorRows.lean that lists a variable, with what it lists TIED to the program's text (the seventh form; the later family's looks); each row that meets fmt, with fmt's text TOLD by the authors' own Lean function (tested against real Go, not proved from fmt's source: count such statements apart). THE CARD IS WHAT COUNTS. Prove the row's statement (the work); the ties are given (YtbbokobfeiklkaaGreatDoorTie.lean); close each card by the builder's one call (the guide's Derived/Test/ToyasCard.lean, 'card_holds'). Laid BY PROGRAM, IN A SANDBOX (cutbox-door.mjs). By AI agents, Wed Nov 11 2026. No macro, syntax, notation, axiom, sorry.
-/
import Derived.Test.YtbbokobfeiklkaaGreatDoorRows
import GoSem.ClaimSeven
namespace Go.Proofs.YtbbokobfeiklkaaGreatDoor
namespace Rows

/-- THE TIED CARD OF 'fleetlaw1.CodesFit'. -/
def codesFitCard : Claim7 := { stood := { row := codesFitRow, standIns := [], harness := (true, "db5afb7c58e006f64ef7b4a90b0f65fb70049691a1fcf2305f7ba8e7764cf96b"), looks := true }, kinds := [], alts := [], laidByText := true, laidKinds := [.data, .data, .data, .data, .pinned, .pinned], laidTests := true, laidLooks := .later }
def CodesFitCardSaid : Prop := Claim7.holds Tryz.pinned (.plain (OpenSpec.ofChange codesFitSpec)) codesFitCard

/-- THE TIED CARD OF 'fleetlaw1.AlarmsSummed'. -/
def alarmsSummedCard : Claim7 := { stood := { row := alarmsSummedRow, standIns := [], harness := (true, "db5afb7c58e006f64ef7b4a90b0f65fb70049691a1fcf2305f7ba8e7764cf96b"), looks := true }, kinds := [], alts := [], laidByText := true, laidKinds := [.data, .data, .data, .data, .sentinel, .sentinel, .pinned], laidTests := true, laidLooks := .later }
def AlarmsSummedCardSaid : Prop := Claim7.holds Tryz.pinned (.plain (OpenSpec.ofChange alarmsSummedSpec)) alarmsSummedCard

/-- THE TIED CARD OF 'fleetlaw1.SerialsRead'. -/
def serialsReadCard : Claim7 := { stood := { row := serialsReadRow, standIns := [], harness := (true, "db5afb7c58e006f64ef7b4a90b0f65fb70049691a1fcf2305f7ba8e7764cf96b"), looks := true }, kinds := [], alts := [], laidByText := true, laidKinds := [.data, .data, .data, .data, .sentinel, .sentinel, .pinned, .pinned], laidTests := true, laidLooks := .later }
def SerialsReadCardSaid : Prop := Claim7.holds Tryz.pinned (.plain (OpenSpec.ofChange serialsReadSpec)) serialsReadCard

/-- THE TIED CARD OF 'fleetlaw1.PropsChecked'. -/
def propsCheckedCard : Claim7 := { stood := { row := propsCheckedRow, standIns := [], harness := (true, "db5afb7c58e006f64ef7b4a90b0f65fb70049691a1fcf2305f7ba8e7764cf96b"), looks := true }, kinds := [], alts := [], laidByText := true, laidKinds := [.data, .data, .data, .data, .pinned, .pinned], laidTests := true, laidLooks := .later }
def PropsCheckedCardSaid : Prop := Claim7.holds Tryz.pinned (.plain (OpenSpec.ofChange propsCheckedSpec)) propsCheckedCard

/-- THE SECOND FORM's CARD OF 'fleetlaw1.CodesFit'. -/
def codesFitUptoCard : Claim7 := { stood := { row := codesFitUptoRow, standIns := [], harness := (true, "db5afb7c58e006f64ef7b4a90b0f65fb70049691a1fcf2305f7ba8e7764cf96b"), looks := true }, kinds := [], alts := [], laidByText := true, laidKinds := [.data, .data, .data, .data, .pinned, .pinned], laidTests := true, laidLooks := .later }
def CodesFitUptoCardSaid : Prop := Claim7.holds Tryz.pinned (.plain (OpenSpec.upto codesFitSpec)) codesFitUptoCard

/-- THE SECOND FORM's CARD OF 'fleetlaw1.AlarmsSummed'. -/
def alarmsSummedUptoCard : Claim7 := { stood := { row := alarmsSummedUptoRow, standIns := [], harness := (true, "db5afb7c58e006f64ef7b4a90b0f65fb70049691a1fcf2305f7ba8e7764cf96b"), looks := true }, kinds := [], alts := [], laidByText := true, laidKinds := [.data, .data, .data, .data, .sentinel, .sentinel, .pinned], laidTests := true, laidLooks := .later }
def AlarmsSummedUptoCardSaid : Prop := Claim7.holds Tryz.pinned (.plain (OpenSpec.upto alarmsSummedSpec)) alarmsSummedUptoCard

/-- THE SECOND FORM's CARD OF 'fleetlaw1.SerialsRead'. -/
def serialsReadUptoCard : Claim7 := { stood := { row := serialsReadUptoRow, standIns := [], harness := (true, "db5afb7c58e006f64ef7b4a90b0f65fb70049691a1fcf2305f7ba8e7764cf96b"), looks := true }, kinds := [], alts := [], laidByText := true, laidKinds := [.data, .data, .data, .data, .sentinel, .sentinel, .pinned, .pinned], laidTests := true, laidLooks := .later }
def SerialsReadUptoCardSaid : Prop := Claim7.holds Tryz.pinned (.plain (OpenSpec.upto serialsReadSpec)) serialsReadUptoCard

/-- THE SECOND FORM's CARD OF 'fleetlaw1.PropsChecked'. -/
def propsCheckedUptoCard : Claim7 := { stood := { row := propsCheckedUptoRow, standIns := [], harness := (true, "db5afb7c58e006f64ef7b4a90b0f65fb70049691a1fcf2305f7ba8e7764cf96b"), looks := true }, kinds := [], alts := [], laidByText := true, laidKinds := [.data, .data, .data, .data, .pinned, .pinned], laidTests := true, laidLooks := .later }
def PropsCheckedUptoCardSaid : Prop := Claim7.holds Tryz.pinned (.plain (OpenSpec.upto propsCheckedSpec)) propsCheckedUptoCard
end Rows
end Go.Proofs.YtbbokobfeiklkaaGreatDoor
