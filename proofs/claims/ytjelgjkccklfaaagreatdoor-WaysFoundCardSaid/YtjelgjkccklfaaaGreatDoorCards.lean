/-
  DERIVED. GIVEN WITH THE SEED: THE CARDS: each row of YtjelgjkccklfaaaGreatDoorRows.lean that lists a variable, with what it lists TIED to the program's text (the seventh form; the later family's looks); each row that meets fmt, with fmt's text TOLD by the authors' own Lean function (tested against real Go, not proved from fmt's source: count such statements apart). THE CARD IS WHAT COUNTS. Prove the row's statement (the work); the ties are given (YtjelgjkccklfaaaGreatDoorTie.lean); close each card by the builder's one call (the guide's Derived/Test/ToyasCard.lean, 'card_holds'). Laid BY PROGRAM, IN A SANDBOX (cutbox-door.mjs). By AI agents, Wed Nov 11 2026. No macro, syntax, notation, axiom, sorry.
-/
import Derived.Test.YtjelgjkccklfaaaGreatDoorRows
import GoSem.ClaimSeven
namespace Go.Proofs.YtjelgjkccklfaaaGreatDoor
namespace Rows

/-- THE TIED CARD OF 'fleetlaw2.DevicesStand'. -/
def devicesStandCard : Claim7 := { stood := { row := devicesStandRow, standIns := [], harness := (true, "e831886aad62422d38dd488ded2f2fadee4ba40d04d4f0e8858367b9cced87b8"), looks := true }, kinds := [], alts := [], laidByText := true, laidKinds := [.data, .data, .data, .data, .sentinel, .sentinel, .pinned], laidTests := true, laidLooks := .later }
def DevicesStandCardSaid : Prop := Claim7.holds Tryz.pinned (.plain (OpenSpec.ofChange devicesStandSpec)) devicesStandCard

/-- THE TIED CARD OF 'fleetlaw1.RulesFire'. -/
def rulesFireCard : Claim7 := { stood := { row := rulesFireRow, standIns := [], harness := (true, "e831886aad62422d38dd488ded2f2fadee4ba40d04d4f0e8858367b9cced87b8"), looks := true }, kinds := [], alts := [], laidByText := true, laidKinds := [.data, .pinned], laidTests := true, laidLooks := .later }
def RulesFireCardSaid : Prop := Claim7.holds Tryz.pinned (.plain (OpenSpec.ofChange rulesFireSpec)) rulesFireCard

/-- THE TIED CARD OF 'fleetlaw2.WaysFound'. -/
def waysFoundCard : Claim7 := { stood := { row := waysFoundRow, standIns := [], harness := (true, "e831886aad62422d38dd488ded2f2fadee4ba40d04d4f0e8858367b9cced87b8"), looks := true }, kinds := [], alts := [], laidByText := true, laidKinds := [.data, .data, .data, .data, .sentinel, .sentinel, .pinned], laidTests := true, laidLooks := .later }
def WaysFoundCardSaid : Prop := Claim7.holds Tryz.pinned (.plain (OpenSpec.ofChange waysFoundSpec)) waysFoundCard

/-- THE SECOND FORM's CARD OF 'fleetlaw2.DevicesStand'. -/
def devicesStandUptoCard : Claim7 := { stood := { row := devicesStandUptoRow, standIns := [], harness := (true, "e831886aad62422d38dd488ded2f2fadee4ba40d04d4f0e8858367b9cced87b8"), looks := true }, kinds := [], alts := [], laidByText := true, laidKinds := [.data, .data, .data, .data, .sentinel, .sentinel, .pinned], laidTests := true, laidLooks := .later }
def DevicesStandUptoCardSaid : Prop := Claim7.holds Tryz.pinned (.plain (OpenSpec.upto devicesStandSpec)) devicesStandUptoCard

/-- THE SECOND FORM's CARD OF 'fleetlaw1.RulesFire'. -/
def rulesFireUptoCard : Claim7 := { stood := { row := rulesFireUptoRow, standIns := [], harness := (true, "e831886aad62422d38dd488ded2f2fadee4ba40d04d4f0e8858367b9cced87b8"), looks := true }, kinds := [], alts := [], laidByText := true, laidKinds := [.data, .pinned], laidTests := true, laidLooks := .later }
def RulesFireUptoCardSaid : Prop := Claim7.holds Tryz.pinned (.plain (OpenSpec.upto rulesFireSpec)) rulesFireUptoCard

/-- THE SECOND FORM's CARD OF 'fleetlaw2.WaysFound'. -/
def waysFoundUptoCard : Claim7 := { stood := { row := waysFoundUptoRow, standIns := [], harness := (true, "e831886aad62422d38dd488ded2f2fadee4ba40d04d4f0e8858367b9cced87b8"), looks := true }, kinds := [], alts := [], laidByText := true, laidKinds := [.data, .data, .data, .data, .sentinel, .sentinel, .pinned], laidTests := true, laidLooks := .later }
def WaysFoundUptoCardSaid : Prop := Claim7.holds Tryz.pinned (.plain (OpenSpec.upto waysFoundSpec)) waysFoundUptoCard
end Rows
end Go.Proofs.YtjelgjkccklfaaaGreatDoor
