/-
  DERIVED. GIVEN WITH THE SEED: THE CARDS: each row of YtkggljololbmiaaGreatDoorRows.lean that lists a variable, with what it lists TIED to the program's text (the seventh form; the later family's looks); each row that meets fmt, with fmt's text TOLD by the authors' own Lean function (tested against real Go, not proved from fmt's source: count such statements apart). THE CARD IS WHAT COUNTS. Prove the row's statement (the work); the ties are given (YtkggljololbmiaaGreatDoorTie.lean); close each card by the builder's one call (the guide's Derived/Test/ToyasCard.lean, 'card_holds'). Laid BY PROGRAM, IN A SANDBOX (cutbox-door.mjs). By AI agents, Wed Nov 11 2026. No macro, syntax, notation, axiom, sorry.
-/
import Derived.Test.YtkggljololbmiaaGreatDoorRows
import GoSem.ClaimSeven
namespace Go.Proofs.YtkggljololbmiaaGreatDoor
namespace Rows

/-- THE TIED CARD OF 'fleetlaw1.SerialsRead'. -/
def serialsReadCard : Claim7 := { stood := { row := serialsReadRow, standIns := [], harness := (true, "0d956989a708158c9b73490ce30f6333c19eebcd7c7da7315d5fdfed7ce754ba"), looks := true }, kinds := [], alts := [], laidByText := true, laidKinds := [.data, .data, .data, .data, .sentinel, .sentinel, .pinned, .pinned], laidTests := true, laidLooks := .later }
def SerialsReadCardSaid : Prop := Claim7.holds Tryz.pinned (.plain (OpenSpec.ofChange serialsReadSpec)) serialsReadCard

/-- THE TIED CARD OF 'fleetlaw1.RulesCompared'. -/
def rulesComparedCard : Claim7 := { stood := { row := rulesComparedRow, standIns := [], harness := (true, "0d956989a708158c9b73490ce30f6333c19eebcd7c7da7315d5fdfed7ce754ba"), looks := true }, kinds := [], alts := [], laidByText := true, laidKinds := [.data, .pinned], laidTests := true, laidLooks := .later }
def RulesComparedCardSaid : Prop := Claim7.holds Tryz.pinned (.plain (OpenSpec.ofChange rulesComparedSpec)) rulesComparedCard

/-- THE TIED CARD OF 'fleetlaw1.RuleTexts'. -/
def ruleTextsCard : Claim7 := { stood := { row := ruleTextsRow, standIns := [], harness := (true, "0d956989a708158c9b73490ce30f6333c19eebcd7c7da7315d5fdfed7ce754ba"), looks := true }, kinds := [], alts := [], laidByText := true, laidKinds := [.data, .data, .data, .data, .sentinel, .sentinel, .pinned], laidTests := true, laidLooks := .later }
def RuleTextsCardSaid : Prop := Claim7.holds Tryz.pinned (.plain (OpenSpec.ofChange ruleTextsSpec)) ruleTextsCard

/-- THE SECOND FORM's CARD OF 'fleetlaw1.SerialsRead'. -/
def serialsReadUptoCard : Claim7 := { stood := { row := serialsReadUptoRow, standIns := [], harness := (true, "0d956989a708158c9b73490ce30f6333c19eebcd7c7da7315d5fdfed7ce754ba"), looks := true }, kinds := [], alts := [], laidByText := true, laidKinds := [.data, .data, .data, .data, .sentinel, .sentinel, .pinned, .pinned], laidTests := true, laidLooks := .later }
def SerialsReadUptoCardSaid : Prop := Claim7.holds Tryz.pinned (.plain (OpenSpec.upto serialsReadSpec)) serialsReadUptoCard

/-- THE SECOND FORM's CARD OF 'fleetlaw1.RulesCompared'. -/
def rulesComparedUptoCard : Claim7 := { stood := { row := rulesComparedUptoRow, standIns := [], harness := (true, "0d956989a708158c9b73490ce30f6333c19eebcd7c7da7315d5fdfed7ce754ba"), looks := true }, kinds := [], alts := [], laidByText := true, laidKinds := [.data, .pinned], laidTests := true, laidLooks := .later }
def RulesComparedUptoCardSaid : Prop := Claim7.holds Tryz.pinned (.plain (OpenSpec.upto rulesComparedSpec)) rulesComparedUptoCard

/-- THE SECOND FORM's CARD OF 'fleetlaw1.RuleTexts'. -/
def ruleTextsUptoCard : Claim7 := { stood := { row := ruleTextsUptoRow, standIns := [], harness := (true, "0d956989a708158c9b73490ce30f6333c19eebcd7c7da7315d5fdfed7ce754ba"), looks := true }, kinds := [], alts := [], laidByText := true, laidKinds := [.data, .data, .data, .data, .sentinel, .sentinel, .pinned], laidTests := true, laidLooks := .later }
def RuleTextsUptoCardSaid : Prop := Claim7.holds Tryz.pinned (.plain (OpenSpec.upto ruleTextsSpec)) ruleTextsUptoCard
end Rows
end Go.Proofs.YtkggljololbmiaaGreatDoor
