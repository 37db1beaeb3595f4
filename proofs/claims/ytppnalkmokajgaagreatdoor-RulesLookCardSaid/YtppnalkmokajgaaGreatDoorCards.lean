/-
  DERIVED. GIVEN WITH THE SEED: THE CARDS: each row of YtppnalkmokajgaaGreatDoorRows.lean that lists a variable, with what it lists TIED to the program's text (the seventh form; the later family's looks); each row that meets fmt, with fmt's text TOLD by the authors' own Lean function (tested against real Go, not proved from fmt's source: count such statements apart). THE CARD IS WHAT COUNTS. Prove the row's statement (the work); the ties are given (YtppnalkmokajgaaGreatDoorTie.lean); close each card by the builder's one call (the guide's Derived/Test/ToyasCard.lean, 'card_holds'). Laid BY PROGRAM, IN A SANDBOX (cutbox-door.mjs). By AI agents, Wed Nov 11 2026. No macro, syntax, notation, axiom, sorry.
-/
import Derived.Test.YtppnalkmokajgaaGreatDoorRows
import GoSem.ClaimSeven
namespace Go.Proofs.YtppnalkmokajgaaGreatDoor
namespace Rows

/-- THE TIED CARD OF 'fleetlaw1.RulesFire'. -/
def rulesFireCard : Claim7 := { stood := { row := rulesFireRow, standIns := [], harness := (true, "143985ed6adf22817d84ead02df2de0c37d9ea036da2f5f65a4a8f15b91618e1"), looks := true }, kinds := [], alts := [], laidByText := true, laidKinds := [.data, .pinned], laidTests := true, laidLooks := .later }
def RulesFireCardSaid : Prop := Claim7.holds Tryz.pinned (.plain (OpenSpec.ofChange rulesFireSpec)) rulesFireCard

/-- THE TIED CARD OF 'fleetlaw1.RulesTuned'. -/
def rulesTunedCard : Claim7 := { stood := { row := rulesTunedRow, standIns := [], harness := (true, "143985ed6adf22817d84ead02df2de0c37d9ea036da2f5f65a4a8f15b91618e1"), looks := true }, kinds := [], alts := [], laidByText := true, laidKinds := [.data, .pinned], laidTests := true, laidLooks := .later }
def RulesTunedCardSaid : Prop := Claim7.holds Tryz.pinned (.plain (OpenSpec.ofChange rulesTunedSpec)) rulesTunedCard

/-- THE TIED CARD OF 'fleetlaw1.RulesLook'. -/
def rulesLookCard : Claim7 := { stood := { row := rulesLookRow, standIns := [], harness := (true, "143985ed6adf22817d84ead02df2de0c37d9ea036da2f5f65a4a8f15b91618e1"), looks := true }, kinds := [], alts := [], laidByText := true, laidKinds := [.data, .pinned], laidTests := true, laidLooks := .later }
def RulesLookCardSaid : Prop := Claim7.holds Tryz.pinned (.plain (OpenSpec.ofChange rulesLookSpec)) rulesLookCard

/-- THE TIED CARD OF 'fleetlaw1.RulesCompared'. -/
def rulesComparedCard : Claim7 := { stood := { row := rulesComparedRow, standIns := [], harness := (true, "143985ed6adf22817d84ead02df2de0c37d9ea036da2f5f65a4a8f15b91618e1"), looks := true }, kinds := [], alts := [], laidByText := true, laidKinds := [.data, .pinned], laidTests := true, laidLooks := .later }
def RulesComparedCardSaid : Prop := Claim7.holds Tryz.pinned (.plain (OpenSpec.ofChange rulesComparedSpec)) rulesComparedCard

/-- THE TIED CARD OF 'fleetlaw1.WatchersTell'. -/
def watchersTellCard : Claim7 := { stood := { row := watchersTellRow, standIns := [], harness := (true, "143985ed6adf22817d84ead02df2de0c37d9ea036da2f5f65a4a8f15b91618e1"), looks := true }, kinds := [], alts := [], laidByText := true, laidKinds := [.data, .pinned], laidTests := true, laidLooks := .later }
def WatchersTellCardSaid : Prop := Claim7.holds Tryz.pinned (.plain (OpenSpec.ofChange watchersTellSpec)) watchersTellCard

/-- THE SECOND FORM's CARD OF 'fleetlaw1.RulesFire'. -/
def rulesFireUptoCard : Claim7 := { stood := { row := rulesFireUptoRow, standIns := [], harness := (true, "143985ed6adf22817d84ead02df2de0c37d9ea036da2f5f65a4a8f15b91618e1"), looks := true }, kinds := [], alts := [], laidByText := true, laidKinds := [.data, .pinned], laidTests := true, laidLooks := .later }
def RulesFireUptoCardSaid : Prop := Claim7.holds Tryz.pinned (.plain (OpenSpec.upto rulesFireSpec)) rulesFireUptoCard

/-- THE SECOND FORM's CARD OF 'fleetlaw1.RulesTuned'. -/
def rulesTunedUptoCard : Claim7 := { stood := { row := rulesTunedUptoRow, standIns := [], harness := (true, "143985ed6adf22817d84ead02df2de0c37d9ea036da2f5f65a4a8f15b91618e1"), looks := true }, kinds := [], alts := [], laidByText := true, laidKinds := [.data, .pinned], laidTests := true, laidLooks := .later }
def RulesTunedUptoCardSaid : Prop := Claim7.holds Tryz.pinned (.plain (OpenSpec.upto rulesTunedSpec)) rulesTunedUptoCard

/-- THE SECOND FORM's CARD OF 'fleetlaw1.RulesLook'. -/
def rulesLookUptoCard : Claim7 := { stood := { row := rulesLookUptoRow, standIns := [], harness := (true, "143985ed6adf22817d84ead02df2de0c37d9ea036da2f5f65a4a8f15b91618e1"), looks := true }, kinds := [], alts := [], laidByText := true, laidKinds := [.data, .pinned], laidTests := true, laidLooks := .later }
def RulesLookUptoCardSaid : Prop := Claim7.holds Tryz.pinned (.plain (OpenSpec.upto rulesLookSpec)) rulesLookUptoCard

/-- THE SECOND FORM's CARD OF 'fleetlaw1.RulesCompared'. -/
def rulesComparedUptoCard : Claim7 := { stood := { row := rulesComparedUptoRow, standIns := [], harness := (true, "143985ed6adf22817d84ead02df2de0c37d9ea036da2f5f65a4a8f15b91618e1"), looks := true }, kinds := [], alts := [], laidByText := true, laidKinds := [.data, .pinned], laidTests := true, laidLooks := .later }
def RulesComparedUptoCardSaid : Prop := Claim7.holds Tryz.pinned (.plain (OpenSpec.upto rulesComparedSpec)) rulesComparedUptoCard

/-- THE SECOND FORM's CARD OF 'fleetlaw1.WatchersTell'. -/
def watchersTellUptoCard : Claim7 := { stood := { row := watchersTellUptoRow, standIns := [], harness := (true, "143985ed6adf22817d84ead02df2de0c37d9ea036da2f5f65a4a8f15b91618e1"), looks := true }, kinds := [], alts := [], laidByText := true, laidKinds := [.data, .pinned], laidTests := true, laidLooks := .later }
def WatchersTellUptoCardSaid : Prop := Claim7.holds Tryz.pinned (.plain (OpenSpec.upto watchersTellSpec)) watchersTellUptoCard
end Rows
end Go.Proofs.YtppnalkmokajgaaGreatDoor
