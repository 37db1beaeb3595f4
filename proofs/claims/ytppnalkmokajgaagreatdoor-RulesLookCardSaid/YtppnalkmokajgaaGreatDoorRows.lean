/-
  NARROWER THAN 'FOR EVERY INPUT', by the rows' own cells (each row's printed sentence says how): RulesFire: laid · RulesTuned: laid · RulesLook: laid · RulesCompared: laid · WatchersTell: laid.
  DERIVED. THE GIVEN ROWS OF THIS SEAT. 5 by the template 'for every input the law returns true; each argument reads behind the call as it read before'; 0 by the template 'total and deterministic' (their statements: YtppnalkmokajgaaGreatDoorTotals.lean).
  GIVEN WITH THE SEED: the statements are not yours to turn. If you find one false, say at which input.
  Laid BY PROGRAM, IN A SANDBOX (cutbox-rows.mjs): the forced cells as the released guide's own fill.sh prints them over the translation a290807da6035c60… (all of the seat's roots in one cut). By AI agents, Wed Nov 11 2026. No macro, syntax, notation, axiom, sorry.
-/
import Derived.Test.YtppnalkmokajgaaGreatDoorChecked
import GoSem.PinnedTables
import GoSem.Claim
import GoSem.ClaimJoined
import GoSem.ClaimMapViews
import Derived.JoinedTies
import Derived.KernelRfl
namespace Go.Proofs.YtppnalkmokajgaaGreatDoor
/- THE CELL 'sum', in the pinned program and in every row, IS THE sha256 OF THE DUMP (.gsa) THAT YtppnalkmokajgaaGreatDoorProg.lean LOADS. Nothing in Lean hashes anything: it is a label: what it is worth is what the hold of that sum in a sandbox is worth. -/
noncomputable def Tryz.pinned : Pinned := { name := "ytppnalkmokajgaagreatdoor", sum := "a290807da6035c604ff224f7b158e1842846cb6480e7f60deb8ed20e41d37cbb", checked := Tryz.checked }
namespace Rows
def none {H : Type} : Left H := { results := [], args := [] }

/- WHAT THE LISTED PACKAGE-LEVEL VARIABLES READ AS WHEN THE CALL BEGINS. Each datum BY PROGRAM (the guide's laid-datum.mjs) off the statement by which the dump's own 'gosem.cut.vars' lays the variable. In a bare row this is a premise. The card (YtppnalkmokajgaaGreatDoorCards.lean) ties it to the program's text. -/
def laid_unicode_utf8_acceptRanges {H : Type} : DataW H := .agg [.agg [.lit (.int .u8 128), .lit (.int .u8 191)], .agg [.lit (.int .u8 160), .lit (.int .u8 191)], .agg [.lit (.int .u8 128), .lit (.int .u8 159)], .agg [.lit (.int .u8 144), .lit (.int .u8 191)], .agg [.lit (.int .u8 128), .lit (.int .u8 143)], .agg [.lit (.int .u8 0), .lit (.int .u8 0)], .agg [.lit (.int .u8 0), .lit (.int .u8 0)], .agg [.lit (.int .u8 0), .lit (.int .u8 0)], .agg [.lit (.int .u8 0), .lit (.int .u8 0)], .agg [.lit (.int .u8 0), .lit (.int .u8 0)], .agg [.lit (.int .u8 0), .lit (.int .u8 0)], .agg [.lit (.int .u8 0), .lit (.int .u8 0)], .agg [.lit (.int .u8 0), .lit (.int .u8 0)], .agg [.lit (.int .u8 0), .lit (.int .u8 0)], .agg [.lit (.int .u8 0), .lit (.int .u8 0)], .agg [.lit (.int .u8 0), .lit (.int .u8 0)]]
/-- One of Go's own tables, pinned by name: the form's constant. -/
def laid_unicode_utf8_first : DataW Unit := Go.Pinned.utf8First

/-- 'fleetlaw1.RulesFire': WHATEVER THE INPUT: true; the input reads as it did. -/
def rulesFireSpec : ChangeSpec := { name := "rulesFire", fn := fun _ => fun
  | [d] => { results := [.lit (.bool true)], args := [d] }
  | _ => none }
def rulesFireRow : OpenClaim := { program := "ytppnalkmokajgaagreatdoor", sum := "a290807da6035c604ff224f7b158e1842846cb6480e7f60deb8ed20e41d37cbb", func := "beaconfleet/fleetlaw1.RulesFire", spec := "rulesFire", inPlace := ["internal/bytealg.abigen_runtime_cmpstring", "internal/bytealg.IndexByteString", "internal/bytealg.IndexString"], unfollowed := true, recurses := true, named := ["unicode/utf8.first", "unicode/utf8.acceptRanges", "internal/bytealg.MaxLen"], apart := false, laid := [("unicode/utf8.acceptRanges", laid_unicode_utf8_acceptRanges), ("unicode/utf8.first", laid_unicode_utf8_first)] }
def RulesFireSaid : Prop := rulesFireRow.holds Tryz.pinned (OpenSpec.ofChange rulesFireSpec)

/-- ITS FALSE NEIGHBOUR: 'it returns false'. Refute it at one input. -/
def rulesFireWrong : ChangeSpec := { name := "rulesFire", fn := fun _ => fun
  | [d] => { results := [.lit (.bool false)], args := [d] }
  | _ => none }
def RulesFireWrongFalsely : Prop := rulesFireRow.holds Tryz.pinned (OpenSpec.ofChange rulesFireWrong)

/-- 'fleetlaw1.RulesTuned': WHATEVER THE INPUT: true; the input reads as it did. -/
def rulesTunedSpec : ChangeSpec := { name := "rulesTuned", fn := fun _ => fun
  | [d] => { results := [.lit (.bool true)], args := [d] }
  | _ => none }
def rulesTunedRow : OpenClaim := { program := "ytppnalkmokajgaagreatdoor", sum := "a290807da6035c604ff224f7b158e1842846cb6480e7f60deb8ed20e41d37cbb", func := "beaconfleet/fleetlaw1.RulesTuned", spec := "rulesTuned", inPlace := ["internal/bytealg.abigen_runtime_cmpstring", "internal/bytealg.IndexByteString", "internal/bytealg.IndexString"], unfollowed := true, recurses := true, named := ["unicode/utf8.first", "unicode/utf8.acceptRanges", "internal/bytealg.MaxLen"], apart := false, laid := [("unicode/utf8.acceptRanges", laid_unicode_utf8_acceptRanges), ("unicode/utf8.first", laid_unicode_utf8_first)] }
def RulesTunedSaid : Prop := rulesTunedRow.holds Tryz.pinned (OpenSpec.ofChange rulesTunedSpec)

/-- ITS FALSE NEIGHBOUR: 'it returns false'. Refute it at one input. -/
def rulesTunedWrong : ChangeSpec := { name := "rulesTuned", fn := fun _ => fun
  | [d] => { results := [.lit (.bool false)], args := [d] }
  | _ => none }
def RulesTunedWrongFalsely : Prop := rulesTunedRow.holds Tryz.pinned (OpenSpec.ofChange rulesTunedWrong)

/-- 'fleetlaw1.RulesLook': WHATEVER THE INPUT: true; the input reads as it did. -/
def rulesLookSpec : ChangeSpec := { name := "rulesLook", fn := fun _ => fun
  | [d] => { results := [.lit (.bool true)], args := [d] }
  | _ => none }
def rulesLookRow : OpenClaim := { program := "ytppnalkmokajgaagreatdoor", sum := "a290807da6035c604ff224f7b158e1842846cb6480e7f60deb8ed20e41d37cbb", func := "beaconfleet/fleetlaw1.RulesLook", spec := "rulesLook", inPlace := ["internal/bytealg.abigen_runtime_cmpstring", "internal/bytealg.IndexByteString", "internal/bytealg.IndexString"], unfollowed := true, recurses := true, named := ["unicode/utf8.first", "unicode/utf8.acceptRanges", "internal/bytealg.MaxLen"], apart := false, laid := [("unicode/utf8.acceptRanges", laid_unicode_utf8_acceptRanges), ("unicode/utf8.first", laid_unicode_utf8_first)] }
def RulesLookSaid : Prop := rulesLookRow.holds Tryz.pinned (OpenSpec.ofChange rulesLookSpec)

/-- ITS FALSE NEIGHBOUR: 'it returns false'. Refute it at one input. -/
def rulesLookWrong : ChangeSpec := { name := "rulesLook", fn := fun _ => fun
  | [d] => { results := [.lit (.bool false)], args := [d] }
  | _ => none }
def RulesLookWrongFalsely : Prop := rulesLookRow.holds Tryz.pinned (OpenSpec.ofChange rulesLookWrong)

/-- 'fleetlaw1.RulesCompared': WHATEVER THE INPUT: true; the input reads as it did. -/
def rulesComparedSpec : ChangeSpec := { name := "rulesCompared", fn := fun _ => fun
  | [d] => { results := [.lit (.bool true)], args := [d] }
  | _ => none }
def rulesComparedRow : OpenClaim := { program := "ytppnalkmokajgaagreatdoor", sum := "a290807da6035c604ff224f7b158e1842846cb6480e7f60deb8ed20e41d37cbb", func := "beaconfleet/fleetlaw1.RulesCompared", spec := "rulesCompared", inPlace := ["internal/bytealg.IndexByteString", "internal/bytealg.IndexString", "internal/bytealg.abigen_runtime_cmpstring"], unfollowed := true, recurses := true, named := ["unicode/utf8.first", "unicode/utf8.acceptRanges", "internal/bytealg.MaxLen"], apart := false, laid := [("unicode/utf8.acceptRanges", laid_unicode_utf8_acceptRanges), ("unicode/utf8.first", laid_unicode_utf8_first)] }
def RulesComparedSaid : Prop := rulesComparedRow.holds Tryz.pinned (OpenSpec.ofChange rulesComparedSpec)

/-- ITS FALSE NEIGHBOUR: 'it returns false'. Refute it at one input. -/
def rulesComparedWrong : ChangeSpec := { name := "rulesCompared", fn := fun _ => fun
  | [d] => { results := [.lit (.bool false)], args := [d] }
  | _ => none }
def RulesComparedWrongFalsely : Prop := rulesComparedRow.holds Tryz.pinned (OpenSpec.ofChange rulesComparedWrong)

/-- 'fleetlaw1.WatchersTell': WHATEVER THE INPUT: true; the input reads as it did. -/
def watchersTellSpec : ChangeSpec := { name := "watchersTell", fn := fun _ => fun
  | [d] => { results := [.lit (.bool true)], args := [d] }
  | _ => none }
def watchersTellRow : OpenClaim := { program := "ytppnalkmokajgaagreatdoor", sum := "a290807da6035c604ff224f7b158e1842846cb6480e7f60deb8ed20e41d37cbb", func := "beaconfleet/fleetlaw1.WatchersTell", spec := "watchersTell", inPlace := ["internal/bytealg.IndexByteString", "internal/bytealg.IndexString", "internal/bytealg.abigen_runtime_cmpstring"], unfollowed := true, recurses := true, named := ["unicode/utf8.first", "unicode/utf8.acceptRanges", "internal/bytealg.MaxLen"], apart := false, laid := [("unicode/utf8.acceptRanges", laid_unicode_utf8_acceptRanges), ("unicode/utf8.first", laid_unicode_utf8_first)] }
def WatchersTellSaid : Prop := watchersTellRow.holds Tryz.pinned (OpenSpec.ofChange watchersTellSpec)

/-- ITS FALSE NEIGHBOUR: 'it returns false'. Refute it at one input. -/
def watchersTellWrong : ChangeSpec := { name := "watchersTell", fn := fun _ => fun
  | [d] => { results := [.lit (.bool false)], args := [d] }
  | _ => none }
def WatchersTellWrongFalsely : Prop := watchersTellRow.holds Tryz.pinned (OpenSpec.ofChange watchersTellWrong)

/- THE SECOND FORM. 'bulk': how many values and letters a reading holds, each counted each time it is reached (what is shared counts as often as it is met; a slice's spare places count too). A statement '..UptoSaid' is the law's where the arguments, and the package variables that the reading takes, are together of bulk at most 1048576: NARROWER than '..Said'. Prove '..Said' where nothing that the law and all that it calls make is longer than what came in: it says more and counts as full. Else prove '..UptoSaid'. A law counts once. -/
mutual
def uptoBulk {H : Type} : DataW H → Nat
  | .lit (.string bytes) => bytes.length + 1
  | .lit _ => 1
  | .nil => 1
  | .ptr d => uptoBulk d + 1
  | .slice elems spare => uptoBulkAll elems + uptoBulkAll spare + 1
  | .agg parts => uptoBulkAll parts + 1
  | .iface _ d => uptoBulk d + 1
  | .map entries => uptoBulkEntries entries + 1
  | .held _ => 1
def uptoBulkAll {H : Type} : List (DataW H) → Nat
  | [] => 0
  | d :: r => uptoBulk d + uptoBulkAll r
def uptoBulkEntries {H : Type} : List (Lit × DataW H) → Nat
  | [] => 0
  | x :: r => uptoBulkEntry x + uptoBulkEntries r
def uptoBulkEntry {H : Type} : Lit × DataW H → Nat
  | (.string bytes, d) => bytes.length + uptoBulk d + 1
  | (_, d) => uptoBulk d + 1
 end
def uptoSmall : (H : Type) → List (DataW H) → Bool := fun _ ds => decide (uptoBulkAll ds ≤ 1048576)
def OpenSpec.upto (s : _root_.Go.ChangeSpec) : _root_.Go.OpenSpec := { _root_.Go.OpenSpec.ofChange s with cond := some uptoSmall }

/-- 'fleetlaw1.RulesFire', WHERE WHAT IT READS IS OF BULK AT MOST 1048576: true; the input reads as it did. -/
def rulesFireUptoRow : OpenClaim := { program := "ytppnalkmokajgaagreatdoor", sum := "a290807da6035c604ff224f7b158e1842846cb6480e7f60deb8ed20e41d37cbb", func := "beaconfleet/fleetlaw1.RulesFire", spec := "rulesFire", inPlace := ["internal/bytealg.abigen_runtime_cmpstring", "internal/bytealg.IndexByteString", "internal/bytealg.IndexString"], unfollowed := true, recurses := true, named := ["unicode/utf8.first", "unicode/utf8.acceptRanges", "internal/bytealg.MaxLen"], apart := false, laid := [("unicode/utf8.acceptRanges", laid_unicode_utf8_acceptRanges), ("unicode/utf8.first", laid_unicode_utf8_first)], narrowed := true }
def RulesFireUptoSaid : Prop := rulesFireUptoRow.holds Tryz.pinned (OpenSpec.upto rulesFireSpec)

/-- 'fleetlaw1.RulesTuned', WHERE WHAT IT READS IS OF BULK AT MOST 1048576: true; the input reads as it did. -/
def rulesTunedUptoRow : OpenClaim := { program := "ytppnalkmokajgaagreatdoor", sum := "a290807da6035c604ff224f7b158e1842846cb6480e7f60deb8ed20e41d37cbb", func := "beaconfleet/fleetlaw1.RulesTuned", spec := "rulesTuned", inPlace := ["internal/bytealg.abigen_runtime_cmpstring", "internal/bytealg.IndexByteString", "internal/bytealg.IndexString"], unfollowed := true, recurses := true, named := ["unicode/utf8.first", "unicode/utf8.acceptRanges", "internal/bytealg.MaxLen"], apart := false, laid := [("unicode/utf8.acceptRanges", laid_unicode_utf8_acceptRanges), ("unicode/utf8.first", laid_unicode_utf8_first)], narrowed := true }
def RulesTunedUptoSaid : Prop := rulesTunedUptoRow.holds Tryz.pinned (OpenSpec.upto rulesTunedSpec)

/-- 'fleetlaw1.RulesLook', WHERE WHAT IT READS IS OF BULK AT MOST 1048576: true; the input reads as it did. -/
def rulesLookUptoRow : OpenClaim := { program := "ytppnalkmokajgaagreatdoor", sum := "a290807da6035c604ff224f7b158e1842846cb6480e7f60deb8ed20e41d37cbb", func := "beaconfleet/fleetlaw1.RulesLook", spec := "rulesLook", inPlace := ["internal/bytealg.abigen_runtime_cmpstring", "internal/bytealg.IndexByteString", "internal/bytealg.IndexString"], unfollowed := true, recurses := true, named := ["unicode/utf8.first", "unicode/utf8.acceptRanges", "internal/bytealg.MaxLen"], apart := false, laid := [("unicode/utf8.acceptRanges", laid_unicode_utf8_acceptRanges), ("unicode/utf8.first", laid_unicode_utf8_first)], narrowed := true }
def RulesLookUptoSaid : Prop := rulesLookUptoRow.holds Tryz.pinned (OpenSpec.upto rulesLookSpec)

/-- 'fleetlaw1.RulesCompared', WHERE WHAT IT READS IS OF BULK AT MOST 1048576: true; the input reads as it did. -/
def rulesComparedUptoRow : OpenClaim := { program := "ytppnalkmokajgaagreatdoor", sum := "a290807da6035c604ff224f7b158e1842846cb6480e7f60deb8ed20e41d37cbb", func := "beaconfleet/fleetlaw1.RulesCompared", spec := "rulesCompared", inPlace := ["internal/bytealg.IndexByteString", "internal/bytealg.IndexString", "internal/bytealg.abigen_runtime_cmpstring"], unfollowed := true, recurses := true, named := ["unicode/utf8.first", "unicode/utf8.acceptRanges", "internal/bytealg.MaxLen"], apart := false, laid := [("unicode/utf8.acceptRanges", laid_unicode_utf8_acceptRanges), ("unicode/utf8.first", laid_unicode_utf8_first)], narrowed := true }
def RulesComparedUptoSaid : Prop := rulesComparedUptoRow.holds Tryz.pinned (OpenSpec.upto rulesComparedSpec)

/-- 'fleetlaw1.WatchersTell', WHERE WHAT IT READS IS OF BULK AT MOST 1048576: true; the input reads as it did. -/
def watchersTellUptoRow : OpenClaim := { program := "ytppnalkmokajgaagreatdoor", sum := "a290807da6035c604ff224f7b158e1842846cb6480e7f60deb8ed20e41d37cbb", func := "beaconfleet/fleetlaw1.WatchersTell", spec := "watchersTell", inPlace := ["internal/bytealg.IndexByteString", "internal/bytealg.IndexString", "internal/bytealg.abigen_runtime_cmpstring"], unfollowed := true, recurses := true, named := ["unicode/utf8.first", "unicode/utf8.acceptRanges", "internal/bytealg.MaxLen"], apart := false, laid := [("unicode/utf8.acceptRanges", laid_unicode_utf8_acceptRanges), ("unicode/utf8.first", laid_unicode_utf8_first)], narrowed := true }
def WatchersTellUptoSaid : Prop := watchersTellUptoRow.holds Tryz.pinned (OpenSpec.upto watchersTellSpec)

end Rows
end Go.Proofs.YtppnalkmokajgaaGreatDoor
