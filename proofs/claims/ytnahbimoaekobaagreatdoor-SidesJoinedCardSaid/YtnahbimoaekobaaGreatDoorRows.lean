/-
  NARROWER THAN 'FOR EVERY INPUT', by the rows' own cells (each row's printed sentence says how): SidesJoined: laid · PropsTell: laid · ChangesMade: laid · CellsSeen: laid.
  DERIVED. THE GIVEN ROWS OF THIS SEAT. 4 by the template 'for every input the law returns true; each argument reads behind the call as it read before'; 0 by the template 'total and deterministic' (their statements: YtnahbimoaekobaaGreatDoorTotals.lean).
  GIVEN WITH THE SEED: the statements are not yours to turn. If you find one false, say at which input.
  Laid BY PROGRAM, IN A SANDBOX (cutbox-rows.mjs): the forced cells as the released guide's own fill.sh prints them over the translation 3907a4115d0c5567… (all of the seat's roots in one cut). By AI agents, Wed Nov 11 2026. No macro, syntax, notation, axiom, sorry.
-/
import Derived.Test.YtnahbimoaekobaaGreatDoorChecked
import GoSem.PinnedTables
import GoSem.Claim
import GoSem.ClaimJoined
import GoSem.ClaimMapViews
import Derived.JoinedTies
import Derived.KernelRfl
namespace Go.Proofs.YtnahbimoaekobaaGreatDoor
/- THE CELL 'sum', in the pinned program and in every row, IS THE sha256 OF THE DUMP (.gsa) THAT YtnahbimoaekobaaGreatDoorProg.lean LOADS. Nothing in Lean hashes anything: it is a label: what it is worth is what the hold of that sum in a sandbox is worth. -/
noncomputable def Tryz.pinned : Pinned := { name := "ytnahbimoaekobaagreatdoor", sum := "3907a4115d0c5567fdf989ca0f3e05caf18d83e6d2cf5436df2fb132bb9874b6", checked := Tryz.checked }
namespace Rows
def none {H : Type} : Left H := { results := [], args := [] }

/- WHAT THE LISTED PACKAGE-LEVEL VARIABLES READ AS WHEN THE CALL BEGINS. Each datum BY PROGRAM (the guide's laid-datum.mjs) off the statement by which the dump's own 'gosem.cut.vars' lays the variable. In a bare row this is a premise. The card (YtnahbimoaekobaaGreatDoorCards.lean) ties it to the program's text. -/
def laid_unicode_utf8_acceptRanges {H : Type} : DataW H := .agg [.agg [.lit (.int .u8 128), .lit (.int .u8 191)], .agg [.lit (.int .u8 160), .lit (.int .u8 191)], .agg [.lit (.int .u8 128), .lit (.int .u8 159)], .agg [.lit (.int .u8 144), .lit (.int .u8 191)], .agg [.lit (.int .u8 128), .lit (.int .u8 143)], .agg [.lit (.int .u8 0), .lit (.int .u8 0)], .agg [.lit (.int .u8 0), .lit (.int .u8 0)], .agg [.lit (.int .u8 0), .lit (.int .u8 0)], .agg [.lit (.int .u8 0), .lit (.int .u8 0)], .agg [.lit (.int .u8 0), .lit (.int .u8 0)], .agg [.lit (.int .u8 0), .lit (.int .u8 0)], .agg [.lit (.int .u8 0), .lit (.int .u8 0)], .agg [.lit (.int .u8 0), .lit (.int .u8 0)], .agg [.lit (.int .u8 0), .lit (.int .u8 0)], .agg [.lit (.int .u8 0), .lit (.int .u8 0)], .agg [.lit (.int .u8 0), .lit (.int .u8 0)]]
/-- One of Go's own tables, pinned by name: the form's constant. -/
def laid_unicode_utf8_first : DataW Unit := Go.Pinned.utf8First

/-- 'fleetlaw2.SidesJoined': WHATEVER THE INPUT: true; the input reads as it did. -/
def sidesJoinedSpec : ChangeSpec := { name := "sidesJoined", fn := fun _ => fun
  | [d] => { results := [.lit (.bool true)], args := [d] }
  | _ => none }
def sidesJoinedRow : OpenClaim := { program := "ytnahbimoaekobaagreatdoor", sum := "3907a4115d0c5567fdf989ca0f3e05caf18d83e6d2cf5436df2fb132bb9874b6", func := "beaconfleet/fleetlaw2.SidesJoined", spec := "sidesJoined", inPlace := ["internal/bytealg.abigen_runtime_cmpstring", "internal/bytealg.CountString", "internal/bytealg.IndexByteString", "internal/bytealg.IndexString", "internal/abi.NoEscape", "internal/bytealg.MakeNoZero"], unfollowed := true, recurses := true, named := ["unicode/utf8.first", "unicode/utf8.acceptRanges", "internal/bytealg.MaxLen"], apart := false, laid := [("unicode/utf8.acceptRanges", laid_unicode_utf8_acceptRanges), ("unicode/utf8.first", laid_unicode_utf8_first)] }
def SidesJoinedSaid : Prop := sidesJoinedRow.holds Tryz.pinned (OpenSpec.ofChange sidesJoinedSpec)

/-- ITS FALSE NEIGHBOUR: 'it returns false'. Refute it at one input. -/
def sidesJoinedWrong : ChangeSpec := { name := "sidesJoined", fn := fun _ => fun
  | [d] => { results := [.lit (.bool false)], args := [d] }
  | _ => none }
def SidesJoinedWrongFalsely : Prop := sidesJoinedRow.holds Tryz.pinned (OpenSpec.ofChange sidesJoinedWrong)

/-- 'fleetlaw2.PropsTell': WHATEVER THE INPUT: true; the input reads as it did. -/
def propsTellSpec : ChangeSpec := { name := "propsTell", fn := fun _ => fun
  | [d] => { results := [.lit (.bool true)], args := [d] }
  | _ => none }
def propsTellRow : OpenClaim := { program := "ytnahbimoaekobaagreatdoor", sum := "3907a4115d0c5567fdf989ca0f3e05caf18d83e6d2cf5436df2fb132bb9874b6", func := "beaconfleet/fleetlaw2.PropsTell", spec := "propsTell", inPlace := ["internal/bytealg.abigen_runtime_cmpstring", "internal/bytealg.CountString", "internal/bytealg.IndexByteString", "internal/bytealg.IndexString", "internal/abi.NoEscape", "internal/bytealg.MakeNoZero"], unfollowed := true, recurses := true, named := ["unicode/utf8.first", "unicode/utf8.acceptRanges", "internal/bytealg.MaxLen"], apart := false, laid := [("unicode/utf8.acceptRanges", laid_unicode_utf8_acceptRanges), ("unicode/utf8.first", laid_unicode_utf8_first)] }
def PropsTellSaid : Prop := propsTellRow.holds Tryz.pinned (OpenSpec.ofChange propsTellSpec)

/-- ITS FALSE NEIGHBOUR: 'it returns false'. Refute it at one input. -/
def propsTellWrong : ChangeSpec := { name := "propsTell", fn := fun _ => fun
  | [d] => { results := [.lit (.bool false)], args := [d] }
  | _ => none }
def PropsTellWrongFalsely : Prop := propsTellRow.holds Tryz.pinned (OpenSpec.ofChange propsTellWrong)

/-- 'fleetlaw2.ChangesMade': WHATEVER THE INPUT: true; the input reads as it did. -/
def changesMadeSpec : ChangeSpec := { name := "changesMade", fn := fun _ => fun
  | [d] => { results := [.lit (.bool true)], args := [d] }
  | _ => none }
def changesMadeRow : OpenClaim := { program := "ytnahbimoaekobaagreatdoor", sum := "3907a4115d0c5567fdf989ca0f3e05caf18d83e6d2cf5436df2fb132bb9874b6", func := "beaconfleet/fleetlaw2.ChangesMade", spec := "changesMade", inPlace := ["internal/bytealg.abigen_runtime_cmpstring", "internal/bytealg.CountString", "internal/bytealg.IndexByteString", "internal/bytealg.IndexString", "internal/abi.NoEscape", "internal/bytealg.MakeNoZero"], unfollowed := true, recurses := true, named := ["unicode/utf8.first", "unicode/utf8.acceptRanges", "internal/bytealg.MaxLen"], apart := false, laid := [("unicode/utf8.acceptRanges", laid_unicode_utf8_acceptRanges), ("unicode/utf8.first", laid_unicode_utf8_first)] }
def ChangesMadeSaid : Prop := changesMadeRow.holds Tryz.pinned (OpenSpec.ofChange changesMadeSpec)

/-- ITS FALSE NEIGHBOUR: 'it returns false'. Refute it at one input. -/
def changesMadeWrong : ChangeSpec := { name := "changesMade", fn := fun _ => fun
  | [d] => { results := [.lit (.bool false)], args := [d] }
  | _ => none }
def ChangesMadeWrongFalsely : Prop := changesMadeRow.holds Tryz.pinned (OpenSpec.ofChange changesMadeWrong)

/-- 'fleetlaw2.CellsSeen': WHATEVER THE INPUT: true; the input reads as it did. -/
def cellsSeenSpec : ChangeSpec := { name := "cellsSeen", fn := fun _ => fun
  | [d] => { results := [.lit (.bool true)], args := [d] }
  | _ => none }
def cellsSeenRow : OpenClaim := { program := "ytnahbimoaekobaagreatdoor", sum := "3907a4115d0c5567fdf989ca0f3e05caf18d83e6d2cf5436df2fb132bb9874b6", func := "beaconfleet/fleetlaw2.CellsSeen", spec := "cellsSeen", inPlace := ["internal/bytealg.abigen_runtime_cmpstring", "internal/abi.NoEscape", "internal/bytealg.MakeNoZero", "internal/bytealg.IndexByteString", "internal/bytealg.IndexString", "internal/bytealg.CountString"], unfollowed := true, recurses := true, named := ["internal/bytealg.MaxLen", "unicode/utf8.first", "unicode/utf8.acceptRanges"], apart := false, laid := [("unicode/utf8.acceptRanges", laid_unicode_utf8_acceptRanges), ("unicode/utf8.first", laid_unicode_utf8_first)] }
def CellsSeenSaid : Prop := cellsSeenRow.holds Tryz.pinned (OpenSpec.ofChange cellsSeenSpec)

/-- ITS FALSE NEIGHBOUR: 'it returns false'. Refute it at one input. -/
def cellsSeenWrong : ChangeSpec := { name := "cellsSeen", fn := fun _ => fun
  | [d] => { results := [.lit (.bool false)], args := [d] }
  | _ => none }
def CellsSeenWrongFalsely : Prop := cellsSeenRow.holds Tryz.pinned (OpenSpec.ofChange cellsSeenWrong)

/- THE SECOND FORM. 'bulk': how many values and letters a reading holds, each counted each time it is reached (what is shared counts as often as it is met; a slice's spare places count too). A statement '..UptoSaid' is the law's where the arguments, and the package variables that the reading takes, are together of bulk at most 1048576: NARROWER than '..Said'. Prove '..Said' where nothing that the law and all that it calls make is longer than what came in: it says more and counts as full. Else prove '..UptoSaid'. A law counts once. -/
mutual
def uptoBulk {H : Type} : DataW H → Nat
  | .lit (.string bytes) => bytes.length + 1
  | .lit _ => 1
  | .nil => 1
  | .ptr d => uptoBulk d + 1
  | .slice elems spare => uptoBulkAll elems + uptoBulkAll spare + 1
  | .agg parts => uptoBulkAll parts + 1
  | .iface _ d => uptoBulk d + 1
  | .map entries => uptoBulkEntries entries + 1
  | .held _ => 1
def uptoBulkAll {H : Type} : List (DataW H) → Nat
  | [] => 0
  | d :: r => uptoBulk d + uptoBulkAll r
def uptoBulkEntries {H : Type} : List (Lit × DataW H) → Nat
  | [] => 0
  | x :: r => uptoBulkEntry x + uptoBulkEntries r
def uptoBulkEntry {H : Type} : Lit × DataW H → Nat
  | (.string bytes, d) => bytes.length + uptoBulk d + 1
  | (_, d) => uptoBulk d + 1
 end
def uptoSmall : (H : Type) → List (DataW H) → Bool := fun _ ds => decide (uptoBulkAll ds ≤ 1048576)
def OpenSpec.upto (s : _root_.Go.ChangeSpec) : _root_.Go.OpenSpec := { _root_.Go.OpenSpec.ofChange s with cond := some uptoSmall }

/-- 'fleetlaw2.SidesJoined', WHERE WHAT IT READS IS OF BULK AT MOST 1048576: true; the input reads as it did. -/
def sidesJoinedUptoRow : OpenClaim := { program := "ytnahbimoaekobaagreatdoor", sum := "3907a4115d0c5567fdf989ca0f3e05caf18d83e6d2cf5436df2fb132bb9874b6", func := "beaconfleet/fleetlaw2.SidesJoined", spec := "sidesJoined", inPlace := ["internal/bytealg.abigen_runtime_cmpstring", "internal/bytealg.CountString", "internal/bytealg.IndexByteString", "internal/bytealg.IndexString", "internal/abi.NoEscape", "internal/bytealg.MakeNoZero"], unfollowed := true, recurses := true, named := ["unicode/utf8.first", "unicode/utf8.acceptRanges", "internal/bytealg.MaxLen"], apart := false, laid := [("unicode/utf8.acceptRanges", laid_unicode_utf8_acceptRanges), ("unicode/utf8.first", laid_unicode_utf8_first)], narrowed := true }
def SidesJoinedUptoSaid : Prop := sidesJoinedUptoRow.holds Tryz.pinned (OpenSpec.upto sidesJoinedSpec)

/-- 'fleetlaw2.PropsTell', WHERE WHAT IT READS IS OF BULK AT MOST 1048576: true; the input reads as it did. -/
def propsTellUptoRow : OpenClaim := { program := "ytnahbimoaekobaagreatdoor", sum := "3907a4115d0c5567fdf989ca0f3e05caf18d83e6d2cf5436df2fb132bb9874b6", func := "beaconfleet/fleetlaw2.PropsTell", spec := "propsTell", inPlace := ["internal/bytealg.abigen_runtime_cmpstring", "internal/bytealg.CountString", "internal/bytealg.IndexByteString", "internal/bytealg.IndexString", "internal/abi.NoEscape", "internal/bytealg.MakeNoZero"], unfollowed := true, recurses := true, named := ["unicode/utf8.first", "unicode/utf8.acceptRanges", "internal/bytealg.MaxLen"], apart := false, laid := [("unicode/utf8.acceptRanges", laid_unicode_utf8_acceptRanges), ("unicode/utf8.first", laid_unicode_utf8_first)], narrowed := true }
def PropsTellUptoSaid : Prop := propsTellUptoRow.holds Tryz.pinned (OpenSpec.upto propsTellSpec)

/-- 'fleetlaw2.ChangesMade', WHERE WHAT IT READS IS OF BULK AT MOST 1048576: true; the input reads as it did. -/
def changesMadeUptoRow : OpenClaim := { program := "ytnahbimoaekobaagreatdoor", sum := "3907a4115d0c5567fdf989ca0f3e05caf18d83e6d2cf5436df2fb132bb9874b6", func := "beaconfleet/fleetlaw2.ChangesMade", spec := "changesMade", inPlace := ["internal/bytealg.abigen_runtime_cmpstring", "internal/bytealg.CountString", "internal/bytealg.IndexByteString", "internal/bytealg.IndexString", "internal/abi.NoEscape", "internal/bytealg.MakeNoZero"], unfollowed := true, recurses := true, named := ["unicode/utf8.first", "unicode/utf8.acceptRanges", "internal/bytealg.MaxLen"], apart := false, laid := [("unicode/utf8.acceptRanges", laid_unicode_utf8_acceptRanges), ("unicode/utf8.first", laid_unicode_utf8_first)], narrowed := true }
def ChangesMadeUptoSaid : Prop := changesMadeUptoRow.holds Tryz.pinned (OpenSpec.upto changesMadeSpec)

/-- 'fleetlaw2.CellsSeen', WHERE WHAT IT READS IS OF BULK AT MOST 1048576: true; the input reads as it did. -/
def cellsSeenUptoRow : OpenClaim := { program := "ytnahbimoaekobaagreatdoor", sum := "3907a4115d0c5567fdf989ca0f3e05caf18d83e6d2cf5436df2fb132bb9874b6", func := "beaconfleet/fleetlaw2.CellsSeen", spec := "cellsSeen", inPlace := ["internal/bytealg.abigen_runtime_cmpstring", "internal/abi.NoEscape", "internal/bytealg.MakeNoZero", "internal/bytealg.IndexByteString", "internal/bytealg.IndexString", "internal/bytealg.CountString"], unfollowed := true, recurses := true, named := ["internal/bytealg.MaxLen", "unicode/utf8.first", "unicode/utf8.acceptRanges"], apart := false, laid := [("unicode/utf8.acceptRanges", laid_unicode_utf8_acceptRanges), ("unicode/utf8.first", laid_unicode_utf8_first)], narrowed := true }
def CellsSeenUptoSaid : Prop := cellsSeenUptoRow.holds Tryz.pinned (OpenSpec.upto cellsSeenSpec)

end Rows
end Go.Proofs.YtnahbimoaekobaaGreatDoor
