/-
  No cell of these rows narrows 'for every input' (looked for: loops, veiled, ifaces, maps, wideKeys, modest, calm, conditions, laid).
  DERIVED. THE GIVEN ROWS OF THIS SEAT. 8 by the template 'for every input the law returns true; each argument reads behind the call as it read before'; 0 by the template 'total and deterministic' (their statements: YtkmbppeelkbjoaaTotals.lean).
  GIVEN WITH THE SEED: the statements are not yours to turn. If you find one false, say at which input.
  Laid BY PROGRAM, IN A SANDBOX (cutbox-rows.mjs): the forced cells as the released guide's own fill.sh prints them over the translation 3cc9481ff9c9a3b8… (all of the seat's roots in one cut). By AI agents, Wed Nov 11 2026. No macro, syntax, notation, axiom, sorry.
-/
import Derived.Test.YtkmbppeelkbjoaaChecked
import GoSem.Claim
import GoSem.ClaimJoined
import GoSem.ClaimMapViews
import Derived.JoinedTies
import Derived.KernelRfl
namespace Go.Proofs.Ytkmbppeelkbjoaa
/- THE CELL 'sum', in the pinned program and in every row, IS THE sha256 OF THE DUMP (.gsa) THAT YtkmbppeelkbjoaaProg.lean LOADS. Nothing in Lean hashes anything: it is a label: what it is worth is what the hold of that sum in a sandbox is worth. -/
noncomputable def Try.pinned : Pinned := { name := "ytkmbppeelkbjoaa", sum := "3cc9481ff9c9a3b88d9917c0cedbc64158c6381bf3f646437e4054cd588cef34", checked := Try.checked }
namespace Rows
def none {H : Type} : Left H := { results := [], args := [] }

/-- 'fleetlaw2.FencesSure': WHATEVER THE INPUT: true; the input reads as it did. -/
def fencesSureSpec : ChangeSpec := { name := "fencesSure", fn := fun _ => fun
  | [d] => { results := [.lit (.bool true)], args := [d] }
  | _ => none }
def fencesSureRow : OpenClaim := { program := "ytkmbppeelkbjoaa", sum := "3cc9481ff9c9a3b88d9917c0cedbc64158c6381bf3f646437e4054cd588cef34", func := "beaconfleet/fleetlaw2.FencesSure", spec := "fencesSure", inPlace := ["internal/bytealg.abigen_runtime_cmpstring", "internal/bytealg.IndexByteString"], unfollowed := true, recurses := true, apart := false }
def FencesSureSaid : Prop := fencesSureRow.holds Try.pinned (OpenSpec.ofChange fencesSureSpec)

/-- ITS FALSE NEIGHBOUR: 'it returns false'. Refute it at one input. -/
def fencesSureWrong : ChangeSpec := { name := "fencesSure", fn := fun _ => fun
  | [d] => { results := [.lit (.bool false)], args := [d] }
  | _ => none }
def FencesSureWrongFalsely : Prop := fencesSureRow.holds Try.pinned (OpenSpec.ofChange fencesSureWrong)

/-- 'fleetlaw2.TracksVisit': WHATEVER THE INPUT: true; the input reads as it did. -/
def tracksVisitSpec : ChangeSpec := { name := "tracksVisit", fn := fun _ => fun
  | [d] => { results := [.lit (.bool true)], args := [d] }
  | _ => none }
def tracksVisitRow : OpenClaim := { program := "ytkmbppeelkbjoaa", sum := "3cc9481ff9c9a3b88d9917c0cedbc64158c6381bf3f646437e4054cd588cef34", func := "beaconfleet/fleetlaw2.TracksVisit", spec := "tracksVisit", inPlace := ["internal/bytealg.abigen_runtime_cmpstring", "internal/bytealg.IndexByteString"], unfollowed := true, recurses := true, apart := false }
def TracksVisitSaid : Prop := tracksVisitRow.holds Try.pinned (OpenSpec.ofChange tracksVisitSpec)

/-- ITS FALSE NEIGHBOUR: 'it returns false'. Refute it at one input. -/
def tracksVisitWrong : ChangeSpec := { name := "tracksVisit", fn := fun _ => fun
  | [d] => { results := [.lit (.bool false)], args := [d] }
  | _ => none }
def TracksVisitWrongFalsely : Prop := tracksVisitRow.holds Try.pinned (OpenSpec.ofChange tracksVisitWrong)

/-- 'fleetlaw2.FixesMerge': WHATEVER THE INPUT: true; the input reads as it did. -/
def fixesMergeSpec : ChangeSpec := { name := "fixesMerge", fn := fun _ => fun
  | [d] => { results := [.lit (.bool true)], args := [d] }
  | _ => none }
def fixesMergeRow : OpenClaim := { program := "ytkmbppeelkbjoaa", sum := "3cc9481ff9c9a3b88d9917c0cedbc64158c6381bf3f646437e4054cd588cef34", func := "beaconfleet/fleetlaw2.FixesMerge", spec := "fixesMerge", inPlace := ["internal/bytealg.abigen_runtime_cmpstring", "internal/bytealg.IndexByteString"], unfollowed := true, recurses := true, apart := false }
def FixesMergeSaid : Prop := fixesMergeRow.holds Try.pinned (OpenSpec.ofChange fixesMergeSpec)

/-- ITS FALSE NEIGHBOUR: 'it returns false'. Refute it at one input. -/
def fixesMergeWrong : ChangeSpec := { name := "fixesMerge", fn := fun _ => fun
  | [d] => { results := [.lit (.bool false)], args := [d] }
  | _ => none }
def FixesMergeWrongFalsely : Prop := fixesMergeRow.holds Try.pinned (OpenSpec.ofChange fixesMergeWrong)

/-- 'fleetlaw2.TracksPlain': WHATEVER THE INPUT: true; the input reads as it did. -/
def tracksPlainSpec : ChangeSpec := { name := "tracksPlain", fn := fun _ => fun
  | [d] => { results := [.lit (.bool true)], args := [d] }
  | _ => none }
def tracksPlainRow : OpenClaim := { program := "ytkmbppeelkbjoaa", sum := "3cc9481ff9c9a3b88d9917c0cedbc64158c6381bf3f646437e4054cd588cef34", func := "beaconfleet/fleetlaw2.TracksPlain", spec := "tracksPlain", inPlace := ["internal/bytealg.abigen_runtime_cmpstring", "internal/bytealg.IndexByteString"], unfollowed := true, recurses := true, apart := false }
def TracksPlainSaid : Prop := tracksPlainRow.holds Try.pinned (OpenSpec.ofChange tracksPlainSpec)

/-- ITS FALSE NEIGHBOUR: 'it returns false'. Refute it at one input. -/
def tracksPlainWrong : ChangeSpec := { name := "tracksPlain", fn := fun _ => fun
  | [d] => { results := [.lit (.bool false)], args := [d] }
  | _ => none }
def TracksPlainWrongFalsely : Prop := tracksPlainRow.holds Try.pinned (OpenSpec.ofChange tracksPlainWrong)

/-- 'fleetlaw2.ValuesHeld': WHATEVER THE INPUT: true; the input reads as it did. -/
def valuesHeldSpec : ChangeSpec := { name := "valuesHeld", fn := fun _ => fun
  | [d] => { results := [.lit (.bool true)], args := [d] }
  | _ => none }
def valuesHeldRow : OpenClaim := { program := "ytkmbppeelkbjoaa", sum := "3cc9481ff9c9a3b88d9917c0cedbc64158c6381bf3f646437e4054cd588cef34", func := "beaconfleet/fleetlaw2.ValuesHeld", spec := "valuesHeld", inPlace := ["internal/bytealg.abigen_runtime_cmpstring", "internal/bytealg.IndexByteString"], unfollowed := true, recurses := true, apart := false }
def ValuesHeldSaid : Prop := valuesHeldRow.holds Try.pinned (OpenSpec.ofChange valuesHeldSpec)

/-- ITS FALSE NEIGHBOUR: 'it returns false'. Refute it at one input. -/
def valuesHeldWrong : ChangeSpec := { name := "valuesHeld", fn := fun _ => fun
  | [d] => { results := [.lit (.bool false)], args := [d] }
  | _ => none }
def ValuesHeldWrongFalsely : Prop := valuesHeldRow.holds Try.pinned (OpenSpec.ofChange valuesHeldWrong)

/-- 'fleetlaw2.BucketsJoin': WHATEVER THE INPUT: true; the input reads as it did. -/
def bucketsJoinSpec : ChangeSpec := { name := "bucketsJoin", fn := fun _ => fun
  | [d] => { results := [.lit (.bool true)], args := [d] }
  | _ => none }
def bucketsJoinRow : OpenClaim := { program := "ytkmbppeelkbjoaa", sum := "3cc9481ff9c9a3b88d9917c0cedbc64158c6381bf3f646437e4054cd588cef34", func := "beaconfleet/fleetlaw2.BucketsJoin", spec := "bucketsJoin", inPlace := ["internal/bytealg.abigen_runtime_cmpstring"], unfollowed := true, recurses := true, apart := false }
def BucketsJoinSaid : Prop := bucketsJoinRow.holds Try.pinned (OpenSpec.ofChange bucketsJoinSpec)

/-- ITS FALSE NEIGHBOUR: 'it returns false'. Refute it at one input. -/
def bucketsJoinWrong : ChangeSpec := { name := "bucketsJoin", fn := fun _ => fun
  | [d] => { results := [.lit (.bool false)], args := [d] }
  | _ => none }
def BucketsJoinWrongFalsely : Prop := bucketsJoinRow.holds Try.pinned (OpenSpec.ofChange bucketsJoinWrong)

/-- 'fleetlaw2.FencesMeet': WHATEVER THE INPUT: true; the input reads as it did. -/
def fencesMeetSpec : ChangeSpec := { name := "fencesMeet", fn := fun _ => fun
  | [d] => { results := [.lit (.bool true)], args := [d] }
  | _ => none }
def fencesMeetRow : OpenClaim := { program := "ytkmbppeelkbjoaa", sum := "3cc9481ff9c9a3b88d9917c0cedbc64158c6381bf3f646437e4054cd588cef34", func := "beaconfleet/fleetlaw2.FencesMeet", spec := "fencesMeet", inPlace := ["internal/bytealg.IndexByteString"], unfollowed := true, recurses := true, apart := false }
def FencesMeetSaid : Prop := fencesMeetRow.holds Try.pinned (OpenSpec.ofChange fencesMeetSpec)

/-- ITS FALSE NEIGHBOUR: 'it returns false'. Refute it at one input. -/
def fencesMeetWrong : ChangeSpec := { name := "fencesMeet", fn := fun _ => fun
  | [d] => { results := [.lit (.bool false)], args := [d] }
  | _ => none }
def FencesMeetWrongFalsely : Prop := fencesMeetRow.holds Try.pinned (OpenSpec.ofChange fencesMeetWrong)

/-- 'fleetlaw2.SamplesMerge': WHATEVER THE INPUT: true; the input reads as it did. -/
def samplesMergeSpec : ChangeSpec := { name := "samplesMerge", fn := fun _ => fun
  | [d] => { results := [.lit (.bool true)], args := [d] }
  | _ => none }
def samplesMergeRow : OpenClaim := { program := "ytkmbppeelkbjoaa", sum := "3cc9481ff9c9a3b88d9917c0cedbc64158c6381bf3f646437e4054cd588cef34", func := "beaconfleet/fleetlaw2.SamplesMerge", spec := "samplesMerge", inPlace := ["internal/bytealg.abigen_runtime_cmpstring", "internal/bytealg.IndexByteString"], unfollowed := true, recurses := true, apart := false }
def SamplesMergeSaid : Prop := samplesMergeRow.holds Try.pinned (OpenSpec.ofChange samplesMergeSpec)

/-- ITS FALSE NEIGHBOUR: 'it returns false'. Refute it at one input. -/
def samplesMergeWrong : ChangeSpec := { name := "samplesMerge", fn := fun _ => fun
  | [d] => { results := [.lit (.bool false)], args := [d] }
  | _ => none }
def SamplesMergeWrongFalsely : Prop := samplesMergeRow.holds Try.pinned (OpenSpec.ofChange samplesMergeWrong)

/- THE SECOND FORM. 'bulk': how many values and letters a reading holds, each counted each time it is reached (what is shared counts as often as it is met; a slice's spare places count too). A statement '..UptoSaid' is the law's where the arguments, and the package variables that the reading takes, are together of bulk at most 1048576: NARROWER than '..Said'. Prove '..Said' where nothing that the law and all that it calls make is longer than what came in: it says more and counts as full. Else prove '..UptoSaid'. A law counts once. -/
mutual
def uptoBulk {H : Type} : DataW H → Nat
  | .lit (.string bytes) => bytes.length + 1
  | .lit _ => 1
  | .nil => 1
  | .ptr d => uptoBulk d + 1
  | .slice elems spare => uptoBulkAll elems + uptoBulkAll spare + 1
  | .agg parts => uptoBulkAll parts + 1
  | .iface _ d => uptoBulk d + 1
  | .map entries => uptoBulkEntries entries + 1
  | .held _ => 1
def uptoBulkAll {H : Type} : List (DataW H) → Nat
  | [] => 0
  | d :: r => uptoBulk d + uptoBulkAll r
def uptoBulkEntries {H : Type} : List (Lit × DataW H) → Nat
  | [] => 0
  | x :: r => uptoBulkEntry x + uptoBulkEntries r
def uptoBulkEntry {H : Type} : Lit × DataW H → Nat
  | (.string bytes, d) => bytes.length + uptoBulk d + 1
  | (_, d) => uptoBulk d + 1
 end
def uptoSmall : (H : Type) → List (DataW H) → Bool := fun _ ds => decide (uptoBulkAll ds ≤ 1048576)
def OpenSpec.upto (s : _root_.Go.ChangeSpec) : _root_.Go.OpenSpec := { _root_.Go.OpenSpec.ofChange s with cond := some uptoSmall }

/-- 'fleetlaw2.FencesSure', WHERE WHAT IT READS IS OF BULK AT MOST 1048576: true; the input reads as it did. -/
def fencesSureUptoRow : OpenClaim := { program := "ytkmbppeelkbjoaa", sum := "3cc9481ff9c9a3b88d9917c0cedbc64158c6381bf3f646437e4054cd588cef34", func := "beaconfleet/fleetlaw2.FencesSure", spec := "fencesSure", inPlace := ["internal/bytealg.abigen_runtime_cmpstring", "internal/bytealg.IndexByteString"], unfollowed := true, recurses := true, apart := false, narrowed := true }
def FencesSureUptoSaid : Prop := fencesSureUptoRow.holds Try.pinned (OpenSpec.upto fencesSureSpec)

/-- 'fleetlaw2.TracksVisit', WHERE WHAT IT READS IS OF BULK AT MOST 1048576: true; the input reads as it did. -/
def tracksVisitUptoRow : OpenClaim := { program := "ytkmbppeelkbjoaa", sum := "3cc9481ff9c9a3b88d9917c0cedbc64158c6381bf3f646437e4054cd588cef34", func := "beaconfleet/fleetlaw2.TracksVisit", spec := "tracksVisit", inPlace := ["internal/bytealg.abigen_runtime_cmpstring", "internal/bytealg.IndexByteString"], unfollowed := true, recurses := true, apart := false, narrowed := true }
def TracksVisitUptoSaid : Prop := tracksVisitUptoRow.holds Try.pinned (OpenSpec.upto tracksVisitSpec)

/-- 'fleetlaw2.FixesMerge', WHERE WHAT IT READS IS OF BULK AT MOST 1048576: true; the input reads as it did. -/
def fixesMergeUptoRow : OpenClaim := { program := "ytkmbppeelkbjoaa", sum := "3cc9481ff9c9a3b88d9917c0cedbc64158c6381bf3f646437e4054cd588cef34", func := "beaconfleet/fleetlaw2.FixesMerge", spec := "fixesMerge", inPlace := ["internal/bytealg.abigen_runtime_cmpstring", "internal/bytealg.IndexByteString"], unfollowed := true, recurses := true, apart := false, narrowed := true }
def FixesMergeUptoSaid : Prop := fixesMergeUptoRow.holds Try.pinned (OpenSpec.upto fixesMergeSpec)

/-- 'fleetlaw2.TracksPlain', WHERE WHAT IT READS IS OF BULK AT MOST 1048576: true; the input reads as it did. -/
def tracksPlainUptoRow : OpenClaim := { program := "ytkmbppeelkbjoaa", sum := "3cc9481ff9c9a3b88d9917c0cedbc64158c6381bf3f646437e4054cd588cef34", func := "beaconfleet/fleetlaw2.TracksPlain", spec := "tracksPlain", inPlace := ["internal/bytealg.abigen_runtime_cmpstring", "internal/bytealg.IndexByteString"], unfollowed := true, recurses := true, apart := false, narrowed := true }
def TracksPlainUptoSaid : Prop := tracksPlainUptoRow.holds Try.pinned (OpenSpec.upto tracksPlainSpec)

/-- 'fleetlaw2.ValuesHeld', WHERE WHAT IT READS IS OF BULK AT MOST 1048576: true; the input reads as it did. -/
def valuesHeldUptoRow : OpenClaim := { program := "ytkmbppeelkbjoaa", sum := "3cc9481ff9c9a3b88d9917c0cedbc64158c6381bf3f646437e4054cd588cef34", func := "beaconfleet/fleetlaw2.ValuesHeld", spec := "valuesHeld", inPlace := ["internal/bytealg.abigen_runtime_cmpstring", "internal/bytealg.IndexByteString"], unfollowed := true, recurses := true, apart := false, narrowed := true }
def ValuesHeldUptoSaid : Prop := valuesHeldUptoRow.holds Try.pinned (OpenSpec.upto valuesHeldSpec)

/-- 'fleetlaw2.BucketsJoin', WHERE WHAT IT READS IS OF BULK AT MOST 1048576: true; the input reads as it did. -/
def bucketsJoinUptoRow : OpenClaim := { program := "ytkmbppeelkbjoaa", sum := "3cc9481ff9c9a3b88d9917c0cedbc64158c6381bf3f646437e4054cd588cef34", func := "beaconfleet/fleetlaw2.BucketsJoin", spec := "bucketsJoin", inPlace := ["internal/bytealg.abigen_runtime_cmpstring"], unfollowed := true, recurses := true, apart := false, narrowed := true }
def BucketsJoinUptoSaid : Prop := bucketsJoinUptoRow.holds Try.pinned (OpenSpec.upto bucketsJoinSpec)

/-- 'fleetlaw2.FencesMeet', WHERE WHAT IT READS IS OF BULK AT MOST 1048576: true; the input reads as it did. -/
def fencesMeetUptoRow : OpenClaim := { program := "ytkmbppeelkbjoaa", sum := "3cc9481ff9c9a3b88d9917c0cedbc64158c6381bf3f646437e4054cd588cef34", func := "beaconfleet/fleetlaw2.FencesMeet", spec := "fencesMeet", inPlace := ["internal/bytealg.IndexByteString"], unfollowed := true, recurses := true, apart := false, narrowed := true }
def FencesMeetUptoSaid : Prop := fencesMeetUptoRow.holds Try.pinned (OpenSpec.upto fencesMeetSpec)

/-- 'fleetlaw2.SamplesMerge', WHERE WHAT IT READS IS OF BULK AT MOST 1048576: true; the input reads as it did. -/
def samplesMergeUptoRow : OpenClaim := { program := "ytkmbppeelkbjoaa", sum := "3cc9481ff9c9a3b88d9917c0cedbc64158c6381bf3f646437e4054cd588cef34", func := "beaconfleet/fleetlaw2.SamplesMerge", spec := "samplesMerge", inPlace := ["internal/bytealg.abigen_runtime_cmpstring", "internal/bytealg.IndexByteString"], unfollowed := true, recurses := true, apart := false, narrowed := true }
def SamplesMergeUptoSaid : Prop := samplesMergeUptoRow.holds Try.pinned (OpenSpec.upto samplesMergeSpec)

end Rows
end Go.Proofs.Ytkmbppeelkbjoaa
