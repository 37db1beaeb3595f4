/-
  No cell of these rows narrows 'for every input' (looked for: loops, veiled, ifaces, maps, wideKeys, modest, calm, conditions, laid).
  DERIVED. THE GIVEN ROWS OF THIS SEAT. 6 by the template 'for every input the law returns true; each argument reads behind the call as it read before'; 0 by the template 'total and deterministic' (their statements: YtbcbhhbbejcnnaaTotals.lean).
  GIVEN WITH THE SEED: the statements are not yours to turn. If you find one false, say at which input.
  Laid BY PROGRAM, IN A SANDBOX (cutbox-rows.mjs): the forced cells as the released guide's own fill.sh prints them over the translation b9b3b57b35f1f5dd… (all of the seat's roots in one cut). By AI agents, Wed Nov 11 2026. No macro, syntax, notation, axiom, sorry.
-/
import Derived.Test.YtbcbhhbbejcnnaaChecked
import GoSem.Claim
import GoSem.ClaimJoined
import GoSem.ClaimMapViews
import Derived.JoinedTies
import Derived.KernelRfl
namespace Go.Proofs.Ytbcbhhbbejcnnaa
/- THE CELL 'sum', in the pinned program and in every row, IS THE sha256 OF THE DUMP (.gsa) THAT YtbcbhhbbejcnnaaProg.lean LOADS. Nothing in Lean hashes anything: it is a label: what it is worth is what the hold of that sum in a sandbox is worth. -/
noncomputable def Try.pinned : Pinned := { name := "ytbcbhhbbejcnnaa", sum := "b9b3b57b35f1f5dd8284b247732051954cd111d029aec71167ca3560a50c9148", checked := Try.checked }
namespace Rows
def none {H : Type} : Left H := { results := [], args := [] }

/-- 'fleetlaw2.SeriesFilled': WHATEVER THE INPUT: true; the input reads as it did. -/
def seriesFilledSpec : ChangeSpec := { name := "seriesFilled", fn := fun _ => fun
  | [d] => { results := [.lit (.bool true)], args := [d] }
  | _ => none }
def seriesFilledRow : OpenClaim := { program := "ytbcbhhbbejcnnaa", sum := "b9b3b57b35f1f5dd8284b247732051954cd111d029aec71167ca3560a50c9148", func := "beaconfleet/fleetlaw2.SeriesFilled", spec := "seriesFilled", inPlace := ["internal/bytealg.abigen_runtime_cmpstring", "internal/bytealg.IndexByteString"], unfollowed := true, recurses := true, apart := false }
def SeriesFilledSaid : Prop := seriesFilledRow.holds Try.pinned (OpenSpec.ofChange seriesFilledSpec)

/-- ITS FALSE NEIGHBOUR: 'it returns false'. Refute it at one input. -/
def seriesFilledWrong : ChangeSpec := { name := "seriesFilled", fn := fun _ => fun
  | [d] => { results := [.lit (.bool false)], args := [d] }
  | _ => none }
def SeriesFilledWrongFalsely : Prop := seriesFilledRow.holds Try.pinned (OpenSpec.ofChange seriesFilledWrong)

/-- 'fleetlaw2.SeriesPacked': WHATEVER THE INPUT: true; the input reads as it did. -/
def seriesPackedSpec : ChangeSpec := { name := "seriesPacked", fn := fun _ => fun
  | [d] => { results := [.lit (.bool true)], args := [d] }
  | _ => none }
def seriesPackedRow : OpenClaim := { program := "ytbcbhhbbejcnnaa", sum := "b9b3b57b35f1f5dd8284b247732051954cd111d029aec71167ca3560a50c9148", func := "beaconfleet/fleetlaw2.SeriesPacked", spec := "seriesPacked", inPlace := ["internal/bytealg.abigen_runtime_cmpstring", "internal/bytealg.IndexByteString"], unfollowed := true, recurses := true, apart := false }
def SeriesPackedSaid : Prop := seriesPackedRow.holds Try.pinned (OpenSpec.ofChange seriesPackedSpec)

/-- ITS FALSE NEIGHBOUR: 'it returns false'. Refute it at one input. -/
def seriesPackedWrong : ChangeSpec := { name := "seriesPacked", fn := fun _ => fun
  | [d] => { results := [.lit (.bool false)], args := [d] }
  | _ => none }
def SeriesPackedWrongFalsely : Prop := seriesPackedRow.holds Try.pinned (OpenSpec.ofChange seriesPackedWrong)

/-- 'fleetlaw2.FencesTell': WHATEVER THE INPUT: true; the input reads as it did. -/
def fencesTellSpec : ChangeSpec := { name := "fencesTell", fn := fun _ => fun
  | [d] => { results := [.lit (.bool true)], args := [d] }
  | _ => none }
def fencesTellRow : OpenClaim := { program := "ytbcbhhbbejcnnaa", sum := "b9b3b57b35f1f5dd8284b247732051954cd111d029aec71167ca3560a50c9148", func := "beaconfleet/fleetlaw2.FencesTell", spec := "fencesTell", inPlace := ["internal/bytealg.IndexByteString"], unfollowed := true, recurses := true, apart := false }
def FencesTellSaid : Prop := fencesTellRow.holds Try.pinned (OpenSpec.ofChange fencesTellSpec)

/-- ITS FALSE NEIGHBOUR: 'it returns false'. Refute it at one input. -/
def fencesTellWrong : ChangeSpec := { name := "fencesTell", fn := fun _ => fun
  | [d] => { results := [.lit (.bool false)], args := [d] }
  | _ => none }
def FencesTellWrongFalsely : Prop := fencesTellRow.holds Try.pinned (OpenSpec.ofChange fencesTellWrong)

/-- 'fleetlaw2.CountersRead': WHATEVER THE INPUT: true; the input reads as it did. -/
def countersReadSpec : ChangeSpec := { name := "countersRead", fn := fun _ => fun
  | [d] => { results := [.lit (.bool true)], args := [d] }
  | _ => none }
def countersReadRow : OpenClaim := { program := "ytbcbhhbbejcnnaa", sum := "b9b3b57b35f1f5dd8284b247732051954cd111d029aec71167ca3560a50c9148", func := "beaconfleet/fleetlaw2.CountersRead", spec := "countersRead", inPlace := ["internal/bytealg.abigen_runtime_cmpstring", "internal/bytealg.IndexByteString"], unfollowed := true, recurses := true, apart := false }
def CountersReadSaid : Prop := countersReadRow.holds Try.pinned (OpenSpec.ofChange countersReadSpec)

/-- ITS FALSE NEIGHBOUR: 'it returns false'. Refute it at one input. -/
def countersReadWrong : ChangeSpec := { name := "countersRead", fn := fun _ => fun
  | [d] => { results := [.lit (.bool false)], args := [d] }
  | _ => none }
def CountersReadWrongFalsely : Prop := countersReadRow.holds Try.pinned (OpenSpec.ofChange countersReadWrong)

/-- 'fleetlaw2.BucketsMade': WHATEVER THE INPUT: true; the input reads as it did. -/
def bucketsMadeSpec : ChangeSpec := { name := "bucketsMade", fn := fun _ => fun
  | [d] => { results := [.lit (.bool true)], args := [d] }
  | _ => none }
def bucketsMadeRow : OpenClaim := { program := "ytbcbhhbbejcnnaa", sum := "b9b3b57b35f1f5dd8284b247732051954cd111d029aec71167ca3560a50c9148", func := "beaconfleet/fleetlaw2.BucketsMade", spec := "bucketsMade", inPlace := ["internal/bytealg.abigen_runtime_cmpstring", "internal/bytealg.IndexByteString"], unfollowed := true, recurses := true, apart := false }
def BucketsMadeSaid : Prop := bucketsMadeRow.holds Try.pinned (OpenSpec.ofChange bucketsMadeSpec)

/-- ITS FALSE NEIGHBOUR: 'it returns false'. Refute it at one input. -/
def bucketsMadeWrong : ChangeSpec := { name := "bucketsMade", fn := fun _ => fun
  | [d] => { results := [.lit (.bool false)], args := [d] }
  | _ => none }
def BucketsMadeWrongFalsely : Prop := bucketsMadeRow.holds Try.pinned (OpenSpec.ofChange bucketsMadeWrong)

/-- 'fleetlaw2.SeriesPaired': WHATEVER THE INPUT: true; the input reads as it did. -/
def seriesPairedSpec : ChangeSpec := { name := "seriesPaired", fn := fun _ => fun
  | [d] => { results := [.lit (.bool true)], args := [d] }
  | _ => none }
def seriesPairedRow : OpenClaim := { program := "ytbcbhhbbejcnnaa", sum := "b9b3b57b35f1f5dd8284b247732051954cd111d029aec71167ca3560a50c9148", func := "beaconfleet/fleetlaw2.SeriesPaired", spec := "seriesPaired", inPlace := ["internal/bytealg.abigen_runtime_cmpstring", "internal/bytealg.IndexByteString"], unfollowed := true, recurses := true, apart := false }
def SeriesPairedSaid : Prop := seriesPairedRow.holds Try.pinned (OpenSpec.ofChange seriesPairedSpec)

/-- ITS FALSE NEIGHBOUR: 'it returns false'. Refute it at one input. -/
def seriesPairedWrong : ChangeSpec := { name := "seriesPaired", fn := fun _ => fun
  | [d] => { results := [.lit (.bool false)], args := [d] }
  | _ => none }
def SeriesPairedWrongFalsely : Prop := seriesPairedRow.holds Try.pinned (OpenSpec.ofChange seriesPairedWrong)

/- THE SECOND FORM. 'bulk': how many values and letters a reading holds, each counted each time it is reached (what is shared counts as often as it is met; a slice's spare places count too). A statement '..UptoSaid' is the law's where the arguments, and the package variables that the reading takes, are together of bulk at most 1048576: NARROWER than '..Said'. Prove '..Said' where nothing that the law and all that it calls make is longer than what came in: it says more and counts as full. Else prove '..UptoSaid'. A law counts once. -/
mutual
def uptoBulk {H : Type} : DataW H → Nat
  | .lit (.string bytes) => bytes.length + 1
  | .lit _ => 1
  | .nil => 1
  | .ptr d => uptoBulk d + 1
  | .slice elems spare => uptoBulkAll elems + uptoBulkAll spare + 1
  | .agg parts => uptoBulkAll parts + 1
  | .iface _ d => uptoBulk d + 1
  | .map entries => uptoBulkEntries entries + 1
  | .held _ => 1
def uptoBulkAll {H : Type} : List (DataW H) → Nat
  | [] => 0
  | d :: r => uptoBulk d + uptoBulkAll r
def uptoBulkEntries {H : Type} : List (Lit × DataW H) → Nat
  | [] => 0
  | x :: r => uptoBulkEntry x + uptoBulkEntries r
def uptoBulkEntry {H : Type} : Lit × DataW H → Nat
  | (.string bytes, d) => bytes.length + uptoBulk d + 1
  | (_, d) => uptoBulk d + 1
 end
def uptoSmall : (H : Type) → List (DataW H) → Bool := fun _ ds => decide (uptoBulkAll ds ≤ 1048576)
def OpenSpec.upto (s : _root_.Go.ChangeSpec) : _root_.Go.OpenSpec := { _root_.Go.OpenSpec.ofChange s with cond := some uptoSmall }

/-- 'fleetlaw2.SeriesFilled', WHERE WHAT IT READS IS OF BULK AT MOST 1048576: true; the input reads as it did. -/
def seriesFilledUptoRow : OpenClaim := { program := "ytbcbhhbbejcnnaa", sum := "b9b3b57b35f1f5dd8284b247732051954cd111d029aec71167ca3560a50c9148", func := "beaconfleet/fleetlaw2.SeriesFilled", spec := "seriesFilled", inPlace := ["internal/bytealg.abigen_runtime_cmpstring", "internal/bytealg.IndexByteString"], unfollowed := true, recurses := true, apart := false, narrowed := true }
def SeriesFilledUptoSaid : Prop := seriesFilledUptoRow.holds Try.pinned (OpenSpec.upto seriesFilledSpec)

/-- 'fleetlaw2.SeriesPacked', WHERE WHAT IT READS IS OF BULK AT MOST 1048576: true; the input reads as it did. -/
def seriesPackedUptoRow : OpenClaim := { program := "ytbcbhhbbejcnnaa", sum := "b9b3b57b35f1f5dd8284b247732051954cd111d029aec71167ca3560a50c9148", func := "beaconfleet/fleetlaw2.SeriesPacked", spec := "seriesPacked", inPlace := ["internal/bytealg.abigen_runtime_cmpstring", "internal/bytealg.IndexByteString"], unfollowed := true, recurses := true, apart := false, narrowed := true }
def SeriesPackedUptoSaid : Prop := seriesPackedUptoRow.holds Try.pinned (OpenSpec.upto seriesPackedSpec)

/-- 'fleetlaw2.FencesTell', WHERE WHAT IT READS IS OF BULK AT MOST 1048576: true; the input reads as it did. -/
def fencesTellUptoRow : OpenClaim := { program := "ytbcbhhbbejcnnaa", sum := "b9b3b57b35f1f5dd8284b247732051954cd111d029aec71167ca3560a50c9148", func := "beaconfleet/fleetlaw2.FencesTell", spec := "fencesTell", inPlace := ["internal/bytealg.IndexByteString"], unfollowed := true, recurses := true, apart := false, narrowed := true }
def FencesTellUptoSaid : Prop := fencesTellUptoRow.holds Try.pinned (OpenSpec.upto fencesTellSpec)

/-- 'fleetlaw2.CountersRead', WHERE WHAT IT READS IS OF BULK AT MOST 1048576: true; the input reads as it did. -/
def countersReadUptoRow : OpenClaim := { program := "ytbcbhhbbejcnnaa", sum := "b9b3b57b35f1f5dd8284b247732051954cd111d029aec71167ca3560a50c9148", func := "beaconfleet/fleetlaw2.CountersRead", spec := "countersRead", inPlace := ["internal/bytealg.abigen_runtime_cmpstring", "internal/bytealg.IndexByteString"], unfollowed := true, recurses := true, apart := false, narrowed := true }
def CountersReadUptoSaid : Prop := countersReadUptoRow.holds Try.pinned (OpenSpec.upto countersReadSpec)

/-- 'fleetlaw2.BucketsMade', WHERE WHAT IT READS IS OF BULK AT MOST 1048576: true; the input reads as it did. -/
def bucketsMadeUptoRow : OpenClaim := { program := "ytbcbhhbbejcnnaa", sum := "b9b3b57b35f1f5dd8284b247732051954cd111d029aec71167ca3560a50c9148", func := "beaconfleet/fleetlaw2.BucketsMade", spec := "bucketsMade", inPlace := ["internal/bytealg.abigen_runtime_cmpstring", "internal/bytealg.IndexByteString"], unfollowed := true, recurses := true, apart := false, narrowed := true }
def BucketsMadeUptoSaid : Prop := bucketsMadeUptoRow.holds Try.pinned (OpenSpec.upto bucketsMadeSpec)

/-- 'fleetlaw2.SeriesPaired', WHERE WHAT IT READS IS OF BULK AT MOST 1048576: true; the input reads as it did. -/
def seriesPairedUptoRow : OpenClaim := { program := "ytbcbhhbbejcnnaa", sum := "b9b3b57b35f1f5dd8284b247732051954cd111d029aec71167ca3560a50c9148", func := "beaconfleet/fleetlaw2.SeriesPaired", spec := "seriesPaired", inPlace := ["internal/bytealg.abigen_runtime_cmpstring", "internal/bytealg.IndexByteString"], unfollowed := true, recurses := true, apart := false, narrowed := true }
def SeriesPairedUptoSaid : Prop := seriesPairedUptoRow.holds Try.pinned (OpenSpec.upto seriesPairedSpec)

end Rows
end Go.Proofs.Ytbcbhhbbejcnnaa
