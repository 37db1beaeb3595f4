/- For every list of numbers the Go function fleetlaw2.WavesBegin returns true and leaves its argument as it was, where the tables of unicode and utf8 are laid as its row tells (the given statement Rows.WavesBeginCardSaid); no condition. -/
import Derived.Test.YtpibecbdhjbanaaGreatDoorWbeFrameB
namespace Go.Proofs.YtpibecbdhjbanaaGreatDoor.wavesBegin
open Go.ChangeShapes Go.WideShapes Go.ChangeAt Go.RowKit
open Go.ChangeMaps (open_string shut_string)
set_option linter.unusedVariables false

theorem kl : true = Tryz.prog.looks [] := by kernel_rfl
theorem kw : Rows.wavesBeginRow.wfByText (OpenSpec.ofChange Rows.wavesBeginSpec) = true := by kernel_rfl
theorem km : Tryz.pinned.checked.prog.mainIs = some ((true, "3db10990c9b849b610031557b6b6435272645e6b3549d564ab6e9aed7a211b0a").1, (true, "3db10990c9b849b610031557b6b6435272645e6b3549d564ab6e9aed7a211b0a").2.toList) := by kernel_rfl
theorem kg : false = Rows.wavesBeginRow.goesBy Tryz.pinned.checked.prog := by kernel_rfl
theorem kn : Tryz.prog.funcNamed Rows.wavesBeginRow.func = some 4 := by kernel_rfl
theorem ka : ([22].all fun u => !Tryz.prog.wantsStandIn u) = true := by kernel_rfl
theorem card : Rows.WavesBeginCardSaid :=
  Claim7.holds_tied_plain_at .later [] [.data, .data, .data, .data, .sentinel, .sentinel, .pinned] true (true, "3db10990c9b849b610031557b6b6435272645e6b3549d564ab6e9aed7a211b0a") true
    over (fun _ h => by cases h) kw (fun _ h => by cases h) wavesBegin_row_tie rfl ⟨rfl, rfl⟩ km rfl
    (fun f fn hf hfn => by
      obtain rfl : f = 4 := Option.some.inj (kn.symm.trans hf) |>.symm
      obtain rfl : fn = Tryz.f4 := (Option.some.inj (Tryz.func4.symm.trans hfn)).symm
      exact ⟨kl, fun j t ht => by
        rw [Tryz.params4] at ht
        have hm : t ∈ [22] := by simpa using Array.mem_of_getElem? ht
        exact (show Tryz.prog.wantsStandIn t = false by simpa using List.all_eq_true.1 ka t hm)⟩)
    kg
end Go.Proofs.YtpibecbdhjbanaaGreatDoor.wavesBegin

