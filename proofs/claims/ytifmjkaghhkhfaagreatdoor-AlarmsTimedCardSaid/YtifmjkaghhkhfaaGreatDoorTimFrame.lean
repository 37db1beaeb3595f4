/- For every list of numbers the Go function fleetlaw1.AlarmsTimed returns true and leaves its argument as it was, where the tables of unicode and utf8 are laid as its row tells (the given statement Rows.AlarmsTimedCardSaid); no condition. -/
import Derived.Test.YtifmjkaghhkhfaaGreatDoorTimFrameB
namespace Go.Proofs.YtifmjkaghhkhfaaGreatDoor.alarmsTimed
open Go.ChangeShapes Go.WideShapes Go.ChangeAt Go.RowKit
open Go.ChangeMaps (open_string shut_string)
set_option linter.unusedVariables false

theorem kl : false = Tryz.prog.looks [] := by kernel_rfl
theorem kw : Rows.alarmsTimedRow.wfByText (OpenSpec.ofChange Rows.alarmsTimedSpec) = true := by kernel_rfl
theorem km : Tryz.pinned.checked.prog.mainIs = some ((true, "603ac94b0a5123568708e431cd230a70b2f1fc192d43385dc4323c18a3c85c64").1, (true, "603ac94b0a5123568708e431cd230a70b2f1fc192d43385dc4323c18a3c85c64").2.toList) := by kernel_rfl
theorem kg : false = Rows.alarmsTimedRow.goesBy Tryz.pinned.checked.prog := by kernel_rfl
theorem kn : Tryz.prog.funcNamed Rows.alarmsTimedRow.func = some 6 := by kernel_rfl
theorem ka : ([22].all fun u => !Tryz.prog.wantsStandIn u) = true := by kernel_rfl
theorem card : Rows.AlarmsTimedCardSaid :=
  Claim7.holds_tied_plain_at .later [] [.data, .pinned] true (true, "603ac94b0a5123568708e431cd230a70b2f1fc192d43385dc4323c18a3c85c64") false
    over (fun _ h => by cases h) kw (fun _ h => by cases h) alarmsTimed_row_tie rfl ⟨rfl, rfl⟩ km rfl
    (fun f fn hf hfn => by
      obtain rfl : f = 6 := Option.some.inj (kn.symm.trans hf) |>.symm
      obtain rfl : fn = Tryz.f6 := (Option.some.inj (Tryz.func6.symm.trans hfn)).symm
      exact ⟨kl, fun j t ht => by
        rw [Tryz.params6] at ht
        have hm : t ∈ [22] := by simpa using Array.mem_of_getElem? ht
        exact (show Tryz.prog.wantsStandIn t = false by simpa using List.all_eq_true.1 ka t hm)⟩)
    kg
end Go.Proofs.YtifmjkaghhkhfaaGreatDoor.alarmsTimed

