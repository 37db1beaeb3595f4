/- For every list of numbers the Go function fleetlaw1.PropsChecked returns true and leaves its argument as it was, where the tables of unicode and utf8 are laid as its row tells (the given statement Rows.PropsCheckedCardSaid); no condition. -/
import Derived.Test.YtbbokobfeiklkaaGreatDoorMprFrameB
namespace Go.Proofs.YtbbokobfeiklkaaGreatDoor.propsChecked
open Go.ChangeShapes Go.WideShapes Go.ChangeAt Go.RowKit
open Go.ChangeMaps (open_string shut_string)
set_option linter.unusedVariables false

theorem kl : true = Tryz.prog.looks [] := by kernel_rfl
theorem kw : Rows.propsCheckedRow.wfByText (OpenSpec.ofChange Rows.propsCheckedSpec) = true := by kernel_rfl
theorem km : Tryz.pinned.checked.prog.mainIs = some ((true, "db5afb7c58e006f64ef7b4a90b0f65fb70049691a1fcf2305f7ba8e7764cf96b").1, (true, "db5afb7c58e006f64ef7b4a90b0f65fb70049691a1fcf2305f7ba8e7764cf96b").2.toList) := by kernel_rfl
theorem kg : false = Rows.propsCheckedRow.goesBy Tryz.pinned.checked.prog := by kernel_rfl
theorem kn : Tryz.prog.funcNamed Rows.propsCheckedRow.func = some 6 := by kernel_rfl
theorem ka : ([22].all fun u => !Tryz.prog.wantsStandIn u) = true := by kernel_rfl
theorem card : Rows.PropsCheckedCardSaid :=
  Claim7.holds_tied_plain_at .later [] [.data, .data, .data, .data, .pinned, .pinned] true (true, "db5afb7c58e006f64ef7b4a90b0f65fb70049691a1fcf2305f7ba8e7764cf96b") true
    over (fun _ h => by cases h) kw (fun _ h => by cases h) propsChecked_row_tie rfl ⟨rfl, rfl⟩ km rfl
    (fun f fn hf hfn => by
      obtain rfl : f = 6 := Option.some.inj (kn.symm.trans hf) |>.symm
      obtain rfl : fn = Tryz.f6 := (Option.some.inj (Tryz.func6.symm.trans hfn)).symm
      exact ⟨kl, fun j t ht => by
        rw [Tryz.params6] at ht
        have hm : t ∈ [22] := by simpa using Array.mem_of_getElem? ht
        exact (show Tryz.prog.wantsStandIn t = false by simpa using List.all_eq_true.1 ka t hm)⟩)
    kg
end Go.Proofs.YtbbokobfeiklkaaGreatDoor.propsChecked

