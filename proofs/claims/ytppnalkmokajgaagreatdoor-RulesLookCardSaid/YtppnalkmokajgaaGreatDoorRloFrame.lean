/- For every list of numbers the Go function fleetlaw1.RulesLook returns true and leaves its argument as it was, where the tables of unicode and utf8 are laid as its row tells (the given statement Rows.RulesLookCardSaid); no condition. -/
import Derived.Test.YtppnalkmokajgaaGreatDoorRloFrameB
namespace Go.Proofs.YtppnalkmokajgaaGreatDoor.rulesLook
open Go.ChangeShapes Go.WideShapes Go.ChangeAt Go.RowKit
open Go.ChangeMaps (open_string shut_string)
set_option linter.unusedVariables false

theorem kl : true = Tryz.prog.looks [] := by kernel_rfl
theorem kw : Rows.rulesLookRow.wfByText (OpenSpec.ofChange Rows.rulesLookSpec) = true := by kernel_rfl
theorem km : Tryz.pinned.checked.prog.mainIs = some ((true, "143985ed6adf22817d84ead02df2de0c37d9ea036da2f5f65a4a8f15b91618e1").1, (true, "143985ed6adf22817d84ead02df2de0c37d9ea036da2f5f65a4a8f15b91618e1").2.toList) := by kernel_rfl
theorem kg : false = Rows.rulesLookRow.goesBy Tryz.pinned.checked.prog := by kernel_rfl
theorem kn : Tryz.prog.funcNamed Rows.rulesLookRow.func = some 5 := by kernel_rfl
theorem ka : ([22].all fun u => !Tryz.prog.wantsStandIn u) = true := by kernel_rfl
theorem card : Rows.RulesLookCardSaid :=
  Claim7.holds_tied_plain_at .later [] [.data, .pinned] true (true, "143985ed6adf22817d84ead02df2de0c37d9ea036da2f5f65a4a8f15b91618e1") true
    over (fun _ h => by cases h) kw (fun _ h => by cases h) rulesLook_row_tie rfl ⟨rfl, rfl⟩ km rfl
    (fun f fn hf hfn => by
      obtain rfl : f = 5 := Option.some.inj (kn.symm.trans hf) |>.symm
      obtain rfl : fn = Tryz.f5 := (Option.some.inj (Tryz.func5.symm.trans hfn)).symm
      exact ⟨kl, fun j t ht => by
        rw [Tryz.params5] at ht
        have hm : t ∈ [22] := by simpa using Array.mem_of_getElem? ht
        exact (show Tryz.prog.wantsStandIn t = false by simpa using List.all_eq_true.1 ka t hm)⟩)
    kg
end Go.Proofs.YtppnalkmokajgaaGreatDoor.rulesLook

