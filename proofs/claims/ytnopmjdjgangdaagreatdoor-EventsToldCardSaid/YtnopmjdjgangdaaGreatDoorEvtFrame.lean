/- For every list of numbers the Go function fleetlaw1.EventsTold returns true and leaves its argument as it was, where the tables of unicode and utf8 are laid as its row tells (the given statement Rows.EventsToldCardSaid); no condition. -/
import Derived.Test.YtnopmjdjgangdaaGreatDoorEvtFrameB
namespace Go.Proofs.YtnopmjdjgangdaaGreatDoor.eventsTold
open Go.ChangeShapes Go.WideShapes Go.ChangeAt Go.RowKit
open Go.ChangeMaps (open_string shut_string)
set_option linter.unusedVariables false

theorem kl : true = Tryz.prog.looks [] := by kernel_rfl
theorem kw : Rows.eventsToldRow.wfByText (OpenSpec.ofChange Rows.eventsToldSpec) = true := by kernel_rfl
theorem km : Tryz.pinned.checked.prog.mainIs = some ((true, "18d473f817df7589c3cb48f2867554bacc9f0e9d8f35d19589aa9eba7d725d2b").1, (true, "18d473f817df7589c3cb48f2867554bacc9f0e9d8f35d19589aa9eba7d725d2b").2.toList) := by kernel_rfl
theorem kg : false = Rows.eventsToldRow.goesBy Tryz.pinned.checked.prog := by kernel_rfl
theorem kn : Tryz.prog.funcNamed Rows.eventsToldRow.func = some 4 := by kernel_rfl
theorem ka : ([22].all fun u => !Tryz.prog.wantsStandIn u) = true := by kernel_rfl
theorem card : Rows.EventsToldCardSaid :=
  Claim7.holds_tied_plain_at .later [] [.data, .data, .data, .data, .pinned, .pinned] true (true, "18d473f817df7589c3cb48f2867554bacc9f0e9d8f35d19589aa9eba7d725d2b") true
    over (fun _ h => by cases h) kw (fun _ h => by cases h) eventsTold_row_tie rfl ⟨rfl, rfl⟩ km rfl
    (fun f fn hf hfn => by
      obtain rfl : f = 4 := Option.some.inj (kn.symm.trans hf) |>.symm
      obtain rfl : fn = Tryz.f4 := (Option.some.inj (Tryz.func4.symm.trans hfn)).symm
      exact ⟨kl, fun j t ht => by
        rw [Tryz.params4] at ht
        have hm : t ∈ [22] := by simpa using Array.mem_of_getElem? ht
        exact (show Tryz.prog.wantsStandIn t = false by simpa using List.all_eq_true.1 ka t hm)⟩)
    kg
end Go.Proofs.YtnopmjdjgangdaaGreatDoor.eventsTold

