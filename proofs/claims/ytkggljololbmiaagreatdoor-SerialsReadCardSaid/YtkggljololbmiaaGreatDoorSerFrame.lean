/- For every list of numbers the Go function fleetlaw1.SerialsRead returns true and leaves its argument as it was, where the tables of unicode and utf8 are laid as its row tells (the given statement Rows.SerialsReadCardSaid); no condition. -/
import Derived.Test.YtkggljololbmiaaGreatDoorSerFrameB
namespace Go.Proofs.YtkggljololbmiaaGreatDoor.serialsRead
open Go.ChangeShapes Go.WideShapes Go.ChangeAt Go.RowKit
open Go.ChangeMaps (open_string shut_string)
set_option linter.unusedVariables false

theorem kl : true = Tryz.prog.looks [] := by kernel_rfl
theorem kw : Rows.serialsReadRow.wfByText (OpenSpec.ofChange Rows.serialsReadSpec) = true := by kernel_rfl
theorem km : Tryz.pinned.checked.prog.mainIs = some ((true, "0d956989a708158c9b73490ce30f6333c19eebcd7c7da7315d5fdfed7ce754ba").1, (true, "0d956989a708158c9b73490ce30f6333c19eebcd7c7da7315d5fdfed7ce754ba").2.toList) := by kernel_rfl
theorem kg : false = Rows.serialsReadRow.goesBy Tryz.pinned.checked.prog := by kernel_rfl
theorem kn : Tryz.prog.funcNamed Rows.serialsReadRow.func = some 3 := by kernel_rfl
theorem ka : ([22].all fun u => !Tryz.prog.wantsStandIn u) = true := by kernel_rfl
theorem card : Rows.SerialsReadCardSaid :=
  Claim7.holds_tied_plain_at .later [] [.data, .data, .data, .data, .sentinel, .sentinel, .pinned, .pinned] true (true, "0d956989a708158c9b73490ce30f6333c19eebcd7c7da7315d5fdfed7ce754ba") true
    over (fun _ h => by cases h) kw (fun _ h => by cases h) serialsRead_row_tie rfl ⟨rfl, rfl⟩ km rfl
    (fun f fn hf hfn => by
      obtain rfl : f = 3 := Option.some.inj (kn.symm.trans hf) |>.symm
      obtain rfl : fn = Tryz.f3 := (Option.some.inj (Tryz.func3.symm.trans hfn)).symm
      exact ⟨kl, fun j t ht => by
        rw [Tryz.params3] at ht
        have hm : t ∈ [22] := by simpa using Array.mem_of_getElem? ht
        exact (show Tryz.prog.wantsStandIn t = false by simpa using List.all_eq_true.1 ka t hm)⟩)
    kg
end Go.Proofs.YtkggljololbmiaaGreatDoor.serialsRead

