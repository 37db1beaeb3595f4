/- The properties under a name. No program in sight. -/
import Derived.Test.YtnahbimoaekobaaGreatDoorSidPund
import Derived.Test.YtnahbimoaekobaaGreatDoorPcpt
set_option linter.unusedVariables false
set_option linter.unusedSimpArgs false
namespace Go.Beacon
open Go Go.Eng

theorem cloneP_eq (a : List PropS) (h : a.length ≤ 100000) : slices_Clone_Prop_Prop a = some a := by
  unfold slices_Clone_Prop_Prop
  first
    | rfl
    | (simp [app]; omega)
    | (unfold app; rw [if_pos (by simp; omega)]; simp)
end Go.Beacon
