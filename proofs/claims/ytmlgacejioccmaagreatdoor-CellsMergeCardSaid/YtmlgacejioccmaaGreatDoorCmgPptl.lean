/- PropsTell but for its generators. No program in sight. -/
import Derived.Test.YtmlgacejioccmaaGreatDoorCmgPun2
import Derived.Test.YtmlgacejioccmaaGreatDoorCmgPok
set_option linter.unusedVariables false
set_option linter.unusedSimpArgs false
namespace Go.Beacon
open Go Go.Eng

theorem when_errs (x : Int) (c : Bool) : L_errs [x, L_when c 5] = some (if x ≠ 0 then x else if c = true then 5 else 0) := by
  rw [show L_errs [x, L_when c 5] = some (orL [x, L_when c 5]) from gOr_eq _ (by simp)]
  unfold L_when
  congr 1
  by_cases hx : x = 0
  · subst hx; cases c <;> rfl
  · simp [orL, hx]
end Go.Beacon
