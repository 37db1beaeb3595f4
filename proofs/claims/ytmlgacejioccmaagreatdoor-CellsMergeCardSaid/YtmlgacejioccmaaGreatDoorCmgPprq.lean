/- PropsTell: the law. No program in sight. -/
import Derived.Test.YtmlgacejioccmaaGreatDoorCmgPpge
set_option linter.unusedVariables false
set_option linter.unusedSimpArgs false
namespace Go.Beacon
open Go Go.Eng

end Go.Beacon
