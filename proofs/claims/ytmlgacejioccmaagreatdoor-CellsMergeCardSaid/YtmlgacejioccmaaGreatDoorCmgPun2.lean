/- The properties under a name. No program in sight. -/
import Derived.Test.YtmlgacejioccmaaGreatDoorCmgPund
import Derived.Test.YtmlgacejioccmaaGreatDoorPcpt
set_option linter.unusedVariables false
set_option linter.unusedSimpArgs false
namespace Go.Beacon
open Go Go.Eng

end Go.Beacon
