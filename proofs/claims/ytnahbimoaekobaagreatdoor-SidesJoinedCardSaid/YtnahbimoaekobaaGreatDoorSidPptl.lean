/- PropsTell but for its generators. No program in sight. -/
import Derived.Test.YtnahbimoaekobaaGreatDoorSidPun2
import Derived.Test.YtnahbimoaekobaaGreatDoorSidPok
set_option linter.unusedVariables false
set_option linter.unusedSimpArgs false
namespace Go.Beacon
open Go Go.Eng

end Go.Beacon
