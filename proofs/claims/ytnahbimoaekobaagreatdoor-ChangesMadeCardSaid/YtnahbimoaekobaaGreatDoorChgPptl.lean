/- PropsTell but for its generators. No program in sight. -/
import Derived.Test.YtnahbimoaekobaaGreatDoorChgPun2
import Derived.Test.YtnahbimoaekobaaGreatDoorChgPok
set_option linter.unusedVariables false
set_option linter.unusedSimpArgs false
namespace Go.Beacon
open Go Go.Eng

end Go.Beacon
