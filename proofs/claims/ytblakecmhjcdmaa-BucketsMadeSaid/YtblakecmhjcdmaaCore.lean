/- What the plain functions stand on. -/
import Derived.Test.YtblakecmhjcdmaaEngD
import Derived.Lib.Bytealg
namespace Go.Beacon
open Go Go.Eng
/-- No table of the program is spoken of. -/
instance noTab : GTab := ⟨fun _ => none, True⟩
abbrev indexByteI (s : Str) (c : Int) : Int := Lib.indexByte s c.toNat.toUInt8
end Go.Beacon
