/- What the plain functions stand on. -/
import Derived.Test.YtkmbppeelkbjoaaEngD
import Derived.Lib.Bytealg
namespace Go.Beacon
open Go Go.Eng
abbrev indexByteI (s : Str) (c : Int) : Int := Lib.indexByte s c.toNat.toUInt8
end Go.Beacon
