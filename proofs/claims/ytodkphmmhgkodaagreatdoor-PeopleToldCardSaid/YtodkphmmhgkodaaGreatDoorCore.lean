/- What the plain functions stand on; the tables of the program. -/
import Derived.Test.YtodkphmmhgkodaaGreatDoorEngE
import Derived.Test.YtodkphmmhgkodaaGreatDoorEngF
import Derived.Lib.IndexMore
import Derived.Lib.Bytealg
import Derived.Shelf.Unicode.DecodeSlow
import Derived.Lib.ValidU
import Derived.Lib.SlTrimSet
import Derived.Below
import Derived.Shelf.GgClosure.StringsIndexFunc
import Derived.Lib.Repeat
import Derived.Lib.LaidTab
import Derived.Lib.Split
import Derived.Lib.SplitLaws
import Derived.Lib.ItoaNum
import Derived.Lib.AtoiAll
import Derived.Shelf.Strconv.Itoa3
import Derived.Shelf.Strings.Split
namespace Go.Beacon
open Go Go.Eng
def yy:List (Nat×(Option Obj→Prop)):=[]
instance Tb:bM:=⟨HA yy,False⟩
theorem IP {w:World} (hT:∀ e∈yy,e.1 < w.heap.size∧e.2 (w.heap[e.1]?)):∀ g o,bM.QG g=some o→g < w.heap.size∧o (w.heap[g]?):=fun g o h=>hT (g,o) (Di h)
theorem IQ {w w':World} (h:Go.RowKit.Below w.heap.size w w'):Ext w w':=⟨h.os,h.tape,h.output,h.size,h.block,fun q=>by cases q⟩
abbrev uI (s:bO) (c:Int):Int:=Lib.indexByte s c.toNat.toUInt8
def FA (s cs:bO):Option bO:=if s.length≤9223372036854775807∧cs.length < 4294967281∧cs.all (fun b=>decide (b.toNat < 128))=true then some (Lib.trimS s cs) else none
end Go.Beacon
