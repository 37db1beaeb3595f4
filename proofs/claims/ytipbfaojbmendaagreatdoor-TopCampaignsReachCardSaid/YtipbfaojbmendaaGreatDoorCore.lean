/- What the plain functions stand on; the tables of the program. -/
import Derived.Test.YtipbfaojbmendaaGreatDoorEngE
import Derived.Test.YtipbfaojbmendaaGreatDoorEngF
import Derived.Lib.IndexMore
import Derived.Lib.Bytealg
import Derived.Shelf.Unicode.DecodeSlow
import Derived.Lib.ValidU
import Derived.Lib.SlTrimSet
import Derived.Below
import Derived.Shelf.GgClosure.StringsIndexFunc
import Derived.Lib.Repeat
import Derived.Lib.LaidTab
import Derived.Lib.Split
import Derived.Lib.SplitLaws
import Derived.Lib.ItoaNum
import Derived.Lib.AtoiAll
import Derived.Shelf.Strconv.Itoa3
import Derived.Shelf.Strings.Split
namespace Go.Beacon
open Go Go.Eng
def wu:List (Nat×(Option Obj→Prop)):=[]
 ++[(5,Tb .u64 Lib.pow10Tab)]
 ++[(0,Tc .i64)]
 ++[(1,Ng),(2,Ng)]
instance XE:ck:=⟨JW wu,False⟩
theorem Li {w:World} (hT:∀ e∈wu,e.1 < w.heap.size∧e.2 (w.heap[e.1]?)):∀ g o,ck.U7 g=some o→g < w.heap.size∧o (w.heap[g]?):=fun g o h=>hT (g,o) (D9 h)
theorem zW {w w':World} (h:Go.RowKit.Below w.heap.size w w'):Ext w w':=⟨h.os,h.tape,h.output,h.size,h.block,fun q=>by cases q⟩
def G2 (s:bq):Option (Int×Bool):=if s.length≤281474976710656 then some (match Lib.atoiAll s with
 | .ok v=>(v,true)
 | .range=>(Lib.atoiSat s,false)
 | _=>(0,false)) else none
def Cs (s sep:bq):Option (List bq):=if s.length < 4294967281∧1≤sep.length then some ((Lib.splitB ⟨sep.toArray⟩ 0 (Lib.countB ⟨s.toArray⟩ ⟨sep.toArray⟩) ⟨s.toArray⟩).map fun b=>b.data.toList) else none
end Go.Beacon
