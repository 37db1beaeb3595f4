/- What the plain functions stand on; the tables of the program. -/
import Derived.Test.YthamhifbccpcpaaGreatDoorEngE
import Derived.Test.YthamhifbccpcpaaGreatDoorEngF
import Derived.Lib.IndexMore
import Derived.Lib.Bytealg
import Derived.Shelf.Unicode.DecodeSlow
import Derived.Lib.ValidU
import Derived.Lib.SlTrimSet
import Derived.Below
import Derived.Shelf.GgClosure.StringsIndexFunc
import Derived.Lib.Repeat
import Derived.Lib.LaidTab
import Derived.Lib.Split
import Derived.Lib.SplitLaws
import Derived.Lib.ItoaNum
import Derived.Lib.AtoiAll
import Derived.Shelf.Strconv.Itoa3
import Derived.Shelf.Strings.Split
namespace Go.Beacon
open Go Go.Eng
def uG:List (Nat×(Option Obj→Prop)):=[]
 ++[(1,NQ .u64 Lib.pow10Tab)]
 ++[(0,NR .i64)]
 ++[(2,K5),(3,K5)]
instance U6:bF:=⟨HY uG,False⟩
theorem Jj {w:World} (hT:∀ e∈uG,e.1 < w.heap.size∧e.2 (w.heap[e.1]?)):∀ g o,bF.Sc g=some o→g < w.heap.size∧o (w.heap[g]?):=fun g o h=>hT (g,o) (Ci h)
theorem vx {w w':World} (h:Go.RowKit.Below w.heap.size w w'):Ext w w':=⟨h.os,h.tape,h.output,h.size,h.block,fun q=>by cases q⟩
abbrev tq (s:aI) (c:Int):Int:=Lib.indexByte s c.toNat.toUInt8
def Cs (s cs:aI):Option aI:=if s.length≤9223372036854775807∧cs.length < 4294967281∧cs.all (fun b=>decide (b.toNat < 128))=true then some (Lib.trimS s cs) else none
def wa (n:Int):Option aI:=if -9223372036854775808≤n∧n≤9223372036854775807 then some (Lib.itoa n) else none
def Ds (s:aI):aI→Option Int
 | [c]=>some (Lib.countByte s c)
 | _=>none
def Ct (s:aI):Option (Int×Bool):=if s.length≤281474976710656 then some (match Lib.atoiAll s with
 | .ok v=>(v,true)
 | .range=>(Lib.atoiSat s,false)
 | _=>(0,false)) else none
def wG (s sep:aI):Option (List aI):=if s.length < 4294967281∧1≤sep.length then some ((Lib.splitB ⟨sep.toArray⟩ 0 (Lib.countB ⟨s.toArray⟩ ⟨sep.toArray⟩) ⟨s.toArray⟩).map fun b=>b.data.toList) else none
def Jk (s sep:aI):Option (aI×aI×Bool):=if s.length < 4294967281 then some (Lib.cut s sep) else none
theorem Lf (w:World) (k:Nat) (os:Array Obj) (hd:¬ bF.dr):Ext w (Go.Sort.grow (w.drewN k) os):=
 ⟨rfl,rfl,rfl,by simp [Go.Sort.grow,World.drewN],fun n hn=>by show (w.heap++os)[n]? =_;rw [Array.getElem?_append_left hn],fun q=>absurd q hd⟩
end Go.Beacon
