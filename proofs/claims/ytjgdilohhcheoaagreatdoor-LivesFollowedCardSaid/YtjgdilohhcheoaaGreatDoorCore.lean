/- What the plain functions stand on; the tables of the program. -/
import Derived.Test.YtjgdilohhcheoaaGreatDoorEngE
import Derived.Test.YtjgdilohhcheoaaGreatDoorEngF
import Derived.Lib.IndexMore
import Derived.Lib.Bytealg
import Derived.Shelf.Unicode.DecodeSlow
import Derived.Lib.ValidU
import Derived.Lib.SlTrimSet
import Derived.Below
import Derived.Shelf.GgClosure.StringsIndexFunc
import Derived.Lib.Repeat
import Derived.Lib.LaidTab
import Derived.Lib.Split
import Derived.Lib.SplitLaws
import Derived.Lib.ItoaNum
import Derived.Lib.AtoiAll
import Derived.Shelf.Strconv.Itoa3
import Derived.Shelf.Strings.Split
namespace Go.Beacon
open Go Go.Eng
def cellOf (o:Option Obj) (i:Nat):Option Value:=match o with
 | some (.cells vs _ _)=>vs[i]?
 | _=>none
theorem qy (w:World) (g i:Nat):w.cell? ⟨g,i,none⟩=cellOf (w.heap[g]?) i:=by
 unfold World.cell? cellOf
 cases w.heap[g]? with
 | none=>rfl
 | some o=>cases o<;>rfl
def FX (o:Option Obj):Prop:=∀ c,c < 256→cellOf o c=some (.int .u8 (Lib.firstT c))
def OQ (o:Option Obj):Prop:=∀ i,i < 16→cellOf o (2 * i)=some (.int .u8 (Lib.accLo i))∧cellOf o (2 * i+1)=some (.int .u8 (Lib.accHi i))
def uz:List (Nat×(Option Obj→Prop)):=[]
 ++[(2,FX),(3,OQ)]
 ++[(4,Ma .u64 Lib.pow10Tab)]
 ++[(0,JM .i64)]
instance S7:bt:=⟨GY uz,False⟩
theorem H6 {w:World} (hT:∀ e∈uz,e.1 < w.heap.size∧e.2 (w.heap[e.1]?)):∀ g o,bt.QG g=some o→g < w.heap.size∧o (w.heap[g]?):=fun g o h=>hT (g,o) (Cd h)
theorem G5 {w:World} {g i:Nat} {v:Value} (h:w.cell? ⟨g,i,none⟩=some v):g < w.heap.size:=by
 rcases Nat.lt_or_ge g w.heap.size with h' | h'
 ·exact h'
 ·unfold World.cell? at h;simp [Array.getElem?_eq_none h'] at h
theorem Mv {w:World} {S:Nat→Prop} {h:Heap} (r:ck w S h):Lib.Utf8Tabs 2 3 w:=by
 have h1:=(r.gq 2 FX rfl).2
 have h2:=(r.gq 3 OQ rfl).2
 exact ⟨fun c hc=>by rw [qy];exact h1 c hc,fun i hi=>by rw [qy,qy];exact h2 i hi⟩
theorem H7 {w:World} (hT:Lib.Utf8Tabs 2 3 w):(2 < w.heap.size∧FX (w.heap[(2:Nat)]?))∧(3 < w.heap.size∧OQ (w.heap[(3:Nat)]?)):=
 ⟨⟨G5 (hT.1 0 (by decide)),fun c hc=>by rw [← qy];exact hT.1 c hc⟩,⟨G5 (hT.2 0 (by decide)).1,fun c hc=>by rw [← qy,← qy];exact hT.2 c hc⟩⟩
theorem vh {w w':World} (h:Go.RowKit.Below w.heap.size w w'):Ext w w':=⟨h.os,h.tape,h.output,h.size,h.block,fun q=>by cases q⟩
abbrev qP (s:ax) (c:Int):Int:=Lib.indexByte s c.toNat.toUInt8
def vM (s cs:ax):Option ax:=if s.length≤9223372036854775807∧cs.length < 4294967281∧cs.all (fun b=>decide (b.toNat < 128))=true then some (Lib.trimS s cs) else none
def Ez (n:Int):Option ax:=if -9223372036854775808≤n∧n≤9223372036854775807 then some (Lib.itoa n) else none
def C1 (s t:ax):Option Int:=if s.length < 4294967281 then some (Lib.index s t) else none
def FY (s:ax):ax→Option Int
 | [c]=>some (Lib.indexByte s c)
 | [c,d]=>C1 s [c,d]
 | _=>none
def As (s sep:ax):Option (List ax):=if s.length < 4294967281∧1≤sep.length then some ((Lib.splitB ⟨sep.toArray⟩ 0 (Lib.countB ⟨s.toArray⟩ ⟨sep.toArray⟩) ⟨s.toArray⟩).map fun b=>b.data.toList) else none
def Ke (s sep:ax):Option (ax×ax×Bool):=if s.length < 4294967281 then some (Lib.cut s sep) else none
theorem Kf (w:World) (k:Nat) (os:Array Obj) (hd:¬ bt.dr):Ext w (Go.Sort.grow (w.drewN k) os):=
 ⟨rfl,rfl,rfl,by simp [Go.Sort.grow,World.drewN],fun n hn=>by show (w.heap++os)[n]? =_;rw [Array.getElem?_append_left hn],fun q=>absurd q hd⟩
def zB (s:ax) (c:Int):Option ax:=if 0≤c∧c≤9223372036854775807∧s.length * c.toNat≤140737488355328 then some (Lib.repeatL s c.toNat) else none
def yg (s:ax):Option Bool:=if s.length≤9223372036854775807 then some (Lib.validD s) else none
end Go.Beacon
