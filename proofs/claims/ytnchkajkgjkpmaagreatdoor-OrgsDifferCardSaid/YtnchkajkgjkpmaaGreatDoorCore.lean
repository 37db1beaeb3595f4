/- What the plain functions stand on; the tables of the program. -/
import Derived.Test.YtnchkajkgjkpmaaGreatDoorEngE
import Derived.Test.YtnchkajkgjkpmaaGreatDoorEngF
import Derived.Lib.IndexMore
import Derived.Lib.Bytealg
import Derived.Shelf.Unicode.DecodeSlow
import Derived.Lib.ValidU
import Derived.Lib.SlTrimSet
import Derived.Below
import Derived.Shelf.GgClosure.StringsIndexFunc
import Derived.Lib.Repeat
import Derived.Lib.LaidTab
import Derived.Lib.Split
import Derived.Lib.SplitLaws
import Derived.Lib.ItoaNum
import Derived.Lib.AtoiAll
import Derived.Shelf.Strconv.Itoa3
import Derived.Shelf.Strings.Split
namespace Go.Beacon
open Go Go.Eng
def cellOf (o:Option Obj) (i:Nat):Option Value:=match o with
 | some (.cells vs _ _)=>vs[i]?
 | _=>none
theorem vh (w:World) (g i:Nat):w.cell? ⟨g,i,none⟩=cellOf (w.heap[g]?) i:=by
 unfold World.cell? cellOf
 cases w.heap[g]? with
 | none=>rfl
 | some o=>cases o<;>rfl
def MD (o:Option Obj):Prop:=∀ c,c < 256→cellOf o c=some (.int .u8 (Lib.firstT c))
def Xh (o:Option Obj):Prop:=∀ i,i < 16→cellOf o (2 * i)=some (.int .u8 (Lib.accLo i))∧cellOf o (2 * i+1)=some (.int .u8 (Lib.accHi i))
def y9:List (Nat×(Option Obj→Prop)):=[]
 ++[(1,MD),(2,Xh)]
 ++[(0,Rw .i64)]
instance abN:bD:=⟨NS y9,False⟩
theorem Ph {w:World} (hT:∀ e∈y9,e.1 < w.heap.size∧e.2 (w.heap[e.1]?)):∀ g o,bD.ZJ g=some o→g < w.heap.size∧o (w.heap[g]?):=fun g o h=>hT (g,o) (HO h)
theorem NV {w:World} {g i:Nat} {v:Value} (h:w.cell? ⟨g,i,none⟩=some v):g < w.heap.size:=by
 rcases Nat.lt_or_ge g w.heap.size with h' | h'
 ·exact h'
 ·unfold World.cell? at h;simp [Array.getElem?_eq_none h'] at h
theorem UG {w:World} {S:Nat→Prop} {h:Heap} (r:dO w S h):Lib.Utf8Tabs 1 2 w:=by
 have h1:=(r.hJ 1 MD rfl).2
 have h2:=(r.hJ 2 Xh rfl).2
 exact ⟨fun c hc=>by rw [vh];exact h1 c hc,fun i hi=>by rw [vh,vh];exact h2 i hi⟩
theorem Pj {w:World} (hT:Lib.Utf8Tabs 1 2 w):(1 < w.heap.size∧MD (w.heap[(1:Nat)]?))∧(2 < w.heap.size∧Xh (w.heap[(2:Nat)]?)):=
 ⟨⟨NV (hT.1 0 (by decide)),fun c hc=>by rw [← vh];exact hT.1 c hc⟩,⟨NV (hT.2 0 (by decide)).1,fun c hc=>by rw [← vh,← vh];exact hT.2 c hc⟩⟩
theorem HU {w w':World} (h:Go.RowKit.Below w.heap.size w w'):Ext w w':=⟨h.os,h.tape,h.output,h.size,h.block,fun q=>by cases q⟩
abbrev xS (s:ai) (c:Int):Int:=Lib.indexByte s c.toNat.toUInt8
def HV (s cs:ai):Option ai:=if s.length≤9223372036854775807∧cs.length < 4294967281∧cs.all (fun b=>decide (b.toNat < 128))=true then some (Lib.trimS s cs) else none
def IQ (s t:ai):Option Int:=if s.length < 4294967281 then some (Lib.index s t) else none
def ME (s:ai):ai→Option Int
 | [c]=>some (Lib.indexByte s c)
 | [c,d]=>IQ s [c,d]
 | _=>none
def A9 (s sep:ai):Option (List ai):=if s.length < 4294967281∧1≤sep.length then some ((Lib.splitB ⟨sep.toArray⟩ 0 (Lib.countB ⟨s.toArray⟩ ⟨sep.toArray⟩) ⟨s.toArray⟩).map fun b=>b.data.toList) else none
def RC (s sep:ai):Option (ai×ai×Bool):=if s.length < 4294967281 then some (Lib.cut s sep) else none
def wQ (s:ai):Option Bool:=if s.length≤9223372036854775807 then some (Lib.validD s) else none
end Go.Beacon
