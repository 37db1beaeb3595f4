/- What the plain functions stand on; the tables of the program. -/
import Derived.Test.YtckmkjeblanlfaaGreatDoorEngE
import Derived.Test.YtckmkjeblanlfaaGreatDoorEngF
import Derived.Lib.IndexMore
import Derived.Lib.Bytealg
import Derived.Shelf.Unicode.DecodeSlow
import Derived.Lib.ValidU
import Derived.Lib.SlTrimSet
import Derived.Below
import Derived.Shelf.GgClosure.StringsIndexFunc
import Derived.Lib.Repeat
import Derived.Lib.LaidTab
import Derived.Lib.Split
import Derived.Lib.SplitLaws
import Derived.Lib.ItoaNum
import Derived.Lib.AtoiAll
import Derived.Shelf.Strconv.Itoa3
import Derived.Shelf.Strings.Split
namespace Go.Beacon
open Go Go.Eng
def cellOf (o:Option Obj) (i:Nat):Option Value:=match o with
 | some (.cells vs _ _)=>vs[i]?
 | _=>none
theorem tg (w:World) (g i:Nat):w.cell? ⟨g,i,none⟩=cellOf (w.heap[g]?) i:=by
 unfold World.cell? cellOf
 cases w.heap[g]? with
 | none=>rfl
 | some o=>cases o<;>rfl
def HK (o:Option Obj):Prop:=∀ c,c < 256→cellOf o c=some (.int .u8 (Lib.firstT c))
def Qu (o:Option Obj):Prop:=∀ i,i < 16→cellOf o (2 * i)=some (.int .u8 (Lib.accLo i))∧cellOf o (2 * i+1)=some (.int .u8 (Lib.accHi i))
def wN:List (Nat×(Option Obj→Prop)):=[]
 ++[(1,HK),(2,Qu)]
 ++[(0,N2 .i64)]
instance UB:bx:=⟨IQ wN,False⟩
theorem JR {w:World} (hT:∀ e∈wN,e.1 < w.heap.size∧e.2 (w.heap[e.1]?)):∀ g o,bx.Sp g=some o→g < w.heap.size∧o (w.heap[g]?):=fun g o h=>hT (g,o) (Eb h)
theorem IV {w:World} {g i:Nat} {v:Value} (h:w.cell? ⟨g,i,none⟩=some v):g < w.heap.size:=by
 rcases Nat.lt_or_ge g w.heap.size with h' | h'
 ·exact h'
 ·unfold World.cell? at h;simp [Array.getElem?_eq_none h'] at h
theorem Oa {w:World} {S:Nat→Prop} {h:Heap} (r:dv w S h):Lib.Utf8Tabs 1 2 w:=by
 have h1:=(r.kN 1 HK rfl).2
 have h2:=(r.kN 2 Qu rfl).2
 exact ⟨fun c hc=>by rw [tg];exact h1 c hc,fun i hi=>by rw [tg,tg];exact h2 i hi⟩
theorem JS {w:World} (hT:Lib.Utf8Tabs 1 2 w):(1 < w.heap.size∧HK (w.heap[(1:Nat)]?))∧(2 < w.heap.size∧Qu (w.heap[(2:Nat)]?)):=
 ⟨⟨IV (hT.1 0 (by decide)),fun c hc=>by rw [← tg];exact hT.1 c hc⟩,⟨IV (hT.2 0 (by decide)).1,fun c hc=>by rw [← tg,← tg];exact hT.2 c hc⟩⟩
theorem Ef {w w':World} (h:Go.RowKit.Below w.heap.size w w'):Ext w w':=⟨h.os,h.tape,h.output,h.size,h.block,fun q=>by cases q⟩
abbrev vD (s:al) (c:Int):Int:=Lib.indexByte s c.toNat.toUInt8
def Gk (s cs:al):Option al:=if s.length≤9223372036854775807∧cs.length < 4294967281∧cs.all (fun b=>decide (b.toNat < 128))=true then some (Lib.trimS s cs) else none
def yg (s sep:al):Option (List al):=if s.length < 4294967281∧1≤sep.length then some ((Lib.splitB ⟨sep.toArray⟩ 0 (Lib.countB ⟨s.toArray⟩ ⟨sep.toArray⟩) ⟨s.toArray⟩).map fun b=>b.data.toList) else none
def L6 (s sep:al):Option (al×al×Bool):=if s.length < 4294967281 then some (Lib.cut s sep) else none
def zO (s:al):Option Bool:=if s.length≤9223372036854775807 then some (Lib.validD s) else none
end Go.Beacon
