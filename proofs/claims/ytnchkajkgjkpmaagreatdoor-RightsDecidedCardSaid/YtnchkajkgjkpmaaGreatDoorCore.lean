/- What the plain functions stand on; the tables of the program. -/
import Derived.Test.YtnchkajkgjkpmaaGreatDoorEngE
import Derived.Test.YtnchkajkgjkpmaaGreatDoorEngF
import Derived.Lib.IndexMore
import Derived.Lib.Bytealg
import Derived.Shelf.Unicode.DecodeSlow
import Derived.Lib.ValidU
import Derived.Lib.SlTrimSet
import Derived.Below
import Derived.Shelf.GgClosure.StringsIndexFunc
import Derived.Lib.Repeat
import Derived.Lib.LaidTab
import Derived.Lib.Split
import Derived.Lib.SplitLaws
import Derived.Lib.ItoaNum
import Derived.Lib.AtoiAll
import Derived.Shelf.Strconv.Itoa3
import Derived.Shelf.Strings.Split
namespace Go.Beacon
open Go Go.Eng
def cellOf (o:Option Obj) (i:Nat):Option Value:=match o with
 | some (.cells vs _ _)=>vs[i]?
 | _=>none
theorem uQ (w:World) (g i:Nat):w.cell? ⟨g,i,none⟩=cellOf (w.heap[g]?) i:=by
 unfold World.cell? cellOf
 cases w.heap[g]? with
 | none=>rfl
 | some o=>cases o<;>rfl
def Lm (o:Option Obj):Prop:=∀ c,c < 256→cellOf o c=some (.int .u8 (Lib.firstT c))
def Vf (o:Option Obj):Prop:=∀ i,i < 16→cellOf o (2 * i)=some (.int .u8 (Lib.accLo i))∧cellOf o (2 * i+1)=some (.int .u8 (Lib.accHi i))
def yC:List (Nat×(Option Obj→Prop)):=[]
 ++[(1,Lm),(2,Vf)]
 ++[(0,PQ .i64)]
instance Zt:bc:=⟨Mx yC,False⟩
theorem NQ {w:World} (hT:∀ e∈yC,e.1 < w.heap.size∧e.2 (w.heap[e.1]?)):∀ g o,bc.Xh g=some o→g < w.heap.size∧o (w.heap[g]?):=fun g o h=>hT (g,o) (GG h)
theorem MA {w:World} {g i:Nat} {v:Value} (h:w.cell? ⟨g,i,none⟩=some v):g < w.heap.size:=by
 rcases Nat.lt_or_ge g w.heap.size with h' | h'
 ·exact h'
 ·unfold World.cell? at h;simp [Array.getElem?_eq_none h'] at h
theorem Sr {w:World} {S:Nat→Prop} {h:Heap} (r:dw w S h):Lib.Utf8Tabs 1 2 w:=by
 have h1:=(r.ib 1 Lm rfl).2
 have h2:=(r.ib 2 Vf rfl).2
 exact ⟨fun c hc=>by rw [uQ];exact h1 c hc,fun i hi=>by rw [uQ,uQ];exact h2 i hi⟩
theorem NR {w:World} (hT:Lib.Utf8Tabs 1 2 w):(1 < w.heap.size∧Lm (w.heap[(1:Nat)]?))∧(2 < w.heap.size∧Vf (w.heap[(2:Nat)]?)):=
 ⟨⟨MA (hT.1 0 (by decide)),fun c hc=>by rw [← uQ];exact hT.1 c hc⟩,⟨MA (hT.2 0 (by decide)).1,fun c hc=>by rw [← uQ,← uQ];exact hT.2 c hc⟩⟩
theorem GM {w w':World} (h:Go.RowKit.Below w.heap.size w w'):Ext w w':=⟨h.os,h.tape,h.output,h.size,h.block,fun q=>by cases q⟩
abbrev xw (s:ae) (c:Int):Int:=Lib.indexByte s c.toNat.toUInt8
def GN (s cs:ae):Option ae:=if s.length≤9223372036854775807∧cs.length < 4294967281∧cs.all (fun b=>decide (b.toNat < 128))=true then some (Lib.trimS s cs) else none
def HF (s t:ae):Option Int:=if s.length < 4294967281 then some (Lib.index s t) else none
def Ln (s:ae):ae→Option Int
 | [c]=>some (Lib.indexByte s c)
 | [c,d]=>HF s [c,d]
 | _=>none
def AD (s sep:ae):Option (List ae):=if s.length < 4294967281∧1≤sep.length then some ((Lib.splitB ⟨sep.toArray⟩ 0 (Lib.countB ⟨s.toArray⟩ ⟨sep.toArray⟩) ⟨s.toArray⟩).map fun b=>b.data.toList) else none
def PX (s sep:ae):Option (ae×ae×Bool):=if s.length < 4294967281 then some (Lib.cut s sep) else none
def wv (s:ae):Option Bool:=if s.length≤9223372036854775807 then some (Lib.validD s) else none
end Go.Beacon
