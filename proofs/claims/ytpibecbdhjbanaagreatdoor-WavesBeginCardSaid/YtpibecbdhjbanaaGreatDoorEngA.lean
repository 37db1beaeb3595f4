/- The engine: abstract values, the symbolic heap, one rule for each operation. No program in sight. -/
import Derived.WalkKit
import Derived.Deep.Quiet
import Derived.Lib.FrozenHead
set_option linter.unusedSectionVars false
namespace Go.Eng
open Go
class bD where
 Nc:Nat→Option (Option Obj→Prop)
 dr:Prop
theorem xg {a b:Option Obj} {p:Option Obj→Prop} (e:a=b) (h:p b):p a:=e▸h
variable [bD]
@[reducible] def sC [G:bD]:bD:=⟨G.Nc,True⟩
structure Bk where
 bY:Option Nat
 cap:Nat
inductive AV where
 | int (k:IntKind) (n:Int)
 | bool (b:Bool)
 | str (s:List UInt8)
 | agg (cs:List AV)
 | kj (vs:List AV)
 | list (sz:Nat) (xs:List AV)
 | nil
 | ptr (b:Bk) (o:Nat)
 | sl (sz:Nat) (b:Bk) (off len:Nat)
 | cE (cs:List AV)
 | nP (sz:Nat) (b:Bk) (i o:Nat)
 | func (fn:Fn) (sW:List AV)
 | ct (b:Bk)
 | raw (v:Value)
def AV.cells:AV→List AV
 | .agg cs=>cs
 | x=>[x]
def AV.one:AV→Bool
 | .agg _=>false
 | .kj _=>false
 | .raw v=>v.oneCell'
 | _=>true
def El (sz:Nat) (x:AV):Prop:=x.cells.length=sz∧∀ c∈x.cells,c.one=true
def flat (xs:List AV):List AV:=xs.flatMap AV.cells
inductive At (w:World) (S:Nat→Prop):AV→Value→Prop
 | int (k:IntKind) (n:Int):At w S (.int k n) (.int k n)
 | bool (b:Bool):At w S (.bool b) (.bool b)
 | str (s:List UInt8):At w S (.str s) (.string ⟨s.toArray⟩)
 | agg (cs:List AV) (vs:Array Value) (hl:cs.length=vs.size) (h:∀ (i:Nat) c v,cs[i]? =some c→vs[i]? =some v→At w S c v):At w S (.agg cs) (.agg vs)
 | kj (cs:List AV) (vs:Array Value) (hl:cs.length=vs.size) (h:∀ (i:Nat) c v,cs[i]? =some c→vs[i]? =some v→At w S c v):At w S (.kj cs) (.tuple vs)
 | list (sz:Nat) (xs:List AV) (a:Option Addr) (cap:Nat) (vs:List Value) (hJ:∀ x∈xs,El sz x) (hl:(flat xs).length=vs.length)
  (h:∀ (i:Nat) c v,(flat xs)[i]? =some c→vs[i]? =some v→At w S c v)
  (hm:∀ (i:Nat) v,vs[i]? =some v→∃ ad,a=some ad∧ad.spot=none∧S ad.block∧w.cell? ⟨ad.block,ad.off+i,none⟩=some v)
  (hc:xs.length≤cap):At w S (.list sz xs) (.slice a xs.length cap)
 | nil:At w S .nil (.slice none 0 0)
 | ptr (b:Bk) (o n:Nat) (hb:b.bY=some n):At w S (.ptr b o) (.pointer (some ⟨n,o,none⟩))
 | xh (sz:Nat) (b:Bk) (hb:b.bY=none):At w S (.sl sz b 0 0) (.slice none 0 0)
 | sl (sz:Nat) (b:Bk) (off len n cap:Nat) (hb:b.bY=some n) (h1:len≤cap) (h2:off+cap≤b.cap):At w S (.sl sz b off len) (.slice (some ⟨n,off * sz,none⟩) len cap)
 | IN (sz:Nat) (b:Bk) (off n:Nat) (ad:Addr) (hb:b.bY=some n):At w S (.sl sz b off 0) (.slice (some ad) 0 0)
 | cE (cs:List AV) (ad:Addr) (vs:List Value) (hl:cs.length=vs.length) (h:∀ (i:Nat) c v,cs[i]? =some c→vs[i]? =some v→At w S c v)
  (hs:ad.spot=none) (hS:S ad.block) (hm:∀ (i:Nat) v,vs[i]? =some v→w.cell? ⟨ad.block,ad.off+i,none⟩=some v):At w S (.cE cs) (.pointer (some ad))
 | nP (sz:Nat) (b:Bk) (i o n:Nat) (hb:b.bY=some n):At w S (.nP sz b i o) (.pointer (some ⟨n,i * sz+o,none⟩))
 | func (fn:Fn) (cs:List AV) (vs:Array Value) (hl:cs.length=vs.size) (h:∀ (i:Nat) c v,cs[i]? =some c→vs[i]? =some v→At w S c v):At w S (.func fn cs) (.func fn #[] vs)
 | ct (b:Bk) (n:Nat) (hb:b.bY=some n):At w S (.ct b) (.map (some n))
 | raw (v:Value):At w S (.raw v) v
theorem cell_of_heap {w w':World} {n o:Nat} (h:w'.heap[n]? =w.heap[n]?):w'.cell? ⟨n,o,none⟩=w.cell? ⟨n,o,none⟩:=by
 simp only [World.cell?,h]
theorem At.mono {w w':World} {S S':Nat→Prop} {av:AV} {v:Value} (hs:∀ n,S n→S' n∧w'.heap[n]? =w.heap[n]?) (h:At w S av v):At w' S' av v:=by
 induction h with
 | int k n=>exact .int k n
 | bool b=>exact .bool b
 | str s=>exact .str s
 | agg cs vs hl _ ih=>exact .agg cs vs hl ih
 | kj cs vs hl _ ih=>exact .kj cs vs hl ih
 | list sz xs a cap vs hJ hl _ hm hc ih=>
   refine .list sz xs a cap vs hJ hl ih (fun i v hv=>?_) hc
   obtain ⟨ad,h1,h2,h3,h4⟩:=hm i v hv
   exact ⟨ad,h1,h2,(hs _ h3).1,by rw [cell_of_heap (hs _ h3).2];exact h4⟩
 | nil=>exact .nil
 | ptr b o n hb=>exact .ptr b o n hb
 | xh sz b hb=>exact .xh sz b hb
 | sl sz b off len n cap hb h1 h2=>exact .sl sz b off len n cap hb h1 h2
 | IN sz b off n ad hb=>exact .IN sz b off n ad hb
 | cE cs ad vs hl _ Ks hS hm ih=>
   exact .cE cs ad vs hl ih Ks (hs _ hS).1 (fun i v hv=>by rw [cell_of_heap (hs _ hS).2];exact hm i v hv)
 | nP sz b i o n hb=>exact .nP sz b i o n hb
 | func fn cs vs hl _ ih=>exact .func fn cs vs hl ih
 | ct b n hb=>exact .ct b n hb
 | raw v=>exact .raw v
structure mI where
 k:AV
 v:AV
 born:Nat
def mI.kv (e:mI):AV×AV:=(e.k,e.v)
inductive PO where
 | cells (cs:List AV)
 | arr (sz:Nat) (xs:List AV)
inductive Ob where
 | cells (cs:List AV)
 | arr (sz:Nat) (xs:List AV)
 | wD (sz:Nat) (xs:List AV)
 | mp (es:List (AV×AV))
 | Nd (L:List mI) (c:Nat)
 | z8 (es:List (AV×AV)) (q:Nat) (k:AV)
 | Nf (bm:Bk) (c:Nat) (seen:List Nat)
 | bM (es:List (Bk×PO))
 | MD (T E:TypeId) (row:Option Nat) (bs:List UInt8)
abbrev Heap:=List (Bk×Ob)
def PO.ob:PO→Ob
 | .cells cs=>.cells cs
 | .arr sz xs=>.arr sz xs
def Ob.more:Ob→List Nat
 | .bM es=>es.filterMap (·.1.bY)
 | .MD _ _ row _=>row.toList
 | _=>[]
def eb (e:Bk×Ob):List Nat:=e.1.bY.toList++e.2.more
theorem iN {b:Bk} {o:Ob} {n:Nat} (h:b.bY=some n):n∈eb (b,o):=by simp [eb,h]
theorem rU {b:Bk} {o:Ob} {n:Nat} (hm:o.more=[]):n∈eb (b,o)↔b.bY=some n:=by simp [eb,hm]
def mA (w:World) (S:Nat→Prop) (cs:List AV) (vs:Array Value):Prop:=∀ (i:Nat) c v,cs[i]? =some c→vs[i]? =some v→At w S c v
theorem mA.mono {w w':World} {S S':Nat→Prop} {cs:List AV} {vs:Array Value} (hs:∀ n,S n→S' n∧w'.heap[n]? =w.heap[n]?) (h:mA w S cs vs):mA w' S' cs vs:=
 fun i c v hc hv=>(h i c v hc hv).mono hs
def qA (w:World) (S:Nat→Prop) (b:Bk) (L:List mI) (c:Nat):Prop:=
 ∃ n eF,b.bY=some n∧w.heap[n]? =some (.map eF c)∧eF.size=L.length∧(∀ (i:Nat) e m,L[i]? =some e→eF[i]? =some m→m.born=e.born∧At w S e.k m.key∧At w S e.v m.val)∧
   (∀ e∈L,e.born < c)∧(L.map (·.born)).Nodup∧(L.map (·.k)).Nodup
theorem qA.mono {w w':World} {S S':Nat→Prop} {b:Bk} {L:List mI} {c:Nat} (hs:∀ n,S n→S' n∧w'.heap[n]? =w.heap[n]?) (hb:∀ n,b.bY=some n→w'.heap[n]? =w.heap[n]?) (h:qA w S b L c):qA w' S' b L c:=by
 obtain ⟨n,eF,g1,g2,g3,g4,g5⟩:=h
 exact ⟨n,eF,g1,by rw [hb n g1];exact g2,g3,fun i e m he hm=>⟨(g4 i e m he hm).1,(g4 i e m he hm).2.1.mono hs,(g4 i e m he hm).2.2.mono hs⟩,g5⟩
def lx (w:World) (S:Nat→Prop) (b:Bk):PO→Prop
 | .cells cs=>(∀ c∈cs,c.one=true)∧∃ n vs E,b.bY=some n∧w.heap[n]? =some (.cells vs E (0,0))∧vs.size=cs.length∧mA w S cs vs
 | .arr sz xs=>(∀ x∈xs,El sz x)∧xs.length≤b.cap∧
  ((b.bY=none∧b.cap=0)∨∃ n vs E,b.bY=some n∧w.heap[n]? =some (.cells vs E (0,0))∧vs.size=b.cap * sz∧mA w S (flat xs) vs)
def Holds (w:World) (S:Nat→Prop) (b:Bk):Ob→Prop
 | .cells cs=>(∀ c∈cs,c.one=true)∧∃ n vs E,b.bY=some n∧w.heap[n]? =some (.cells vs E (0,0))∧vs.size=cs.length∧mA w S cs vs
 | .arr sz xs | .wD sz xs=>(∀ x∈xs,El sz x)∧xs.length≤b.cap∧
  ((b.bY=none∧b.cap=0)∨∃ n vs E,b.bY=some n∧w.heap[n]? =some (.cells vs E (0,0))∧vs.size=b.cap * sz∧mA w S (flat xs) vs)
 | .mp es=>∃ L c,(L.map mI.kv).Perm es∧qA w S b L c
 | .Nd L c=>qA w S b L c
 | .z8 es q k=>∃ L c,(L.map mI.kv).Perm es∧qA w S b L c∧((∃ e∈L,e.k=k∧e.born=q)∨((∀ e∈L,e.k≠k)∧q=c))
 | .Nf bm c seen=>∃ n nm,b.bY=some n∧bm.bY=some nm∧w.heap[n]? =some (.mapIter (some nm) c seen.toArray c)
 | .bM es=>b.bY=none∧∀ e∈es,lx w S e.1 e.2
 | .MD T E row bs=>∃ n p v,b.bY=some n∧w.heap[n]? =some (.cells #[p,v] T (0,0))∧(p=.pointer none∨p=.pointer (some ⟨n,0,none⟩))∧w.ownsRowF 0 E 1 v bs.length (Lib.byteCells bs)∧v.ownBlock=row
theorem lx.ob {w:World} {S:Nat→Prop} {b:Bk} {o:PO}:lx w S b o↔Holds w S b o.ob:=by cases o<;>exact Iff.rfl
theorem vU {α β:Type} {f:α→List β} {l l':List α} (h:l.Sublist l'):(l.flatMap f).Sublist (l'.flatMap f):=by
 induction h with
 | slnil=>exact List.Sublist.refl _
 | cons a _ ih=>rw [List.flatMap_cons];exact ih.trans (List.sublist_append_right _ _)
 | cons_cons a _ ih=>rw [List.flatMap_cons,List.flatMap_cons];exact List.Sublist.append (List.Sublist.refl _) ih
def Ob.vV:Ob→Prop
 | .wD _ _=>True
 | _=>False
def Has (h:Heap) (n:Nat):Prop:=∃ e∈h,n∈eb e
structure bZ (w:World) (S:Nat→Prop) (h:Heap):Prop where
 nodup:(h.flatMap eb).Nodup
 holds:∀ e∈h,Holds w S e.1 e.2
 sep:∀ e∈h,∀ n,n∈eb e→(S n↔e.2.vV)
 slt:∀ n,S n→n < w.heap.size
 fU:∀ g o,bD.Nc g=some o→S g∧o (w.heap[g]?)
structure iF (w:World) (S:Nat→Prop) (h:Heap) (w':World) (S':Nat→Prop) (h':Heap):Prop where
 os:w'.os=w.os
 tape:w'.tape=w.tape
 output:w'.output=w.output
 size:w.heap.size≤w'.heap.size
 jX:∀ n,S n→S' n∧w'.heap[n]? =w.heap[n]?
 other:∀ n,n < w.heap.size→¬ Has h n→w'.heap[n]? =w.heap[n]?∧(S' n→S n)
 new:∀ n,Has h' n→Has h n∨w.heap.size≤n
 drawn:bD.dr→w.drawn≤w'.drawn
theorem iF.refl (w:World) (S:Nat→Prop) (h:Heap):iF w S h w S h:=
 ⟨rfl,rfl,rfl,Nat.le_refl _,fun _ hs=>⟨hs,rfl⟩,fun _ _ _=>⟨rfl,id⟩,fun _ hn=>.inl hn,fun _=>Nat.le_refl _⟩
theorem iF.trans {w w1 w2:World} {S S1 S2:Nat→Prop} {h h1 h2:Heap} (a:iF w S h w1 S1 h1) (b:iF w1 S1 h1 w2 S2 h2):iF w S h w2 S2 h2 where
 os:=b.os.trans a.os
 tape:=b.tape.trans a.tape
 output:=b.output.trans a.output
 size:=Nat.le_trans a.size b.size
 jX n hs:=⟨(b.jX n (a.jX n hs).1).1,(b.jX n (a.jX n hs).1).2.trans (a.jX n hs).2⟩
 other n hn hh:=by
  have CV:¬ Has h1 n:=fun hc=>by
   rcases a.new n hc with h | h
   ·exact hh h
   ·omega
  obtain ⟨e1,s1⟩:=a.other n hn hh
  obtain ⟨e2,s2⟩:=b.other n (Nat.lt_of_lt_of_le hn a.size) CV
  exact ⟨e2.trans e1,fun hs=>s1 (s2 hs)⟩
 new n hn:=by
  rcases b.new n hn with h | h
  ·exact a.new n h
  ·exact .inr (Nat.le_trans a.size h)
 drawn:=fun h=>Nat.le_trans (a.drawn h) (b.drawn h)
theorem iF.less {w w':World} {S S':Nat→Prop} {h h' h2:Heap} (a:iF w S h w' S' h') (hl:∀ n,Has h2 n→Has h' n):iF w S h w' S' h2:=
 {a with new:=fun n hn=>a.new n (hl n hn)}
theorem lx.mono {w w':World} {S S':Nat→Prop} {b:Bk} {o:PO} (hs:∀ n,S n→S' n∧w'.heap[n]? =w.heap[n]?) (hb:∀ n,b.bY=some n→w'.heap[n]? =w.heap[n]?)
 (h:lx w S b o):lx w' S' b o:=by
 cases o with
 | cells cs=>
   obtain ⟨h0,n,vs,E,h1,h2,h3,h4⟩:=h
   exact ⟨h0,n,vs,E,h1,by rw [hb n h1];exact h2,h3,h4.mono hs⟩
 | arr sz xs=>
   obtain ⟨h1,h2,h3⟩:=h
   refine ⟨h1,h2,h3.imp id ?_⟩
   rintro ⟨n,vs,E,g1,g2,g3,g4⟩
   exact ⟨n,vs,E,g1,by rw [hb n g1];exact g2,g3,g4.mono hs⟩
theorem yL {w w':World} {base:Nat} {e:TypeId} {size:Nat} {v:Value} {n:Nat} {xs:List Value} (h:w.ownsRowF base e size v n xs) (hk:∀ k,v.ownBlock=some k→w'.heap[k]? =w.heap[k]?):w'.ownsRowF base e size v n xs:=by
 refine ⟨h.1,?_⟩
 rcases h.2 with hn | ⟨g,cap,cur,fz,rfl,hb,UN,rest⟩
 ·exact .inl hn
 ·exact .inr ⟨g,cap,cur,fz,rfl,hb,by rw [hk g rfl];exact UN,rest⟩
theorem Holds.mono {w w':World} {S S':Nat→Prop} {b:Bk} {o:Ob} (hs:∀ n,S n→S' n∧w'.heap[n]? =w.heap[n]?) (hb:∀ n,n∈eb (b,o)→w'.heap[n]? =w.heap[n]?)
 (h:Holds w S b o):Holds w' S' b o:=by
 have zb:∀ n,b.bY=some n→w'.heap[n]? =w.heap[n]?:=fun n hn=>hb n (iN hn)
 cases o with
 | cells cs=>
   obtain ⟨h0,n,vs,E,h1,h2,h3,h4⟩:=h
   exact ⟨h0,n,vs,E,h1,by rw [zb n h1];exact h2,h3,h4.mono hs⟩
 | arr sz xs=>
   obtain ⟨h1,h2,h3⟩:=h
   refine ⟨h1,h2,h3.imp id ?_⟩
   rintro ⟨n,vs,E,g1,g2,g3,g4⟩
   exact ⟨n,vs,E,g1,by rw [zb n g1];exact g2,g3,g4.mono hs⟩
 | wD sz xs=>
   obtain ⟨h1,h2,h3⟩:=h
   refine ⟨h1,h2,h3.imp id ?_⟩
   rintro ⟨n,vs,E,g1,g2,g3,g4⟩
   exact ⟨n,vs,E,g1,by rw [zb n g1];exact g2,g3,g4.mono hs⟩
 | mp es=>
   obtain ⟨L,c,hp,h⟩:=h
   exact ⟨L,c,hp,h.mono hs zb⟩
 | Nd L c=>exact qA.mono hs zb h
 | z8 es q k=>
   obtain ⟨L,c,hp,h,hq⟩:=h
   exact ⟨L,c,hp,h.mono hs zb,hq⟩
 | Nf bm c seen=>
   obtain ⟨n,nm,g1,g2,g3⟩:=h
   exact ⟨n,nm,g1,g2,by rw [zb n g1];exact g3⟩
 | bM es=>
   obtain ⟨h1,h2⟩:=h
   exact ⟨h1,fun e he=>(h2 e he).mono hs (fun n hn=>hb n (by
    unfold eb Ob.more
    exact List.mem_append_right _ (List.mem_filterMap.2 ⟨e,he,hn⟩)))⟩
 | MD T E row bs=>
   obtain ⟨n,p,v,g1,g2,g3,g4,g5⟩:=h
   exact ⟨n,p,v,g1,by rw [zb n g1];exact g2,g3,yL g4 (fun k hk=>hb k (by
    rw [g5] at hk
    unfold eb Ob.more
    exact List.mem_append_right _ (by simp [hk]))),g5⟩
theorem tn {w:World} {n:Nat} {o:Obj} (h:w.heap[n]? =some o):n < w.heap.size:=by
 rcases Nat.lt_or_ge n w.heap.size with h' | h'
 ·exact h'
 ·simp [Array.getElem?_eq_none h'] at h
theorem lx.lt {w:World} {S:Nat→Prop} {b:Bk} {o:PO} (h:lx w S b o) {n:Nat} (hn:b.bY=some n):n < w.heap.size:=by
 cases o with
 | cells cs=>
   obtain ⟨_,m,vs,E,h1,h2,_⟩:=h
   obtain rfl:m=n:=by rw [h1] at hn;exact Option.some.inj hn
   exact tn h2
 | arr sz xs=>
   obtain ⟨_,_,⟨h3,_⟩ | ⟨m,vs,E,h1,h2,_⟩⟩:=h
   ·rw [h3] at hn;cases hn
   ·obtain rfl:m=n:=by rw [h1] at hn;exact Option.some.inj hn
    exact tn h2
theorem Holds.lt {w:World} {S:Nat→Prop} {b:Bk} {o:Ob} (h:Holds w S b o) {n:Nat} (RE:n∈eb (b,o)):n < w.heap.size:=by
 by_cases hb:b.bY=some n
 ·have hn:=hb
  cases o with
  | cells cs=>
    obtain ⟨_,m,vs,E,h1,h2,_⟩:=h
    obtain rfl:m=n:=by rw [h1] at hn;exact Option.some.inj hn
    exact tn h2
  | arr sz xs=>
    obtain ⟨_,_,⟨h3,_⟩ | ⟨m,vs,E,h1,h2,_⟩⟩:=h
    ·rw [h3] at hn;cases hn
    ·obtain rfl:m=n:=by rw [h1] at hn;exact Option.some.inj hn
     exact tn h2
  | wD sz xs=>
    obtain ⟨_,_,⟨h3,_⟩ | ⟨m,vs,E,h1,h2,_⟩⟩:=h
    ·rw [h3] at hn;cases hn
    ·obtain rfl:m=n:=by rw [h1] at hn;exact Option.some.inj hn
     exact tn h2
  | mp es=>
    obtain ⟨_,_,_,m,eF,h1,h2,_⟩:=h
    obtain rfl:m=n:=by rw [h1] at hn;exact Option.some.inj hn
    exact tn h2
  | Nd L c=>
    obtain ⟨m,eF,h1,h2,_⟩:=h
    obtain rfl:m=n:=by rw [h1] at hn;exact Option.some.inj hn
    exact tn h2
  | z8 es q k=>
    obtain ⟨_,_,_,⟨m,eF,h1,h2,_⟩,_⟩:=h
    obtain rfl:m=n:=by rw [h1] at hn;exact Option.some.inj hn
    exact tn h2
  | Nf bm c seen=>
    obtain ⟨m,nm,h1,_,h2⟩:=h
    obtain rfl:m=n:=by rw [h1] at hn;exact Option.some.inj hn
    exact tn h2
  | bM es=>
    obtain ⟨h1,_⟩:=h
    rw [h1] at hn;cases hn
  | MD T E row bs=>
    obtain ⟨m,p,v,h1,h2,_⟩:=h
    obtain rfl:m=n:=by rw [h1] at hn;exact Option.some.inj hn
    exact tn h2
 ·have hm:n∈o.more:=by
   unfold eb at RE
   rcases List.mem_append.1 RE with h | h
   ·exact absurd (by simpa using h) hb
   ·exact h
  cases o with
  | bM es=>
    obtain ⟨e,he,pE⟩:=List.mem_filterMap.1 hm
    exact (h.2 e he).lt pE
  | MD T E row bs=>
    obtain ⟨m,p,v,h1,h2,h3,h4,h5⟩:=h
    have hr:row=some n:=by simpa [Ob.more] using hm
    exact (h4.lt n (h5.trans hr)).2
  | cells=>simp [Ob.more] at hm
  | arr=>simp [Ob.more] at hm
  | wD=>simp [Ob.more] at hm
  | mp=>simp [Ob.more] at hm
  | Nd=>simp [Ob.more] at hm
  | z8=>simp [Ob.more] at hm
  | Nf=>simp [Ob.more] at hm
theorem bZ.lt {w:World} {S:Nat→Prop} {h:Heap} (r:bZ w S h) {n:Nat} (hn:Has h n):n < w.heap.size:=by
 obtain ⟨e,he,hb⟩:=hn
 exact (r.holds e he).lt hb
theorem At.Gn {w:World} {S:Nat→Prop} {c:AV} {v:Value} (h:At w S c v) (ho:c.one=true):v.oneCell'=true:=by
 cases h<;>first | rfl | (simp [AV.one] at ho;done) | exact ho
theorem gE (x:AV) (xs:List AV):flat (x :: xs)=x.cells++flat xs:=by simp [flat]
theorem pc (xs ys:List AV):flat (xs++ys)=flat xs++flat ys:=by simp [flat]
theorem cA {sz:Nat}:∀ {xs:List AV},(∀ x∈xs,El sz x)→(flat xs).length=xs.length * sz
 | [],_=>by simp [flat]
 | x :: xs,h=>by
   rw [gE,List.length_append,(h x (by simp)).1,cA (fun y hy=>h y (by simp [hy])),List.length_cons,Nat.add_mul]
   omega
theorem Gp {sz:Nat} {xs:List AV} (h:∀ x∈xs,El sz x):∀ c∈flat xs,c.one=true:=by
 intro c hc
 obtain ⟨x,hx,PM⟩:=List.mem_flatMap.1 hc
 exact (h x hx).2 c PM
theorem oO {sz:Nat}:∀ {xs:List AV} {i:Nat} {x:AV},(∀ x∈xs,El sz x)→xs[i]? =some x→∀ j,j < sz→(flat xs)[i * sz+j]? =x.cells[j]?
 | [],i,x,_,h,_,_=>by simp at h
 | y :: xs,0,x,hs,h,j,hj=>by
   simp at h;subst h
   rw [gE,List.getElem?_append_left (by rw [(hs y (by simp)).1];omega)]
   simp
 | y :: xs,i+1,x,hs,h,j,hj=>by
   simp at h
   rw [gE,List.getElem?_append_right (by rw [(hs y (by simp)).1,Nat.add_mul];omega),(hs y (by simp)).1]
   rw [show (i+1) * sz+j - sz=i * sz+j from by rw [Nat.add_mul];omega]
   exact oO (fun z hz=>hs z (by simp [hz])) h j hj
structure Ext (w w':World):Prop where
 os:w'.os=w.os
 tape:w'.tape=w.tape
 output:w'.output=w.output
 size:w.heap.size≤w'.heap.size
 same:∀ n,n < w.heap.size→w'.heap[n]? =w.heap[n]?
 drawn:bD.dr→w.drawn≤w'.drawn
theorem Ext.refl (w:World):Ext w w:=⟨rfl,rfl,rfl,Nat.le_refl _,fun _ _=>rfl,fun _=>Nat.le_refl _⟩
theorem Ext.trans {a b c:World} (h:Ext a b) (k:Ext b c):Ext a c:=
 ⟨k.os.trans h.os,k.tape.trans h.tape,k.output.trans h.output,Nat.le_trans h.size k.size,fun n hn=>(k.same n (Nat.lt_of_lt_of_le hn h.size)).trans (h.same n hn),fun q=>Nat.le_trans (h.drawn q) (k.drawn q)⟩
theorem Ext.alloc (w:World) (o:Obj):Ext w (w.alloc o):=
 ⟨rfl,rfl,rfl,by simp,fun n hn=>by show (w.heap.push o)[n]? =_;rw [Array.getElem?_push,if_neg (by omega)],fun _=>Nat.le_refl _⟩
theorem Ext.Gq (w:World) (k:Nat) (h:w.drawn≤k):Ext w {w with drawn:=k}:=⟨rfl,rfl,rfl,Nat.le_refl _,fun _ _=>rfl,fun _=>h⟩
theorem bZ.ext {w w':World} {S:Nat→Prop} {h:Heap} (r:bZ w S h) (e:Ext w w'):bZ w' S h where
 nodup:=r.nodup
 holds x hx:=(r.holds x hx).mono (fun n hn=>⟨hn,e.same n (r.slt n hn)⟩) (fun n hn=>e.same n (r.lt ⟨x,hx,hn⟩))
 sep:=r.sep
 slt n hn:=Nat.lt_of_lt_of_le (r.slt n hn) e.size
 fU g o ho:=⟨(r.fU g o ho).1,xg (e.same g (r.slt g (r.fU g o ho).1)) (r.fU g o ho).2⟩
theorem iF.ext {w w':World} {S:Nat→Prop} {h:Heap} (r:∀ n,S n→n < w.heap.size) (e:Ext w w'):iF w S h w' S h:=
 ⟨e.os,e.tape,e.output,e.size,fun n hn=>⟨hn,e.same n (r n hn)⟩,fun n hn _=>⟨e.same n hn,id⟩,fun _ hn=>.inl hn,e.drawn⟩
theorem bZ.frame {w w':World} {S S':Nat→Prop} {h h1 rest:Heap} (r:bZ w S (h++rest)) (e:iF w S h w' S' h1) (r1:bZ w' S' h1):bZ w' S' (h1++rest):=by
 have iO:∀ x∈rest,∀ n,n∈eb x→n < w.heap.size∧¬ Has h n:=by
  intro x hx n hn
  refine ⟨r.lt ⟨x,List.mem_append_right _ hx,hn⟩,fun ⟨y,hy,PN⟩=>?_⟩
  have:=r.nodup
  rw [List.flatMap_append,List.nodup_append] at this
  exact this.2.2 n (List.mem_flatMap.2 ⟨y,hy,PN⟩) n (List.mem_flatMap.2 ⟨x,hx,hn⟩) rfl
 refine ⟨?_,?_,?_,r1.slt,r1.fU⟩
 ·have:=r.nodup
  rw [List.flatMap_append,List.nodup_append] at this ⊢
  refine ⟨r1.nodup,this.2.1,fun n hn m hm RF=>?_⟩
  subst RF
  obtain ⟨y,hy,PN⟩:=List.mem_flatMap.1 hn
  obtain ⟨x,hx,Ng⟩:=List.mem_flatMap.1 hm
  rcases e.new n ⟨y,hy,PN⟩ with hh | hh
  ·exact (iO x hx n Ng).2 hh
  ·have:=(iO x hx n Ng).1;omega
 ·intro x hx
  rcases List.mem_append.1 hx with hx | hx
  ·exact r1.holds x hx
  ·exact (r.holds x (List.mem_append_right _ hx)).mono e.jX (fun n hn=>(e.other n (iO x hx n hn).1 (iO x hx n hn).2).1)
 ·intro x hx n hn
  rcases List.mem_append.1 hx with hx | hx
  ·exact r1.sep x hx n hn
  ·rw [← r.sep x (List.mem_append_right _ hx) n hn]
   exact ⟨(e.other n (iO x hx n hn).1 (iO x hx n hn).2).2,fun hs=>(e.jX n hs).1⟩
theorem iF.frame {w w':World} {S S':Nat→Prop} {h h1:Heap} (rest:Heap) (e:iF w S h w' S' h1):iF w S (h++rest) w' S' (h1++rest) where
 os:=e.os
 tape:=e.tape
 output:=e.output
 size:=e.size
 drawn:=e.drawn
 jX:=e.jX
 other n hn hh:=e.other n hn (fun ⟨x,hx,hb⟩=>hh ⟨x,List.mem_append_left _ hx,hb⟩)
 new n hn:=by
  obtain ⟨x,hx,hb⟩:=hn
  rcases List.mem_append.1 hx with hx | hx
  ·rcases e.new n ⟨x,hx,hb⟩ with ⟨y,hy,UO⟩ | h
   ·exact .inl ⟨y,List.mem_append_left _ hy,UO⟩
   ·exact .inr h
  ·exact .inl ⟨x,List.mem_append_right _ hx,hb⟩
end Go.Eng
set_option linter.unusedVariables false
namespace Go.Eng
open Go
variable [bD]
theorem xi {a b:Nat} (h:Nat.beq a b=false):a≠b:=fun e=>by subst e;simp at h
theorem nd {a b:Nat} (h:a≠b):Nat.beq a b=false:=by
 cases hb:Nat.beq a b with
 | false=>rfl
 | true=>exact absurd (Nat.eq_of_beq_eq_true hb) h
def lk:List (Nat×AV)→Nat→Option AV
 | [],_=>none
 | (k,v) :: r,s=>match Nat.beq k s with
   | true=>some v
   | false=>lk r s
structure St where
 n:Nat
 tm:List (Nat×AV)
 hp:Heap
structure df (w:World) (S:Nat→Prop) (σ:St) (a:Act):Prop where
 size:a.tmps.size=σ.n
 defers:a.defers=[]
 tm:∀ s av,lk σ.tm s=some av→∃ v,a.tmps[s]? =some v∧At w S av v
 hp:bZ w S σ.hp
def Kt:Value→AV
 | .int k n=>.int k n
 | .bool b=>.bool b
 | .string s=>.str s.data.toList
 | .slice none 0 0=>.nil
 | v=>.raw v
theorem Aa (w:World) (S:Nat→Prop) (v:Value):At w S (Kt v) v:=by
 unfold Kt
 split
 ·exact .int _ _
 ·exact .bool _
 ·rename_i s
  have h:=At.str (w:=w) (S:=S) s.data.toList
  simpa using h
 ·exact .nil
 ·exact .raw _
def DR:List UInt8→Option (List UInt8)
 | []=>some []
 | x :: r=>match DR r with
   | some l=>some (x :: l)
   | none=>none
theorem Bl:∀ (l:List UInt8),DR l=some l
 | []=>rfl
 | x :: r=>by simp [DR,Bl r]
def La:Value→Option AV
 | .int k n=>some (.int k n)
 | .bool b=>some (.bool b)
 | .string s=>match DR s.data.toList with
   | some l=>some (.str l)
   | none=>none
 | .slice none 0 0=>some .nil
 | v=>some (.raw v)
theorem IP (v:Value):La v=some (Kt v):=by
 unfold La Kt
 split<;>simp [Bl]
def cx (tm:List (Nat×AV)):Operand→Option AV
 | .tmp t=>lk tm t
 | .const v=>La v
 | .func f=>some (.func (.func f) [])
 | .global g=>some (.raw (.pointer (some ⟨g,0,none⟩)))
theorem bf {w:World} {S:Nat→Prop} {σ:St} {a:Act} {x:Operand} {av:AV} (r:df w S σ a) (h:cx σ.tm x=some av):At w S av (a.eval x):=by
 cases x with
 | tmp t=>
   obtain ⟨v,h1,h2⟩:=r.tm t av h
   simp [Act.eval,h1,h2]
 | const v=>simp only [cx,IP,Option.some.injEq] at h;subst h;exact Aa _ _ _
 | global g=>simp only [cx,Option.some.injEq] at h;subst h;exact .raw _
 | func f=>simp only [cx,Option.some.injEq] at h;subst h;exact .func _ _ _ rfl (fun i c v hc=>by simp at hc)
theorem df.put {w:World} {S:Nat→Prop} {n:Nat} {tm:List (Nat×AV)} {hp:Heap} {a:Act} {d:Nat} {av:AV} {v:Value} (r:df w S ⟨n,tm,hp⟩ a) (hd:Nat.blt d n=true) (hv:At w S av v):
 df w S ⟨n,(d,av) :: tm,hp⟩ (a.put (some d) v) where
 size:=by simp [Act.put,r.size]
 defers:=r.defers
 hp:=r.hp
 tm s ep h:=by
  have Ku:d < a.tmps.size:=by rw [r.size];simpa using hd
  simp only [lk] at h
  split at h
  ·rename_i hb
   obtain rfl:d=s:=by simpa using hb
   obtain rfl:=Option.some.inj h
   exact ⟨v,by simp [Act.put,Ku],hv⟩
  ·rename_i hb
   have wV:d≠s:=xi hb
   obtain ⟨u,h1,h2⟩:=r.tm s ep h
   exact ⟨u,by simp [Act.put,wV,h1],h2⟩
theorem df.ext {w w':World} {S:Nat→Prop} {σ:St} {a:Act} (r:df w S σ a) (e:Ext w w'):df w' S σ a where
 size:=r.size
 defers:=r.defers
 hp:=r.hp.ext e
 tm s av h:=let ⟨v,h1,h2⟩:=r.tm s av h;⟨v,h1,h2.mono fun n hn=>⟨hn,e.same n (r.hp.slt n hn)⟩⟩
theorem df.heap {w w':World} {S S':Nat→Prop} {n:Nat} {tm:List (Nat×AV)} {hp bU:Heap} {a:Act} (r:df w S ⟨n,tm,hp⟩ a) (hs:∀ n,S n→S' n∧w'.heap[n]? =w.heap[n]?) (h:bZ w' S' bU):
 df w' S' ⟨n,tm,bU⟩ a where
 size:=r.size
 defers:=r.defers
 hp:=h
 tm s av h:=let ⟨v,h1,h2⟩:=r.tm s av h;⟨v,h1,h2.mono hs⟩
def OX (w:World) (S:Nat→Prop) (h:Heap) (Q:St→Prop) (a':Act) (w':World):Prop:=
 ∃ aC S',Q aC∧df w' S' aC a'∧iF w S h w' S' aC.hp
def Lb (w:World) (S:Nat→Prop) (h:Heap) (Q:Exit→St→Prop) (e:Exit) (a':Act) (w':World):Prop:=
 ∃ aC S',Q e aC∧df w' S' aC a'∧iF w S h w' S' aC.hp
def tI (K:Act→World→Prop):Exit→Act→World→Prop:=fun e a w=>e=.normal∧K a w
def ae (P:Program) (all:Array Oper) (l:List Oper) (σ:St) (Q:St→Prop):Prop:=
 ∀ w S a,df w S σ a→wpList P all (tI (OX w S σ.hp Q)) l a w
theorem Oper.E0 {P:Program} {o:Oper} {a:Act} {K K':Act→World→Prop} {Q Q':Exit→Act→World→Prop} (hK:∀ a w,K a w→K' a w) (hQ:∀ e a w,Q e a w→Q' e a w):
 ∀ r,o.upon P a K Q r→o.upon P a K' Q' r:=by
 intro r h
 unfold Oper.upon at *
 split at h
 ·exact hK _ _ h
 ·exact hK _ _ h
 ·exact hK _ _ h
 ·refine Calls.mono h ?_
  intro e w' he
  cases e with
  | returned v=>exact hK _ _ he
  | panicked c=>exact hQ _ _ _ he
  | outgrown=>obtain ⟨a0,w0,h0⟩:=he;exact ⟨a0,w0,hQ _ _ _ h0⟩
 ·exact Rows.mono h fun v w' hv=>hK _ _ hv
 ·exact hQ _ _ _ h
 ·exact h.elim
theorem iu {P:Program} {all:Array Oper} {Q Q':Exit→Act→World→Prop} (hQ:∀ e a w,Q e a w→Q' e a w):∀ (l:List Oper) (a:Act) (w:World),wpList P all Q l a w→wpList P all Q' l a w
 | [],_,_,h=>hQ _ _ _ h
 | o :: rest,a,w,h=>by
   unfold wpList at *
   split
   ·rename_i hw
    rw [if_pos hw] at h
    rcases h with h | ⟨h1,a0,w0,h0⟩
    ·exact .inl (Oper.E0 (fun a w hh=>iu hQ rest a w hh) hQ _ h)
    ·exact .inr ⟨h1,a0,w0,hQ _ _ _ h0⟩
   ·rename_i hw
    rw [if_neg hw] at h
    exact iu hQ rest _ _ h
theorem ae.nil {P:Program} {all:Array Oper} {σ:St} {Q:St→Prop} (h:Q σ):ae P all [] σ Q:=
 fun w S _ r=>⟨rfl,σ,S,h,r,iF.refl _ _ _⟩
theorem ae.go {P:Program} {all:Array Oper} {rest:List Oper} {σ:St} {Q:St→Prop} (k:ae P all rest σ Q) {w w':World} {S S':Nat→Prop} {h:Heap} {a':Act}
 (r:df w' S' σ a') (e:iF w S h w' S' σ.hp):wpList P all (tI (OX w S h Q)) rest a' w':=
 iu (fun _ _ _ ⟨h1,aC,Nh,h2,h3,h4⟩=>⟨h1,aC,Nh,h2,h3,e.trans h4⟩) _ _ _ (k w' S' a' r)
theorem ae.Gr {P:Program} {all:Array Oper} {o:Oper} {rest:List Oper} {σ:St} {Q:St→Prop} (hg:o.guard=none)
 (h:∀ w S a,df w S σ a→∃ v w' S' aC,(execOp a.eval o).run P w=.ok (.value v) w'∧df w' S' aC (a.put o.dst v)∧iF w S σ.hp w' S' aC.hp∧ae P all rest aC Q):
 ae P all (o :: rest) σ Q:=by
 intro w S a r
 obtain ⟨v,w',S',aC,h1,h2,h3,k⟩:=h w S a r
 unfold wpList
 rw [if_pos (by simp [Region.wanted,hg])]
 refine .inl ?_
 show o.upon P a _ _ _
 rw [h1]
 exact k.go h2 h3
theorem ae.op {P:Program} {all:Array Oper} {o:Oper} {rest:List Oper} {σ aC:St} {Q:St→Prop} (hg:o.guard=none)
 (h:∀ w S a,df w S σ a→∃ v w' S',(execOp a.eval o).run P w=.ok (.value v) w'∧df w' S' aC (a.put o.dst v)∧iF w S σ.hp w' S' aC.hp)
 (k:ae P all rest aC Q):ae P all (o :: rest) σ Q:=
 ae.Gr hg fun w S a r=>let ⟨v,w',S',h1,h2,h3⟩:=h w S a r;⟨v,w',S',aC,h1,h2,h3,k⟩
theorem ae.DS {P:Program} {all:Array Oper} {o:Oper} {rest:List Oper} {σ:St} {Q:St→Prop} (hg:o.guard=none)
 (h:∀ w S a,df w S σ a→∃ f args,(execOp a.eval o).run P w=.ok (.enter f args) w∧
  Calls P f args w fun e w'=>∃ v S' aC,e=.returned v∧df w' S' aC (a.put o.dst v)∧iF w S σ.hp w' S' aC.hp∧ae P all rest aC Q):
 ae P all (o :: rest) σ Q:=by
 intro w S a r
 obtain ⟨f,args,h1,h2⟩:=h w S a r
 unfold wpList
 rw [if_pos (by simp [Region.wanted,hg])]
 refine .inl ?_
 show o.upon P a _ _ _
 rw [h1]
 refine Calls.mono h2 ?_
 rintro e w' ⟨v,S',aC,rfl,g1,g2,k⟩
 exact k.go g1 g2
theorem ae.act {P:Program} {all:Array Oper} {o:Oper} {rest:List Oper} {σ aC:St} {Q:St→Prop} (hg:o.guard=none) (hd:o.dst=none)
 (h:∀ w S a,df w S σ a→∃ w' S',(execOp a.eval o).run P w=.ok .skip w'∧df w' S' aC a∧iF w S σ.hp w' S' aC.hp)
 (k:ae P all rest aC Q):ae P all (o :: rest) σ Q:=by
 intro w S a r
 obtain ⟨w',S',h1,h2,h3⟩:=h w S a r
 unfold wpList
 rw [if_pos (by simp [Region.wanted,hg])]
 refine .inl ?_
 show o.upon P a _ _ _
 rw [h1]
 show wpList P all _ rest (a.put o.dst undef) w'
 rw [hd]
 exact k.go h2 h3
theorem ae.val {P:Program} {all:Array Oper} {o:Oper} {rest:List Oper} {n:Nat} {tm:List (Nat×AV)} {hp:Heap} {Q:St→Prop} {d:Nat} {av:AV} (hg:o.guard=none) (hd:o.dst=some d) (hn:Nat.blt d n=true)
 (h:∀ w S a,df w S ⟨n,tm,hp⟩ a→∃ v,(execOp a.eval o).run P w=.ok (.value v) w∧At w S av v)
 (k:ae P all rest ⟨n,(d,av) :: tm,hp⟩ Q):ae P all (o :: rest) ⟨n,tm,hp⟩ Q:=by
 refine ae.op hg (aC:=⟨n,(d,av) :: tm,hp⟩) ?_ k
 intro w S a r
 obtain ⟨v,h1,h2⟩:=h w S a r
 exact ⟨v,w,S,h1,by rw [hd];exact r.put hn h2,iF.refl _ _ _⟩
def QV (P:Program) (o:Oper) (σ:St) (av:AV):Prop:=
 ∀ w S a,df w S σ a→∃ v,(∀ w',Ext w w'→(execOp a.eval o).run P w'=.ok (.value v) w')∧At w S av v
theorem ae.qv {P:Program} {all:Array Oper} {rest:List Oper} {n:Nat} {tm:List (Nat×AV)} {hp:Heap} {Q:St→Prop} {d:Nat} {av:AV} {op:Op} {ty:TypeId} {pos:String} {af:Array Edge}
 (q:QV P ⟨some d,op,ty,pos,af,none⟩ ⟨n,tm,hp⟩ av) (hn:Nat.blt d n=true) (k:ae P all rest ⟨n,(d,av) :: tm,hp⟩ Q):ae P all (⟨some d,op,ty,pos,af,none⟩ :: rest) ⟨n,tm,hp⟩ Q:=
 ae.val rfl rfl hn (fun w S a r=>let ⟨v,h1,h2⟩:=q w S a r;⟨v,h1 w (Ext.refl w),h2⟩) k
structure Ni (σ aC:St):Prop where
 n:aC.n=σ.n
 tm:∀ s av,lk aC.tm s=some av→lk σ.tm s=some av
 hp:aC.hp.Sublist σ.hp
theorem bZ.sub {w:World} {S:Nat→Prop} {h h':Heap} (r:bZ w S h) (hs:h'.Sublist h):bZ w S h' where
 nodup:=r.nodup.sublist (vU hs)
 holds e he:=r.holds e (hs.subset he)
 sep e he:=r.sep e (hs.subset he)
 slt:=r.slt
 fU:=r.fU
theorem df.less {w:World} {S:Nat→Prop} {σ aC:St} {a:Act} (r:df w S σ a) (h:Ni σ aC):df w S aC a where
 size:=r.size.trans h.n.symm
 defers:=r.defers
 tm s av hh:=r.tm s av (h.tm s av hh)
 hp:=r.hp.sub h.hp
theorem Has.sub {h h':Heap} (hs:h'.Sublist h) {n:Nat} (hh:Has h' n):Has h n:=let ⟨e,he,hb⟩:=hh;⟨e,hs.subset he,hb⟩
theorem ae.weaken {P:Program} {all:Array Oper} {l:List Oper} {σ aC:St} {Q:St→Prop} (h:Ni σ aC) (k:ae P all l aC Q):ae P all l σ Q:=
 fun w S _ r=>k.go (r.less h) (iF.less (iF.refl w S σ.hp) fun _ hn=>hn.sub h.hp)
theorem ae.ao {P:Program} {all:Array Oper} {d:Nat} {op:Op} {ty:TypeId} {pos:String} {af:Array Edge} {j:Nat} {want b:Bool} {s:Nat} {rest:List Oper} {n:Nat} {tm:List (Nat×AV)} {hp:Heap} {Q:St→Prop}
 (hj:(all[j]?).bind (·.dst)=some s) (hs:lk tm s=some (.bool b)) (hb:b=!want) (hn:Nat.blt d n=true)
 (k:ae P all rest ⟨n,(d,.raw undef) :: tm,hp⟩ Q):ae P all (⟨some d,op,ty,pos,af,some (j,want)⟩ :: rest) ⟨n,tm,hp⟩ Q:=by
 intro w S a r
 obtain ⟨v,h1,h2⟩:=r.tm s _ hs
 cases h2
 unfold wpList
 rw [if_neg (by simp [Region.wanted,yielded,hj,h1,hb])]
 exact k.go (r.put hn (.raw undef)) (iF.refl _ _ _)
theorem ae.aH {P:Program} {all:Array Oper} {d:Nat} {op:Op} {ty:TypeId} {pos:String} {af:Array Edge} {j:Nat} {want:Bool} {s:Nat} {rest:List Oper} {n:Nat} {tm:List (Nat×AV)} {hp:Heap} {Q:St→Prop}
 (hj:(all[j]?).bind (·.dst)=some s) (hs:lk tm s=some (.raw undef)) (hn:Nat.blt d n=true)
 (k:ae P all rest ⟨n,(d,.raw undef) :: tm,hp⟩ Q):ae P all (⟨some d,op,ty,pos,af,some (j,want)⟩ :: rest) ⟨n,tm,hp⟩ Q:=by
 intro w S a r
 obtain ⟨v,h1,h2⟩:=r.tm s _ hs
 cases h2
 unfold wpList
 rw [if_neg (by simp [Region.wanted,yielded,hj,h1,undef])]
 exact k.go (r.put hn (.raw undef)) (iF.refl _ _ _)
theorem ae.aq {P:Program} {all:Array Oper} {d:Option Nat} {op:Op} {ty:TypeId} {pos:String} {af:Array Edge} {j:Nat} {want b:Bool} {s:Nat} {rest:List Oper} {σ:St} {Q:St→Prop}
 (hj:(all[j]?).bind (·.dst)=some s) (hs:lk σ.tm s=some (.bool b)) (hb:b=want)
 (k:ae P all (⟨d,op,ty,pos,af,none⟩ :: rest) σ Q):ae P all (⟨d,op,ty,pos,af,some (j,want)⟩ :: rest) σ Q:=by
 intro w S a r
 obtain ⟨v,h1,h2⟩:=r.tm s _ hs
 cases h2
 have:=k w S a r
 unfold wpList at this ⊢
 rw [if_pos (by simp [Region.wanted])] at this
 rw [if_pos (by simp [Region.wanted,yielded,hj,h1,hb])]
 exact this
def Kv (P:Program) (c:Code) (σ:St) (Q:Exit→St→Prop):Prop:=
 ∀ w S a,df w S σ a→c.wp P (Lb w S σ.hp Q) a w
theorem Kv.go {P:Program} {c:Code} {σ:St} {Q:Exit→St→Prop} (k:Kv P c σ Q) {w w':World} {S S':Nat→Prop} {h:Heap} {a':Act}
 (r:df w' S' σ a') (e:iF w S h w' S' σ.hp):c.wp P (Lb w S h Q) a' w':=
 wp_mono (k w' S' a' r) (fun _ _ _ ⟨aC,Nh,h2,h3,h4⟩=>⟨aC,Nh,h2,h3,e.trans h4⟩)
inductive It where
 | code (c:Code)
 | bY (id:Nat)
 | stop (I:St→Prop)
def TD (P:Program) (R:St→Prop):List It→Exit→St→Prop
 | [],.normal,σ | [],.ret,σ=>R σ
 | [],_,_=>False
 | .bY id :: k,.exit Kw,σ=>match Nat.beq Kw id with
   | true=>TD P R k .normal σ
   | false=>TD P R k (.exit Kw) σ
 | .bY _ :: k,e,σ=>TD P R k e σ
 | .stop I :: _,.normal,σ=>I σ
 | .stop _ :: k,e,σ=>TD P R k e σ
 | .code c :: k,.normal,σ=>Kv P c σ (fun e aC=>TD P R k e aC)
 | .code _ :: k,e,σ=>TD P R k e σ
def ab (P:Program) (R:St→Prop) (k:List It) (σ:St):Prop:=TD P R k .normal σ
section
variable {P:Program} {R:St→Prop} {k:List It} {σ:St}
theorem ab.nil (h:R σ):ab P R [] σ:=h
theorem ab.bY {id:Nat} (h:ab P R k σ):ab P R (.bY id :: k) σ:=h
theorem ab.stop {I:St→Prop} (h:I σ):ab P R (.stop I :: k) σ:=h
theorem TD.ret:∀ (k:List It),R σ→TD P R k .ret σ
 | [],h=>h
 | .bY _ :: k,h=>TD.ret k h
 | .stop _ :: k,h=>TD.ret k h
 | .code _ :: k,h=>TD.ret k h
theorem ab.ret (h:R σ):ab P R (.code .ret :: k) σ:=
 fun w S _ r=>wp_ret ⟨σ,S,TD.ret k h,r,iF.refl _ _ _⟩
theorem ab.skip (h:ab P R k σ):ab P R (.code .skip :: k) σ:=
 fun w S _ r=>wp_skip ⟨σ,S,h,r,iF.refl _ _ _⟩
def zc (id:Nat):List It→Option (List It)
 | []=>none
 | .bY Kw :: k=>match Nat.beq id Kw with
   | true=>some k
   | false=>zc id k
 | _ :: k=>zc id k
theorem TD.exit {id:Nat}:∀ (k k':List It),zc id k=some k'→ab P R k' σ→TD P R k (.exit id) σ
 | [],_,h,_=>by simp [zc] at h
 | .bY Kw :: k,k',h,h'=>by
   simp only [zc] at h
   unfold TD
   split at h
   ·obtain rfl:=Option.some.inj h;exact h'
   ·exact TD.exit k k' h h'
 | .stop _ :: k,k',h,h'=>TD.exit k k' h h'
 | .code _ :: k,k',h,h'=>TD.exit k k' h h'
theorem ab.exit {id:Nat} {k':List It} (hp:zc id k=some k') (h:ab P R k' σ):ab P R (.code (.exit id) :: k) σ:=
 fun w S _ r=>wp_exit ⟨σ,S,TD.exit k k' hp h,r,iF.refl _ _ _⟩
theorem ab.seq {x y:Code} (h:ab P R (.code x :: .code y :: k) σ):ab P R (.code (.seq x y) :: k) σ:=by
 intro w S a r
 refine wp_seq (wp_mono (h w S a r) ?_)
 rintro e a' w' ⟨aC,S',h1,h2,h3⟩
 cases e with
 | normal=>exact Kv.go (Q:=fun e aC=>TD P R k e aC) h1 h2 h3
 | exit id=>exact ⟨aC,S',h1,h2,h3⟩
 | goto l=>exact ⟨aC,S',h1,h2,h3⟩
 | ret=>exact ⟨aC,S',h1,h2,h3⟩
 | panic c=>exact ⟨aC,S',h1,h2,h3⟩
 | outgrown=>exact ⟨aC,S',h1,h2,h3⟩
theorem ab.block {id:Nat} {c:Code} (h:ab P R (.code c :: .bY id :: k) σ):ab P R (.code (.block id c) :: k) σ:=by
 intro w S a r
 refine wp_block (wp_mono (h w S a r) ?_)
 rintro e a' w' ⟨aC,S',h1,h2,h3⟩
 cases e with
 | normal=>exact ⟨aC,S',h1,h2,h3⟩
 | exit Kw=>
   simp only [TD] at h1
   by_cases hb:Kw=id
   ·subst hb
    simp only [Nat.beq_refl] at h1
    simp only [Exit.inBlock,if_true]
    exact ⟨aC,S',h1,h2,h3⟩
   ·have:Nat.beq Kw id=false:=nd hb
    rw [this] at h1
    simp only [Exit.inBlock,hb,if_false]
    exact ⟨aC,S',h1,h2,h3⟩
 | goto l=>exact ⟨aC,S',h1,h2,h3⟩
 | ret=>exact ⟨aC,S',h1,h2,h3⟩
 | panic c=>exact ⟨aC,S',h1,h2,h3⟩
 | outgrown=>exact ⟨aC,S',h1,h2,h3⟩
theorem ab.cond {c:Operand} {x y:Code} {b:Bool} (hc:cx σ.tm c=some (.bool b)) (h1:b=true→ab P R (.code x :: k) σ) (h2:b=false→ab P R (.code y :: k) σ):
 ab P R (.code (.cond c x y) :: k) σ:=by
 intro w S a r
 have hv:=bf r hc
 generalize UP:a.eval c=v at hv
 cases hv
 exact wp_cond_split UP (fun hb=>h1 hb w S a r) (fun hb=>h2 hb w S a r)
theorem ab.region {id:Nat} {l:List Oper} (h:ae P l.toArray l σ (ab P R k)):ab P R (.code (.region id l.toArray false) :: k) σ:=by
 intro w S a r
 refine wp_region_lit (iu ?_ _ _ _ (h w S a r))
 rintro e a' w' ⟨rfl,aC,S',h1,h2,h3⟩
 exact ⟨aC,S',h1,h2,h3⟩
theorem ab.go {w w':World} {S S':Nat→Prop} {h:Heap} {a':Act} {c:Code} (kk:ab P R (.code c :: k) σ) (r:df w' S' σ a') (e:iF w S h w' S' σ.hp):
 c.wp P (Lb w S h (TD P R k)) a' w':=Kv.go (Q:=fun e aC=>TD P R k e aC) kk r e
theorem least (p:Nat→Prop) (n:Nat) (h:p n):∃ m,p m∧∀ i,p i→m≤i:=by
 induction n using Nat.strongRecOn with
 | _ n ih=>
   by_cases hx:∃ i,i < n∧p i
   ·obtain ⟨i,hi,hp⟩:=hx;exact ih i hi hp
   ·exact ⟨n,h,fun i hi=>Nat.le_of_not_lt fun iO=>hx ⟨i,iO,hi⟩⟩
open Classical in
noncomputable def ur (p:Nat→Prop):Nat:=if h:∃ n,p n then Classical.choose (least p h.choose h.choose_spec) else 0
theorem tp {p:Nat→Prop} {n:Nat} (h:p n):p (ur p)∧ur p≤n:=by
 have hx:∃ n,p n:=⟨n,h⟩
 unfold ur
 rw [dif_pos hx]
 have:=Classical.choose_spec (least p hx.choose hx.choose_spec)
 exact ⟨this.1,this.2 n h⟩
theorem ab.loop {body:Code} (I:Nat→St→Prop) (m:Nat) (h0:I m σ) (hs:∀ m σ,I m σ→ab P R (.code body :: .stop (fun aC=>∃ m',m' < m∧I m' aC) :: k) σ):
 ab P R (.code (.loop body) :: k) σ:=by
 intro w S a r
 let p:Act→World→Nat→Prop:=fun a' w' m=>∃ aC S',I m aC∧df w' S' aC a'∧iF w S σ.hp w' S' aC.hp
 refine wp_loop (fun a' w'=>∃ m,p a' w' m) (fun a' w'=>ur (p a' w')) ⟨m,σ,S,h0,r,iF.refl _ _ _⟩ ?_
 rintro a1 w1 ⟨m1,Nj⟩
 obtain ⟨⟨wW,S1,hI,UQ,PQ⟩,_⟩:=tp Nj
 refine wp_mono (ab.go (hs _ wW hI) UQ PQ) ?_
 rintro e a2 w2 ⟨DT,S2,h2,Kx,IQ⟩
 cases e with
 | normal=>
   obtain ⟨m2,iO,UR⟩:=h2
   have ME:p a2 w2 m2:=⟨DT,S2,UR,Kx,IQ⟩
   exact ⟨⟨m2,ME⟩,Nat.lt_of_le_of_lt (tp ME).2 iO⟩
 | exit id=>exact ⟨DT,S2,h2,Kx,IQ⟩
 | goto l=>exact ⟨DT,S2,h2,Kx,IQ⟩
 | ret=>exact ⟨DT,S2,h2,Kx,IQ⟩
 | panic c=>exact ⟨DT,S2,h2,Kx,IQ⟩
 | outgrown=>exact ⟨DT,S2,h2,Kx,IQ⟩
end
def aF (P:Program) (f:FuncId) (args:List AV) (h:Heap) (Q:AV→Heap→Prop):Prop:=
 ∀ w S (vs:Array Value),bZ w S h→args.length=vs.size→mA w S args vs→
   Calls P f vs w fun e w'=>∃ v r h' S',e=.returned v∧Q r h'∧At w' S' r v∧bZ w' S' h'∧iF w S h w' S' h'
theorem aF.frame {P:Program} {f:FuncId} {args:List AV} {h:Heap} {Q:AV→Heap→Prop} (c:aF P f args h Q) (rest:Heap):
 aF P f args (h++rest) (fun r h'=>∃ h1,h'=h1++rest∧Q r h1):=by
 intro w S vs r hl ha
 refine (c w S vs (r.sub (List.sublist_append_left _ _)) hl ha).mono ?_
 rintro e w' ⟨v,rr,h',S',h1,h2,h3,h4,h5⟩
 exact ⟨v,rr,h'++rest,S',h1,⟨h',rfl,h2⟩,h3,r.frame h5 h4,h5.frame rest⟩
theorem bZ.perm {w:World} {S:Nat→Prop} {h h':Heap} (r:bZ w S h) (hp:h.Perm h'):bZ w S h' where
 nodup:=(List.Perm.flatMap_right _ hp).nodup_iff.1 r.nodup
 holds e he:=r.holds e (hp.mem_iff.2 he)
 sep e he:=r.sep e (hp.mem_iff.2 he)
 slt:=r.slt
 fU:=r.fU
def IS:List AV→Nat→List (Nat×AV)
 | [],_=>[]
 | x :: r,i=>(i,x) :: IS r (i+1)
theorem Gs:∀ (l:List AV) (i s:Nat) (av:AV),lk (IS l i) s=some av→i≤s∧l[s - i]? =some av
 | [],_,_,_,h=>by simp [IS,lk] at h
 | x :: r,i,s,av,h=>by
   simp only [IS,lk] at h
   split at h
   ·rename_i hb
    obtain rfl:i=s:=by simpa using hb
    simpa using h
   ·rename_i hb
    have wV:i≠s:=xi hb
    obtain ⟨h1,h2⟩:=Gs r (i+1) s av h
    refine ⟨by omega,?_⟩
    rw [show s - i=(s - (i+1))+1 from by omega]
    simpa using h2
theorem wX {w:World} {S:Nat→Prop} {x y:AV} {u v:Value} (hx:At w S x u) (hy:At w S y v):mA w S [x,y] #[u,v]:=by
 intro i c d hc hd
 match i with
 | 0=>simp at hc hd;subst hc;subst hd;exact hx
 | 1=>simp at hc hd;subst hc;subst hd;exact hy
 | i+2=>simp at hc
class aV (P:Program) (t:TypeId) (i:outParam TypeInfo):Prop where
 h:P.info? t=some i
class ax (P:Program) (t:TypeId) (d:outParam TypeDesc):Prop where
 h:P.underlying t=some d
section inv
variable {w:World} {S:Nat→Prop} {v:Value}
theorem At.er {k:IntKind} {n:Int} (h:At w S (.int k n) v):v=.int k n:=by cases h;rfl
theorem At.ko {b:Bool} (h:At w S (.bool b) v):v=.bool b:=by cases h;rfl
theorem At.et {s:List UInt8} (h:At w S (.str s) v):v=.string ⟨s.toArray⟩:=by cases h;rfl
theorem At.IT {u:Value} (h:At w S (.raw u) v):v=u:=by cases h;rfl
theorem At.DU (h:At w S .nil v):v=.slice none 0 0:=by cases h;rfl
theorem At.wY {cs:List AV} (h:At w S (.agg cs) v):∃ vs,v=.agg vs∧cs.length=vs.size∧mA w S cs vs:=by cases h with | agg _ vs hl h=>exact ⟨vs,rfl,hl,h⟩
theorem At.IU {cs:List AV} (h:At w S (.kj cs) v):∃ vs,v=.tuple vs∧cs.length=vs.size∧mA w S cs vs:=by cases h with | kj _ vs hl h=>exact ⟨vs,rfl,hl,h⟩
theorem At.pd {b:Bk} {o:Nat} (h:At w S (.ptr b o) v):∃ n,b.bY=some n∧v=.pointer (some ⟨n,o,none⟩):=by cases h with | ptr _ _ n hb=>exact ⟨n,hb,rfl⟩
theorem At.rV {sz:Nat} {b:Bk} {i o:Nat} (h:At w S (.nP sz b i o) v):∃ n,b.bY=some n∧v=.pointer (some ⟨n,i * sz+o,none⟩):=by cases h with | nP _ _ _ _ n hb=>exact ⟨n,hb,rfl⟩
theorem At.xj {fn:Fn} {cs:List AV} (h:At w S (.func fn cs) v):∃ vs,v=.func fn #[] vs∧cs.length=vs.size∧mA w S cs vs:=by cases h with | func _ _ vs hl h=>exact ⟨vs,rfl,hl,h⟩
theorem At.uu {sz:Nat} {xs:List AV} (h:At w S (.list sz xs) v):∃ (a:Option Addr) (cap:Nat) (vs:List Value),v=.slice a xs.length cap∧(∀ x∈xs,El sz x)∧(flat xs).length=vs.length∧(∀ (i:Nat) c u,(flat xs)[i]? =some c→vs[i]? =some u→At w S c u)∧
 (∀ (i:Nat) u,vs[i]? =some u→∃ ad,a=some ad∧ad.spot=none∧S ad.block∧w.cell? ⟨ad.block,ad.off+i,none⟩=some u)∧xs.length≤cap:=by
 cases h with | list _ _ a cap vs h1 h2 h3 h4 h5=>exact ⟨a,cap,vs,rfl,h1,h2,h3,h4,h5⟩
theorem At.rW {cs:List AV} (h:At w S (.cE cs) v):∃ (ad:Addr) (vs:List Value),v=.pointer (some ad)∧cs.length=vs.length∧(∀ (i:Nat) c u,cs[i]? =some c→vs[i]? =some u→At w S c u)∧ad.spot=none∧S ad.block∧
 (∀ (i:Nat) u,vs[i]? =some u→w.cell? ⟨ad.block,ad.off+i,none⟩=some u):=by
 cases h with | cE _ ad vs h1 h2 h3 h4 h5=>exact ⟨ad,vs,rfl,h1,h2,h3,h4,h5⟩
theorem At.qB {sz:Nat} {b:Bk} {off len:Nat} (h:At w S (.sl sz b off len) v):∃ a cap,v=.slice a len cap∧((b.bY=none∧off=0∧len=0∧a=none∧cap=0)∨
 (∃ n,b.bY=some n∧a=some ⟨n,off * sz,none⟩∧len≤cap∧off+cap≤b.cap)∨(∃ n ad,b.bY=some n∧a=some ad∧len=0∧cap=0)):=by
 cases h with
 | xh _ _ hb=>exact ⟨none,0,rfl,.inl ⟨hb,rfl,rfl,rfl,rfl⟩⟩
 | sl _ _ _ _ n cap hb h1 h2=>exact ⟨_,cap,rfl,.inr (.inl ⟨n,hb,rfl,h1,h2⟩)⟩
 | IN _ _ _ n ad hb=>exact ⟨_,0,rfl,.inr (.inr ⟨n,ad,hb,rfl,rfl,rfl⟩)⟩
end inv
section rules
variable {P:Program} {all:Array Oper} {rest:List Oper} {n:Nat} {tm:List (Nat×AV)} {hp:Heap} {Q:St→Prop} {d:Nat} {ty:TypeId} {pos:String} {af:Array Edge}
theorem aA {x:Operand} {av:AV} (hx:cx tm x=some av):QV P ⟨some d,.move x,ty,pos,af,none⟩ ⟨n,tm,hp⟩ (av):=
 (fun w S a r=>⟨a.eval x,fun _ _=>rfl,bf (σ:=⟨n,tm,hp⟩) r hx⟩)
theorem ek {x:Operand} {av:AV} (hx:cx tm x=some av):QV P ⟨some d,.assign x,ty,pos,af,none⟩ ⟨n,tm,hp⟩ (av):=
 (fun w S a r=>⟨a.eval x,fun _ _=>rfl,bf (σ:=⟨n,tm,hp⟩) r hx⟩)
theorem gI {c x y:Operand} {av:AV} (hc:cx tm c=some (.bool true)) (hx:cx tm x=some av):QV P ⟨some d,.pick c x y,ty,pos,af,none⟩ ⟨n,tm,hp⟩ (av):=
 (fun w S a r=>⟨a.eval x,fun w1 _=>by have h:=(bf (σ:=⟨n,tm,hp⟩) r hc).ko;simp [execOp,h,asBool],bf (σ:=⟨n,tm,hp⟩) r hx⟩)
theorem fr {c x y:Operand} {av:AV} (hc:cx tm c=some (.bool false)) (hx:cx tm y=some av):QV P ⟨some d,.pick c x y,ty,pos,af,none⟩ ⟨n,tm,hp⟩ (av):=
 (fun w S a r=>⟨a.eval y,fun w1 _=>by have h:=(bf (σ:=⟨n,tm,hp⟩) r hc).ko;simp [execOp,h,asBool],bf (σ:=⟨n,tm,hp⟩) r hx⟩)
theorem qV {op:BinOp} {xt yt:TypeId} {x y:Operand} {k:IntKind} {i j:Int} {av:AV} {v:Value} (hx:cx tm x=some (.int k i)) (hy:cx tm y=some (.int k j))
 (rZ:∀ w,(binOp op xt (.int k i) (.int k j)).run P w=.ok v w) (nQ:∀ w S,At w S av v):QV P ⟨some d,.binOp op xt x y yt,ty,pos,af,none⟩ ⟨n,tm,hp⟩ av:=by
 intro w S a r
 refine ⟨v,fun w' _=>?_,nQ w S⟩
 simp [execOp,(bf (σ:=⟨n,tm,hp⟩) r hx).er,(bf (σ:=⟨n,tm,hp⟩) r hy).er,eqGuard_at_int,rZ]
def Lc (i:Int):Prop:=-9223372036854775808≤i∧i≤9223372036854775807
theorem vp {i:Int} (h:Lc i):IntKind.i64.wrap i=i:=IntWalk.i64_in _ h
theorem bc {xt yt:TypeId} {x y:Operand} {k:IntKind} {i j:Int} (hx:cx tm x=some (.int k i)) (hy:cx tm y=some (.int k j)):QV P ⟨some d,.binOp .add xt x y yt,ty,pos,af,none⟩ ⟨n,tm,hp⟩ (.int k (k.wrap (i+j))):=
 qV hx hy (v:=_) (fun w=>by simp [binOp,Op.intArith]) (fun w S=>.int _ _)
theorem cF {xt yt:TypeId} {x y:Operand} {k:IntKind} {i j:Int} (hx:cx tm x=some (.int k i)) (hy:cx tm y=some (.int k j)):QV P ⟨some d,.binOp .sub xt x y yt,ty,pos,af,none⟩ ⟨n,tm,hp⟩ (.int k (k.wrap (i - j))):=
 qV hx hy (v:=_) (fun w=>by simp [binOp,Op.intArith]) (fun w S=>.int _ _)
theorem nR {xt yt:TypeId} {x y:Operand} {k:IntKind} {i j:Int} (hx:cx tm x=some (.int k i)) (hy:cx tm y=some (.int k j)):QV P ⟨some d,.binOp .mul xt x y yt,ty,pos,af,none⟩ ⟨n,tm,hp⟩ (.int k (k.wrap (i * j))):=
 qV hx hy (v:=_) (fun w=>by simp [binOp,Op.intArith]) (fun w S=>.int _ _)
theorem Gt {xt yt:TypeId} {x y:Operand} {k:IntKind} {i j:Int} (hx:cx tm x=some (.int k i)) (hy:cx tm y=some (.int k j)) (h0:j≠0):QV P ⟨some d,.binOp .rem xt x y yt,ty,pos,af,none⟩ ⟨n,tm,hp⟩ (.int k (i.tmod j)):=
 qV hx hy (v:=.int k (i.tmod j)) (fun w=>by simp [binOp,Op.intDiv,h0]) (fun w S=>.int _ _)
theorem bG {xt yt:TypeId} {x y:Operand} {k:IntKind} {i j:Int} (hx:cx tm x=some (.int k i)) (hy:cx tm y=some (.int k j)):QV P ⟨some d,.binOp .lss xt x y yt,ty,pos,af,none⟩ ⟨n,tm,hp⟩ (.bool (decide (i < j))):=
 qV hx hy (v:=.bool (decide (i < j))) (fun w=>by simp [binOp,Op.intCmp]) (fun w S=>.bool _)
theorem tq {xt yt:TypeId} {x y:Operand} {k:IntKind} {i j:Int} (hx:cx tm x=some (.int k i)) (hy:cx tm y=some (.int k j)):QV P ⟨some d,.binOp .leq xt x y yt,ty,pos,af,none⟩ ⟨n,tm,hp⟩ (.bool (decide (i≤j))):=
 qV hx hy (v:=.bool (decide (i≤j))) (fun w=>by simp [binOp,Op.intCmp]) (fun w S=>.bool _)
theorem fL {xt yt:TypeId} {x y:Operand} {k:IntKind} {i j:Int} (hx:cx tm x=some (.int k i)) (hy:cx tm y=some (.int k j)):QV P ⟨some d,.binOp .gtr xt x y yt,ty,pos,af,none⟩ ⟨n,tm,hp⟩ (.bool (decide (j < i))):=
 qV hx hy (v:=.bool (decide (j < i))) (fun w=>by simp [binOp,Op.intCmp]) (fun w S=>.bool _)
theorem oe {xt yt:TypeId} {x y:Operand} {k:IntKind} {i j:Int} (hx:cx tm x=some (.int k i)) (hy:cx tm y=some (.int k j)):QV P ⟨some d,.binOp .geq xt x y yt,ty,pos,af,none⟩ ⟨n,tm,hp⟩ (.bool (decide (j≤i))):=
 qV hx hy (v:=.bool (decide (j≤i))) (fun w=>by simp [binOp,Op.intCmp]) (fun w S=>.bool _)
theorem cC {xt yt:TypeId} {x y:Operand} {k:IntKind} {i j:Int} (hx:cx tm x=some (.int k i)) (hy:cx tm y=some (.int k j)):QV P ⟨some d,.binOp .eql xt x y yt,ty,pos,af,none⟩ ⟨n,tm,hp⟩ (.bool (decide (i=j))):=
 qV hx hy (v:=.bool (decide (i=j))) (fun w=>by simp [binOp,Op.intCmp];rfl) (fun w S=>.bool _)
theorem kT {xt yt:TypeId} {x y:Operand} {k:IntKind} {i j:Int} (hx:cx tm x=some (.int k i)) (hy:cx tm y=some (.int k j)):QV P ⟨some d,.binOp .neq xt x y yt,ty,pos,af,none⟩ ⟨n,tm,hp⟩ (.bool (decide (i≠j))):=
 qV hx hy (v:=.bool (decide (i≠j))) (fun w=>by simp [binOp,Op.intCmp,bne];rfl) (fun w S=>.bool _)
theorem Gu {xt yt:TypeId} {x y:Operand} {s t:List UInt8} (hx:cx tm x=some (.str s)) (hy:cx tm y=some (.str t)):QV P ⟨some d,.binOp .eql xt x y yt,ty,pos,af,none⟩ ⟨n,tm,hp⟩ (.bool (decide (s=t))):=by
 refine fun w S a r=>⟨.bool (decide (s=t)),fun w1 _=>?_,.bool _⟩
 simp [execOp,(bf (σ:=⟨n,tm,hp⟩) r hx).et,(bf (σ:=⟨n,tm,hp⟩) r hy).et,eqGuard_at_string,binOp,Op.stringOp]
 rw [Bool.eq_iff_iff];simp
theorem Nk {xt yt:TypeId} {x y:Operand} {s t:List UInt8} (hx:cx tm x=some (.str s)) (hy:cx tm y=some (.str t)):QV P ⟨some d,.binOp .neq xt x y yt,ty,pos,af,none⟩ ⟨n,tm,hp⟩ (.bool (decide (s≠t))):=by
 refine fun w S a r=>⟨.bool (decide (s≠t)),fun w1 _=>?_,.bool _⟩
 simp [execOp,(bf (σ:=⟨n,tm,hp⟩) r hx).et,(bf (σ:=⟨n,tm,hp⟩) r hy).et,eqGuard_at_string,binOp,Op.stringOp]
 rw [Bool.eq_iff_iff];simp
theorem run_equal_bool {P:Program} {t:TypeId} (h:P.underlying t=some .bool) (b c:Bool) (w:World):(Op.equal t (.bool b) (.bool c)).run P w=.ok (b==c) w:=by
 show (Op.equalIn (9999+1) t (.bool b) (.bool c)).run P w=_
 rw [Op.equalIn]
 simp [run_underlying h]
theorem tJ {P:Program} {t:TypeId} (h:P.underlying t=some .bool) (b c:Bool) (w:World):(binOp .neq t (.bool b) (.bool c)).run P w=.ok (.bool (b !=c)) w:=by
 rw [show binOp .neq t (.bool b) (.bool c)=(do pure (.bool (!(← Op.equal t (.bool b) (.bool c))))) from rfl]
 simp [run_equal_bool h,bne]
theorem Ab (s:List UInt8):(⟨s.toArray⟩:ByteArray).size=s.length:=rfl
theorem cu {xt:TypeId} {x:Operand} {b:Bool} (hx:cx tm x=some (.bool b)):QV P ⟨some d,.unOp .not xt x,ty,pos,af,none⟩ ⟨n,tm,hp⟩ (.bool (!b)):=
 (fun w S a r=>⟨.bool (!b),fun w1 _=>by simp [execOp,(bf (σ:=⟨n,tm,hp⟩) r hx).ko,Op.unary],.bool _⟩)
theorem Nl {xt yt:TypeId} {x y:Operand} {b c:Bool} [ax P xt .bool] (hx:cx tm x=some (.bool b)) (hy:cx tm y=some (.bool c)):QV P ⟨some d,.binOp .neq xt x y yt,ty,pos,af,none⟩ ⟨n,tm,hp⟩ (.bool (b !=c)):=
 (fun w S a r=>⟨.bool (b !=c),fun w1 _=>by simp [execOp,(bf (σ:=⟨n,tm,hp⟩) r hx).ko,(bf (σ:=⟨n,tm,hp⟩) r hy).ko,eqGuard_at_bool,tJ (ax.h (P:=P) (t:=xt))],.bool _⟩)
theorem C2 {x:Operand} {t e:TypeId} {sz:Nat} {xs:List AV} [ax P t (.slice e)] (hx:cx tm x=some (.list sz xs)):QV P ⟨some d,.call {callee:=.builtin .len,args:=#[x],argTypes:=#[t]},ty,pos,af,none⟩ ⟨n,tm,hp⟩ (.int .i64 (xs.length:Nat)):=
 (fun w S a r=>⟨.int .i64 (xs.length:Nat),fun w1 _=>by
  obtain ⟨ad,cap,vs,h1,_⟩:=(bf (σ:=⟨n,tm,hp⟩) r hx).uu
  simp [execOp,h1,resolve,invoke,builtin,Builtin.len_,run_underlying (ax.h (P:=P) (t:=t)),goInt],.int _ _⟩)
theorem Bm {x:Operand} {t e:TypeId} {sz off len:Nat} {b:Bk} [ax P t (.slice e)] (hx:cx tm x=some (.sl sz b off len)):QV P ⟨some d,.call {callee:=.builtin .len,args:=#[x],argTypes:=#[t]},ty,pos,af,none⟩ ⟨n,tm,hp⟩ (.int .i64 (len:Nat)):=
 (fun w S a r=>⟨.int .i64 (len:Nat),fun w1 _=>by
  obtain ⟨ad,cap,h1,_⟩:=(bf (σ:=⟨n,tm,hp⟩) r hx).qB
  simp [execOp,h1,resolve,invoke,builtin,Builtin.len_,run_underlying (ax.h (P:=P) (t:=t)),goInt],.int _ _⟩)
theorem jO {x:Operand} {t:TypeId} {s:List UInt8} [ax P t .string] (hx:cx tm x=some (.str s)):QV P ⟨some d,.call {callee:=.builtin .len,args:=#[x],argTypes:=#[t]},ty,pos,af,none⟩ ⟨n,tm,hp⟩ (.int .i64 (s.length:Nat)):=
 (fun w S a r=>⟨.int .i64 (s.length:Nat),fun w1 _=>by
  simp [execOp,(bf (σ:=⟨n,tm,hp⟩) r hx).et,resolve,invoke,builtin,Builtin.len_,run_underlying (ax.h (P:=P) (t:=t)),goInt,Ab],.int _ _⟩)
theorem Bn {x y:Operand} {t:TypeId} {s:List UInt8} {k:IntKind} {i:Int} {c:UInt8} [ax P t .string] (hx:cx tm x=some (.str s)) (hy:cx tm y=some (.int k i)) (h0:0≤i) (hc:s[i.toNat]? =some c):QV P ⟨some d,.index t x y,ty,pos,af,none⟩ ⟨n,tm,hp⟩ (.int .u8 (c.toNat:Nat)):=
 (fun w S a r=>⟨.int .u8 (c.toNat:Nat),fun w1 _=>by
  have IV:(⟨s.toArray⟩:ByteArray)[i.toNat]? =some c:=by
   obtain ⟨hl,he⟩:=List.getElem?_eq_some_iff.1 hc
   rw [getElem?_pos _ _ (by rw [Ab];exact hl)]
   simp only [Option.some.injEq]
   rw [← he]
   rfl
  simp [execOp,(bf (σ:=⟨n,tm,hp⟩) r hx).et,(bf (σ:=⟨n,tm,hp⟩) r hy).er,Instr.index,asIntOf,run_underlying (ax.h (P:=P) (t:=t)),h0,IV],.int _ _⟩)
theorem oE {x:Operand} {i:Nat} {vs:List AV} {av:AV} (hx:cx tm x=some (.kj vs)) (hi:vs[i]? =some av):QV P ⟨some d,.extract x i,ty,pos,af,none⟩ ⟨n,tm,hp⟩ (av):=
 (fun w S a r=>by
  obtain ⟨us,h1,h2,h3⟩:=(bf (σ:=⟨n,tm,hp⟩) r hx).IU
  have iO:i < us.size:=by rw [← h2];exact (List.getElem?_eq_some_iff.1 hi).1
  have hu:us[i]? =some us[i]:=by simp [iO]
  exact ⟨us[i],fun _ _=>by simp [execOp,h1,Instr.extract,hu],h3 i av _ hi hu⟩)
theorem ar {x:Operand} {b:Bk} {o:Nat} (hx:cx tm x=some (.ptr b o)):QV P ⟨some d,.nilCheck x,ty,pos,af,none⟩ ⟨n,tm,hp⟩ (.ptr b o):=
 (fun w S a r=>by
  have h:=bf (σ:=⟨n,tm,hp⟩) r hx
  obtain ⟨m,h1,h2⟩:=h.pd
  exact ⟨a.eval x,fun _ _=>by simp [execOp,h2],h⟩)
theorem bF {x:Operand} {cs:List AV} (hx:cx tm x=some (.cE cs)):QV P ⟨some d,.nilCheck x,ty,pos,af,none⟩ ⟨n,tm,hp⟩ (.cE cs):=
 (fun w S a r=>by
  have h:=bf (σ:=⟨n,tm,hp⟩) r hx
  obtain ⟨ad,vs,h2,_⟩:=h.rW
  exact ⟨a.eval x,fun _ _=>by simp [execOp,h2],h⟩)
theorem lh {x:Operand} {sz:Nat} {b:Bk} {i o:Nat} (hx:cx tm x=some (.nP sz b i o)):QV P ⟨some d,.nilCheck x,ty,pos,af,none⟩ ⟨n,tm,hp⟩ (.nP sz b i o):=
 (fun w S a r=>by
  have h:=bf (σ:=⟨n,tm,hp⟩) r hx
  obtain ⟨m,h1,h2⟩:=h.rV
  exact ⟨a.eval x,fun _ _=>by simp [execOp,h2],h⟩)
def wZ (tm:List (Nat×AV)):List Operand→Option (List AV)
 | []=>some []
 | x :: r=>match cx tm x,wZ tm r with
   | some a,some l=>some (a :: l)
   | _,_=>none
theorem C3 {w:World} {S:Nat→Prop} {σ:St} {a:Act} (r:df w S σ a):∀ {xs:List Operand} {l:List AV},wZ σ.tm xs=some l→l.length=xs.length∧∀ (i:Nat) c v,l[i]? =some c→(xs.map a.eval)[i]? =some v→At w S c v
 | [],l,h=>by simp [wZ] at h;subst h;exact ⟨rfl,fun i c v hc=>by simp at hc⟩
 | x :: xs,l,h=>by
   simp only [wZ] at h
   split at h
   ·rename_i av l' ha hl
    obtain rfl:=Option.some.inj h
    obtain ⟨h1,h2⟩:=C3 r hl
    refine ⟨by simp [h1],fun i c v hc hv=>?_⟩
    match i with
    | 0=>simp at hc hv;subst hc;subst hv;exact bf r ha
    | i+1=>simp at hc hv;exact h2 i c v hc (by simpa using hv)
   ·cases h
theorem xk {fn:Fn} {sW:List Operand} {l:List AV} (hl:wZ tm sW=some l):QV P ⟨some d,.makeFunc fn #[] sW.toArray,ty,pos,af,none⟩ ⟨n,tm,hp⟩ (.func fn l):=
 (fun w S a r=>by
  obtain ⟨h1,h2⟩:=C3 (σ:=⟨n,tm,hp⟩) r hl
  exact ⟨.func fn #[] (sW.toArray.map a.eval),fun _ _=>by simp [execOp,Instr.makeFunc],.func _ _ _ (by simp [h1]) (fun i c v hc hv=>h2 i c v hc (by simpa using hv))⟩)
end rules
inductive ki:Heap→Bk→Ob→Prop
 | here {b:Bk} {o:Ob} {h:Heap}:ki ((b,o) :: h) b o
 | next {e:Bk×Ob} {b:Bk} {o:Ob} {h:Heap} (k:ki h b o):ki (e :: h) b o
 | skip {l:Heap} {b:Bk} {o:Ob} {h:Heap} (k:ki h b o):ki (l++h) b o
theorem ki.mem {h:Heap} {b:Bk} {o:Ob} (f:ki h b o):(b,o)∈h:=by
 induction f with
 | here=>simp
 | next _ ih=>simp [ih]
 | skip _ ih=>simp [ih]
inductive jY:Heap→Bk→Ob→Bk→Ob→Heap→Prop
 | here {b b':Bk} {o o':Ob} {h:Heap}:jY ((b,o) :: h) b o b' o' ((b',o') :: h)
 | next {e:Bk×Ob} {b b':Bk} {o o':Ob} {h h':Heap} (k:jY h b o b' o' h'):jY (e :: h) b o b' o' (e :: h')
 | skip {l:Heap} {b b':Bk} {o o':Ob} {h h':Heap} (k:jY h b o b' o' h'):jY (l++h) b o b' o' (l++h')
inductive ui:Heap→Bk→Ob→Heap→Prop
 | here {b:Bk} {o:Ob} {h:Heap}:ui ((b,o) :: h) b o h
 | next {e:Bk×Ob} {b:Bk} {o:Ob} {h h':Heap} (k:ui h b o h'):ui (e :: h) b o (e :: h')
 | skip {l:Heap} {b:Bk} {o:Ob} {h h':Heap} (k:ui h b o h'):ui (l++h) b o (l++h')
theorem jY.split {h h':Heap} {b b':Bk} {o o':Ob} (u:jY h b o b' o' h'):∃ pre post,h=pre++(b,o) :: post∧h'=pre++(b',o') :: post:=by
 induction u with
 | here=>exact ⟨[],_,rfl,rfl⟩
 | next _ ih=>obtain ⟨p,q,rfl,rfl⟩:=ih;exact ⟨_ :: p,q,rfl,rfl⟩
 | @skip l _ _ _ _ _ _ _ ih=>obtain ⟨p,q,rfl,rfl⟩:=ih;exact ⟨l++p,q,(List.append_assoc _ _ _).symm,(List.append_assoc _ _ _).symm⟩
theorem ui.split {h h':Heap} {b:Bk} {o:Ob} (u:ui h b o h'):∃ pre post,h=pre++(b,o) :: post∧h'=pre++post:=by
 induction u with
 | here=>exact ⟨[],_,rfl,rfl⟩
 | next _ ih=>obtain ⟨p,q,rfl,rfl⟩:=ih;exact ⟨_ :: p,q,rfl,rfl⟩
 | @skip l _ _ _ _ _ ih=>obtain ⟨p,q,rfl,rfl⟩:=ih;exact ⟨l++p,q,(List.append_assoc _ _ _).symm,(List.append_assoc _ _ _).symm⟩
theorem jY.nU {h h':Heap} {b b':Bk} {o o':Ob} (u:jY h b o b' o' h'):ki h b o:=by
 induction u with
 | here=>exact .here
 | next _ ih=>exact .next ih
 | skip _ ih=>exact .skip ih
theorem aY {α:Type} {p q:List α} {x y:α}:y∈p++x :: q↔y=x∨y∈p++q:=by
 simp only [List.mem_append,List.mem_cons]
 constructor
 ·rintro (h | h | h)
  ·exact .inr (.inl h)
  ·exact .inl h
  ·exact .inr (.inr h)
 ·rintro (h | h | h)
  ·exact .inr (.inl h)
  ·exact .inl h
  ·exact .inr (.inr h)
def GB (w w':World) (x:Option Nat):Prop:=w.grownBy w' x∧(bD.dr→w.drawn≤w'.drawn)
theorem sD {w w':World} {S:Nat→Prop} {hp bU:Heap} {b b':Bk} {o o':Ob} (r:bZ w S hp) (u:jY hp b o b' o' bU) (cc:GB w w' b.bY) (hf:¬ o.vV) (PR:¬ o'.vV)
 (hh:Holds w' S b' o') (w4:b'.bY=b.bY∨b'.bY=none∨∃ m,b'.bY=some m∧w.heap.size≤m) (hm:o'.more=[]:=by rfl):
 bZ w' S bU∧iF w S hp w' S bU∧∀ n,S n→S n∧w'.heap[n]? =w.heap[n]?:=by
 obtain ⟨c,hd⟩:=cc
 obtain ⟨p,q,rfl,rfl⟩:=u.split
 have Gv:(b,o)∈p++(b,o) :: q:=by simp
 have nS:∀ n,b.bY=some n→¬ S n:=fun n hn hs=>hf ((r.sep _ Gv n (iN hn)).1 hs)
 have jX:∀ n,S n→S n∧w'.heap[n]? =w.heap[n]?:=fun n hs=>⟨hs,c.block n (r.slt n hs) (fun e=>nS n e.symm hs)⟩
 have wE:=r.nodup
 rw [List.flatMap_append,List.flatMap_cons,List.nodup_append,List.nodup_append] at wE
 have others:∀ e∈p++q,∀ n,n∈eb e→n < w.heap.size∧b.bY≠some n:=by
  intro e he n hn
  refine ⟨r.lt ⟨e,aY.2 (.inr he),hn⟩,fun hb=>?_⟩
  rcases List.mem_append.1 he with h | h
  ·exact wE.2.2 n (List.mem_flatMap.2 ⟨e,h,hn⟩) n (List.mem_append_left _ (iN hb)) rfl
  ·exact wE.2.1.2.2 n (iN hb) n (List.mem_flatMap.2 ⟨e,h,hn⟩) rfl
 have Nn:∀ e∈p++q,∀ n,n∈eb e→b'.bY≠some n:=by
  intro e he n hn hb
  obtain ⟨h1,h2⟩:=others e he n hn
  rcases w4 with h | h | ⟨m,h,hm⟩
  ·exact h2 (h▸hb)
  ·rw [h] at hb;cases hb
  ·rw [h] at hb;have:=Option.some.inj hb;omega
 refine ⟨⟨?_,?_,?_,fun n hs=>Nat.lt_of_lt_of_le (r.slt n hs) c.size,fun g o ho=>⟨(r.fU g o ho).1,xg (jX g (r.fU g o ho).1).2 (r.fU g o ho).2⟩⟩,⟨c.os,c.tape,c.output,c.size,jX,?_,?_,hd⟩,jX⟩
 ·rw [List.flatMap_append,List.flatMap_cons,List.nodup_append,List.nodup_append]
  have PS:(eb (b',o')).Nodup:=by
   unfold eb;rw [hm,List.append_nil]
   cases b'.bY<;>simp
  refine ⟨wE.1,⟨PS,wE.2.1.2.1,fun x hx y hy DV=>?_⟩,fun x hx y hy DV=>?_⟩
  ·subst DV
   obtain ⟨e,he,pE⟩:=List.mem_flatMap.1 hy
   exact Nn e (List.mem_append_right _ he) x pE ((rU hm).1 hx)
  ·subst DV
   rcases List.mem_append.1 hy with hy | hy
   ·obtain ⟨e,he,pE⟩:=List.mem_flatMap.1 hx
    exact Nn e (List.mem_append_left _ he) x pE ((rU hm).1 hy)
   ·exact wE.2.2 x hx x (List.mem_append_right _ hy) rfl
 ·intro e he
  rcases aY.1 he with rfl | he
  ·exact hh
  ·exact (r.holds e (aY.2 (.inr he))).mono jX (fun n hn=>c.block n (others e he n hn).1 (fun h=>(others e he n hn).2 h.symm))
 ·intro e he n hn
  rcases aY.1 he with rfl | he
  ·replace hn:=(rU hm).1 hn
   have ns:¬ S n:=by
    rcases w4 with h | h | ⟨m,h,hm⟩
    ·exact nS n (h▸hn)
    ·rw [h] at hn;cases hn
    ·intro hs;have:=r.slt n hs;rw [h] at hn;have:=Option.some.inj hn;omega
   exact ⟨fun hs=>(ns hs).elim,fun h=>(PR h).elim⟩
  ·exact r.sep e (aY.2 (.inr he)) n hn
 ·intro n hn PT
  exact ⟨c.block n hn (fun h=>PT ⟨(b,o),Gv,iN h.symm⟩),id⟩
 ·rintro n ⟨e,he,pE⟩
  rcases aY.1 he with rfl | he
  ·replace pE:=(rU hm).1 pE
   rcases w4 with h | h | ⟨m,h,hm⟩
   ·exact .inl ⟨(b,o),Gv,iN (h▸pE)⟩
   ·rw [h] at pE;cases pE
   ·rw [h] at pE;have:=Option.some.inj pE;exact .inr (by omega)
  ·exact .inl ⟨e,aY.2 (.inr he),pE⟩
theorem nf {w w':World} {S:Nat→Prop} {hp:Heap} {b:Bk} {o:Ob} (r:bZ w S hp) (e:Ext w w') (hf:¬ o.vV) (hh:Holds w' S b o) (hb:b.bY=none∨∃ m,b.bY=some m∧w.heap.size≤m) (hm:o.more=[]:=by rfl):
 bZ w' S ((b,o) :: hp)∧iF w S hp w' S ((b,o) :: hp)∧∀ n,S n→S n∧w'.heap[n]? =w.heap[n]?:=by
 have r':=r.ext e
 have jX:∀ n,S n→S n∧w'.heap[n]? =w.heap[n]?:=fun n hs=>⟨hs,e.same n (r.slt n hs)⟩
 have fresh:∀ n,n∈eb (b,o)→w.heap.size≤n:=by
  intro n hn
  replace hn:=(rU hm).1 hn
  rcases hb with h | ⟨m,h,hm⟩
  ·rw [h] at hn;cases hn
  ·rw [h] at hn;have:=Option.some.inj hn;omega
 refine ⟨⟨?_,?_,?_,r'.slt,r'.fU⟩,⟨e.os,e.tape,e.output,e.size,jX,fun n hn _=>⟨e.same n hn,id⟩,?_,e.drawn⟩,jX⟩
 ·rw [List.flatMap_cons,List.nodup_append]
  refine ⟨?_,r.nodup,fun x hx y hy DV=>?_⟩
  ·unfold eb;rw [hm,List.append_nil]
   cases b.bY<;>simp
  ·subst DV
   obtain ⟨z,hz,US⟩:=List.mem_flatMap.1 hy
   have:=r.lt ⟨z,hz,US⟩
   have:=fresh x hx
   omega
 ·intro x hx
  rcases List.mem_cons.1 hx with rfl | hx
  ·exact hh
  ·exact r'.holds x hx
 ·intro x hx n hn
  rcases List.mem_cons.1 hx with rfl | hx
  ·refine ⟨fun hs=>?_,fun h=>(hf h).elim⟩
   have:=r.slt n hs
   have:=fresh n hn
   omega
  ·exact r.sep x hx n hn
 ·rintro n ⟨x,hx,Ng⟩
  rcases List.mem_cons.1 hx with rfl | hx
  ·exact .inr (fresh n Ng)
  ·exact .inl ⟨x,hx,Ng⟩
theorem pO {w:World} {S:Nat→Prop} {av:AV} {v:Value} (h:At w S av v) (h1:∀ c∈av.cells,c.one=true):av.cells.length=v.cells.size∧mA w S av.cells v.cells:=by
 have single:∀ (c:AV) (u:Value),At w S c u→mA w S [c] #[u]:=by
  intro c u hc i c' u' h1 h2
  match i with
  | 0=>simp at h1 h2;subst h1;subst h2;exact hc
  | i+1=>simp at h1
 cases h with
 | agg cs vs hl h=>exact ⟨hl,h⟩
 | raw v=>
   have:v.oneCell'=true:=h1 (.raw v) (by simp [AV.cells])
   have hv:v.cells=#[v]:=by cases v<;>first | rfl | (simp [Value.oneCell'] at this)
   rw [hv]
   exact ⟨rfl,single _ _ (.raw v)⟩
 | kj cs vs hl h=>exact ⟨rfl,single _ _ (.kj cs vs hl h)⟩
 | int k n=>exact ⟨rfl,single _ _ (.int k n)⟩
 | bool b=>exact ⟨rfl,single _ _ (.bool b)⟩
 | str s=>exact ⟨rfl,single _ _ (.str s)⟩
 | list sz xs a cap vs hJ hl h hm hc=>exact ⟨rfl,single _ _ (.list sz xs a cap vs hJ hl h hm hc)⟩
 | nil=>exact ⟨rfl,single _ _ .nil⟩
 | ptr b o n hb=>exact ⟨rfl,single _ _ (.ptr b o n hb)⟩
 | xh sz b hb=>exact ⟨rfl,single _ _ (.xh sz b hb)⟩
 | sl sz b off len n cap hb g1 g2=>exact ⟨rfl,single _ _ (.sl sz b off len n cap hb g1 g2)⟩
 | IN sz b off n ad hb=>exact ⟨rfl,single _ _ (.IN sz b off n ad hb)⟩
 | cE cs ad vs hl h hs hS hm=>exact ⟨rfl,single _ _ (.cE cs ad vs hl h hs hS hm)⟩
 | nP sz b i o n hb=>exact ⟨rfl,single _ _ (.nP sz b i o n hb)⟩
 | ct b n hb=>exact ⟨rfl,single _ _ (.ct b n hb)⟩
 | func fn cs vs hl h=>exact ⟨rfl,single _ _ (.func fn cs vs hl h)⟩
theorem uv {w:World} {S:Nat→Prop} {cs:List AV} {vs:Array Value} (hl:cs.length=vs.size) (h:mA w S cs vs) (h1:∀ c∈cs,c.one=true):∀ v∈vs.toList,v.oneCell'=true:=by
 intro v hv
 obtain ⟨i,hi,he⟩:=List.mem_iff_getElem.1 hv
 have OY:i < cs.length:=by rw [hl];simpa using hi
 have:=h i cs[i] v (by simp [OY]) (by rw [← he];simp at hi ⊢)
 exact this.Gn (h1 _ (List.getElem_mem OY))
def iV:List AV→Bool
 | []=>true
 | c :: r=>c.one&&iV r
theorem cL {cs:List AV} (h:iV cs=true):∀ c∈cs,c.one=true:=by
 induction cs with
 | nil=>simp
 | cons x r ih=>
   simp only [iV,Bool.and_eq_true] at h
   intro c hc
   rcases List.mem_cons.1 hc with rfl | hc
   ·exact h.1
   ·exact ih h.2 c hc
section rules
variable {P:Program} {all:Array Oper} {rest:List Oper} {n:Nat} {tm:List (Nat×AV)} {hp:Heap} {Q:St→Prop} {d:Nat} {ty:TypeId} {pos:String} {af:Array Edge}
theorem DW {w:World} {S:Nat→Prop} {hp:Heap} (r:bZ w S hp) {cs:List AV} {vs:Array Value} (E:TypeId) (hl:cs.length=vs.size) (h:mA w S cs vs) (h1:∀ c∈cs,c.one=true):
 bZ (w.alloc (.cells vs E)) S ((⟨some w.heap.size,0⟩,.cells cs) :: hp)∧iF w S hp (w.alloc (.cells vs E)) S ((⟨some w.heap.size,0⟩,.cells cs) :: hp)∧∀ n,S n→S n∧(w.alloc (.cells vs E)).heap[n]? =w.heap[n]?:=by
 have e:=Ext.alloc w (.cells vs E)
 refine nf r e id ⟨h1,w.heap.size,vs,E,rfl,?_,hl.symm,h.mono fun n hn=>⟨hn,e.same n (r.slt n hn)⟩⟩ (.inr ⟨_,rfl,Nat.le_refl _⟩)
 show (w.heap.push _)[w.heap.size]? =_
 simp
theorem No {x:Operand} {E:TypeId} {av:AV} (hx:cx tm x=some av) (h1:iV av.cells=true) (hn:Nat.blt d n=true)
 (kk:∀ b:Bk,ae P all rest ⟨n,(d,.ptr b 0) :: tm,(b,.cells av.cells) :: hp⟩ Q):ae P all (⟨some d,.box E x,ty,pos,af,none⟩ :: rest) ⟨n,tm,hp⟩ Q:=by
 refine ae.Gr rfl fun w S a r=>?_
 have hv:=bf (σ:=⟨n,tm,hp⟩) r hx
 obtain ⟨hl,nQ⟩:=pO hv (cL h1)
 obtain ⟨g1,g2,g3⟩:=DW r.hp E hl nQ (cL h1)
 refine ⟨.pointer (some ⟨w.heap.size,0,none⟩),w.alloc (.cells (a.eval x).cells E),S,_,?_,(r.heap g3 g1).put hn (.ptr ⟨some w.heap.size,0⟩ 0 _ rfl),g2,kk ⟨some w.heap.size,0⟩⟩
 simp [execOp,Instr.box,newVar,newRow]
def w5:Value→AV
 | .agg cs=>.agg (cs.toList.map Kt)
 | v=>Kt v
theorem lS (w:World) (S:Nat→Prop) (z:Value) (h1:∀ c∈(w5 z).cells,c.one=true):(w5 z).cells.length=z.cells.size∧mA w S (w5 z).cells z.cells:=by
 by_cases hz:∃ cs,z=.agg cs
 ·obtain ⟨cs,rfl⟩:=hz
  refine ⟨by simp [w5,AV.cells,Value.cells],?_⟩
  intro i c v hc hv
  simp only [w5,AV.cells,List.getElem?_map,Array.getElem?_toList] at hc
  simp only [Value.cells] at hv
  rw [hv] at hc
  simp at hc
  subst hc
  exact Aa _ _ _
 ·have IW:w5 z=Kt z:=by
   cases z<;>first | rfl | (exact (hz ⟨_,rfl⟩).elim)
  rw [IW] at h1 ⊢
  exact pO (Aa w S z) h1
theorem IX {E:TypeId} {i:TypeInfo} {z:Value} [aV P E i] (hz:i.zero=some z) (h1:iV (w5 z).cells=true) (hn:Nat.blt d n=true)
 (kk:∀ b:Bk,ae P all rest ⟨n,(d,.ptr b 0) :: tm,(b,.cells (w5 z).cells) :: hp⟩ Q):ae P all (⟨some d,.alloc E,ty,pos,af,none⟩ :: rest) ⟨n,tm,hp⟩ Q:=by
 refine ae.Gr rfl fun w S a r=>?_
 obtain ⟨hl,nQ⟩:=lS w S z (cL h1)
 obtain ⟨g1,g2,g3⟩:=DW r.hp E hl nQ (cL h1)
 refine ⟨.pointer (some ⟨w.heap.size,0,none⟩),w.alloc (.cells z.cells E),S,_,?_,(r.heap g3 g1).put hn (.ptr ⟨some w.heap.size,0⟩ 0 _ rfl),g2,kk ⟨some w.heap.size,0⟩⟩
 have hi:=aV.h (P:=P) (t:=E)
 simp [execOp,Instr.alloc,newVar,newRow,zeroValue,typeInfo,hi,hz]
theorem jZ (m o k:Nat):(⟨m,o,none⟩:Addr).add k=⟨m,o+k,none⟩:=Addr.add_lit m o k
theorem r4 {s:TypeId} {fs:Array Field} {j:Nat} {f:Field} {i:TypeInfo} (hs:P.underlying s=some (.struct fs)) (hj:fs[j]? =some f) (hi:P.info? f.type=some i) (h0:i.size≠0) (ad:Addr) (w:World):
 (Instr.fieldAt s (.pointer (some ad)) j).run P w=.ok (.pointer (some (ad.add f.offset))) w:=by
 simp [Instr.fieldAt,run_underlying hs,hj,Instr.sureAddr,fieldPlace,sizeOf,typeInfo,hi,h0]
class lN (P:Program) (s:TypeId) (j:Nat) (off:outParam Nat):Prop where
 h:∃ fs f i,P.underlying s=some (.struct fs)∧fs[j]? =some f∧P.info? f.type=some i∧(Nat.beq i.size 0)=false∧f.offset=off
theorem Bo {x:Operand} {s:TypeId} {j:Nat} {off:Nat} {b:Bk} {o:Nat} [lN P s j off]
 (hx:cx tm x=some (.ptr b o)):QV P ⟨some d,.fieldAddr s x j,ty,pos,af,none⟩ ⟨n,tm,hp⟩ (.ptr b (o+off)):=
 (fun w S a r=>by
  obtain ⟨fs,f,i,hu,hj,hi,h0,rfl⟩:=lN.h (P:=P) (s:=s) (j:=j)
  obtain ⟨m,h1,h2⟩:=(bf (σ:=⟨n,tm,hp⟩) r hx).pd
  refine ⟨.pointer (some ⟨m,o+f.offset,none⟩),fun w1 _=>?_,.ptr b _ m h1⟩
  have hr:=r4 (P:=P) hu hj hi (xi h0) ⟨m,o,none⟩ w1
  rw [jZ] at hr
  simp [execOp,h2,hr])
theorem Ac {x:Operand} {s:TypeId} {j:Nat} {off:Nat} {sz:Nat} {b:Bk} {q o:Nat} [lN P s j off]
 (hx:cx tm x=some (.nP sz b q o)):QV P ⟨some d,.fieldAddr s x j,ty,pos,af,none⟩ ⟨n,tm,hp⟩ (.nP sz b q (o+off)):=
 (fun w S a r=>by
  obtain ⟨fs,f,i,hu,hj,hi,h0,rfl⟩:=lN.h (P:=P) (s:=s) (j:=j)
  obtain ⟨m,h1,h2⟩:=(bf (σ:=⟨n,tm,hp⟩) r hx).rV
  refine ⟨.pointer (some ⟨m,q * sz+(o+f.offset),none⟩),fun w1 _=>?_,.nP sz b q _ m h1⟩
  have hr:=r4 (P:=P) hu hj hi (xi h0) ⟨m,q * sz+o,none⟩ w1
  rw [jZ,Nat.add_assoc] at hr
  simp [execOp,h2,hr])
theorem E1 {w:World} {S:Nat→Prop} {cs:List AV} {ad:Addr} {vs:List Value} (k:Nat) (hl:cs.length=vs.length) (h:∀ (i:Nat) c u,cs[i]? =some c→vs[i]? =some u→At w S c u) (hs:ad.spot=none) (hS:S ad.block)
 (hm:∀ (i:Nat) u,vs[i]? =some u→w.cell? ⟨ad.block,ad.off+i,none⟩=some u):At w S (.cE (cs.drop k)) (.pointer (some (ad.add k))):=by
 obtain ⟨bk,of,sp⟩:=ad
 simp only at hs hS hm
 subst hs
 rw [jZ]
 refine .cE _ _ (vs.drop k) (by simp [hl]) (fun i c u hc hu=>h (k+i) c u (by simpa using hc) (by simpa using hu)) rfl hS (fun i u hu=>?_)
 have:=hm (k+i) u (by simpa using hu)
 simpa [Nat.add_assoc] using this
theorem Ad {x:Operand} {s:TypeId} {j:Nat} {off:Nat} {cs:List AV} [lN P s j off]
 (hx:cx tm x=some (.cE cs)):QV P ⟨some d,.fieldAddr s x j,ty,pos,af,none⟩ ⟨n,tm,hp⟩ (.cE (cs.drop off)):=
 (fun w S a r=>by
  obtain ⟨fs,f,i,hu,hj,hi,h0,rfl⟩:=lN.h (P:=P) (s:=s) (j:=j)
  obtain ⟨ad,vs,h2,h3,h4,h5,h6,h7⟩:=(bf (σ:=⟨n,tm,hp⟩) r hx).rW
  refine ⟨.pointer (some (ad.add f.offset)),fun w1 _=>?_,E1 f.offset h3 h4 h5 h6 h7⟩
  have hr:=r4 (P:=P) hu hj hi (xi h0) ad w1
  simp [execOp,h2,hr])
def TypeDesc.iG:TypeDesc→Bool
 | .struct _=>true
 | .array _ _=>true
 | _=>false
theorem lj {t:TypeId} {D:TypeDesc} (ht:P.underlying t=some D) (hD:TypeDesc.iG D=false) {ad:Addr} {v:Value} {w:World} (hc:w.cell? ad=some v):(loadVar t ad).run P w=.ok v w:=by
 have:(isAgg t).run P w=.ok false w:=by
  simp only [isAgg,Sem.run_bind,run_underlying ht,Result.andThen_ok]
  cases D<;>first | rfl | (simp [TypeDesc.iG] at hD)
 simp [loadVar,this,hc]
theorem ie {t:TypeId} {D:TypeDesc} {i:TypeInfo} (ht:P.underlying t=some D) (hD:TypeDesc.iG D=true) (hi:P.info? t=some i) {ad:Addr} {vs:List Value} {w:World} (hl:vs.length=i.size)
 (hc:∀ (j:Nat) v,vs[j]? =some v→w.cell? (ad.add j)=some v):(loadVar t ad).run P w=.ok (.agg vs.toArray) w:=by
 have h1:(isAgg t).run P w=.ok true w:=by
  simp only [isAgg,Sem.run_bind,run_underlying ht,Result.andThen_ok]
  cases D<;>first | rfl | (simp [TypeDesc.iG] at hD)
 have h2:=run_loadCells_list (P:=P) w ad vs hc
 rw [hl] at h2
 simp [loadVar,h1,sizeOf,typeInfo,hi,h2]
theorem IY {w:World} {m:Nat} {ob:Obj} (h:w.heap[m]? =some ob):m < w.heap.size:=by
 rcases Nat.lt_or_ge m w.heap.size with h' | h'
 ·exact h'
 ·simp [Array.getElem?_eq_none h'] at h
theorem Ext.at {w w':World} (e:Ext w w') {m:Nat} {ob:Obj} (h:w.heap[m]? =some ob):w'.heap[m]? =some ob:=by rw [e.same m (IY h)];exact h
theorem Ext.cell {w w':World} (e:Ext w w') {m o:Nat} {v:Value} (h:w.cell? ⟨m,o,none⟩=some v):w'.cell? ⟨m,o,none⟩=some v:=by
 rw [cell_of_heap (e.same m (World.block_lt_of_cell? _ _ h))];exact h
theorem oF {w:World} {S:Nat→Prop} {hp:Heap} (r:bZ w S hp) {b:Bk} {cs:List AV} (f:ki hp b (.cells cs)):(∀ c∈cs,c.one=true)∧∃ m vs E,b.bY=some m∧w.heap[m]? =some (.cells vs E (0,0))∧vs.size=cs.length∧mA w S cs vs:=
 r.holds _ f.mem
theorem ll {w:World} {m:Nat} {vs:Array Value} {E:TypeId} (h:w.heap[m]? =some (.cells vs E (0,0))) (o:Nat):w.cell? ⟨m,o,none⟩=vs[o]?:=cell_of_row w m o vs E (0,0) h
theorem ba {t:TypeId} {D:TypeDesc} {x:Operand} {b:Bk} {o:Nat} {cs:List AV} {av:AV} [ax P t D] (hD:TypeDesc.iG D=false) (hx:cx tm x=some (.ptr b o)) (f:ki hp b (.cells cs)) (ho:cs[o]? =some av):QV P ⟨some d,.load t x,ty,pos,af,none⟩ ⟨n,tm,hp⟩ (av):=
 (fun w S a r=>by
  obtain ⟨m,h1,h2⟩:=(bf (σ:=⟨n,tm,hp⟩) r hx).pd
  obtain ⟨_,m',vs,E,g1,g2,g3,g4⟩:=oF r.hp f
  obtain rfl:m'=m:=by rw [g1] at h1;exact Option.some.inj h1
  have iO:o < vs.size:=by rw [g3];exact (List.getElem?_eq_some_iff.1 ho).1
  have hv:vs[o]? =some vs[o]:=by simp [iO]
  refine ⟨vs[o],fun w1 ex=>?_,g4 o av _ ho hv⟩
  have:=lj (P:=P) (ax.h (P:=P) (t:=t)) hD (w:=w1) (ad:=⟨m',o,none⟩) (v:=vs[o]) (by rw [ll (ex.at g2),hv])
  simp [execOp,h2,Instr.loadAt,Instr.sureAddr,this])
theorem aW {t:TypeId} {D:TypeDesc} {i:TypeInfo} {x:Operand} {b:Bk} {cs:List AV} [ax P t D] [aV P t i] (hD:TypeDesc.iG D=true) (hx:cx tm x=some (.ptr b 0)) (f:ki hp b (.cells cs)) (ho:Nat.beq cs.length i.size=true):QV P ⟨some d,.load t x,ty,pos,af,none⟩ ⟨n,tm,hp⟩ (.agg cs):=
 (fun w S a r=>by
  obtain ⟨m,h1,h2⟩:=(bf (σ:=⟨n,tm,hp⟩) r hx).pd
  obtain ⟨_,m',vs,E,g1,g2,g3,g4⟩:=oF r.hp f
  obtain rfl:m'=m:=by rw [g1] at h1;exact Option.some.inj h1
  have hlen:vs.toList.length=i.size:=by simp [g3];exact Nat.eq_of_beq_eq_true ho
  refine ⟨.agg vs,fun w1 ex=>?_,.agg cs vs g3.symm g4⟩
  have:=ie (P:=P) (ax.h (P:=P) (t:=t)) hD (aV.h (P:=P) (t:=t)) (w:=w1) (ad:=⟨m',0,none⟩) (vs:=vs.toList) hlen (fun j v hv=>by rw [jZ,ll (ex.at g2)];simpa using hv)
  simp [execOp,h2,Instr.loadAt,Instr.sureAddr,this])
theorem wF {t:TypeId} {D:TypeDesc} {i:TypeInfo} {x:Operand} {b:Bk} {o:Nat} {cs:List AV} [ax P t D] [aV P t i] (hD:TypeDesc.iG D=true) (hx:cx tm x=some (.ptr b o)) (f:ki hp b (.cells cs)) (ho:Nat.ble (o+i.size) cs.length=true):QV P ⟨some d,.load t x,ty,pos,af,none⟩ ⟨n,tm,hp⟩ (.agg ((cs.drop o).take i.size)):=
 (fun w S a r=>by
  obtain ⟨m,h1,h2⟩:=(bf (σ:=⟨n,tm,hp⟩) r hx).pd
  obtain ⟨_,m',vs,E,g1,g2,g3,g4⟩:=oF r.hp f
  obtain rfl:m'=m:=by rw [g1] at h1;exact Option.some.inj h1
  have hle:o+i.size≤cs.length:=Nat.le_of_ble_eq_true ho
  have hlen:((vs.toList.drop o).take i.size).length=i.size:=by simp [g3];omega
  refine ⟨.agg ((vs.toList.drop o).take i.size).toArray,fun w1 ex=>?_,.agg _ _ (by simp [g3]) (fun j c v hc hv=>?_)⟩
  ·have:=ie (P:=P) (ax.h (P:=P) (t:=t)) hD (aV.h (P:=P) (t:=t)) (w:=w1) (ad:=⟨m',o,none⟩) (vs:=(vs.toList.drop o).take i.size) hlen (fun j v hv=>by
    rw [jZ,ll (ex.at g2)]
    simp only [List.getElem?_take,List.getElem?_drop] at hv
    split at hv
    ·simpa using hv
    ·cases hv)
   simp [execOp,h2,Instr.loadAt,Instr.sureAddr,this]
  ·simp only [List.getElem?_toArray,List.getElem?_take,List.getElem?_drop] at hc hv
   split at hv
   ·rename_i iO;rw [if_pos iO] at hc;exact g4 (o+j) c v hc (by simpa using hv)
   ·cases hv)
theorem aX {t:TypeId} {D:TypeDesc} {x:Operand} {cs:List AV} {av:AV} [ax P t D] (hD:TypeDesc.iG D=false) (hx:cx tm x=some (.cE cs)) (ho:cs[0]? =some av):QV P ⟨some d,.load t x,ty,pos,af,none⟩ ⟨n,tm,hp⟩ (av):=
 (fun w S a r=>by
  obtain ⟨ad,vs,h2,h3,h4,h5,h6,h7⟩:=(bf (σ:=⟨n,tm,hp⟩) r hx).rW
  have iO:0 < vs.length:=by rw [← h3];exact (List.getElem?_eq_some_iff.1 ho).1
  have hv:vs[0]? =some vs[0]:=by simp [iO]
  refine ⟨vs[0],fun w1 ex=>?_,h4 0 av _ ho hv⟩
  have hc:=ex.cell (h7 0 _ hv)
  have he:(⟨ad.block,ad.off+0,none⟩:Addr)=ad:=by cases ad;simp at h5;simp [h5]
  rw [he] at hc
  have:=lj (P:=P) (ax.h (P:=P) (t:=t)) hD hc
  simp [execOp,h2,Instr.loadAt,Instr.sureAddr,this])
theorem bt {t:TypeId} {D:TypeDesc} {i:TypeInfo} {x:Operand} {cs:List AV} [ax P t D] [aV P t i] (hD:TypeDesc.iG D=true) (hx:cx tm x=some (.cE cs)) (ho:Nat.beq cs.length i.size=true):QV P ⟨some d,.load t x,ty,pos,af,none⟩ ⟨n,tm,hp⟩ (.agg cs):=
 (fun w S a r=>by
  obtain ⟨ad,vs,h2,h3,h4,h5,h6,h7⟩:=(bf (σ:=⟨n,tm,hp⟩) r hx).rW
  refine ⟨.agg vs.toArray,fun w1 ex=>?_,.agg cs _ (by simp [h3]) (fun j c v hc hv=>h4 j c v hc (by simpa using hv))⟩
  have:=ie (P:=P) (ax.h (P:=P) (t:=t)) hD (aV.h (P:=P) (t:=t)) (w:=w1) (ad:=ad) (vs:=vs) (by rw [← h3];exact Nat.eq_of_beq_eq_true ho) (fun j v hv=>by
   obtain ⟨bk,of,sp⟩:=ad
   simp only at h5;subst h5
   rw [jZ];exact ex.cell (h7 j v hv))
  simp [execOp,h2,Instr.loadAt,Instr.sureAddr,this])
theorem vq {t:TypeId} {D:TypeDesc} {i:TypeInfo} {x:Operand} {cs:List AV} [ax P t D] [aV P t i] (hD:TypeDesc.iG D=true) (hx:cx tm x=some (.cE cs)) (ho:Nat.ble i.size cs.length=true):QV P ⟨some d,.load t x,ty,pos,af,none⟩ ⟨n,tm,hp⟩ (.agg (cs.take i.size)):=
 (fun w S a r=>by
  obtain ⟨ad,vs,h2,h3,h4,h5,h6,h7⟩:=(bf (σ:=⟨n,tm,hp⟩) r hx).rW
  have hle:i.size≤cs.length:=Nat.le_of_ble_eq_true ho
  have tk:∀ {α:Type} (l:List α) (k j:Nat) (y:α),(l.take k)[j]? =some y→l[j]? =some y:=by
   intro α l k j y h
   rw [List.getElem?_take] at h
   split at h
   ·exact h
   ·cases h
  refine ⟨.agg (vs.take i.size).toArray,fun w1 ex=>?_,.agg _ _ (by simp [h3]) (fun j c v hc hv=>h4 j c v (tk _ _ _ _ hc) (tk _ _ _ _ (by simpa using hv)))⟩
  have:=ie (P:=P) (ax.h (P:=P) (t:=t)) hD (aV.h (P:=P) (t:=t)) (w:=w1) (ad:=ad) (vs:=vs.take i.size) (by simp;omega) (fun j v hv=>by
   obtain ⟨bk,of,sp⟩:=ad
   simp only at h5;subst h5
   rw [jZ];exact ex.cell (h7 j v (tk _ _ _ _ hv)))
  simp [execOp,h2,Instr.loadAt,Instr.sureAddr,this])
def kP (cs:List AV) (o:Nat) (new:List AV):List AV:=cs.take o++new++cs.drop (o+new.length)
theorem xl {w:World} {S:Nat→Prop} {cs new:List AV} {vs og:Array Value} (o:Nat) (hl:vs.size=cs.length) (h:mA w S cs vs) (DX:new.length=og.size) (h':mA w S new og) (ho:o+new.length≤cs.length):
 mA w S (kP cs o new) (vs.toList.take o++og.toList++vs.toList.drop (o+og.toList.length)).toArray:=by
 intro i c v hc hv
 simp only [kP,List.getElem?_toArray] at hc hv
 have l1:(cs.take o).length=o:=by simp;omega
 have l2:(vs.toList.take o).length=o:=by simp;omega
 have l3:og.toList.length=new.length:=by simp [DX]
 rw [List.append_assoc] at hc hv
 by_cases h1:i < o
 ·rw [List.getElem?_append_left (by omega)] at hc hv
  rw [List.getElem?_take,if_pos h1] at hc hv
  exact h i c v hc (by simpa using hv)
 ·rw [List.getElem?_append_right (by omega)] at hc hv
  rw [l1] at hc
  rw [l2] at hv
  by_cases h2:i - o < new.length
  ·rw [List.getElem?_append_left (by omega)] at hc hv
   exact h' (i - o) c v hc (by simpa using hv)
  ·rw [List.getElem?_append_right (by omega)] at hc hv
   rw [l3] at hv
   rw [List.getElem?_drop] at hc hv
   rw [show o+new.length+(i - o - new.length)=i from by omega] at hc
   rw [show o+new.length+(i - o - new.length)=i from by omega] at hv
   exact h i c v hc (by simpa using hv)
theorem Bp {t:TypeId} {i:TypeInfo} {x y:Operand} {b:Bk} {o:Nat} {cs:List AV} {av:AV} {bU:Heap} [aV P t i] (hx:cx tm x=some (.ptr b o)) (hy:cx tm y=some av) (h1:iV av.cells=true) (hJ:Nat.beq av.cells.length i.size=true)
 (u:jY hp b (.cells cs) b (.cells (kP cs o av.cells)) bU) (ho:Nat.ble (o+av.cells.length) cs.length=true) (kk:ae P all rest ⟨n,tm,bU⟩ Q):ae P all (⟨none,.store t x y,ty,pos,af,none⟩ :: rest) ⟨n,tm,hp⟩ Q:=by
 refine ae.act rfl rfl (aC:=⟨n,tm,bU⟩) (fun w S a r=>?_) kk
 obtain ⟨m,e1,e2⟩:=(bf (σ:=⟨n,tm,hp⟩) r hx).pd
 obtain ⟨g0,m',vs,E,g1,g2,g3,g4⟩:=oF r.hp u.nU
 obtain rfl:m'=m:=by rw [g1] at e1;exact Option.some.inj e1
 have hv:=bf (σ:=⟨n,tm,hp⟩) r hy
 obtain ⟨hl,nQ⟩:=pO hv (cL h1)
 have hle:o+av.cells.length≤cs.length:=Nat.le_of_ble_eq_true ho
 have rk:=uv hl nQ (cL h1)
 have Bq:=run_storeCells_at (P:=P) m' o E (a.eval y).cells.toList 0 vs w g2 (by simp;omega) rk
 simp only [Nat.add_zero] at Bq
 have Gw:(a.eval y).cells.size=i.size:=by rw [← hl];exact Nat.eq_of_beq_eq_true hJ
 have Np:=fun (w':World) (ha:mA w' S cs vs) (hb:mA w' S av.cells (a.eval y).cells)=>xl o g3 ha hl hb hle
 have Ky:(vs.toList.take o++(a.eval y).cells.toList++vs.toList.drop (o+(a.eval y).cells.toList.length)).toArray.size=(kP cs o av.cells).length:=by
  simp [kP];omega
 generalize (vs.toList.take o++(a.eval y).cells.toList++vs.toList.drop (o+(a.eval y).cells.toList.length)).toArray=yM at Bq Np Ky
 have c:GB w (w.setRow m' yM) b.bY:=⟨⟨rfl,rfl,rfl,by simp,fun k hk wV=>setRow_other w m' k _ (fun e=>wV (by rw [e1,e]))⟩,fun _=>Nat.le_refl _⟩
 have k1:∀ n,S n→S n∧(w.setRow m' yM).heap[n]? =w.heap[n]?:=by
  intro k hk
  refine ⟨hk,setRow_other w m' k _ (fun e=>?_)⟩
  subst e
  exact (r.hp.sep _ u.nU.mem k (iN e1)).1 hk
 have hh:=sD r.hp u c id id ⟨?_,m',yM,E,e1,setRow_heap w m' vs _ E _ g2,Ky,Np _ (g4.mono k1) (nQ.mono k1)⟩ (.inl rfl)
 ·refine ⟨w.setRow m' yM,S,?_,r.heap hh.2.2 hh.1,hh.2.1⟩
  simp [execOp,e2,Instr.storeAt,Instr.sureAddr,storeVar,sizeOf,typeInfo,aV.h (P:=P) (t:=t),Gw,Bq]
 ·intro c hc
  simp only [kP,List.mem_append] at hc
  rcases hc with (hc | hc) | hc
  ·exact g0 c (List.mem_of_mem_take hc)
  ·exact cL h1 c hc
  ·exact g0 c (List.mem_of_mem_drop hc)
end rules
def Gx (xs:List AV) (i:Int):Option AV:=if 0≤i then xs[i.toNat]? else none
theorem E2 {xs:List AV} {i:Int} {x:AV} (h:Gx xs i=some x):0≤i∧i < xs.length∧xs[i.toNat]? =some x:=by
 unfold Gx at h
 split at h
 ·rename_i h0
  have:=(List.getElem?_eq_some_iff.1 h).1
  exact ⟨h0,by omega,h⟩
 ·cases h
theorem vW {P:Program} {t e:TypeId} {i:TypeInfo} (ht:P.underlying t=some (.slice e)) (hi:P.info? e=some i) (ad:Addr) (len cap:Nat) (k:IntKind) (j:Int) (h0:0≤j) (h1:j < len) (w:World):
 (Instr.indexAt t (.slice (some ad) len cap) (.int k j)).run P w=.ok (.pointer (some (ad.add (j.toNat * i.size)))) w:=by
 simp [Instr.indexAt,asIntOf,run_underlying ht,h0,h1,sizeOf,typeInfo,hi]
section rules
variable {P:Program} {all:Array Oper} {rest:List Oper} {n:Nat} {tm:List (Nat×AV)} {hp:Heap} {Q:St→Prop} {d:Nat} {ty:TypeId} {pos:String} {af:Array Edge}
theorem Ae {t e:TypeId} {i:TypeInfo} {x y:Operand} {xs:List AV} {k:IntKind} {j:Int} {av:AV} {sz:Nat} [ax P t (.slice e)] [aV P e i] (hx:cx tm x=some (.list sz xs)) (hJ:Nat.beq i.size sz=true) (hy:cx tm y=some (.int k j))
 (hg:Gx xs j=some av) (h0:Nat.blt 0 sz=true):QV P ⟨some d,.indexAddr t x y,ty,pos,af,none⟩ ⟨n,tm,hp⟩ (.cE av.cells):=
 (fun w S a r=>by
  obtain rfl:i.size=sz:=Nat.eq_of_beq_eq_true hJ
  obtain ⟨g0,g1,g2⟩:=E2 hg
  obtain ⟨oa,cap,vs,e1,e2,e3,e4,e5,e6⟩:=(bf (σ:=⟨n,tm,hp⟩) r hx).uu
  have sX:0 < i.size:=by simpa using h0
  have nz:av∈xs:=List.mem_of_getElem? g2
  have DY:=cA e2
  have w6:j.toNat < xs.length:=by omega
  have hmul:(j.toNat+1) * i.size≤xs.length * i.size:=Nat.mul_le_mul_right _ (by omega)
  rw [Nat.add_mul,Nat.one_mul] at hmul
  have hb:j.toNat * i.size < vs.length:=by rw [← e3,DY];omega
  obtain ⟨ad,rfl,Ks,hS,_⟩:=e5 (j.toNat * i.size) _ (List.getElem?_eq_getElem hb)
  obtain ⟨bk,of,sp⟩:=ad
  simp only at Ks hS
  subst Ks
  refine ⟨.pointer (some ⟨bk,of+j.toNat * i.size,none⟩),fun w1 _=>?_,.cE _ _ ((vs.drop (j.toNat * i.size)).take i.size) ?_ ?_ rfl hS ?_⟩
  ·have:=vW (P:=P) (ax.h (P:=P) (t:=t)) (aV.h (P:=P) (t:=e)) ⟨bk,of,none⟩ xs.length cap k j g0 g1 w1
   rw [jZ] at this
   simp [execOp,e1,(bf (σ:=⟨n,tm,hp⟩) r hy).er,this]
  ·rw [(e2 av nz).1];simp;omega
  ·intro q c u hc hu
   have hq:q < i.size:=by rw [← (e2 av nz).1];exact (List.getElem?_eq_some_iff.1 hc).1
   have hf:=oO e2 g2 q hq
   rw [hc] at hf
   rw [List.getElem?_take,if_pos hq,List.getElem?_drop] at hu
   exact e4 _ c u hf hu
  ·intro q u hu
   rw [List.getElem?_take] at hu
   split at hu
   ·rw [List.getElem?_drop] at hu
    obtain ⟨PU,h1,h2,h3,h4⟩:=e5 _ u hu
    obtain rfl:=Option.some.inj h1
    simpa [Nat.add_assoc] using h4
   ·cases hu)
theorem xm {t e:TypeId} {i:TypeInfo} {x y:Operand} {k:IntKind} {j:Int} {sz off len:Nat} {b:Bk} [ax P t (.slice e)] [aV P e i] (hx:cx tm x=some (.sl sz b off len)) (hJ:Nat.beq i.size sz=true) (hy:cx tm y=some (.int k j))
 (h0:0≤j∧j < (len:Int)):QV P ⟨some d,.indexAddr t x y,ty,pos,af,none⟩ ⟨n,tm,hp⟩ (.nP sz b (off+j.toNat) 0):=
 (fun w S a r=>by
  obtain rfl:i.size=sz:=Nat.eq_of_beq_eq_true hJ
  obtain ⟨oa,cap,e1,e2⟩:=(bf (σ:=⟨n,tm,hp⟩) r hx).qB
  rcases e2 with ⟨_,_,hl,_⟩ | ⟨m,hb,rfl,h1,h2⟩ | ⟨m,ad,hb,_,hl,_⟩
  ·omega
  ·refine ⟨.pointer (some ⟨m,(off+j.toNat) * i.size+0,none⟩),fun w1 _=>?_,.nP _ _ _ _ m hb⟩
   have:=vW (P:=P) (ax.h (P:=P) (t:=t)) (aV.h (P:=P) (t:=e)) ⟨m,off * i.size,none⟩ len cap k j h0.1 h0.2 w1
   rw [jZ,← Nat.add_mul] at this
   simp [execOp,e1,(bf (σ:=⟨n,tm,hp⟩) r hy).er,this]
  ·omega)
theorem oG {w:World} {S:Nat→Prop} {hp:Heap} (r:bZ w S hp) {b:Bk} {sz:Nat} {xs:List AV} (f:ki hp b (.arr sz xs)∨ki hp b (.wD sz xs)):(∀ x∈xs,El sz x)∧xs.length≤b.cap∧
 ((b.bY=none∧b.cap=0)∨∃ m vs E,b.bY=some m∧w.heap[m]? =some (.cells vs E (0,0))∧vs.size=b.cap * sz∧mA w S (flat xs) vs):=by
 rcases f with f | f<;>exact r.holds _ f.mem
theorem Br {t:TypeId} {D:TypeDesc} {x:Operand} {b:Bk} {sz q o:Nat} {xs:List AV} {el av:AV} [ax P t D] (hD:TypeDesc.iG D=false) (hx:cx tm x=some (.nP sz b q o)) (f:ki hp b (.arr sz xs)∨ki hp b (.wD sz xs))
 (hq:xs[q]? =some el) (ho:el.cells[o]? =some av):QV P ⟨some d,.load t x,ty,pos,af,none⟩ ⟨n,tm,hp⟩ (av):=
 (fun w S a r=>by
  obtain ⟨m,h1,h2⟩:=(bf (σ:=⟨n,tm,hp⟩) r hx).rV
  obtain ⟨g0,g1,⟨g2,_⟩ | ⟨m',vs,E,g2,g3,g4,g5⟩⟩:=oG r.hp f
  ·rw [g2] at h1;cases h1
  ·obtain rfl:m'=m:=by rw [g2] at h1;exact Option.some.inj h1
   have uj:=g0 el (List.mem_of_getElem? hq)
   have UT:o < sz:=by rw [← uj.1];exact (List.getElem?_eq_some_iff.1 ho).1
   have RG:q < xs.length:=(List.getElem?_eq_some_iff.1 hq).1
   have hf:=oO g0 hq o UT
   rw [ho] at hf
   have hmul:(q+1) * sz≤b.cap * sz:=Nat.mul_le_mul_right _ (by omega)
   rw [Nat.add_mul,Nat.one_mul] at hmul
   have iO:q * sz+o < vs.size:=by omega
   have hv:vs[q * sz+o]? =some vs[q * sz+o]:=by simp [iO]
   refine ⟨vs[q * sz+o],fun w1 ex=>?_,g5 _ av _ hf hv⟩
   have:=lj (P:=P) (ax.h (P:=P) (t:=t)) hD (w:=w1) (ad:=⟨m',q * sz+o,none⟩) (v:=vs[q * sz+o]) (by rw [ll (ex.at g3),hv])
   simp [execOp,h2,Instr.loadAt,Instr.sureAddr,this])
theorem wG {t:TypeId} {D:TypeDesc} {i:TypeInfo} {x:Operand} {b:Bk} {sz q:Nat} {xs cs:List AV} [ax P t D] [aV P t i] (hD:TypeDesc.iG D=true) (hx:cx tm x=some (.nP sz b q 0)) (f:ki hp b (.arr sz xs)∨ki hp b (.wD sz xs)) (hJ:Nat.beq i.size sz=true)
 (hq:xs[q]? =some (.agg cs)):QV P ⟨some d,.load t x,ty,pos,af,none⟩ ⟨n,tm,hp⟩ (.agg cs):=
 (fun w S a r=>by
  obtain ⟨m,h1,h2⟩:=(bf (σ:=⟨n,tm,hp⟩) r hx).rV
  obtain ⟨g0,g1,⟨g2,_⟩ | ⟨m',vs,E,g2,g3,g4,g5⟩⟩:=oG r.hp f
  ·rw [g2] at h1;cases h1
  ·obtain rfl:m'=m:=by rw [g2] at h1;exact Option.some.inj h1
   have uj:=g0 (.agg cs) (List.mem_of_getElem? hq)
   have yH:cs.length=sz:=uj.1
   have hi:i.size=sz:=Nat.eq_of_beq_eq_true hJ
   have RG:q < xs.length:=(List.getElem?_eq_some_iff.1 hq).1
   have hmul:(q+1) * sz≤b.cap * sz:=Nat.mul_le_mul_right _ (by omega)
   rw [Nat.add_mul,Nat.one_mul] at hmul
   have hlen:((vs.toList.drop (q * sz)).take sz).length=i.size:=by simp;omega
   refine ⟨.agg ((vs.toList.drop (q * sz)).take sz).toArray,fun w1 ex=>?_,.agg _ _ (by simp;omega) (fun j c v hc hv=>?_)⟩
   ·have:=ie (P:=P) (ax.h (P:=P) (t:=t)) hD (aV.h (P:=P) (t:=t)) (w:=w1) (ad:=⟨m',q * sz+0,none⟩) (vs:=(vs.toList.drop (q * sz)).take sz) hlen (fun j v hv=>by
     rw [jZ,ll (ex.at g3)]
     simp only [List.getElem?_take,List.getElem?_drop] at hv
     split at hv
     ·simpa using hv
     ·cases hv)
    simp only [Nat.add_zero] at this
    simp [execOp,h2,Instr.loadAt,Instr.sureAddr,this]
   ·simp only [List.getElem?_toArray,List.getElem?_take,List.getElem?_drop] at hv
    split at hv
    ·rename_i iO
     have hf:=oO g0 hq j iO
     rw [show (AV.agg cs).cells=cs from rfl,hc] at hf
     exact g5 _ c v hf (by simpa using hv)
    ·cases hv)
theorem Bs (off:Nat):∀ (l:List Value) (j:Nat) (cs:Array Value),off+j+l.length≤cs.size→
 (l.zipIdx j).foldl (fun (cs:Array Value) (p:Value×Nat)=>cs.setIfInBounds (off+p.2) p.1) cs=(cs.toList.take (off+j)++l++cs.toList.drop (off+j+l.length)).toArray
 | [],j,cs,h=>by simp
 | v :: l,j,cs,h=>by
   simp only [List.length_cons] at h
   rw [List.zipIdx_cons,List.foldl_cons,Bs off l (j+1) _ (by simp;omega)]
   have iO:off+j < cs.size:=by omega
   apply Array.ext'
   simp only [Array.toList_setIfInBounds]
   rw [show off+(j+1)=(off+j)+1 from by omega]
   rw [List.take_add_one,List.take_set_of_le (Nat.le_refl _),List.drop_set_of_lt (by omega)]
   simp [iO,List.append_assoc]
   rw [show off+j+1+l.length=off+j+(l.length+1) from by omega]
theorem zd {place:Nat→Option (Nat×Nat)} {cells:Array Value} {i off size:Nat} {v:Value} {rest:List (Nat×Value)} (hp:place i=some (off,size)) (hs:v.cells.size=size) (ho:off+size≤cells.size):
 Instr.fill place cells ((i,v) :: rest)=Instr.fill place (cells.toList.take off++v.cells.toList++cells.toList.drop (off+v.cells.toList.length)).toArray rest:=by
 rw [Instr.fill,hp]
 simp only
 rw [if_neg (by simp [hs];omega)]
 congr 1
 have:=Bs off v.cells.toList 0 cells (by simp [hs];omega)
 simp only [Nat.add_zero] at this
 rw [← this,← Array.toList_zipIdx,Array.foldl_toList]
def ze (pl:List (Nat×Nat)):List AV→List (Nat×AV)→Option (List AV)
 | cells,[]=>some cells
 | cells,(i,v) :: rest=>match pl[i]? with
   | none=>none
   | some (off,size)=>match Nat.beq v.cells.length size&&Nat.ble (off+v.cells.length) cells.length&&iV v.cells with
     | true=>ze pl (kP cells off v.cells) rest
     | false=>none
def MF (tm:List (Nat×AV)):List (Nat×Operand)→Option (List (Nat×AV))
 | []=>some []
 | (i,x) :: r=>match cx tm x,MF tm r with
   | some a,some l=>some ((i,a) :: l)
   | _,_=>none
theorem zf {w:World} {S:Nat→Prop} {σ:St} {a:Act} (r:df w S σ a) (pl:List (Nat×Nat)):∀ (parts:List (Nat×Operand)) (l:List (Nat×AV)) (cells tL:List AV) (vs:Array Value),MF σ.tm parts=some l→ze pl cells l=some tL→
 cells.length=vs.size→mA w S cells vs→(∀ c∈cells,c.one=true)→∃ yM,Instr.fill (pl.toArray[·]?) vs (parts.map fun p=>(p.1,a.eval p.2))=some yM∧tL.length=yM.size∧mA w S tL yM∧∀ c∈tL,c.one=true
 | [],l,cells,tL,vs,h1,h2,h3,h4,h5=>by
   simp only [MF,Option.some.injEq] at h1
   subst h1
   simp only [ze,Option.some.injEq] at h2
   subst h2
   exact ⟨vs,rfl,h3,h4,h5⟩
 | (i,x) :: parts,l,cells,tL,vs,h1,h2,h3,h4,h5=>by
   simp only [MF] at h1
   split at h1
   ·rename_i av l' ha hl
    obtain rfl:=Option.some.inj h1
    simp only [ze] at h2
    split at h2
    ·cases h2
    ·rename_i off size Ld
     split at h2
     ·rename_i hc
      simp only [Bool.and_eq_true] at hc
      obtain ⟨⟨c1,c2⟩,c3⟩:=hc
      have c1:=Nat.eq_of_beq_eq_true c1
      have c2:=Nat.le_of_ble_eq_true c2
      obtain ⟨RH,Le⟩:=pO (bf r ha) (cL c3)
      have Ks:=xl off h3.symm h4 RH Le c2
      obtain ⟨yM,g1,g2,g3,g4⟩:=zf r pl parts l' (kP cells off av.cells) tL _ hl h2 (by simp [kP];omega) Ks (by
       intro c hc
       simp only [kP,List.mem_append] at hc
       rcases hc with (hc | hc) | hc
       ·exact h5 c (List.mem_of_mem_take hc)
       ·exact cL c3 c hc
       ·exact h5 c (List.mem_of_mem_drop hc))
      refine ⟨yM,?_,g2,g3,g4⟩
      rw [List.map_cons,zd (off:=off) (size:=size) (by simpa using Ld) (by rw [← RH];exact c1) (by omega)]
      exact g1
     ·cases h2
   ·cases h1
def placesOf (P:Program):List Field→Option (List (Nat×Nat))
 | []=>some []
 | f :: r=>match P.info? f.type,placesOf P r with
   | some i,some l=>some ((f.offset,i.size) :: l)
   | _,_=>none
theorem run_places {P:Program}:∀ (fs:List Field) (pl:List (Nat×Nat)) (w:World),placesOf P fs=some pl→(fs.mapM (fun f=>do pure (f.offset,← sizeOf f.type)):Sem (List (Nat×Nat))).run P w=.ok pl w
 | [],pl,w,h=>by simp [placesOf] at h;subst h;simp
 | f :: fs,pl,w,h=>by
   simp only [placesOf] at h
   split at h
   ·rename_i i l hi hl
    obtain rfl:=Option.some.inj h
    have ih:=run_places fs l w hl
    simp only [List.mapM_cons,Sem.run_bind,sizeOf,typeInfo,hi,run_program,Result.andThen_ok,Sem.run_pure] at ih ⊢
    rw [ih]
    simp
   ·cases h
class kQ (P:Program) (t:TypeId) (pl:outParam (List (Nat×Nat))):Prop where
 h:∃ fs,P.underlying t=some (.struct fs)∧placesOf P fs.toList=some pl
theorem IZ {t:TypeId} {i:TypeInfo} {z:Value} {parts:List (Nat×Operand)} {l:List (Nat×AV)} {cs:List AV} {pl:List (Nat×Nat)} [aV P t i] [kQ P t pl] (hz:i.zero=some z) (hl:MF tm parts=some l) (h1:iV (w5 z).cells=true)
 (hc:ze pl (w5 z).cells l=some cs):QV P ⟨some d,.build t parts.toArray,ty,pos,af,none⟩ ⟨n,tm,hp⟩ (.agg cs):=
 (fun w S a r=>by
  obtain ⟨z1,z2⟩:=lS w S z (cL h1)
  obtain ⟨vs,g1,g2,g3,g4⟩:=zf (σ:=⟨n,tm,hp⟩) r pl parts l _ _ _ hl hc z1 z2 (cL h1)
  refine ⟨.agg vs,fun w1 _=>?_,.agg _ _ g2 g3⟩
  obtain ⟨fs,hu,Ld⟩:=kQ.h (P:=P) (t:=t)
  have OZ:=run_places fs.toList pl w1 Ld
  have E3:(fs.mapM (fun f=>do pure (f.offset,← sizeOf f.type)):Sem (Array (Nat×Nat))).run P w1=.ok pl.toArray w1:=by
   have:(fs.mapM (fun f=>do pure (f.offset,← sizeOf f.type)):Sem (Array (Nat×Nat)))=Functor.map List.toArray (fs.toList.mapM (fun f=>do pure (f.offset,← sizeOf f.type))):=by
    rw [← List.mapM_toArray]
   rw [this,Sem.run_map,OZ]
   rfl
  simp only [execOp,Instr.build,Sem.run_bind,zeroValue,typeInfo,run_program,Result.andThen_ok,aV.h (P:=P) (t:=t),hz,Sem.run_pure,run_underlying hu,E3]
  have:((parts.toArray.map fun p=>(p.1,a.eval p.2))).toList=parts.map fun p=>(p.1,a.eval p.2):=by simp
  simp only [this,g1,Sem.run_pure,Result.andThen_ok])
end rules
def MH (sz:Nat) (x:AV):Bool:=Nat.beq x.cells.length sz&&iV x.cells
def uw (sz:Nat):List AV→Bool
 | []=>true
 | x :: r=>MH sz x&&uw sz r
theorem xn {sz:Nat} {x:AV} (h:MH sz x=true):El sz x:=by
 simp only [MH,Bool.and_eq_true] at h
 exact ⟨Nat.eq_of_beq_eq_true h.1,cL h.2⟩
theorem ly {sz:Nat}:∀ {xs:List AV},uw sz xs=true→∀ x∈xs,El sz x
 | [],_,x,hx=>by simp at hx
 | y :: r,h,x,hx=>by
   simp only [uw,Bool.and_eq_true] at h
   rcases List.mem_cons.1 hx with rfl | hx
   ·exact xn h.1
   ·exact ly h.2 x hx
def Ga (tm:List (Nat×AV)):List (Nat×Operand)→Nat→Option (List AV)
 | [],_=>some []
 | (i,x) :: r,k=>match Nat.beq i k,cx tm x,Ga tm r (k+1) with
   | true,some a,some l=>some (a :: l)
   | _,_,_=>none
theorem r6 {w:World} {S:Nat→Prop} {cs ds:List AV} {us vs:List Value} (hl:cs.length=us.length) (h1:mA w S cs us.toArray) (h2:mA w S ds vs.toArray):mA w S (cs++ds) (us++vs).toArray:=by
 intro i c v hc hv
 simp only [List.getElem?_toArray] at hv
 by_cases hi:i < cs.length
 ·rw [List.getElem?_append_left hi] at hc
  rw [List.getElem?_append_left (by omega)] at hv
  exact h1 i c v hc (by simpa using hv)
 ·rw [List.getElem?_append_right (by omega)] at hc
  rw [List.getElem?_append_right (by omega),← hl] at hv
  exact h2 _ c v hc (by simpa using hv)
theorem xo {w:World} {S:Nat→Prop} {σ:St} {a:Act} (r:df w S σ a) (size:Nat):∀ (parts:List (Nat×Operand)) (k:Nat) (xs:List AV) (cells:Array Value),Ga σ.tm parts k=some xs→(∀ x∈xs,El size x)→cells.size=(k+parts.length) * size→
 ∃ vs:List Value,Instr.fill (fun i=>some (i * size,size)) cells (parts.map fun p=>(p.1,a.eval p.2))=some (cells.toList.take (k * size)++vs).toArray∧vs.length=xs.length * size∧xs.length=parts.length∧mA w S (flat xs) vs.toArray
 | [],k,xs,cells,h1,h2,h3=>by
   simp only [Ga,Option.some.injEq] at h1
   subst h1
   refine ⟨[],?_,by simp,rfl,fun i c v hc=>by simp [flat] at hc⟩
   simp only [List.length_nil,Nat.add_zero] at h3
   simp only [Instr.fill,List.map_nil,← h3,Option.some.injEq,List.append_nil]
   rw [List.take_of_length_le (by simp)]
 | (i,x) :: parts,k,xs,cells,h1,h2,h3=>by
   simp only [Ga] at h1
   split at h1
   ·rename_i av l hi ha hl
    obtain rfl:i=k:=Nat.eq_of_beq_eq_true hi
    obtain rfl:=Option.some.inj h1
    have uj:=h2 av (by simp)
    obtain ⟨c1,c2⟩:=pO (bf r ha) uj.2
    simp only [List.length_cons] at h3
    have hJ:(a.eval x).cells.size=size:=by rw [← c1];exact uj.1
    have e1:(i+(parts.length+1)) * size=i * size+size+parts.length * size:=by rw [Nat.add_mul,Nat.add_mul,Nat.one_mul];omega
    have hle:i * size+size≤cells.size:=by rw [h3,e1];omega
    obtain ⟨vs,g1,g2,g3,g4⟩:=xo r size parts (i+1) l (cells.toList.take (i * size)++(a.eval x).cells.toList++cells.toList.drop (i * size+(a.eval x).cells.toList.length)).toArray hl (fun y hy=>h2 y (by simp [hy])) (by
     simp [hJ];rw [show i+1+parts.length=i+(parts.length+1) from by omega,e1];omega)
    refine ⟨(a.eval x).cells.toList++vs,?_,?_,by simp [g3],?_⟩
    ·rw [List.map_cons,zd (off:=i * size) (size:=size) rfl hJ hle,g1]
     congr 2
     have l1:(cells.toList.take (i * size)).length=i * size:=by simp;omega
     have l2:(a.eval x).cells.toList.length=size:=by simp [hJ]
     rw [← List.append_assoc]
     congr 1
     rw [show (i+1) * size=(cells.toList.take (i * size)++(a.eval x).cells.toList).length from by rw [List.length_append,l1,l2,Nat.add_mul,Nat.one_mul]]
     exact List.take_left
    ·simp [g2,hJ,Nat.add_mul];omega
    ·rw [gE]
     exact r6 (by simpa using c1) (by simpa using c2) g4
   ·cases h1
section rules
variable {P:Program} {all:Array Oper} {rest:List Oper} {n:Nat} {tm:List (Nat×AV)} {hp:Heap} {Q:St→Prop} {d:Nat} {ty:TypeId} {pos:String} {af:Array Edge}
theorem mJ {P:Program} (w:World) (E:TypeId) (vs:Array Value):(newRow E vs).run P w=.ok ⟨w.heap.size,0,none⟩ (w.alloc (.cells vs E)):=by simp [newRow]
theorem ux {t e:TypeId} {i:TypeInfo} {z:Value} {len:Nat} {parts:List (Nat×Operand)} {xs:List AV} [ax P t (.slice e)] [aV P e i] (hz:i.zero=some z) (hl:Ga tm parts 0=some xs) (hlen:Nat.beq parts.length len=true) (uj:uw i.size xs=true)
 (Gy:Nat.ble (len * i.size) 16777216=true) (hn:Nat.blt d n=true) (kk:∀ b:Bk,ae P all rest ⟨n,(d,.sl i.size b 0 len) :: tm,(b,.arr i.size xs) :: hp⟩ Q):ae P all (⟨some d,.buildSlice t len parts.toArray,ty,pos,af,none⟩ :: rest) ⟨n,tm,hp⟩ Q:=by
 refine ae.Gr rfl fun w S a r=>?_
 obtain rfl:parts.length=len:=Nat.eq_of_beq_eq_true hlen
 have Gy:=Nat.le_of_ble_eq_true Gy
 obtain ⟨zz,I0⟩:∃ zz:Array Value,zz=if parts.length * i.size=0 then #[] else z.cells:=⟨_,rfl⟩
 obtain ⟨vs,g1,g2,g3,g4⟩:=xo (σ:=⟨n,tm,hp⟩) r i.size parts 0 xs ((Array.range (parts.length * i.size)).map (zz[· % zz.size]!)) hl (ly uj) (by simp)
 simp only [Nat.zero_mul,List.take_zero,List.nil_append] at g1
 have e0:=Ext.alloc w (.cells vs.toArray e)
 have hh:Holds (w.alloc (.cells vs.toArray e)) S ⟨some w.heap.size,parts.length⟩ (.arr i.size xs):=by
  refine ⟨ly uj,by simp [g3],.inr ⟨w.heap.size,vs.toArray,e,rfl,?_,by simp [g2,g3],g4.mono fun m hm=>⟨hm,e0.same m (r.hp.slt m hm)⟩⟩⟩
  show (w.heap.push _)[w.heap.size]? =_
  simp
 obtain ⟨k1,k2,k3⟩:=nf r.hp e0 id hh (.inr ⟨_,rfl,Nat.le_refl _⟩)
 refine ⟨.slice (some ⟨w.heap.size,0,none⟩) parts.length parts.length,w.alloc (.cells vs.toArray e),S,_,?_,(r.heap k3 k1).put hn ?_,k2,kk ⟨some w.heap.size,parts.length⟩⟩
 ·have hm:((parts.toArray.map fun p=>(p.1,a.eval p.2))).toList=parts.map fun p=>(p.1,a.eval p.2):=by simp
  simp only [execOp,Instr.buildSlice,Sem.run_bind,run_underlying (ax.h (P:=P) (t:=t)),Result.andThen_ok,sizeOf,typeInfo,run_program,aV.h (P:=P) (t:=e),Sem.run_pure]
  rw [if_neg (by omega)]
  by_cases h0:parts.length * i.size=0
  ·rw [if_pos h0] at I0 ⊢
   subst I0
   simp only [Sem.run_bind,Result.andThen_ok,Sem.run_pure,hm,g1,mJ]
  ·rw [if_neg h0] at I0 ⊢
   subst I0
   simp only [Sem.run_bind,Result.andThen_ok,Sem.run_pure,zeroValue,typeInfo,run_program,aV.h (P:=P) (t:=e),hz,hm,g1,mJ]
 ·have:=At.sl (w:=w.alloc (.cells vs.toArray e)) (S:=S) i.size ⟨some w.heap.size,parts.length⟩ 0 parts.length w.heap.size parts.length rfl (Nat.le_refl _) (by simp)
  simpa using this
def I1 (w:World) (S:Nat→Prop) (sz:Nat) (ys:List AV) (v:Value):Prop:=
 (∀ y∈ys,El sz y)∧∃ (a:Option Addr) (c:Nat) (og:List Value),v=.slice a ys.length c∧og.length=ys.length * sz∧mA w S (flat ys) og.toArray∧∀ (i:Nat) u,og[i]? =some u→∃ ad,a=some ad∧w.cell? (ad.add i)=some u
inductive Src (hp:Heap) (sz:Nat):AV→List AV→Prop
 | nil:Src hp sz .nil []
 | list (ys:List AV):Src hp sz (.list sz ys) ys
 | whole (b:Bk) (len:Nat) (xs:List AV) (f:ki hp b (.arr sz xs)∨ki hp b (.wD sz xs)) (h:len=xs.length):Src hp sz (.sl sz b 0 len) xs
 | part (b:Bk) (off len:Nat) (xs:List AV) (f:ki hp b (.arr sz xs)∨ki hp b (.wD sz xs)) (h:off+len≤xs.length):Src hp sz (.sl sz b off len) ((xs.drop off).take len)
theorem sE {sz:Nat}:∀ (xs:List AV) (k:Nat),(∀ x∈xs,El sz x)→flat (xs.drop k)=(flat xs).drop (k * sz)
 | xs,0,_=>by simp
 | [],k+1,_=>by simp [flat]
 | x :: xs,k+1,h=>by
   rw [List.drop_succ_cons,sE xs k (fun y hy=>h y (by simp [hy])),gE,Nat.add_mul,Nat.one_mul,Nat.add_comm (k * sz),← List.drop_drop]
   rw [List.drop_left' ((h x (by simp)).1)]
theorem sF {sz:Nat}:∀ (xs:List AV) (k:Nat),(∀ x∈xs,El sz x)→flat (xs.take k)=(flat xs).take (k * sz)
 | xs,0,_=>by simp [flat]
 | [],k+1,_=>by simp [flat]
 | x :: xs,k+1,h=>by
   rw [List.take_succ_cons,gE,sF xs k (fun y hy=>h y (by simp [hy])),gE,Nat.add_mul,Nat.one_mul,Nat.add_comm (k * sz)]
   have hx:=(h x (by simp)).1
   rw [List.take_append,List.take_of_length_le (l:=x.cells) (by omega),hx,Nat.add_sub_cancel_left]
theorem zg {w:World} {S:Nat→Prop} {hp:Heap} (r:bZ w S hp) {b:Bk} {sz off len:Nat} {xs:List AV} {v:Value} (f:ki hp b (.arr sz xs)∨ki hp b (.wD sz xs)) (hle:off+len≤xs.length) (h:At w S (.sl sz b off len) v):
 I1 w S sz ((xs.drop off).take len) v:=by
 obtain ⟨g0,g1,g2⟩:=oG r f
 have nA:∀ y∈(xs.drop off).take len,El sz y:=fun y hy=>g0 y (List.mem_of_mem_drop (List.mem_of_mem_take hy))
 have hlen:((xs.drop off).take len).length=len:=by simp;omega
 obtain ⟨oa,cap,e1,e2⟩:=h.qB
 refine ⟨nA,?_⟩
 rw [hlen,e1]
 rcases e2 with ⟨_,_,hl,ha,hc⟩ | ⟨m,hb,ha,h1,h2⟩ | ⟨m,ad,hb,ha,hl,hc⟩
 ·subst hl
  exact ⟨oa,cap,[],rfl,by simp,fun i c v hc hv=>by simp at hv,fun i u hu=>by simp at hu⟩
 ·rcases g2 with ⟨g2,_⟩ | ⟨m',vs,E,g2,g3,g4,g5⟩
  ·rw [g2] at hb;cases hb
  ·obtain rfl:m'=m:=by rw [g2] at hb;exact Option.some.inj hb
   subst ha
   have Bt:(off+len) * sz≤b.cap * sz:=Nat.mul_le_mul_right _ (by omega)
   rw [Nat.add_mul] at Bt
   refine ⟨_,cap,(vs.toList.drop (off * sz)).take (len * sz),rfl,by simp;omega,?_,?_⟩
   ·rw [sF _ _ (fun y hy=>g0 y (List.mem_of_mem_drop hy)),sE _ _ g0]
    intro i c v hc hv
    simp only [List.getElem?_toArray,List.getElem?_take,List.getElem?_drop] at hc hv
    split at hv
    ·rename_i iO
     rw [if_pos iO] at hc
     exact g5 _ c v hc (by simpa using hv)
    ·cases hv
   ·intro i u hu
    refine ⟨_,rfl,?_⟩
    rw [jZ,ll g3]
    simp only [List.getElem?_take,List.getElem?_drop] at hu
    split at hu
    ·simpa using hu
    ·cases hu
 ·subst hl
  exact ⟨oa,cap,[],rfl,by simp,fun i c v hc hv=>by simp at hv,fun i u hu=>by simp at hu⟩
theorem Src.at {w:World} {S:Nat→Prop} {hp:Heap} {sz:Nat} {av:AV} {ys:List AV} {v:Value} (s:Src hp sz av ys) (r:bZ w S hp) (h:At w S av v):I1 w S sz ys v:=by
 cases s with
 | nil=>exact ⟨by simp,none,0,[],h.DU,by simp,fun i c v hc hv=>by simp at hv,fun i u hu=>by simp at hu⟩
 | list ys=>
   obtain ⟨a,cap,vs,e1,e2,e3,e4,e5,e6⟩:=h.uu
   refine ⟨e2,a,cap,vs,e1,by rw [← e3,cA e2],fun i c v hc hv=>e4 i c v hc (by simpa using hv),fun i u hu=>?_⟩
   obtain ⟨ad,h1,h2,h3,h4⟩:=e5 i u hu
   refine ⟨ad,h1,?_⟩
   obtain ⟨bk,of,sp⟩:=ad
   simp only at h2;subst h2
   rw [jZ];exact h4
 | whole b len xs f hl=>
   subst hl
   have:=zg r (off:=0) (len:=ys.length) f (by omega) h
   simpa using this
 | part b off len xs f hle=>exact zg r f hle h
theorem wH {P:Program} {t e:TypeId} {i:TypeInfo} (ht:P.underlying t=some (.slice e)) (hi:P.info? e=some i) (ob a:Option Addr) (xp C4 c:Nat) (h:xp≤C4) (w:World):
 (Builtin.append_ #[t,t] ty #[.slice ob xp C4,.slice a 0 c]).run P w=.ok (.slice ob xp C4) w:=by
 cases a<;>cases ob<;>simp [Builtin.append_,run_underlying ht,sizeOf,typeInfo,hi,Builtin.lenOf,h,Builtin.firstCells,loadCells,loadCellsFrom,storeCells]
theorem yN {P:Program} {t e E:TypeId} {i:TypeInfo} {w:World} (ht:P.underlying t=some (.slice e)) (hi:P.info? e=some i) (g xp C4:Nat) (cur:Array Value) (hg:w.heap[g]? =some (.cells cur E (0,0)))
 (a:Addr) (m c:Nat) (news:List Value) (hl:news.length=m * i.size) (Nq:∀ (j:Nat) u,news[j]? =some u→w.cell? (a.add j)=some u) (h1:∀ u∈news,u.oneCell'=true)
 (zh:xp+m≤C4) (Lf:xp * i.size+news.length≤cur.size):
 (Builtin.append_ #[t,t] ty #[.slice (some ⟨g,0,none⟩) xp C4,.slice (some a) m c]).run P w=
  .ok (.slice (some ⟨g,0,none⟩) (xp+m) C4) (w.setRow g (cur.toList.take (xp * i.size)++news++cur.toList.drop (xp * i.size+news.length)).toArray):=by
 have hf:=run_firstCells_some (P:=P) w i.size m a m c news hl Nq
 have Bq:=run_storeCells_at P g (xp * i.size) E news 0 cur w hg (by simpa using Lf) h1
 simp only [Nat.add_zero] at Bq
 simp [Builtin.append_,run_underlying ht,sizeOf,typeInfo,hi,Builtin.lenOf,zh,hf,Addr.add_lit,Bq]
theorem C5 {w:World} {S:Nat→Prop} {hp:Heap} {t e:TypeId} {i:TypeInfo} {z:Value} {b:Bk} {xs ys:List AV} {v1 v2:Value} (r:bZ w S hp) (ht:P.underlying t=some (.slice e)) (hi:P.info? e=some i) (hz:i.zero=some z) (DZ:z.cells.size=i.size) (h0:0 < i.size)
 (f:ki hp b (.arr i.size xs)) (O0:At w S (.sl i.size b 0 xs.length) v1) (hs:I1 w S i.size ys v2) (hb:(xs.length+ys.length) * i.bytes≤140737488355328) (O1:xs.length+ys.length≤9223372036854775807):
 ∃ v' w' b',(Builtin.append_ #[t,t] ty #[v1,v2]).run P w=.ok v' w'∧At w' S (.sl i.size b' 0 (xs.length+ys.length)) v'∧GB w w' b.bY∧Holds w' S b' (.arr i.size (xs++ys))∧
   (b'.bY=b.bY∨b'.bY=none∨∃ m,b'.bY=some m∧w.heap.size≤m):=by
 obtain ⟨k0,a,c,og,rfl,k1,k2,k3⟩:=hs
 have hold:=r.holds _ f.mem
 obtain ⟨g0,g1,g2⟩:=oG r (.inl f)
 obtain ⟨oa,cap,rfl,e2⟩:=O0.qB
 by_cases hy:ys=[]
 ·subst hy
  have hle:xs.length≤cap:=by
   rcases e2 with ⟨_,_,hl,_,_⟩ | ⟨m,w4,ha,h1,h2⟩ | ⟨m,ad,w4,ha,hl,hc⟩<;>omega
  refine ⟨_,w,b,wH ht hi oa a xs.length cap c hle w,by simpa using O0,⟨⟨rfl,rfl,rfl,Nat.le_refl _,fun _ _ _=>rfl⟩,fun _=>Nat.le_refl _⟩,by simpa using hold,.inl rfl⟩
 ·have hm:0 < ys.length:=List.length_pos_iff.2 hy
  have Gb:0 < og.length:=by rw [k1];exact Nat.mul_pos hm h0
  obtain ⟨ad,rfl,_⟩:=k3 0 og[0] (by simp [Gb])
  have O2:∀ (j:Nat) u,og[j]? =some u→w.cell? (ad.add j)=some u:=fun j u hu=>by
   obtain ⟨PU,h1,h2⟩:=k3 j u hu
   obtain rfl:=Option.some.inj h1
   exact h2
  have rk:∀ u∈og,u.oneCell'=true:=uv (cs:=flat ys) (vs:=og.toArray) (by simp [k1,cA k0]) k2 (Gp k0)
  have tt:∀ x∈xs++ys,El i.size x:=fun x hx=>by rcases List.mem_append.1 hx with h | h;exact g0 x h;exact k0 x h
  have grown:∀ (Gc:Nat) (wI:List Value) (wr:Option Nat),wI.length=xs.length * i.size→mA w S (flat xs) wI.toArray→
   At (w.drew.alloc (.cells (wI.toArray++og.toArray++Builtin.zeroCells z.cells (grownCap w (xs.length+ys.length) Gc e - (xs.length+ys.length))) e)) S (.sl i.size ⟨some w.heap.size,grownCap w (xs.length+ys.length) Gc e⟩ 0 (xs.length+ys.length))
    (.slice (some ⟨w.heap.size,0,none⟩) (xs.length+ys.length) (grownCap w (xs.length+ys.length) Gc e))∧
   GB w (w.drew.alloc (.cells (wI.toArray++og.toArray++Builtin.zeroCells z.cells (grownCap w (xs.length+ys.length) Gc e - (xs.length+ys.length))) e)) wr∧
   Holds (w.drew.alloc (.cells (wI.toArray++og.toArray++Builtin.zeroCells z.cells (grownCap w (xs.length+ys.length) Gc e - (xs.length+ys.length))) e)) S ⟨some w.heap.size,grownCap w (xs.length+ys.length) Gc e⟩ (.arr i.size (xs++ys)):=by
   intro Gc wI wr PV UU
   have O3:=grownCap_ge w (xs.length+ys.length) Gc e
   have ex:Ext w (w.drew.alloc (.cells (wI.toArray++og.toArray++Builtin.zeroCells z.cells (grownCap w (xs.length+ys.length) Gc e - (xs.length+ys.length))) e)):=(Ext.Gq w _ (Nat.le_succ _)).trans (Ext.alloc w.drew _)
   generalize grownCap w (xs.length+ys.length) Gc e=cp at *
   refine ⟨?_,⟨⟨ex.os,ex.tape,ex.output,ex.size,fun k hk _=>ex.same k hk⟩,ex.drawn⟩,tt,by simpa using O3,.inr ⟨w.heap.size,wI.toArray++og.toArray++Builtin.zeroCells z.cells (cp - (xs.length+ys.length)),e,rfl,?_,?_,?_⟩⟩
   ·have:=At.sl (w:=w.drew.alloc (.cells (wI.toArray++og.toArray++Builtin.zeroCells z.cells (cp - (xs.length+ys.length))) e)) (S:=S) i.size ⟨some w.heap.size,cp⟩ 0 (xs.length+ys.length) w.heap.size cp rfl O3 (by simp)
    simpa using this
   ·show (w.heap.push _)[w.heap.size]? =_
    simp
   ·simp only [Array.size_append,List.size_toArray,size_zeroCells,DZ,PV,k1]
    rw [← Nat.add_mul,← Nat.add_mul]
    congr 1
    omega
   ·rw [pc]
    have h2:mA w S (flat xs++flat ys) (wI++og).toArray:=r6 (by rw [cA g0,PV]) UU k2
    intro j c' u hc hu
    have hj:j < (wI++og).length:=by
     have:=(List.getElem?_eq_some_iff.1 hc).1
     simp only [List.length_append,cA g0,cA k0] at this
     simp only [List.length_append,PV,k1]
     exact this
    have UW:(wI++og).toArray[j]? =some u:=by
     rw [Array.getElem?_append_left (by simpa using hj)] at hu
     simpa using hu
    exact (h2 j c' u hc UW).mono fun m RI=>⟨RI,ex.same m (r.slt m RI)⟩
  rcases e2 with ⟨UX,_,hl,rfl,rfl⟩ | ⟨m,I2,rfl,h1,h2⟩ | ⟨m,PU,I2,rfl,hl,rfl⟩
  ·have hx:xs=[]:=List.eq_nil_of_length_eq_zero hl
   subst hx
   have hr:=run_append_nil (P:=P) (ty:=ty) w t e i z ht hi hz ad ys.length c og k1 O2 hm (by simp at O1;omega) (by simp only [List.length_nil,Nat.zero_add] at hb;omega)
   obtain ⟨q1,q2,q3⟩:=grown 0 [] b.bY (by simp) (fun j c' u hc=>by simp [flat] at hc)
   simp only [List.length_nil,Nat.zero_add,Array.empty_append] at q1 q2 q3 ⊢
   exact ⟨_,_,_,hr,q1,q2,q3,.inr (.inr ⟨_,rfl,Nat.le_refl _⟩)⟩
  ·rcases g2 with ⟨g2,_⟩ | ⟨m',vs,E,g2,g3,g4,g5⟩
   ·rw [g2] at I2;cases I2
   ·obtain rfl:m'=m:=by rw [g2] at I2;exact Option.some.inj I2
    simp only [Nat.zero_mul,Nat.zero_add] at *
    by_cases zh:xs.length+ys.length≤cap
    ·have hmul:(xs.length+ys.length) * i.size≤b.cap * i.size:=Nat.mul_le_mul_right _ (by omega)
     have Lf:xs.length * i.size+og.length≤vs.size:=by rw [k1,← Nat.add_mul,g4];exact hmul
     have hr:=yN (P:=P) (ty:=ty) ht hi m' xs.length cap vs g3 ad ys.length c og k1 O2 rk zh Lf
     have nS:¬ S m':=fun hs=>(r.sep _ f.mem m' (iN I2)).1 hs
     have ex:∀ k,S k→S k∧(w.setRow m' (vs.toList.take (xs.length * i.size)++og++vs.toList.drop (xs.length * i.size+og.length)).toArray).heap[k]? =w.heap[k]?:=fun k hk=>⟨hk,setRow_other w m' k _ (fun e=>nS (e▸hk))⟩
     refine ⟨_,_,b,hr,?_,⟨⟨rfl,rfl,rfl,by simp,fun k _ hk=>setRow_other w m' k _ (fun e=>hk (by rw [I2,e]))⟩,fun _=>Nat.le_refl _⟩,⟨tt,by simp;omega,.inr ⟨m',(vs.toList.take (xs.length * i.size)++og++vs.toList.drop (xs.length * i.size+og.length)).toArray,E,I2,setRow_heap w m' vs _ E _ g3,?_,?_⟩⟩,.inl rfl⟩
     ·have:=At.sl (w:=w.setRow m' (vs.toList.take (xs.length * i.size)++og++vs.toList.drop (xs.length * i.size+og.length)).toArray) (S:=S) i.size b 0 (xs.length+ys.length) m' cap I2 zh (by omega)
      simpa using this
     ·simp;omega
     ·rw [pc]
      have hA:mA w S (flat xs++flat ys) (vs.toList.take (xs.length * i.size)++og).toArray:=r6 (by simp [cA g0];omega) (fun j c' u hc hu=>by
       simp only [List.getElem?_toArray,List.getElem?_take] at hu
       split at hu
       ·exact g5 j c' u hc (by simpa using hu)
       ·cases hu) k2
      intro j c' u hc hu
      have hj:j < (vs.toList.take (xs.length * i.size)++og).length:=by
       have:=(List.getElem?_eq_some_iff.1 hc).1
       simp only [List.length_append,cA g0,cA k0] at this
       simp;omega
      simp only [List.getElem?_toArray] at hu
      rw [List.getElem?_append_left hj] at hu
      exact (hA j c' u hc (by simpa using hu)).mono ex
    ·have hr:=run_append_grow (P:=P) (ty:=ty) w t e i z ht hi hz ⟨m',0,none⟩ xs.length cap (vs.toList.take (xs.length * i.size)) (by
      have:=Nat.mul_le_mul_right i.size g1
      simp;omega) (fun j u hu=>by
       rw [jZ,Nat.zero_add,ll g3]
       rw [List.getElem?_take] at hu
       split at hu
       ·simpa using hu
       ·cases hu) ad ys.length c og k1 O2 (by omega) (by omega) (growslice_fits (by omega) hb)
     obtain ⟨q1,q2,q3⟩:=grown cap (vs.toList.take (xs.length * i.size)) b.bY (by
      have:=Nat.mul_le_mul_right i.size g1
      simp;omega) (fun j c' u hc hu=>by
       simp only [List.getElem?_toArray,List.getElem?_take] at hu
       split at hu
       ·exact g5 j c' u hc (by simpa using hu)
       ·cases hu)
     exact ⟨_,_,_,hr,q1,q2,q3,.inr (.inr ⟨_,rfl,Nat.le_refl _⟩)⟩
  ·have hx:xs=[]:=List.eq_nil_of_length_eq_zero hl
   subst hx
   have hr:=run_append_grow (P:=P) (ty:=ty) w t e i z ht hi hz PU 0 0 [] (by simp) (fun j u hu=>by simp at hu) ad ys.length c og k1 O2 (by omega) (by simp at O1;omega) (growslice_fits (by omega) (by simpa using hb))
   obtain ⟨q1,q2,q3⟩:=grown 0 [] b.bY (by simp) (fun j c' u hc=>by simp [flat] at hc)
   simp only [List.length_nil,Nat.zero_add] at q1 q2 q3 hr ⊢
   exact ⟨_,_,_,hr,q1,q2,q3,.inr (.inr ⟨_,rfl,Nat.le_refl _⟩)⟩
theorem Gz {t e:TypeId} {i:TypeInfo} {z:Value} {x y:Operand} {src:AV} {b:Bk} {len sz:Nat} {xs ys:List AV} {bU:Bk→Heap} [ax P t (.slice e)] [aV P e i] (hx:cx tm x=some (.sl sz b 0 len)) (hy:cx tm y=some src) (hz:i.zero=some z)
 (DZ:Nat.beq z.cells.size i.size=true) (hJ:Nat.beq i.size sz=true) (h0:Nat.blt 0 sz=true) (hn:Nat.blt d n=true) (hs:Src hp sz src ys) (u:∀ b',jY hp b (.arr sz xs) b' (.arr sz (xs++ys)) (bU b')) (hlen:len=xs.length)
 (hb:(xs.length+ys.length) * i.bytes≤140737488355328) (O1:xs.length+ys.length≤9223372036854775807)
 (kk:∀ b':Bk,ae P all rest ⟨n,(d,.sl sz b' 0 (len+ys.length)) :: tm,bU b'⟩ Q):ae P all (⟨some d,.call {callee:=.builtin .append,args:=#[x,y],argTypes:=#[t,t]},ty,pos,af,none⟩ :: rest) ⟨n,tm,hp⟩ Q:=by
 refine ae.Gr rfl fun w S a r=>?_
 subst hlen
 obtain rfl:i.size=sz:=Nat.eq_of_beq_eq_true hJ
 obtain ⟨v',w',b',g1,g2,g3,g4,g5⟩:=C5 (P:=P) (ty:=ty) r.hp (ax.h (P:=P) (t:=t)) (aV.h (P:=P) (t:=e)) hz (Nat.eq_of_beq_eq_true DZ) (by simpa using h0) (u b).nU (bf (σ:=⟨n,tm,hp⟩) r hx) (hs.at r.hp (bf (σ:=⟨n,tm,hp⟩) r hy)) hb O1
 obtain ⟨k1,k2,k3⟩:=sD r.hp (u b') g3 id id g4 g5
 refine ⟨v',w',S,_,?_,(r.heap k3 k1).put hn g2,k2,kk b'⟩
 simp [execOp,resolve,invoke,builtin,g1]
end rules
def aj (σ:St) (T:St→Prop):Prop:=∀ w S a,df w S σ a→∃ aC S',T aC∧df w S' aC a∧iF w S σ.hp w S' aC.hp
theorem aj.here {σ:St} {T:St→Prop} (h:T σ):aj σ T:=fun w S a r=>⟨σ,S,h,r,iF.refl _ _ _⟩
theorem aj.step {σ wW:St} {T:St→Prop} (h:aj σ (· =wW)) (k:aj wW T):aj σ T:=by
 intro w S a r
 obtain ⟨aC,S',rfl,r',e⟩:=h w S a r
 obtain ⟨DT,S2,h2,r2,e2⟩:=k w S' a r'
 exact ⟨DT,S2,h2,r2,e.trans e2⟩
theorem aj.mono {σ:St} {T T':St→Prop} (h:aj σ T) (ht:∀ σ,T σ→T' σ):aj σ T':=fun w S a r=>
 let ⟨aC,S',h1,h2,h3⟩:=h w S a r
 ⟨aC,S',ht _ h1,h2,h3⟩
def zi (tm:List (Nat×AV)):List (Nat×AV)→Prop
 | []=>True
 | (s,av) :: r=>lk tm s=some av∧zi tm r
theorem zi.lk {tm:List (Nat×AV)}:∀ {nB:List (Nat×AV)},zi tm nB→∀ s av,Eng.lk nB s=some av→Eng.lk tm s=some av
 | [],_,s,av,h=>by simp [Eng.lk] at h
 | (k,v) :: r,h,s,av,hh=>by
   simp only [Eng.lk] at hh
   split at hh
   ·rename_i hb
    obtain rfl:k=s:=by simpa using hb
    obtain rfl:=Option.some.inj hh
    exact h.1
   ·exact zi.lk h.2 s av hh
theorem aj.arr {n s:Nat} {tm:List (Nat×AV)} {hp:Heap} {T:St→Prop} (sz:Nat) (hs:lk tm s=some .nil) (k:∀ b,aj ⟨n,(s,.sl sz b 0 0) :: tm,(b,.arr sz []) :: hp⟩ T):aj ⟨n,tm,hp⟩ T:=by
 refine aj.step (wW:=⟨n,(s,.sl sz ⟨none,0⟩ 0 0) :: tm,(⟨none,0⟩,.arr sz []) :: hp⟩) (fun w S a r=>?_) (k ⟨none,0⟩)
 obtain ⟨g1,g2,g3⟩:=nf (b:=⟨none,0⟩) (o:=.arr sz []) r.hp (Ext.refl w) id ⟨by simp,by simp,.inl ⟨rfl,rfl⟩⟩ (.inl rfl)
 refine ⟨_,S,rfl,⟨r.size,r.defers,fun t av h=>?_,g1⟩,g2⟩
 simp only [lk] at h
 split at h
 ·rename_i hb
  obtain rfl:s=t:=by simpa using hb
  obtain rfl:=Option.some.inj h
  obtain ⟨v,h1,h2⟩:=r.tm s _ hs
  cases h2
  exact ⟨_,h1,.xh sz _ rfl⟩
 ·exact r.tm t av h
theorem aj.freeze {n sz:Nat} {tm:List (Nat×AV)} {hp bU:Heap} {T:St→Prop} {b:Bk} {xs:List AV} (u:jY hp b (.arr sz xs) b (.wD sz xs) bU) (k:aj ⟨n,tm,bU⟩ T):aj ⟨n,tm,hp⟩ T:=by
 refine aj.step (wW:=⟨n,tm,bU⟩) (fun w S a r=>?_) k
 have nA:=u.nU.mem
 have Gv:∀ m,b.bY=some m→m < w.heap.size:=fun m hm=>r.hp.lt ⟨_,nA,iN hm⟩
 let S':Nat→Prop:=fun m=>S m∨b.bY=some m
 have mono:∀ m,S m→S' m∧w.heap[m]? =w.heap[m]?:=fun m hm=>⟨.inl hm,rfl⟩
 obtain ⟨p,q,rfl,rfl⟩:=u.split
 have wE:=r.hp.nodup
 have tM:bZ w S' (p++(b,.wD sz xs) :: q):=by
  refine ⟨?_,?_,?_,?_,fun g o ho=>⟨.inl (r.hp.fU g o ho).1,(r.hp.fU g o ho).2⟩⟩
  ·simpa [List.flatMap_append,List.flatMap_cons,eb,Ob.more] using wE
  ·intro e he
   rcases aY.1 he with rfl | he
   ·exact Holds.mono (o:=.wD sz xs) mono (fun _ _=>rfl) (show Holds w S b (.arr sz xs) from r.hp.holds (b,.arr sz xs) nA)
   ·exact (r.hp.holds e (aY.2 (.inr he))).mono mono (fun _ _=>rfl)
  ·intro e he m hm
   rcases aY.1 he with rfl | he
   ·exact ⟨fun _=>trivial,fun _=>.inr ((rU rfl).1 hm)⟩
   ·rw [← r.hp.sep e (aY.2 (.inr he)) m hm]
    refine ⟨fun hs=>hs.elim id fun hb=>?_,.inl⟩
    exfalso
    rw [List.flatMap_append,List.flatMap_cons,List.nodup_append,List.nodup_append] at wE
    rcases List.mem_append.1 he with h | h
    ·exact wE.2.2 m (List.mem_flatMap.2 ⟨e,h,hm⟩) m (List.mem_append_left _ (iN hb)) rfl
    ·exact wE.2.1.2.2 m (iN hb) m (List.mem_flatMap.2 ⟨e,h,hm⟩) rfl
  ·intro m hm
   rcases hm with h | h
   ·exact r.hp.slt m h
   ·exact Gv m h
 refine ⟨_,S',rfl,r.heap mono tM,rfl,rfl,rfl,Nat.le_refl _,mono,fun m hm hh=>⟨rfl,fun hs=>hs.elim id fun hb=>(hh ⟨_,nA,iN hb⟩).elim⟩,fun m hm=>.inl ?_,fun _=>Nat.le_refl _⟩
 obtain ⟨e,he,hb⟩:=hm
 rcases aY.1 he with rfl | he
 ·exact ⟨_,nA,hb⟩
 ·exact ⟨e,aY.2 (.inr he),hb⟩
inductive Co (hp:Heap):AV→AV→Prop
 | refl (a:AV):Co hp a a
 | nil (sz:Nat):Co hp .nil (.list sz [])
 | wD (sz:Nat) (b:Bk) (len:Nat) (xs:List AV) (f:ki hp b (.wD sz xs)) (h:len=xs.length):Co hp (.sl sz b 0 len) (.list sz xs)
 | part (sz:Nat) (b:Bk) (off len:Nat) (xs:List AV) (f:ki hp b (.wD sz xs)) (h:off+len≤xs.length):Co hp (.sl sz b off len) (.list sz ((xs.drop off).take len))
theorem lT {w:World} {S:Nat→Prop} {sz:Nat} {ys:List AV} {v:Value} (h:I1 w S sz ys v) (hS:∀ ad len cap,v=.slice (some ad) len cap→0 < len→ad.spot=none∧S ad.block) (hc:∀ ob len cap,v=.slice ob len cap→len≤cap):At w S (.list sz ys) v:=by
 obtain ⟨h0,a,c,og,rfl,h1,h2,h3⟩:=h
 refine .list sz ys a c og h0 (by rw [cA h0,h1]) (fun i c v hc hv=>h2 i c v hc (by simpa using hv)) (fun i v hv=>?_) (hc _ _ _ rfl)
 obtain ⟨ad,rfl,h4⟩:=h3 i v hv
 have iO:i < og.length:=(List.getElem?_eq_some_iff.1 hv).1
 have sX:0 < ys.length:=by
  rcases Nat.eq_zero_or_pos ys.length with h | h
  ·rw [h1,h] at iO;simp at iO
  ·exact h
 obtain ⟨g1,g2⟩:=hS ad _ _ rfl sX
 refine ⟨ad,rfl,g1,g2,?_⟩
 obtain ⟨bk,of,sp⟩:=ad
 simp only at g1;subst g1
 rw [jZ] at h4;exact h4
theorem nC {w:World} {S:Nat→Prop} {sz off len:Nat} {b:Bk} {v:Value} (h:At w S (.sl sz b off len) v):(∀ ad l c,v=.slice (some ad) l c→0 < l→ad.spot=none∧b.bY=some ad.block)∧∀ ob l c,v=.slice ob l c→l≤c:=by
 obtain ⟨oa,cap,rfl,e2⟩:=h.qB
 rcases e2 with ⟨_,_,hl,rfl,rfl⟩ | ⟨m,hb,rfl,h1,h2⟩ | ⟨m,ad,hb,rfl,hl,rfl⟩
 ·exact ⟨(fun ad l c h=>by cases h),(fun ob l c h=>by cases h;omega)⟩
 ·exact ⟨(fun ad l c h _=>by cases h;exact ⟨rfl,hb⟩),(fun ob l c h=>by cases h;omega)⟩
 ·exact ⟨(fun ad l c h DX=>by cases h;omega),(fun ob l c h=>by cases h;omega)⟩
theorem Co.at {w:World} {S:Nat→Prop} {hp:Heap} {a a':AV} {v:Value} (c:Co hp a a') (r:bZ w S hp) (h:At w S a v):At w S a' v:=by
 cases c with
 | refl=>exact h
 | nil sz=>rw [h.DU];exact .list sz [] none 0 [] (by simp) rfl (fun i c v hc=>by simp [flat] at hc) (fun i v hv=>by simp at hv) (by simp)
 | wD sz b len xs f hl=>
   have hs:=(Src.whole (hp:=hp) (sz:=sz) b len xs (.inr f) hl).at r h
   exact lT hs (fun ad l c hv hp=>let ⟨g1,g2⟩:=(nC h).1 ad l c hv hp;⟨g1,(r.sep _ f.mem _ (iN g2)).2 trivial⟩) (nC h).2
 | part sz b off len xs f hl=>
   have hs:=(Src.part (hp:=hp) (sz:=sz) b off len xs (.inr f) hl).at r h
   exact lT hs (fun ad l c hv hp=>let ⟨g1,g2⟩:=(nC h).1 ad l c hv hp;⟨g1,(r.sep _ f.mem _ (iN g2)).2 trivial⟩) (nC h).2
theorem aj.co {n s:Nat} {tm:List (Nat×AV)} {hp:Heap} {T:St→Prop} {av ep:AV} (hs:lk tm s=some av) (c:Co hp av ep) (k:aj ⟨n,(s,ep) :: tm,hp⟩ T):aj ⟨n,tm,hp⟩ T:=by
 refine aj.step (wW:=⟨n,(s,ep) :: tm,hp⟩) (fun w S a r=>⟨_,S,rfl,⟨r.size,r.defers,fun t av h=>?_,r.hp⟩,iF.refl _ _ _⟩) k
 simp only [lk] at h
 split at h
 ·rename_i hb
  obtain rfl:s=t:=by simpa using hb
  obtain rfl:=Option.some.inj h
  obtain ⟨v,h1,h2⟩:=r.tm s _ hs
  exact ⟨v,h1,c.at r.hp h2⟩
 ·exact r.tm t av h
section
variable {P:Program} {R:St→Prop} {k:List It} {σ:St}
theorem ab.ghost {c:Code} (h:aj σ (ab P R (.code c :: k))):ab P R (.code c :: k) σ:=by
 intro w S a r
 obtain ⟨aC,S',h1,h2,h3⟩:=h w S a r
 exact ab.go h1 h2 h3
theorem ae.ghost {all:Array Oper} {l:List Oper} {Q:St→Prop} (h:aj σ (fun aC=>ae P all l aC Q)):ae P all l σ Q:=by
 intro w S a r
 obtain ⟨aC,S',h1,h2,h3⟩:=h w S a r
 exact h1.go h2 h3
theorem ab.Nr {body:Code} (I:Nat→St→Prop) (m:Nat) (h0:aj σ (I m)) (hs:∀ m σ,I m σ→ab P R (.code body :: .stop (fun aC=>∃ m',m' < m∧aj aC (I m')) :: k) σ):
 ab P R (.code (.loop body) :: k) σ:=by
 refine ab.loop (fun m σ=>aj σ (I m)) m h0 (fun m σ hI=>?_)
 exact ab.ghost (hI.mono fun aC h=>hs m aC h)
end
class bw (P:Program) (f:FuncId):Prop where
 h:∃ fn,P.funcs[f]? =some fn∧(fn.name=="runtime.NumGoroutine")=false∧fn.body.isNone=false
theorem qC {P:Program} (f:FuncId) [bw P f] (args:Array Value) (w:World):(callFunc f args).run P w=.ok (.enter f args) w:=by
 obtain ⟨fn,h1,h2,h3⟩:=bw.h (P:=P) (f:=f)
 have Lg:¬ (fn.name="runtime.NumGoroutine"):=by simpa using h2
 have UY:¬ (fn.body=none):=fun h=>by simp [h] at h3
 simp [callFunc,h1,Lg,UY]
inductive vk (hp:Heap):List AV→List AV→Prop
 | nil:vk hp [] []
 | cons {a a':AV} {l l':List AV} (c:Co hp a a') (k:vk hp l l'):vk hp (a :: l) (a' :: l')
theorem vk.at {w:World} {S:Nat→Prop} {hp:Heap} (r:bZ w S hp):∀ {l l':List AV},vk hp l l'→∀ {vs:List Value},l.length=vs.length→mA w S l vs.toArray→l'.length=vs.length∧mA w S l' vs.toArray
 | [],_,.nil,vs,hl,h=>⟨hl,h⟩
 | a :: l,_,.cons (a':=a') (l':=l') c k,vs,hl,h=>by
   match vs,hl with
   | v :: vs,hl=>
     obtain ⟨g1,g2⟩:=vk.at r k (vs:=vs) (by simpa using hl) (fun i c u hc hu=>h (i+1) c u (by simpa using hc) (by simpa using hu))
     refine ⟨by simpa using g1,fun i c u hc hu=>?_⟩
     match i with
     | 0=>
       simp at hc hu
       subst hc
       subst hu
       exact Co.at ‹Co hp a a'› r (h 0 a v (by simp) (by simp))
     | i+1=>exact g2 i c u (by simpa using hc) (by simpa using hu)
section rules
variable {P:Program} {all:Array Oper} {rest:List Oper} {n:Nat} {tm:List (Nat×AV)} {hp:Heap} {Q:St→Prop} {d:Nat} {ty:TypeId} {pos:String} {af:Array Edge}
theorem pP {w:World} {S:Nat→Prop} {σ:St} {a:Act} (r:df w S σ a) {xs:List Operand} {l:List AV} (h:wZ σ.tm xs=some l):l.length=(xs.map a.eval).length∧mA w S l (xs.map a.eval).toArray:=by
 obtain ⟨h1,h2⟩:=C3 r h
 exact ⟨by simp [h1],fun i c v hc hv=>h2 i c v hc (by simpa using hv)⟩
theorem ng {f:FuncId} {args:List Operand} {ts:Array TypeId} {dd:Option Nat} [bw P f] (a:Act) (w:World):
 (execOp a.eval ⟨dd,.call {callee:=.value (.func f),args:=args.toArray,argTypes:=ts},ty,pos,af,none⟩).run P w=.ok (.enter f (args.map a.eval).toArray) w:=by
 simp [execOp,resolve,Act.eval,Deferred.ofValue,invoke,qC]
theorem r7 {f:FuncId} {x:Operand} {args:List Operand} {ts:Array TypeId} {dd:Option Nat} {sW:Array Value} [bw P f] (a:Act) (w:World) (hx:a.eval x=.func (.func f) #[] sW):
 (execOp a.eval ⟨dd,.call {callee:=.value x,args:=args.toArray,argTypes:=ts},ty,pos,af,none⟩).run P w=.ok (.enter f ((args.map a.eval)++sW.toList).toArray) w:=by
 simp [execOp,resolve,hx,Deferred.ofValue,invoke,qC]
theorem GA {f:FuncId} {args:List Operand} {ts:Array TypeId} {l l':List AV} {h0 hr:Heap} {Qc:AV→Heap→Prop} [bw P f] (hl:wZ tm args=some l) (c:aF P f l' h0 Qc) (co:vk hp l l') (hs:hp.Perm (h0++hr)) (hn:Nat.blt d n=true)
 (kk:∀ r h',Qc r h'→ae P all rest ⟨n,(d,r) :: tm,h'++hr⟩ Q):ae P all (⟨some d,.call {callee:=.value (.func f),args:=args.toArray,argTypes:=ts},ty,pos,af,none⟩ :: rest) ⟨n,tm,hp⟩ Q:=by
 refine ae.DS rfl fun w S a r=>⟨f,_,ng a w,?_⟩
 obtain ⟨g1,g2⟩:=pP (σ:=⟨n,tm,hp⟩) r hl
 obtain ⟨g3,g4⟩:=vk.at r.hp co g1 g2
 have rp:=r.hp.perm hs
 refine (c.frame hr w S _ rp (by simpa using g3) g4).mono ?_
 rintro e w' ⟨v,rr,h',S',rfl,⟨h1,rfl,hq⟩,h3,h4,h5⟩
 have Ns:=h5.jX
 have ev:iF w S hp w' S' (h1++hr):={h5 with
  other:=fun m hm hh=>h5.other m hm (fun ⟨x,hx,hb⟩=>hh ⟨x,hs.mem_iff.2 hx,hb⟩)
  new:=fun m hm=>(h5.new m hm).imp (fun ⟨x,hx,hb⟩=>⟨x,hs.mem_iff.2 hx,hb⟩) id}
 exact ⟨v,S',⟨n,(d,rr) :: tm,h1++hr⟩,rfl,(r.heap Ns h4).put hn h3,ev,kk rr h1 hq⟩
theorem D0 {f:FuncId} {args:List Operand} {ts:Array TypeId} {l l':List AV} {Qc:AV→Heap→Prop} [bw P f] (hl:wZ tm args=some l) (c:aF P f l' [] Qc) (co:vk hp l l') (hn:Nat.blt d n=true)
 (kk:∀ r h',Qc r h'→ae P all rest ⟨n,(d,r) :: tm,h'++hp⟩ Q):ae P all (⟨some d,.call {callee:=.value (.func f),args:=args.toArray,argTypes:=ts},ty,pos,af,none⟩ :: rest) ⟨n,tm,hp⟩ Q:=
 GA hl c co (List.Perm.refl _) hn kk
theorem ui.perm {h h':Heap} {b:Bk} {o:Ob} (u:ui h b o h'):h.Perm ([(b,o)]++h'):=by
 obtain ⟨p,q,rfl,rfl⟩:=u.split
 exact List.perm_middle
theorem I3 {f:FuncId} {x:Operand} {args:List Operand} {ts:Array TypeId} {sW l l':List AV} {h0 hr:Heap} {Qc:AV→Heap→Prop} [bw P f] (hx:cx tm x=some (.func (.func f) sW)) (hl:wZ tm args=some l) (c:aF P f l' h0 Qc) (co:vk hp (l++sW) l') (hs:hp.Perm (h0++hr)) (hn:Nat.blt d n=true)
 (kk:∀ r h',Qc r h'→ae P all rest ⟨n,(d,r) :: tm,h'++hr⟩ Q):ae P all (⟨some d,.call {callee:=.value x,args:=args.toArray,argTypes:=ts},ty,pos,af,none⟩ :: rest) ⟨n,tm,hp⟩ Q:=by
 refine ae.DS rfl fun w S a r=>?_
 obtain ⟨cv,e1,e2,e3⟩:=(bf (σ:=⟨n,tm,hp⟩) r hx).xj
 refine ⟨f,_,r7 a w e1,?_⟩
 obtain ⟨g1,g2⟩:=pP (σ:=⟨n,tm,hp⟩) r hl
 obtain ⟨g3,g4⟩:=vk.at r.hp co (vs:=args.map a.eval++cv.toList) (by simp [g1,e2]) (r6 g1 g2 (by simpa using e3))
 have rp:=r.hp.perm hs
 refine (c.frame hr w S _ rp (by simpa using g3) g4).mono ?_
 rintro e w' ⟨v,rr,h',S',rfl,⟨h1,rfl,hq⟩,h3,h4,h5⟩
 have ev:iF w S hp w' S' (h1++hr):={h5 with
  other:=fun m hm hh=>h5.other m hm (fun ⟨x,hx,hb⟩=>hh ⟨x,hs.mem_iff.2 hx,hb⟩)
  new:=fun m hm=>(h5.new m hm).imp (fun ⟨x,hx,hb⟩=>⟨x,hs.mem_iff.2 hx,hb⟩) id}
 exact ⟨v,S',⟨n,(d,rr) :: tm,h1++hr⟩,rfl,(r.heap h5.jX h4).put hn h3,ev,kk rr h1 hq⟩
def AV.Af:AV→Bool
 | .int _ _ | .bool _ | .str _ | .nil | .raw _=>true
 | _=>false
def Bu:List AV→Bool
 | []=>true
 | c :: r=>c.Af&&Bu r
def AV.Lh:AV→Bool
 | .agg cs=>Bu cs
 | v=>v.Af
def I4:List AV→Bool
 | []=>true
 | c :: r=>c.Lh&&I4 r
def AV.O4:AV→Bool
 | .agg cs=>Bu cs
 | .kj cs=>I4 cs
 | v=>v.Af
theorem r8 {w w':World} {S S':Nat→Prop} {av:AV} {v:Value} (h:At w S av v) (hn:av.Af=true):At w' S' av v:=by
 cases h<;>first | (simp [AV.Af] at hn;done) | constructor
theorem r9:∀ {cs:List AV},Bu cs=true→∀ c∈cs,c.Af=true
 | [],_,c,hc=>by simp at hc
 | x :: r,h,c,hc=>by
   simp only [Bu,Bool.and_eq_true] at h
   rcases List.mem_cons.1 hc with rfl | hc
   ·exact h.1
   ·exact r9 h.2 c hc
theorem Bv:∀ {cs:List AV},I4 cs=true→∀ c∈cs,c.Lh=true
 | [],_,c,hc=>by simp at hc
 | x :: r,h,c,hc=>by
   simp only [I4,Bool.and_eq_true] at h
   rcases List.mem_cons.1 hc with rfl | hc
   ·exact h.1
   ·exact Bv h.2 c hc
theorem I5 {w w':World} {S S':Nat→Prop} {av:AV} {v:Value} (h:At w S av v) (hn:av.Lh=true):At w' S' av v:=by
 cases av with
 | agg cs=>
   cases h with
   | agg _ vs hl h=>exact .agg cs vs hl fun i c u hc hu=>r8 (h i c u hc hu) (r9 hn c (List.mem_of_getElem? hc))
 | _=>exact r8 h hn
theorem Li {w w':World} {S S':Nat→Prop} {av:AV} {v:Value} (h:At w S av v) (hn:av.O4=true):At w' S' av v:=by
 cases h with
 | agg cs vs hl h=>exact .agg cs vs hl fun i c u hc hu=>r8 (h i c u hc hu) (r9 hn c (List.mem_of_getElem? hc))
 | kj cs vs hl h=>exact .kj cs vs hl fun i c u hc hu=>I5 (h i c u hc hu) (Bv hn c (List.mem_of_getElem? hc))
 | int k n=>exact .int k n
 | bool b=>exact .bool b
 | str s=>exact .str s
 | nil=>exact .nil
 | raw v=>exact .raw v
 | _=>simp [AV.O4,AV.Af] at hn
inductive ln (hp:Heap):AV→AV→Prop
 | co {a a':AV} (c:Co hp a a'):ln hp a a'
 | arr (sz:Nat) (b:Bk) (len:Nat) (xs:List AV) (f:ki hp b (.arr sz xs)) (h:len=xs.length):ln hp (.sl sz b 0 len) (.list sz xs)
 | part (sz:Nat) (b:Bk) (off len:Nat) (xs:List AV) (f:ki hp b (.arr sz xs)) (h:off+len≤xs.length):ln hp (.sl sz b off len) (.list sz ((xs.drop off).take len))
 | box (b:Bk) (cs kI:List AV) (f:ki hp b (.cells cs)) (hl:kI.length=cs.length) (h:∀ (i:Nat) c c',cs[i]? =some c→kI[i]? =some c'→ln hp c c'):ln hp (.ptr b 0) (.cE kI)
 | func (fn:Fn) (cs kI:List AV) (hl:kI.length=cs.length) (h:∀ (i:Nat) c c',cs[i]? =some c→kI[i]? =some c'→ln hp c c'):ln hp (.func fn cs) (.func fn kI)
 | agg (cs kI:List AV) (hl:kI.length=cs.length) (h:∀ (i:Nat) c c',cs[i]? =some c→kI[i]? =some c'→ln hp c c'):ln hp (.agg cs) (.agg kI)
 | RJ {a a':AV} (h:∀ (w:World) (S:Nat→Prop) v,bZ w S hp→At w S a v→At w (fun m=>S m∨Has hp m) a' v):ln hp a a'
inductive sa (hp:Heap):List AV→List AV→Prop
 | nil:sa hp [] []
 | cons {a a':AV} {l l':List AV} (c:ln hp a a') (k:sa hp l l'):sa hp (a :: l) (a' :: l')
def SB (S:Nat→Prop) (hp:Heap):Nat→Prop:=fun m=>S m∨Has hp m
theorem sa.each {hp:Heap}:∀ {l l':List AV},sa hp l l'→l'.length=l.length∧∀ (i:Nat) c c',l[i]? =some c→l'[i]? =some c'→ln hp c c'
 | [],_,.nil=>⟨rfl,fun i c c' h=>by simp at h⟩
 | _ :: _,_,.cons c k=>by
   obtain ⟨g1,g2⟩:=sa.each k
   refine ⟨by simp [g1],fun i c1 c2 h1 h2=>?_⟩
   match i with
   | 0=>simp at h1 h2;subst h1;subst h2;assumption
   | i+1=>exact g2 i c1 c2 (by simpa using h1) (by simpa using h2)
theorem ln.wJ {hp:Heap} (b:Bk) (cs kI:List AV) (f:ki hp b (.cells cs)) (k:sa hp cs kI):ln hp (.ptr b 0) (.cE kI):=.box b cs kI f k.each.1 k.each.2
theorem ln.Kz {hp:Heap} (fn:Fn) (cs kI:List AV) (k:sa hp cs kI):ln hp (.func fn cs) (.func fn kI):=.func fn cs kI k.each.1 k.each.2
theorem ln.at {w:World} {S:Nat→Prop} {hp:Heap} {a a':AV} {v:Value} (c:ln hp a a') (r:bZ w S hp) (h:At w S a v):At w (SB S hp) a' v:=by
 have mono:∀ m,S m→SB S hp m∧w.heap[m]? =w.heap[m]?:=fun m hm=>⟨.inl hm,rfl⟩
 induction c generalizing v with
 | box b cs kI f hl _ ih=>
   cases h with
   | ptr _ _ n hb=>
     obtain ⟨h1,n',vs,E,w4,hh,hs,ha⟩:=r.holds _ f.mem
     obtain rfl:=Option.some.inj (hb.symm.trans w4)
     refine .cE kI ⟨n,0,none⟩ vs.toList (by simp [hl,hs]) (fun i c v hc hv=>?_) rfl (.inr ⟨_,f.mem,iN hb⟩) (fun i v hv=>?_)
     ·have hi:i < cs.length:=by rw [← hl];exact (List.getElem?_eq_some_iff.1 hc).1
      exact ih i cs[i] c (by simp [hi]) hc (ha i _ _ (by simp [hi]) (by simpa using hv))
     ·rw [ll hh];simpa using hv
 | func fn cs kI hl _ ih=>
   cases h with
   | func _ _ vs Le h2=>
     refine .func fn kI vs (by rw [hl,Le]) (fun i c v hc hv=>?_)
     have hi:i < cs.length:=by rw [← hl];exact (List.getElem?_eq_some_iff.1 hc).1
     exact ih i cs[i] c (by simp [hi]) hc (h2 i _ _ (by simp [hi]) hv)
 | agg cs kI hl _ ih=>
   cases h with
   | agg _ vs h1 h2=>
     refine .agg kI vs (by rw [hl,h1]) (fun i c v hc hv=>?_)
     have hi:i < cs.length:=by rw [← hl];exact (List.getElem?_eq_some_iff.1 hc).1
     exact ih i cs[i] c (by simp [hi]) hc (h2 i _ _ (by simp [hi]) hv)
 | co c=>exact (c.at r h).mono mono
 | RJ q=>exact q w S v r h
 | arr sz b len xs f hl=>
   obtain ⟨h0,a,c,og,e1,h1,h2,h3⟩:=(Src.whole (hp:=hp) (sz:=sz) b len xs (.inl f) hl).at r h
   exact lT ⟨h0,a,c,og,e1,h1,h2.mono mono,h3⟩ (fun ad l c hv hp=>let ⟨g1,g2⟩:=(nC h).1 ad l c hv hp;⟨g1,.inr ⟨_,f.mem,iN g2⟩⟩) (nC h).2
 | part sz b off len xs f hl=>
   obtain ⟨h0,a,c,og,e1,h1,h2,h3⟩:=(Src.part (hp:=hp) (sz:=sz) b off len xs (.inl f) hl).at r h
   exact lT ⟨h0,a,c,og,e1,h1,h2.mono mono,h3⟩ (fun ad l c hv hp=>let ⟨g1,g2⟩:=(nC h).1 ad l c hv hp;⟨g1,.inr ⟨_,f.mem,iN g2⟩⟩) (nC h).2
theorem sa.at {w:World} {S:Nat→Prop} {hp:Heap} (r:bZ w S hp):∀ {l l':List AV},sa hp l l'→∀ {vs:List Value},l.length=vs.length→mA w S l vs.toArray→l'.length=vs.length∧mA w (SB S hp) l' vs.toArray
 | [],_,.nil,vs,hl,h=>⟨hl,fun i c v hc=>by simp at hc⟩
 | a :: l,_,.cons (a':=a') (l':=l') c k,vs,hl,h=>by
   match vs,hl with
   | v :: vs,hl=>
     obtain ⟨g1,g2⟩:=sa.at r k (vs:=vs) (by simpa using hl) (fun i c u hc hu=>h (i+1) c u (by simpa using hc) (by simpa using hu))
     refine ⟨by simpa using g1,fun i c u hc hu=>?_⟩
     match i with
     | 0=>
       simp at hc hu
       subst hc
       subst hu
       exact ln.at ‹ln hp a a'› r (h 0 a v (by simp) (by simp))
     | i+1=>exact g2 i c u (by simpa using hc) (by simpa using hu)
theorem iF.D2 {w w':World} {S S':Nat→Prop} {h':Heap} (e:iF w S [] w' S' h'):Ext w w':=
 ⟨e.os,e.tape,e.output,e.size,fun m hm=>(e.other m hm (fun ⟨x,hx,_⟩=>by simp at hx)).1,e.drawn⟩
theorem sb {w:World} {S:Nat→Prop} (h:∀ n,S n→n < w.heap.size) (hg:∀ g o,bD.Nc g=some o→S g∧o (w.heap[g]?)):bZ w S []:=⟨by simp,by simp,by simp,h,hg⟩
theorem I6 {f:FuncId} {args:List Operand} {ts:Array TypeId} {l l':List AV} {Qc:AV→Heap→Prop} [bw P f] (hl:wZ tm args=some l) (c:aF P f l' [] Qc) (co:sa hp l l') (hn:Nat.blt d n=true)
 (kk:∀ r h',Qc r h'→r.O4=true∧ae P all rest ⟨n,(d,r) :: tm,hp⟩ Q):ae P all (⟨some d,.call {callee:=.value (.func f),args:=args.toArray,argTypes:=ts},ty,pos,af,none⟩ :: rest) ⟨n,tm,hp⟩ Q:=by
 refine ae.DS rfl fun w S a r=>⟨f,_,ng a w,?_⟩
 obtain ⟨g1,g2⟩:=pP (σ:=⟨n,tm,hp⟩) r hl
 obtain ⟨g3,g4⟩:=sa.at r.hp co g1 g2
 refine (c w (SB S hp) _ (sb (fun m hm=>hm.elim (r.hp.slt m) fun h=>r.hp.lt h) (fun g o ho=>⟨.inl (r.hp.fU g o ho).1,(r.hp.fU g o ho).2⟩)) (by simpa using g3) g4).mono ?_
 rintro e w' ⟨v,rr,h',S',rfl,hq,h3,h4,h5⟩
 obtain ⟨k1,k2⟩:=kk rr h' hq
 have ex:=h5.D2
 exact ⟨v,S,⟨n,(d,rr) :: tm,hp⟩,rfl,(r.ext ex).put hn (Li h3 k1),iF.ext r.hp.slt ex,k2⟩
def AQ (P:Program) (all:Array Oper) (l:List Oper) (σ:St) (Q:St→Prop):Prop:=
 ∀ w S a,df w S σ a→wpQuiet P all (Ext w) (fun a'=>∃ nB,Q ⟨σ.n,nB,σ.hp⟩∧df w S ⟨σ.n,nB,σ.hp⟩ a') l a
end rules
section
variable {P:Program} {R:St→Prop} {k:List It} {σ:St}
theorem ab.Lj {c:Operand} {x y:Code} {p:Prop} [Decidable p] (hc:cx σ.tm c=some (.bool (decide p))) (h1:p→ab P R (.code x :: k) σ) (h2:¬ p→ab P R (.code y :: k) σ):ab P R (.code (.cond c x y) :: k) σ:=
 ab.cond hc (fun h=>h1 (of_decide_eq_true h)) (fun h=>h2 (of_decide_eq_false h))
end
theorem df.lit {w:World} {S:Nat→Prop} {n:Nat} {tm:List (Nat×AV)} {hp:Heap} {a:Act} {s:Nat} {b c:Bool} (r:df w S ⟨n,tm,hp⟩ a) (hs:lk tm s=some (.bool b)) (hb:b=c):df w S ⟨n,(s,.bool c) :: tm,hp⟩ a:=by
 subst hb
 refine ⟨r.size,r.defers,fun t av h=>?_,r.hp⟩
 simp only [lk] at h
 split at h
 ·rename_i hb
  obtain rfl:s=t:=by simpa using hb
  obtain rfl:=Option.some.inj h
  exact r.tm s _ hs
 ·exact r.tm t av h
section rules
variable {P:Program} {all:Array Oper} {rest:List Oper} {n:Nat} {tm:List (Nat×AV)} {hp:Heap} {Q:St→Prop} {d:Nat} {ty:TypeId} {pos:String} {af:Array Edge} {op:Op} {j s:Nat}
theorem ae.lit {l:List Oper} {b c:Bool} (hs:lk tm s=some (.bool b)) (hb:b=c) (k:ae P all l ⟨n,(s,.bool c) :: tm,hp⟩ Q):ae P all l ⟨n,tm,hp⟩ Q:=
 fun w S a r=>k w S a (r.lit hs hb)
theorem ae.guard {want b:Bool} (hj:(all[j]?).bind (·.dst)=some s) (hs:lk tm s=some (.bool b)) (hn:Nat.blt d n=true) (h1:b=want→ae P all (⟨some d,op,ty,pos,af,none⟩ :: rest) ⟨n,(s,.bool want) :: tm,hp⟩ Q)
 (h2:b=!want→ae P all rest ⟨n,(d,.raw undef) :: (s,.bool (!want)) :: tm,hp⟩ Q):ae P all (⟨some d,op,ty,pos,af,some (j,want)⟩ :: rest) ⟨n,tm,hp⟩ Q:=by
 by_cases hb:b=want
 ·exact ae.lit hs hb (ae.aq hj (by simp [lk]) rfl (h1 hb))
 ·have w4:b=!want:=by cases b<;>cases want<;>simp_all
  exact ae.lit hs w4 (ae.ao hj (b:=!want) (by simp [lk]) rfl hn (h2 w4))
theorem ae.cy {p:Prop} [Decidable p] (hj:(all[j]?).bind (·.dst)=some s) (hs:lk tm s=some (.bool (decide p))) (hn:Nat.blt d n=true) (h1:p→ae P all (⟨some d,op,ty,pos,af,none⟩ :: rest) ⟨n,(s,.bool true) :: tm,hp⟩ Q)
 (h2:¬ p→ae P all rest ⟨n,(d,.raw undef) :: (s,.bool false) :: tm,hp⟩ Q):ae P all (⟨some d,op,ty,pos,af,some (j,true)⟩ :: rest) ⟨n,tm,hp⟩ Q:=
 ae.guard hj hs hn (fun h=>h1 (of_decide_eq_true h)) (fun h=>h2 (of_decide_eq_false h))
theorem ae.dA {p:Prop} [Decidable p] (hj:(all[j]?).bind (·.dst)=some s) (hs:lk tm s=some (.bool (decide p))) (hn:Nat.blt d n=true) (h1:¬ p→ae P all (⟨some d,op,ty,pos,af,none⟩ :: rest) ⟨n,(s,.bool false) :: tm,hp⟩ Q)
 (h2:p→ae P all rest ⟨n,(d,.raw undef) :: (s,.bool true) :: tm,hp⟩ Q):ae P all (⟨some d,op,ty,pos,af,some (j,false)⟩ :: rest) ⟨n,tm,hp⟩ Q:=
 ae.guard hj hs hn (fun h=>h1 (of_decide_eq_false h)) (fun h=>h2 (of_decide_eq_true h))
theorem sG {xt:TypeId} {x:Operand} {p:Prop} [Decidable p] (hx:cx tm x=some (.bool (decide p))):QV P ⟨some d,.unOp .not xt x,ty,pos,af,none⟩ ⟨n,tm,hp⟩ (.bool (decide (¬ p))):=by
 have h:(!decide p)=decide (¬ p):=by by_cases h:p<;>simp [h]
 rw [← h]
 exact cu hx
end rules
end Go.Eng
