/- The engine: abstract values, the symbolic heap, one rule for each operation. No program in sight. -/
import Derived.WalkKit
import Derived.Deep.Quiet
import Derived.Lib.FrozenHead
set_option linter.unusedSectionVars false
namespace Go.Eng
open Go
class bM where
 QG:Nat→Option (Option Obj→Prop)
 dr:Prop
theorem CQ {a b:Option Obj} {p:Option Obj→Prop} (e:a=b) (h:p b):p a:=e▸h
variable [bM]
@[reducible] def nP [G:bM]:bM:=⟨G.QG,True⟩
structure Bk where
 cu:Option Nat
 cap:Nat
inductive AV where
 | int (k:IntKind) (n:Int)
 | bool (b:Bool)
 | str (s:List UInt8)
 | agg (cs:List AV)
 | oL (vs:List AV)
 | list (sz:Nat) (xs:List AV)
 | nil
 | ptr (b:Bk) (o:Nat)
 | sl (sz:Nat) (b:Bk) (off len:Nat)
 | bR (cs:List AV)
 | qH (sz:Nat) (b:Bk) (i o:Nat)
 | func (fn:Fn) (ra:List AV)
 | sg (b:Bk)
 | raw (v:Value)
 | LL (φ:World→(Nat→Prop)→Value→Prop)
def AV.cells:AV→List AV
 | .agg cs=>cs
 | x=>[x]
def AV.one:AV→Bool
 | .agg _=>false
 | .oL _=>false
 | .raw v=>v.oneCell'
 | _=>true
def El (sz:Nat) (x:AV):Prop:=x.cells.length=sz∧∀ c∈x.cells,c.one=true
def flat (xs:List AV):List AV:=xs.flatMap AV.cells
inductive At (w:World) (S:Nat→Prop):AV→Value→Prop
 | int (k:IntKind) (n:Int):At w S (.int k n) (.int k n)
 | bool (b:Bool):At w S (.bool b) (.bool b)
 | str (s:List UInt8):At w S (.str s) (.string ⟨s.toArray⟩)
 | agg (cs:List AV) (vs:Array Value) (hl:cs.length=vs.size) (h:∀ (i:Nat) c v,cs[i]? =some c→vs[i]? =some v→At w S c v):At w S (.agg cs) (.agg vs)
 | oL (cs:List AV) (vs:Array Value) (hl:cs.length=vs.size) (h:∀ (i:Nat) c v,cs[i]? =some c→vs[i]? =some v→At w S c v):At w S (.oL cs) (.tuple vs)
 | list (sz:Nat) (xs:List AV) (a:Option Addr) (cap:Nat) (vs:List Value) (jZ:∀ x∈xs,El sz x) (hl:(flat xs).length=vs.length)
  (h:∀ (i:Nat) c v,(flat xs)[i]? =some c→vs[i]? =some v→At w S c v)
  (hm:∀ (i:Nat) v,vs[i]? =some v→∃ ad,a=some ad∧ad.spot=none∧S ad.block∧w.cell? ⟨ad.block,ad.off+i,none⟩=some v)
  (hc:xs.length≤cap):At w S (.list sz xs) (.slice a xs.length cap)
 | nil:At w S .nil (.slice none 0 0)
 | ptr (b:Bk) (o n:Nat) (hb:b.cu=some n):At w S (.ptr b o) (.pointer (some ⟨n,o,none⟩))
 | Cx (sz:Nat) (b:Bk) (hb:b.cu=none):At w S (.sl sz b 0 0) (.slice none 0 0)
 | sl (sz:Nat) (b:Bk) (off len n cap:Nat) (hb:b.cu=some n) (h1:len≤cap) (h2:off+cap≤b.cap):At w S (.sl sz b off len) (.slice (some ⟨n,off * sz,none⟩) len cap)
 | L9 (sz:Nat) (b:Bk) (off n:Nat) (ad:Addr) (hb:b.cu=some n):At w S (.sl sz b off 0) (.slice (some ad) 0 0)
 | bR (cs:List AV) (ad:Addr) (vs:List Value) (hl:cs.length=vs.length) (h:∀ (i:Nat) c v,cs[i]? =some c→vs[i]? =some v→At w S c v)
  (hs:ad.spot=none) (hS:S ad.block) (hm:∀ (i:Nat) v,vs[i]? =some v→w.cell? ⟨ad.block,ad.off+i,none⟩=some v):At w S (.bR cs) (.pointer (some ad))
 | qH (sz:Nat) (b:Bk) (i o n:Nat) (hb:b.cu=some n):At w S (.qH sz b i o) (.pointer (some ⟨n,i * sz+o,none⟩))
 | func (fn:Fn) (cs:List AV) (vs:Array Value) (hl:cs.length=vs.size) (h:∀ (i:Nat) c v,cs[i]? =some c→vs[i]? =some v→At w S c v):At w S (.func fn cs) (.func fn #[] vs)
 | sg (b:Bk) (n:Nat) (hb:b.cu=some n):At w S (.sg b) (.map (some n))
 | raw (v:Value):At w S (.raw v) v
 | LL (φ:World→(Nat→Prop)→Value→Prop) (v:Value) (hm:∀ (w w':World) (S S':Nat→Prop) (v:Value),(∀ n,S n→S' n∧w'.heap[n]? =w.heap[n]?)→φ w S v→φ w' S' v) (h1:∀ (w:World) (S:Nat→Prop) (v:Value),φ w S v→v.oneCell'=true) (h:φ w S v):At w S (.LL φ) v
theorem cell_of_heap {w w':World} {n o:Nat} (h:w'.heap[n]? =w.heap[n]?):w'.cell? ⟨n,o,none⟩=w.cell? ⟨n,o,none⟩:=by
 simp only [World.cell?,h]
theorem At.mono {w w':World} {S S':Nat→Prop} {av:AV} {v:Value} (hs:∀ n,S n→S' n∧w'.heap[n]? =w.heap[n]?) (h:At w S av v):At w' S' av v:=by
 induction h with
 | int k n=>exact .int k n
 | bool b=>exact .bool b
 | str s=>exact .str s
 | agg cs vs hl _ ih=>exact .agg cs vs hl ih
 | oL cs vs hl _ ih=>exact .oL cs vs hl ih
 | list sz xs a cap vs jZ hl _ hm hc ih=>
   refine .list sz xs a cap vs jZ hl ih (fun i v hv=>?_) hc
   obtain ⟨ad,h1,h2,h3,h4⟩:=hm i v hv
   exact ⟨ad,h1,h2,(hs _ h3).1,by rw [cell_of_heap (hs _ h3).2];exact h4⟩
 | nil=>exact .nil
 | ptr b o n hb=>exact .ptr b o n hb
 | Cx sz b hb=>exact .Cx sz b hb
 | sl sz b off len n cap hb h1 h2=>exact .sl sz b off len n cap hb h1 h2
 | L9 sz b off n ad hb=>exact .L9 sz b off n ad hb
 | bR cs ad vs hl _ NP hS hm ih=>
   exact .bR cs ad vs hl ih NP (hs _ hS).1 (fun i v hv=>by rw [cell_of_heap (hs _ hS).2];exact hm i v hv)
 | qH sz b i o n hb=>exact .qH sz b i o n hb
 | func fn cs vs hl _ ih=>exact .func fn cs vs hl ih
 | sg b n hb=>exact .sg b n hb
 | raw v=>exact .raw v
 | LL φ v hm h1 h=>exact .LL φ v hm h1 (hm _ _ _ _ _ hs h)
structure xC where
 k:AV
 v:AV
 born:Nat
def xC.kv (e:xC):AV×AV:=(e.k,e.v)
inductive PO where
 | cells (cs:List AV)
 | arr (sz:Nat) (xs:List AV)
inductive Ob where
 | cells (cs:List AV)
 | arr (sz:Nat) (xs:List AV)
 | x3 (sz:Nat) (xs:List AV)
 | mp (es:List (AV×AV))
 | QH (L:List xC) (c:Nat)
 | QI (es:List (AV×AV)) (q:Nat) (k:AV)
 | QJ (bm:Bk) (c:Nat) (seen:List Nat)
 | cm (es:List (Bk×PO))
 | P4 (T E:TypeId) (row:Option Nat) (bs:List UInt8)
 | QK (s:List UInt8) (pos:Nat)
 | QL (xs:List Int)
abbrev Heap:=List (Bk×Ob)
def PO.ob:PO→Ob
 | .cells cs=>.cells cs
 | .arr sz xs=>.arr sz xs
def Ob.more:Ob→List Nat
 | .cm es=>es.filterMap (·.1.cu)
 | .P4 _ _ row _=>row.toList
 | _=>[]
def eb (e:Bk×Ob):List Nat:=e.1.cu.toList++e.2.more
theorem ki {b:Bk} {o:Ob} {n:Nat} (h:b.cu=some n):n∈eb (b,o):=by simp [eb,h]
theorem vw {b:Bk} {o:Ob} {n:Nat} (hm:o.more=[]):n∈eb (b,o)↔b.cu=some n:=by simp [eb,hm]
def mR (w:World) (S:Nat→Prop) (cs:List AV) (vs:Array Value):Prop:=∀ (i:Nat) c v,cs[i]? =some c→vs[i]? =some v→At w S c v
theorem mR.mono {w w':World} {S S':Nat→Prop} {cs:List AV} {vs:Array Value} (hs:∀ n,S n→S' n∧w'.heap[n]? =w.heap[n]?) (h:mR w S cs vs):mR w' S' cs vs:=
 fun i c v hc hv=>(h i c v hc hv).mono hs
def vx (w:World) (S:Nat→Prop) (b:Bk) (L:List xC) (c:Nat):Prop:=
 ∃ n qI,b.cu=some n∧w.heap[n]? =some (.map qI c)∧qI.size=L.length∧(∀ (i:Nat) e m,L[i]? =some e→qI[i]? =some m→m.born=e.born∧At w S e.k m.key∧At w S e.v m.val)∧
   (∀ e∈L,e.born < c)∧(L.map (·.born)).Nodup∧(L.map (·.k)).Nodup
theorem vx.mono {w w':World} {S S':Nat→Prop} {b:Bk} {L:List xC} {c:Nat} (hs:∀ n,S n→S' n∧w'.heap[n]? =w.heap[n]?) (hb:∀ n,b.cu=some n→w'.heap[n]? =w.heap[n]?) (h:vx w S b L c):vx w' S' b L c:=by
 obtain ⟨n,qI,g1,g2,g3,g4,g5⟩:=h
 exact ⟨n,qI,g1,by rw [hb n g1];exact g2,g3,fun i e m he hm=>⟨(g4 i e m he hm).1,(g4 i e m he hm).2.1.mono hs,(g4 i e m he hm).2.2.mono hs⟩,g5⟩
def ou (w:World) (S:Nat→Prop) (b:Bk):PO→Prop
 | .cells cs=>(∀ c∈cs,c.one=true)∧∃ n vs E,b.cu=some n∧w.heap[n]? =some (.cells vs E (0,0))∧vs.size=cs.length∧mR w S cs vs
 | .arr sz xs=>(∀ x∈xs,El sz x)∧xs.length≤b.cap∧
  ((b.cu=none∧b.cap=0)∨∃ n vs E,b.cu=some n∧w.heap[n]? =some (.cells vs E (0,0))∧vs.size=b.cap * sz∧mR w S (flat xs) vs)
def Holds (w:World) (S:Nat→Prop) (b:Bk):Ob→Prop
 | .cells cs=>(∀ c∈cs,c.one=true)∧∃ n vs E,b.cu=some n∧w.heap[n]? =some (.cells vs E (0,0))∧vs.size=cs.length∧mR w S cs vs
 | .arr sz xs | .x3 sz xs=>(∀ x∈xs,El sz x)∧xs.length≤b.cap∧
  ((b.cu=none∧b.cap=0)∨∃ n vs E,b.cu=some n∧w.heap[n]? =some (.cells vs E (0,0))∧vs.size=b.cap * sz∧mR w S (flat xs) vs)
 | .mp es=>∃ L c,(L.map xC.kv).Perm es∧vx w S b L c
 | .QH L c=>vx w S b L c
 | .QI es q k=>∃ L c,(L.map xC.kv).Perm es∧vx w S b L c∧((∃ e∈L,e.k=k∧e.born=q)∨((∀ e∈L,e.k≠k)∧q=c))
 | .QJ bm c seen=>∃ n nm,b.cu=some n∧bm.cu=some nm∧w.heap[n]? =some (.mapIter (some nm) c seen.toArray c)
 | .cm es=>b.cu=none∧∀ e∈es,ou w S e.1 e.2
 | .P4 T E row bs=>∃ n p v,b.cu=some n∧w.heap[n]? =some (.cells #[p,v] T (0,0))∧(p=.pointer none∨p=.pointer (some ⟨n,0,none⟩))∧w.ownsRowF 0 E 1 v bs.length (Lib.byteCells bs)∧v.ownBlock=row
 | .QK s pos=>∃ n,b.cu=some n∧w.heap[n]? =some (.stringIter ⟨s.toArray⟩ pos)
 | .QL xs=>∃ n vs E,b.cu=some n∧w.heap[n]? =some (.cells vs E (vs.size,vs.size+1))∧vs.size=b.cap∧xs.length≤b.cap∧∀ (i:Nat) z,xs[i]? =some z→vs[i]? =some (.int .u8 z)
theorem ou.ob {w:World} {S:Nat→Prop} {b:Bk} {o:PO}:ou w S b o↔Holds w S b o.ob:=by cases o<;>exact Iff.rfl
theorem vy {α β:Type} {f:α→List β} {l l':List α} (h:l.Sublist l'):(l.flatMap f).Sublist (l'.flatMap f):=by
 induction h with
 | slnil=>exact List.Sublist.refl _
 | cons a _ ih=>rw [List.flatMap_cons];exact ih.trans (List.sublist_append_right _ _)
 | cons_cons a _ ih=>rw [List.flatMap_cons,List.flatMap_cons];exact List.Sublist.append (List.Sublist.refl _) ih
def Ob.zR:Ob→Prop
 | .x3 _ _=>True
 | _=>False
def Has (h:Heap) (n:Nat):Prop:=∃ e∈h,n∈eb e
structure cI (w:World) (S:Nat→Prop) (h:Heap):Prop where
 nodup:(h.flatMap eb).Nodup
 holds:∀ e∈h,Holds w S e.1 e.2
 sep:∀ e∈h,∀ n,n∈eb e→(S n↔e.2.zR)
 slt:∀ n,S n→n < w.heap.size
 iy:∀ g o,bM.QG g=some o→S g∧o (w.heap[g]?)
structure k9 (w:World) (S:Nat→Prop) (h:Heap) (w':World) (S':Nat→Prop) (h':Heap):Prop where
 os:w'.os=w.os
 tape:w'.tape=w.tape
 output:w'.output=w.output
 size:w.heap.size≤w'.heap.size
 nf:∀ n,S n→S' n∧w'.heap[n]? =w.heap[n]?
 other:∀ n,n < w.heap.size→¬ Has h n→w'.heap[n]? =w.heap[n]?∧(S' n→S n)
 new:∀ n,Has h' n→Has h n∨w.heap.size≤n
 drawn:bM.dr→w.drawn≤w'.drawn
theorem k9.refl (w:World) (S:Nat→Prop) (h:Heap):k9 w S h w S h:=
 ⟨rfl,rfl,rfl,Nat.le_refl _,fun _ hs=>⟨hs,rfl⟩,fun _ _ _=>⟨rfl,id⟩,fun _ hn=>.inl hn,fun _=>Nat.le_refl _⟩
theorem k9.trans {w w1 w2:World} {S S1 S2:Nat→Prop} {h h1 h2:Heap} (a:k9 w S h w1 S1 h1) (b:k9 w1 S1 h1 w2 S2 h2):k9 w S h w2 S2 h2 where
 os:=b.os.trans a.os
 tape:=b.tape.trans a.tape
 output:=b.output.trans a.output
 size:=Nat.le_trans a.size b.size
 nf n hs:=⟨(b.nf n (a.nf n hs).1).1,(b.nf n (a.nf n hs).1).2.trans (a.nf n hs).2⟩
 other n hn hh:=by
  have CR:¬ Has h1 n:=fun hc=>by
   rcases a.new n hc with h | h
   ·exact hh h
   ·omega
  obtain ⟨e1,s1⟩:=a.other n hn hh
  obtain ⟨e2,s2⟩:=b.other n (Nat.lt_of_lt_of_le hn a.size) CR
  exact ⟨e2.trans e1,fun hs=>s1 (s2 hs)⟩
 new n hn:=by
  rcases b.new n hn with h | h
  ·exact a.new n h
  ·exact .inr (Nat.le_trans a.size h)
 drawn:=fun h=>Nat.le_trans (a.drawn h) (b.drawn h)
theorem k9.less {w w':World} {S S':Nat→Prop} {h h' h2:Heap} (a:k9 w S h w' S' h') (hl:∀ n,Has h2 n→Has h' n):k9 w S h w' S' h2:=
 {a with new:=fun n hn=>a.new n (hl n hn)}
theorem ou.mono {w w':World} {S S':Nat→Prop} {b:Bk} {o:PO} (hs:∀ n,S n→S' n∧w'.heap[n]? =w.heap[n]?) (hb:∀ n,b.cu=some n→w'.heap[n]? =w.heap[n]?)
 (h:ou w S b o):ou w' S' b o:=by
 cases o with
 | cells cs=>
   obtain ⟨h0,n,vs,E,h1,h2,h3,h4⟩:=h
   exact ⟨h0,n,vs,E,h1,by rw [hb n h1];exact h2,h3,h4.mono hs⟩
 | arr sz xs=>
   obtain ⟨h1,h2,h3⟩:=h
   refine ⟨h1,h2,h3.imp id ?_⟩
   rintro ⟨n,vs,E,g1,g2,g3,g4⟩
   exact ⟨n,vs,E,g1,by rw [hb n g1];exact g2,g3,g4.mono hs⟩
theorem Cy {w w':World} {base:Nat} {e:TypeId} {size:Nat} {v:Value} {n:Nat} {xs:List Value} (h:w.ownsRowF base e size v n xs) (hk:∀ k,v.ownBlock=some k→w'.heap[k]? =w.heap[k]?):w'.ownsRowF base e size v n xs:=by
 refine ⟨h.1,?_⟩
 rcases h.2 with hn | ⟨g,cap,cur,fz,rfl,hb,YE,rest⟩
 ·exact .inl hn
 ·exact .inr ⟨g,cap,cur,fz,rfl,hb,by rw [hk g rfl];exact YE,rest⟩
theorem Holds.mono {w w':World} {S S':Nat→Prop} {b:Bk} {o:Ob} (hs:∀ n,S n→S' n∧w'.heap[n]? =w.heap[n]?) (hb:∀ n,n∈eb (b,o)→w'.heap[n]? =w.heap[n]?)
 (h:Holds w S b o):Holds w' S' b o:=by
 have AN:∀ n,b.cu=some n→w'.heap[n]? =w.heap[n]?:=fun n hn=>hb n (ki hn)
 cases o with
 | cells cs=>
   obtain ⟨h0,n,vs,E,h1,h2,h3,h4⟩:=h
   exact ⟨h0,n,vs,E,h1,by rw [AN n h1];exact h2,h3,h4.mono hs⟩
 | arr sz xs=>
   obtain ⟨h1,h2,h3⟩:=h
   refine ⟨h1,h2,h3.imp id ?_⟩
   rintro ⟨n,vs,E,g1,g2,g3,g4⟩
   exact ⟨n,vs,E,g1,by rw [AN n g1];exact g2,g3,g4.mono hs⟩
 | x3 sz xs=>
   obtain ⟨h1,h2,h3⟩:=h
   refine ⟨h1,h2,h3.imp id ?_⟩
   rintro ⟨n,vs,E,g1,g2,g3,g4⟩
   exact ⟨n,vs,E,g1,by rw [AN n g1];exact g2,g3,g4.mono hs⟩
 | mp es=>
   obtain ⟨L,c,hp,h⟩:=h
   exact ⟨L,c,hp,h.mono hs AN⟩
 | QH L c=>exact vx.mono hs AN h
 | QI es q k=>
   obtain ⟨L,c,hp,h,hq⟩:=h
   exact ⟨L,c,hp,h.mono hs AN,hq⟩
 | QJ bm c seen=>
   obtain ⟨n,nm,g1,g2,g3⟩:=h
   exact ⟨n,nm,g1,g2,by rw [AN n g1];exact g3⟩
 | QK s pos=>
   obtain ⟨n,g1,g3⟩:=h
   exact ⟨n,g1,by rw [AN n g1];exact g3⟩
 | QL xs=>
   obtain ⟨n,vs,E,g1,g3,g4⟩:=h
   exact ⟨n,vs,E,g1,by rw [AN n g1];exact g3,g4⟩
 | cm es=>
   obtain ⟨h1,h2⟩:=h
   exact ⟨h1,fun e he=>(h2 e he).mono hs (fun n hn=>hb n (by
    unfold eb Ob.more
    exact List.mem_append_right _ (List.mem_filterMap.2 ⟨e,he,hn⟩)))⟩
 | P4 T E row bs=>
   obtain ⟨n,p,v,g1,g2,g3,g4,g5⟩:=h
   exact ⟨n,p,v,g1,by rw [AN n g1];exact g2,g3,Cy g4 (fun k hk=>hb k (by
    rw [g5] at hk
    unfold eb Ob.more
    exact List.mem_append_right _ (by simp [hk]))),g5⟩
theorem tP {w:World} {n:Nat} {o:Obj} (h:w.heap[n]? =some o):n < w.heap.size:=by
 rcases Nat.lt_or_ge n w.heap.size with h' | h'
 ·exact h'
 ·simp [Array.getElem?_eq_none h'] at h
theorem ou.lt {w:World} {S:Nat→Prop} {b:Bk} {o:PO} (h:ou w S b o) {n:Nat} (hn:b.cu=some n):n < w.heap.size:=by
 cases o with
 | cells cs=>
   obtain ⟨_,m,vs,E,h1,h2,_⟩:=h
   obtain rfl:m=n:=by rw [h1] at hn;exact Option.some.inj hn
   exact tP h2
 | arr sz xs=>
   obtain ⟨_,_,⟨h3,_⟩ | ⟨m,vs,E,h1,h2,_⟩⟩:=h
   ·rw [h3] at hn;cases hn
   ·obtain rfl:m=n:=by rw [h1] at hn;exact Option.some.inj hn
    exact tP h2
theorem Holds.lt {w:World} {S:Nat→Prop} {b:Bk} {o:Ob} (h:Holds w S b o) {n:Nat} (Wm:n∈eb (b,o)):n < w.heap.size:=by
 by_cases hb:b.cu=some n
 ·have hn:=hb
  cases o with
  | cells cs=>
    obtain ⟨_,m,vs,E,h1,h2,_⟩:=h
    obtain rfl:m=n:=by rw [h1] at hn;exact Option.some.inj hn
    exact tP h2
  | arr sz xs=>
    obtain ⟨_,_,⟨h3,_⟩ | ⟨m,vs,E,h1,h2,_⟩⟩:=h
    ·rw [h3] at hn;cases hn
    ·obtain rfl:m=n:=by rw [h1] at hn;exact Option.some.inj hn
     exact tP h2
  | x3 sz xs=>
    obtain ⟨_,_,⟨h3,_⟩ | ⟨m,vs,E,h1,h2,_⟩⟩:=h
    ·rw [h3] at hn;cases hn
    ·obtain rfl:m=n:=by rw [h1] at hn;exact Option.some.inj hn
     exact tP h2
  | mp es=>
    obtain ⟨_,_,_,m,qI,h1,h2,_⟩:=h
    obtain rfl:m=n:=by rw [h1] at hn;exact Option.some.inj hn
    exact tP h2
  | QH L c=>
    obtain ⟨m,qI,h1,h2,_⟩:=h
    obtain rfl:m=n:=by rw [h1] at hn;exact Option.some.inj hn
    exact tP h2
  | QI es q k=>
    obtain ⟨_,_,_,⟨m,qI,h1,h2,_⟩,_⟩:=h
    obtain rfl:m=n:=by rw [h1] at hn;exact Option.some.inj hn
    exact tP h2
  | QJ bm c seen=>
    obtain ⟨m,nm,h1,_,h2⟩:=h
    obtain rfl:m=n:=by rw [h1] at hn;exact Option.some.inj hn
    exact tP h2
  | QK s pos=>
    obtain ⟨m,h1,h2⟩:=h
    obtain rfl:m=n:=by rw [h1] at hn;exact Option.some.inj hn
    exact tP h2
  | QL xs=>
    obtain ⟨m,vs,E,h1,h2,_⟩:=h
    obtain rfl:m=n:=by rw [h1] at hn;exact Option.some.inj hn
    exact tP h2
  | cm es=>
    obtain ⟨h1,_⟩:=h
    rw [h1] at hn;cases hn
  | P4 T E row bs=>
    obtain ⟨m,p,v,h1,h2,_⟩:=h
    obtain rfl:m=n:=by rw [h1] at hn;exact Option.some.inj hn
    exact tP h2
 ·have hm:n∈o.more:=by
   unfold eb at Wm
   rcases List.mem_append.1 Wm with h | h
   ·exact absurd (by simpa using h) hb
   ·exact h
  cases o with
  | cm es=>
    obtain ⟨e,he,tQ⟩:=List.mem_filterMap.1 hm
    exact (h.2 e he).lt tQ
  | P4 T E row bs=>
    obtain ⟨m,p,v,h1,h2,h3,h4,h5⟩:=h
    have hr:row=some n:=by simpa [Ob.more] using hm
    exact (h4.lt n (h5.trans hr)).2
  | cells=>simp [Ob.more] at hm
  | arr=>simp [Ob.more] at hm
  | x3=>simp [Ob.more] at hm
  | mp=>simp [Ob.more] at hm
  | QH=>simp [Ob.more] at hm
  | QI=>simp [Ob.more] at hm
  | QJ=>simp [Ob.more] at hm
  | QK=>simp [Ob.more] at hm
  | QL=>simp [Ob.more] at hm
theorem cI.lt {w:World} {S:Nat→Prop} {h:Heap} (r:cI w S h) {n:Nat} (hn:Has h n):n < w.heap.size:=by
 obtain ⟨e,he,hb⟩:=hn
 exact (r.holds e he).lt hb
theorem At.Gs {w:World} {S:Nat→Prop} {c:AV} {v:Value} (h:At w S c v) (ho:c.one=true):v.oneCell'=true:=by
 cases h<;>first | rfl | (simp [AV.one] at ho;done) | exact ho | (rename_i h1 h;exact h1 _ _ _ h)
theorem gI (x:AV) (xs:List AV):flat (x :: xs)=x.cells++flat xs:=by simp [flat]
theorem sZ (xs ys:List AV):flat (xs++ys)=flat xs++flat ys:=by simp [flat]
theorem c0 {sz:Nat}:∀ {xs:List AV},(∀ x∈xs,El sz x)→(flat xs).length=xs.length * sz
 | [],_=>by simp [flat]
 | x :: xs,h=>by
   rw [gI,List.length_append,(h x (by simp)).1,c0 (fun y hy=>h y (by simp [hy])),List.length_cons,Nat.add_mul]
   omega
theorem Jx {sz:Nat} {xs:List AV} (h:∀ x∈xs,El sz x):∀ c∈flat xs,c.one=true:=by
 intro c hc
 obtain ⟨x,hx,T9⟩:=List.mem_flatMap.1 hc
 exact (h x hx).2 c T9
theorem si {sz:Nat}:∀ {xs:List AV} {i:Nat} {x:AV},(∀ x∈xs,El sz x)→xs[i]? =some x→∀ j,j < sz→(flat xs)[i * sz+j]? =x.cells[j]?
 | [],i,x,_,h,_,_=>by simp at h
 | y :: xs,0,x,hs,h,j,hj=>by
   simp at h;subst h
   rw [gI,List.getElem?_append_left (by rw [(hs y (by simp)).1];omega)]
   simp
 | y :: xs,i+1,x,hs,h,j,hj=>by
   simp at h
   rw [gI,List.getElem?_append_right (by rw [(hs y (by simp)).1,Nat.add_mul];omega),(hs y (by simp)).1]
   rw [show (i+1) * sz+j - sz=i * sz+j from by rw [Nat.add_mul];omega]
   exact si (fun z hz=>hs z (by simp [hz])) h j hj
structure Ext (w w':World):Prop where
 os:w'.os=w.os
 tape:w'.tape=w.tape
 output:w'.output=w.output
 size:w.heap.size≤w'.heap.size
 same:∀ n,n < w.heap.size→w'.heap[n]? =w.heap[n]?
 drawn:bM.dr→w.drawn≤w'.drawn
theorem Ext.refl (w:World):Ext w w:=⟨rfl,rfl,rfl,Nat.le_refl _,fun _ _=>rfl,fun _=>Nat.le_refl _⟩
theorem Ext.trans {a b c:World} (h:Ext a b) (k:Ext b c):Ext a c:=
 ⟨k.os.trans h.os,k.tape.trans h.tape,k.output.trans h.output,Nat.le_trans h.size k.size,fun n hn=>(k.same n (Nat.lt_of_lt_of_le hn h.size)).trans (h.same n hn),fun q=>Nat.le_trans (h.drawn q) (k.drawn q)⟩
theorem Ext.alloc (w:World) (o:Obj):Ext w (w.alloc o):=
 ⟨rfl,rfl,rfl,by simp,fun n hn=>by show (w.heap.push o)[n]? =_;rw [Array.getElem?_push,if_neg (by omega)],fun _=>Nat.le_refl _⟩
theorem Ext.Jy (w:World) (k:Nat) (h:w.drawn≤k):Ext w {w with drawn:=k}:=⟨rfl,rfl,rfl,Nat.le_refl _,fun _ _=>rfl,fun _=>h⟩
theorem cI.ext {w w':World} {S:Nat→Prop} {h:Heap} (r:cI w S h) (e:Ext w w'):cI w' S h where
 nodup:=r.nodup
 holds x hx:=(r.holds x hx).mono (fun n hn=>⟨hn,e.same n (r.slt n hn)⟩) (fun n hn=>e.same n (r.lt ⟨x,hx,hn⟩))
 sep:=r.sep
 slt n hn:=Nat.lt_of_lt_of_le (r.slt n hn) e.size
 iy g o ho:=⟨(r.iy g o ho).1,CQ (e.same g (r.slt g (r.iy g o ho).1)) (r.iy g o ho).2⟩
theorem k9.ext {w w':World} {S:Nat→Prop} {h:Heap} (r:∀ n,S n→n < w.heap.size) (e:Ext w w'):k9 w S h w' S h:=
 ⟨e.os,e.tape,e.output,e.size,fun n hn=>⟨hn,e.same n (r n hn)⟩,fun n hn _=>⟨e.same n hn,id⟩,fun _ hn=>.inl hn,e.drawn⟩
theorem cI.frame {w w':World} {S S':Nat→Prop} {h h1 rest:Heap} (r:cI w S (h++rest)) (e:k9 w S h w' S' h1) (r1:cI w' S' h1):cI w' S' (h1++rest):=by
 have jh:∀ x∈rest,∀ n,n∈eb x→n < w.heap.size∧¬ Has h n:=by
  intro x hx n hn
  refine ⟨r.lt ⟨x,List.mem_append_right _ hx,hn⟩,fun ⟨y,hy,Ua⟩=>?_⟩
  have:=r.nodup
  rw [List.flatMap_append,List.nodup_append] at this
  exact this.2.2 n (List.mem_flatMap.2 ⟨y,hy,Ua⟩) n (List.mem_flatMap.2 ⟨x,hx,hn⟩) rfl
 refine ⟨?_,?_,?_,r1.slt,r1.iy⟩
 ·have:=r.nodup
  rw [List.flatMap_append,List.nodup_append] at this ⊢
  refine ⟨r1.nodup,this.2.1,fun n hn m hm P5=>?_⟩
  subst P5
  obtain ⟨y,hy,Ua⟩:=List.mem_flatMap.1 hn
  obtain ⟨x,hx,QM⟩:=List.mem_flatMap.1 hm
  rcases e.new n ⟨y,hy,Ua⟩ with hh | hh
  ·exact (jh x hx n QM).2 hh
  ·have:=(jh x hx n QM).1;omega
 ·intro x hx
  rcases List.mem_append.1 hx with hx | hx
  ·exact r1.holds x hx
  ·exact (r.holds x (List.mem_append_right _ hx)).mono e.nf (fun n hn=>(e.other n (jh x hx n hn).1 (jh x hx n hn).2).1)
 ·intro x hx n hn
  rcases List.mem_append.1 hx with hx | hx
  ·exact r1.sep x hx n hn
  ·rw [← r.sep x (List.mem_append_right _ hx) n hn]
   exact ⟨(e.other n (jh x hx n hn).1 (jh x hx n hn).2).2,fun hs=>(e.nf n hs).1⟩
theorem k9.frame {w w':World} {S S':Nat→Prop} {h h1:Heap} (rest:Heap) (e:k9 w S h w' S' h1):k9 w S (h++rest) w' S' (h1++rest) where
 os:=e.os
 tape:=e.tape
 output:=e.output
 size:=e.size
 drawn:=e.drawn
 nf:=e.nf
 other n hn hh:=e.other n hn (fun ⟨x,hx,hb⟩=>hh ⟨x,List.mem_append_left _ hx,hb⟩)
 new n hn:=by
  obtain ⟨x,hx,hb⟩:=hn
  rcases List.mem_append.1 hx with hx | hx
  ·rcases e.new n ⟨x,hx,hb⟩ with ⟨y,hy,YF⟩ | h
   ·exact .inl ⟨y,List.mem_append_left _ hy,YF⟩
   ·exact .inr h
  ·exact .inl ⟨x,List.mem_append_right _ hx,hb⟩
end Go.Eng
set_option linter.unusedVariables false
namespace Go.Eng
open Go
variable [bM]
theorem A7 {a b:Nat} (h:Nat.beq a b=false):a≠b:=fun e=>by subst e;simp at h
theorem qy {a b:Nat} (h:a≠b):Nat.beq a b=false:=by
 cases hb:Nat.beq a b with
 | false=>rfl
 | true=>exact absurd (Nat.eq_of_beq_eq_true hb) h
def lk:List (Nat×AV)→Nat→Option AV
 | [],_=>none
 | (k,v) :: r,s=>match Nat.beq k s with
   | true=>some v
   | false=>lk r s
structure St where
 n:Nat
 tm:List (Nat×AV)
 hp:Heap
structure dO (w:World) (S:Nat→Prop) (σ:St) (a:Act):Prop where
 size:a.tmps.size=σ.n
 defers:a.defers=[]
 tm:∀ s av,lk σ.tm s=some av→∃ v,a.tmps[s]? =some v∧At w S av v
 hp:cI w S σ.hp
def NQ:Value→AV
 | .int k n=>.int k n
 | .bool b=>.bool b
 | .string s=>.str s.data.toList
 | .slice none 0 0=>.nil
 | v=>.raw v
theorem DJ (w:World) (S:Nat→Prop) (v:Value):At w S (NQ v) v:=by
 unfold NQ
 split
 ·exact .int _ _
 ·exact .bool _
 ·rename_i s
  have h:=At.str (w:=w) (S:=S) s.data.toList
  simpa using h
 ·exact .nil
 ·exact .raw _
def Hg:List UInt8→Option (List UInt8)
 | []=>some []
 | x :: r=>match Hg r with
   | some l=>some (x :: l)
   | none=>none
theorem EV:∀ (l:List UInt8),Hg l=some l
 | []=>rfl
 | x :: r=>by simp [Hg,EV r]
def OE:Value→Option AV
 | .int k n=>some (.int k n)
 | .bool b=>some (.bool b)
 | .string s=>match Hg s.data.toList with
   | some l=>some (.str l)
   | none=>none
 | .slice none 0 0=>some .nil
 | v=>some (.raw v)
theorem Ma (v:Value):OE v=some (NQ v):=by
 unfold OE NQ
 split<;>simp [EV]
def dm (tm:List (Nat×AV)):Operand→Option AV
 | .tmp t=>lk tm t
 | .const v=>OE v
 | .func f=>some (.func (.func f) [])
 | .global g=>some (.raw (.pointer (some ⟨g,0,none⟩)))
theorem bA {w:World} {S:Nat→Prop} {σ:St} {a:Act} {x:Operand} {av:AV} (r:dO w S σ a) (h:dm σ.tm x=some av):At w S av (a.eval x):=by
 cases x with
 | tmp t=>
   obtain ⟨v,h1,h2⟩:=r.tm t av h
   simp [Act.eval,h1,h2]
 | const v=>simp only [dm,Ma,Option.some.injEq] at h;subst h;exact DJ _ _ _
 | global g=>simp only [dm,Option.some.injEq] at h;subst h;exact .raw _
 | func f=>simp only [dm,Option.some.injEq] at h;subst h;exact .func _ _ _ rfl (fun i c v hc=>by simp at hc)
theorem dO.put {w:World} {S:Nat→Prop} {n:Nat} {tm:List (Nat×AV)} {hp:Heap} {a:Act} {d:Nat} {av:AV} {v:Value} (r:dO w S ⟨n,tm,hp⟩ a) (hd:Nat.blt d n=true) (hv:At w S av v):
 dO w S ⟨n,(d,av) :: tm,hp⟩ (a.put (some d) v) where
 size:=by simp [Act.put,r.size]
 defers:=r.defers
 hp:=r.hp
 tm s cy h:=by
  have LM:d < a.tmps.size:=by rw [r.size];simpa using hd
  simp only [lk] at h
  split at h
  ·rename_i hb
   obtain rfl:d=s:=by simpa using hb
   obtain rfl:=Option.some.inj h
   exact ⟨v,by simp [Act.put,LM],hv⟩
  ·rename_i hb
   have sT:d≠s:=A7 hb
   obtain ⟨u,h1,h2⟩:=r.tm s cy h
   exact ⟨u,by simp [Act.put,sT,h1],h2⟩
theorem dO.ext {w w':World} {S:Nat→Prop} {σ:St} {a:Act} (r:dO w S σ a) (e:Ext w w'):dO w' S σ a where
 size:=r.size
 defers:=r.defers
 hp:=r.hp.ext e
 tm s av h:=let ⟨v,h1,h2⟩:=r.tm s av h;⟨v,h1,h2.mono fun n hn=>⟨hn,e.same n (r.hp.slt n hn)⟩⟩
theorem dO.heap {w w':World} {S S':Nat→Prop} {n:Nat} {tm:List (Nat×AV)} {hp cN:Heap} {a:Act} (r:dO w S ⟨n,tm,hp⟩ a) (hs:∀ n,S n→S' n∧w'.heap[n]? =w.heap[n]?) (h:cI w' S' cN):
 dO w' S' ⟨n,tm,cN⟩ a where
 size:=r.size
 defers:=r.defers
 hp:=h
 tm s av h:=let ⟨v,h1,h2⟩:=r.tm s av h;⟨v,h1,h2.mono hs⟩
def SJ (w:World) (S:Nat→Prop) (h:Heap) (Q:St→Prop) (a':Act) (w':World):Prop:=
 ∃ aH S',Q aH∧dO w' S' aH a'∧k9 w S h w' S' aH.hp
def OF (w:World) (S:Nat→Prop) (h:Heap) (Q:Exit→St→Prop) (e:Exit) (a':Act) (w':World):Prop:=
 ∃ aH S',Q e aH∧dO w' S' aH a'∧k9 w S h w' S' aH.hp
def xD (K:Act→World→Prop):Exit→Act→World→Prop:=fun e a w=>e=.normal∧K a w
def ae (P:Program) (all:Array Oper) (l:List Oper) (σ:St) (Q:St→Prop):Prop:=
 ∀ w S a,dO w S σ a→wpList P all (xD (SJ w S σ.hp Q)) l a w
theorem Oper.Ik {P:Program} {o:Oper} {a:Act} {K K':Act→World→Prop} {Q Q':Exit→Act→World→Prop} (hK:∀ a w,K a w→K' a w) (hQ:∀ e a w,Q e a w→Q' e a w):
 ∀ r,o.upon P a K Q r→o.upon P a K' Q' r:=by
 intro r h
 unfold Oper.upon at *
 split at h
 ·exact hK _ _ h
 ·exact hK _ _ h
 ·exact hK _ _ h
 ·refine Calls.mono h ?_
  intro e w' he
  cases e with
  | returned v=>exact hK _ _ he
  | panicked c=>exact hQ _ _ _ he
  | outgrown=>obtain ⟨a0,w0,h0⟩:=he;exact ⟨a0,w0,hQ _ _ _ h0⟩
 ·exact Rows.mono h fun v w' hv=>hK _ _ hv
 ·exact hQ _ _ _ h
 ·exact h.elim
theorem jl {P:Program} {all:Array Oper} {Q Q':Exit→Act→World→Prop} (hQ:∀ e a w,Q e a w→Q' e a w):∀ (l:List Oper) (a:Act) (w:World),wpList P all Q l a w→wpList P all Q' l a w
 | [],_,_,h=>hQ _ _ _ h
 | o :: rest,a,w,h=>by
   unfold wpList at *
   split
   ·rename_i hw
    rw [if_pos hw] at h
    rcases h with h | ⟨h1,a0,w0,h0⟩
    ·exact .inl (Oper.Ik (fun a w hh=>jl hQ rest a w hh) hQ _ h)
    ·exact .inr ⟨h1,a0,w0,hQ _ _ _ h0⟩
   ·rename_i hw
    rw [if_neg hw] at h
    exact jl hQ rest _ _ h
theorem ae.nil {P:Program} {all:Array Oper} {σ:St} {Q:St→Prop} (h:Q σ):ae P all [] σ Q:=
 fun w S _ r=>⟨rfl,σ,S,h,r,k9.refl _ _ _⟩
theorem ae.go {P:Program} {all:Array Oper} {rest:List Oper} {σ:St} {Q:St→Prop} (k:ae P all rest σ Q) {w w':World} {S S':Nat→Prop} {h:Heap} {a':Act}
 (r:dO w' S' σ a') (e:k9 w S h w' S' σ.hp):wpList P all (xD (SJ w S h Q)) rest a' w':=
 jl (fun _ _ _ ⟨h1,aH,QN,h2,h3,h4⟩=>⟨h1,aH,QN,h2,h3,e.trans h4⟩) _ _ _ (k w' S' a' r)
theorem ae.NR {P:Program} {all:Array Oper} {o:Oper} {rest:List Oper} {σ:St} {Q:St→Prop} (hg:o.guard=none)
 (h:∀ w S a,dO w S σ a→∃ v w' S' aH,(execOp a.eval o).run P w=.ok (.value v) w'∧dO w' S' aH (a.put o.dst v)∧k9 w S σ.hp w' S' aH.hp∧ae P all rest aH Q):
 ae P all (o :: rest) σ Q:=by
 intro w S a r
 obtain ⟨v,w',S',aH,h1,h2,h3,k⟩:=h w S a r
 unfold wpList
 rw [if_pos (by simp [Region.wanted,hg])]
 refine .inl ?_
 show o.upon P a _ _ _
 rw [h1]
 exact k.go h2 h3
theorem ae.op {P:Program} {all:Array Oper} {o:Oper} {rest:List Oper} {σ aH:St} {Q:St→Prop} (hg:o.guard=none)
 (h:∀ w S a,dO w S σ a→∃ v w' S',(execOp a.eval o).run P w=.ok (.value v) w'∧dO w' S' aH (a.put o.dst v)∧k9 w S σ.hp w' S' aH.hp)
 (k:ae P all rest aH Q):ae P all (o :: rest) σ Q:=
 ae.NR hg fun w S a r=>let ⟨v,w',S',h1,h2,h3⟩:=h w S a r;⟨v,w',S',aH,h1,h2,h3,k⟩
theorem ae.Hh {P:Program} {all:Array Oper} {o:Oper} {rest:List Oper} {σ:St} {Q:St→Prop} (hg:o.guard=none)
 (h:∀ w S a,dO w S σ a→∃ f args,(execOp a.eval o).run P w=.ok (.enter f args) w∧
  Calls P f args w fun e w'=>∃ v S' aH,e=.returned v∧dO w' S' aH (a.put o.dst v)∧k9 w S σ.hp w' S' aH.hp∧ae P all rest aH Q):
 ae P all (o :: rest) σ Q:=by
 intro w S a r
 obtain ⟨f,args,h1,h2⟩:=h w S a r
 unfold wpList
 rw [if_pos (by simp [Region.wanted,hg])]
 refine .inl ?_
 show o.upon P a _ _ _
 rw [h1]
 refine Calls.mono h2 ?_
 rintro e w' ⟨v,S',aH,rfl,g1,g2,k⟩
 exact k.go g1 g2
theorem ae.act {P:Program} {all:Array Oper} {o:Oper} {rest:List Oper} {σ aH:St} {Q:St→Prop} (hg:o.guard=none) (hd:o.dst=none)
 (h:∀ w S a,dO w S σ a→∃ w' S',(execOp a.eval o).run P w=.ok .skip w'∧dO w' S' aH a∧k9 w S σ.hp w' S' aH.hp)
 (k:ae P all rest aH Q):ae P all (o :: rest) σ Q:=by
 intro w S a r
 obtain ⟨w',S',h1,h2,h3⟩:=h w S a r
 unfold wpList
 rw [if_pos (by simp [Region.wanted,hg])]
 refine .inl ?_
 show o.upon P a _ _ _
 rw [h1]
 show wpList P all _ rest (a.put o.dst undef) w'
 rw [hd]
 exact k.go h2 h3
theorem ae.val {P:Program} {all:Array Oper} {o:Oper} {rest:List Oper} {n:Nat} {tm:List (Nat×AV)} {hp:Heap} {Q:St→Prop} {d:Nat} {av:AV} (hg:o.guard=none) (hd:o.dst=some d) (hn:Nat.blt d n=true)
 (h:∀ w S a,dO w S ⟨n,tm,hp⟩ a→∃ v,(execOp a.eval o).run P w=.ok (.value v) w∧At w S av v)
 (k:ae P all rest ⟨n,(d,av) :: tm,hp⟩ Q):ae P all (o :: rest) ⟨n,tm,hp⟩ Q:=by
 refine ae.op hg (aH:=⟨n,(d,av) :: tm,hp⟩) ?_ k
 intro w S a r
 obtain ⟨v,h1,h2⟩:=h w S a r
 exact ⟨v,w,S,h1,by rw [hd];exact r.put hn h2,k9.refl _ _ _⟩
def QV (P:Program) (o:Oper) (σ:St) (av:AV):Prop:=
 ∀ w S a,dO w S σ a→∃ v,(∀ w',Ext w w'→(execOp a.eval o).run P w'=.ok (.value v) w')∧At w S av v
theorem ae.qv {P:Program} {all:Array Oper} {rest:List Oper} {n:Nat} {tm:List (Nat×AV)} {hp:Heap} {Q:St→Prop} {d:Nat} {av:AV} {op:Op} {ty:TypeId} {pos:String} {af:Array Edge}
 (q:QV P ⟨some d,op,ty,pos,af,none⟩ ⟨n,tm,hp⟩ av) (hn:Nat.blt d n=true) (k:ae P all rest ⟨n,(d,av) :: tm,hp⟩ Q):ae P all (⟨some d,op,ty,pos,af,none⟩ :: rest) ⟨n,tm,hp⟩ Q:=
 ae.val rfl rfl hn (fun w S a r=>let ⟨v,h1,h2⟩:=q w S a r;⟨v,h1 w (Ext.refl w),h2⟩) k
structure QO (σ aH:St):Prop where
 n:aH.n=σ.n
 tm:∀ s av,lk aH.tm s=some av→lk σ.tm s=some av
 hp:aH.hp.Sublist σ.hp
theorem cI.sub {w:World} {S:Nat→Prop} {h h':Heap} (r:cI w S h) (hs:h'.Sublist h):cI w S h' where
 nodup:=r.nodup.sublist (vy hs)
 holds e he:=r.holds e (hs.subset he)
 sep e he:=r.sep e (hs.subset he)
 slt:=r.slt
 iy:=r.iy
theorem dO.less {w:World} {S:Nat→Prop} {σ aH:St} {a:Act} (r:dO w S σ a) (h:QO σ aH):dO w S aH a where
 size:=r.size.trans h.n.symm
 defers:=r.defers
 tm s av hh:=r.tm s av (h.tm s av hh)
 hp:=r.hp.sub h.hp
theorem Has.sub {h h':Heap} (hs:h'.Sublist h) {n:Nat} (hh:Has h' n):Has h n:=let ⟨e,he,hb⟩:=hh;⟨e,hs.subset he,hb⟩
theorem ae.weaken {P:Program} {all:Array Oper} {l:List Oper} {σ aH:St} {Q:St→Prop} (h:QO σ aH) (k:ae P all l aH Q):ae P all l σ Q:=
 fun w S _ r=>k.go (r.less h) (k9.less (k9.refl w S σ.hp) fun _ hn=>hn.sub h.hp)
theorem ae.aN {P:Program} {all:Array Oper} {d:Nat} {op:Op} {ty:TypeId} {pos:String} {af:Array Edge} {j:Nat} {want b:Bool} {s:Nat} {rest:List Oper} {n:Nat} {tm:List (Nat×AV)} {hp:Heap} {Q:St→Prop}
 (hj:(all[j]?).bind (·.dst)=some s) (hs:lk tm s=some (.bool b)) (hb:b=!want) (hn:Nat.blt d n=true)
 (k:ae P all rest ⟨n,(d,.raw undef) :: tm,hp⟩ Q):ae P all (⟨some d,op,ty,pos,af,some (j,want)⟩ :: rest) ⟨n,tm,hp⟩ Q:=by
 intro w S a r
 obtain ⟨v,h1,h2⟩:=r.tm s _ hs
 cases h2
 unfold wpList
 rw [if_neg (by simp [Region.wanted,yielded,hj,h1,hb])]
 exact k.go (r.put hn (.raw undef)) (k9.refl _ _ _)
theorem ae.j0 {P:Program} {all:Array Oper} {d:Nat} {op:Op} {ty:TypeId} {pos:String} {af:Array Edge} {j:Nat} {want:Bool} {s:Nat} {rest:List Oper} {n:Nat} {tm:List (Nat×AV)} {hp:Heap} {Q:St→Prop}
 (hj:(all[j]?).bind (·.dst)=some s) (hs:lk tm s=some (.raw undef)) (hn:Nat.blt d n=true)
 (k:ae P all rest ⟨n,(d,.raw undef) :: tm,hp⟩ Q):ae P all (⟨some d,op,ty,pos,af,some (j,want)⟩ :: rest) ⟨n,tm,hp⟩ Q:=by
 intro w S a r
 obtain ⟨v,h1,h2⟩:=r.tm s _ hs
 cases h2
 unfold wpList
 rw [if_neg (by simp [Region.wanted,yielded,hj,h1,undef])]
 exact k.go (r.put hn (.raw undef)) (k9.refl _ _ _)
theorem ae.aI {P:Program} {all:Array Oper} {d:Option Nat} {op:Op} {ty:TypeId} {pos:String} {af:Array Edge} {j:Nat} {want b:Bool} {s:Nat} {rest:List Oper} {σ:St} {Q:St→Prop}
 (hj:(all[j]?).bind (·.dst)=some s) (hs:lk σ.tm s=some (.bool b)) (hb:b=want)
 (k:ae P all (⟨d,op,ty,pos,af,none⟩ :: rest) σ Q):ae P all (⟨d,op,ty,pos,af,some (j,want)⟩ :: rest) σ Q:=by
 intro w S a r
 obtain ⟨v,h1,h2⟩:=r.tm s _ hs
 cases h2
 have:=k w S a r
 unfold wpList at this ⊢
 rw [if_pos (by simp [Region.wanted])] at this
 rw [if_pos (by simp [Region.wanted,yielded,hj,h1,hb])]
 exact this
def NS (P:Program) (c:Code) (σ:St) (Q:Exit→St→Prop):Prop:=
 ∀ w S a,dO w S σ a→c.wp P (OF w S σ.hp Q) a w
theorem NS.go {P:Program} {c:Code} {σ:St} {Q:Exit→St→Prop} (k:NS P c σ Q) {w w':World} {S S':Nat→Prop} {h:Heap} {a':Act}
 (r:dO w' S' σ a') (e:k9 w S h w' S' σ.hp):c.wp P (OF w S h Q) a' w':=
 wp_mono (k w' S' a' r) (fun _ _ _ ⟨aH,QN,h2,h3,h4⟩=>⟨aH,QN,h2,h3,e.trans h4⟩)
inductive It where
 | code (c:Code)
 | cu (id:Nat)
 | stop (I:St→Prop)
def TD (P:Program) (R:St→Prop):List It→Exit→St→Prop
 | [],.normal,σ | [],.ret,σ=>R σ
 | [],_,_=>False
 | .cu id :: k,.exit NT,σ=>match Nat.beq NT id with
   | true=>TD P R k .normal σ
   | false=>TD P R k (.exit NT) σ
 | .cu _ :: k,e,σ=>TD P R k e σ
 | .stop I :: _,.normal,σ=>I σ
 | .stop _ :: k,e,σ=>TD P R k e σ
 | .code c :: k,.normal,σ=>NS P c σ (fun e aH=>TD P R k e aH)
 | .code _ :: k,e,σ=>TD P R k e σ
def aa (P:Program) (R:St→Prop) (k:List It) (σ:St):Prop:=TD P R k .normal σ
section
variable {P:Program} {R:St→Prop} {k:List It} {σ:St}
theorem aa.nil (h:R σ):aa P R [] σ:=h
theorem aa.cu {id:Nat} (h:aa P R k σ):aa P R (.cu id :: k) σ:=h
theorem aa.stop {I:St→Prop} (h:I σ):aa P R (.stop I :: k) σ:=h
theorem TD.ret:∀ (k:List It),R σ→TD P R k .ret σ
 | [],h=>h
 | .cu _ :: k,h=>TD.ret k h
 | .stop _ :: k,h=>TD.ret k h
 | .code _ :: k,h=>TD.ret k h
theorem aa.ret (h:R σ):aa P R (.code .ret :: k) σ:=
 fun w S _ r=>wp_ret ⟨σ,S,TD.ret k h,r,k9.refl _ _ _⟩
theorem aa.skip (h:aa P R k σ):aa P R (.code .skip :: k) σ:=
 fun w S _ r=>wp_skip ⟨σ,S,h,r,k9.refl _ _ _⟩
def CS (id:Nat):List It→Option (List It)
 | []=>none
 | .cu NT :: k=>match Nat.beq id NT with
   | true=>some k
   | false=>CS id k
 | _ :: k=>CS id k
theorem TD.exit {id:Nat}:∀ (k k':List It),CS id k=some k'→aa P R k' σ→TD P R k (.exit id) σ
 | [],_,h,_=>by simp [CS] at h
 | .cu NT :: k,k',h,h'=>by
   simp only [CS] at h
   unfold TD
   split at h
   ·obtain rfl:=Option.some.inj h;exact h'
   ·exact TD.exit k k' h h'
 | .stop _ :: k,k',h,h'=>TD.exit k k' h h'
 | .code _ :: k,k',h,h'=>TD.exit k k' h h'
theorem aa.exit {id:Nat} {k':List It} (hp:CS id k=some k') (h:aa P R k' σ):aa P R (.code (.exit id) :: k) σ:=
 fun w S _ r=>wp_exit ⟨σ,S,TD.exit k k' hp h,r,k9.refl _ _ _⟩
theorem aa.seq {x y:Code} (h:aa P R (.code x :: .code y :: k) σ):aa P R (.code (.seq x y) :: k) σ:=by
 intro w S a r
 refine wp_seq (wp_mono (h w S a r) ?_)
 rintro e a' w' ⟨aH,S',h1,h2,h3⟩
 cases e with
 | normal=>exact NS.go (Q:=fun e aH=>TD P R k e aH) h1 h2 h3
 | exit id=>exact ⟨aH,S',h1,h2,h3⟩
 | goto l=>exact ⟨aH,S',h1,h2,h3⟩
 | ret=>exact ⟨aH,S',h1,h2,h3⟩
 | panic c=>exact ⟨aH,S',h1,h2,h3⟩
 | outgrown=>exact ⟨aH,S',h1,h2,h3⟩
theorem aa.block {id:Nat} {c:Code} (h:aa P R (.code c :: .cu id :: k) σ):aa P R (.code (.block id c) :: k) σ:=by
 intro w S a r
 refine wp_block (wp_mono (h w S a r) ?_)
 rintro e a' w' ⟨aH,S',h1,h2,h3⟩
 cases e with
 | normal=>exact ⟨aH,S',h1,h2,h3⟩
 | exit NT=>
   simp only [TD] at h1
   by_cases hb:NT=id
   ·subst hb
    simp only [Nat.beq_refl] at h1
    simp only [Exit.inBlock,if_true]
    exact ⟨aH,S',h1,h2,h3⟩
   ·have:Nat.beq NT id=false:=qy hb
    rw [this] at h1
    simp only [Exit.inBlock,hb,if_false]
    exact ⟨aH,S',h1,h2,h3⟩
 | goto l=>exact ⟨aH,S',h1,h2,h3⟩
 | ret=>exact ⟨aH,S',h1,h2,h3⟩
 | panic c=>exact ⟨aH,S',h1,h2,h3⟩
 | outgrown=>exact ⟨aH,S',h1,h2,h3⟩
theorem aa.cond {c:Operand} {x y:Code} {b:Bool} (hc:dm σ.tm c=some (.bool b)) (h1:b=true→aa P R (.code x :: k) σ) (h2:b=false→aa P R (.code y :: k) σ):
 aa P R (.code (.cond c x y) :: k) σ:=by
 intro w S a r
 have hv:=bA r hc
 generalize P6:a.eval c=v at hv
 cases hv
 exact wp_cond_split P6 (fun hb=>h1 hb w S a r) (fun hb=>h2 hb w S a r)
theorem aa.Jz {c:Operand} {x y:Code} (hc:dm σ.tm c=some (.bool true)) (h1:aa P R (.code x :: k) σ):aa P R (.code (.cond c x y) :: k) σ:=
 aa.cond hc (fun _=>h1) (fun h=>by cases h)
theorem aa.JA {c:Operand} {x y:Code} (hc:dm σ.tm c=some (.bool false)) (h1:aa P R (.code y :: k) σ):aa P R (.code (.cond c x y) :: k) σ:=
 aa.cond hc (fun h=>by cases h) (fun _=>h1)
theorem aa.region {id:Nat} {l:List Oper} (h:ae P l.toArray l σ (aa P R k)):aa P R (.code (.region id l.toArray false) :: k) σ:=by
 intro w S a r
 refine wp_region_lit (jl ?_ _ _ _ (h w S a r))
 rintro e a' w' ⟨rfl,aH,S',h1,h2,h3⟩
 exact ⟨aH,S',h1,h2,h3⟩
theorem aa.go {w w':World} {S S':Nat→Prop} {h:Heap} {a':Act} {c:Code} (kk:aa P R (.code c :: k) σ) (r:dO w' S' σ a') (e:k9 w S h w' S' σ.hp):
 c.wp P (OF w S h (TD P R k)) a' w':=NS.go (Q:=fun e aH=>TD P R k e aH) kk r e
theorem least (p:Nat→Prop) (n:Nat) (h:p n):∃ m,p m∧∀ i,p i→m≤i:=by
 induction n using Nat.strongRecOn with
 | _ n ih=>
   by_cases hx:∃ i,i < n∧p i
   ·obtain ⟨i,hi,hp⟩:=hx;exact ih i hi hp
   ·exact ⟨n,h,fun i hi=>Nat.le_of_not_lt fun jh=>hx ⟨i,jh,hi⟩⟩
open Classical in
noncomputable def x7 (p:Nat→Prop):Nat:=if h:∃ n,p n then Classical.choose (least p h.choose h.choose_spec) else 0
theorem xm {p:Nat→Prop} {n:Nat} (h:p n):p (x7 p)∧x7 p≤n:=by
 have hx:∃ n,p n:=⟨n,h⟩
 unfold x7
 rw [dif_pos hx]
 have:=Classical.choose_spec (least p hx.choose hx.choose_spec)
 exact ⟨this.1,this.2 n h⟩
theorem aa.loop {body:Code} (I:Nat→St→Prop) (m:Nat) (h0:I m σ) (hs:∀ m σ,I m σ→aa P R (.code body :: .stop (fun aH=>∃ m',m' < m∧I m' aH) :: k) σ):
 aa P R (.code (.loop body) :: k) σ:=by
 intro w S a r
 let p:Act→World→Nat→Prop:=fun a' w' m=>∃ aH S',I m aH∧dO w' S' aH a'∧k9 w S σ.hp w' S' aH.hp
 refine wp_loop (fun a' w'=>∃ m,p a' w' m) (fun a' w'=>x7 (p a' w')) ⟨m,σ,S,h0,r,k9.refl _ _ _⟩ ?_
 rintro a1 w1 ⟨m1,QP⟩
 obtain ⟨⟨Aq,S1,hI,YG,Ub⟩,_⟩:=xm QP
 refine wp_mono (aa.go (hs _ Aq hI) YG Ub) ?_
 rintro e a2 w2 ⟨Hi,S2,h2,NU,Mb⟩
 cases e with
 | normal=>
   obtain ⟨m2,jh,YH⟩:=h2
   have Gt:p a2 w2 m2:=⟨Hi,S2,YH,NU,Mb⟩
   exact ⟨⟨m2,Gt⟩,Nat.lt_of_le_of_lt (xm Gt).2 jh⟩
 | exit id=>exact ⟨Hi,S2,h2,NU,Mb⟩
 | goto l=>exact ⟨Hi,S2,h2,NU,Mb⟩
 | ret=>exact ⟨Hi,S2,h2,NU,Mb⟩
 | panic c=>exact ⟨Hi,S2,h2,NU,Mb⟩
 | outgrown=>exact ⟨Hi,S2,h2,NU,Mb⟩
end
def aT (P:Program) (f:FuncId) (args:List AV) (h:Heap) (Q:AV→Heap→Prop):Prop:=
 ∀ w S (vs:Array Value),cI w S h→args.length=vs.size→mR w S args vs→
   Calls P f vs w fun e w'=>∃ v r h' S',e=.returned v∧Q r h'∧At w' S' r v∧cI w' S' h'∧k9 w S h w' S' h'
theorem aT.frame {P:Program} {f:FuncId} {args:List AV} {h:Heap} {Q:AV→Heap→Prop} (c:aT P f args h Q) (rest:Heap):
 aT P f args (h++rest) (fun r h'=>∃ h1,h'=h1++rest∧Q r h1):=by
 intro w S vs r hl ha
 refine (c w S vs (r.sub (List.sublist_append_left _ _)) hl ha).mono ?_
 rintro e w' ⟨v,rr,h',S',h1,h2,h3,h4,h5⟩
 exact ⟨v,rr,h'++rest,S',h1,⟨h',rfl,h2⟩,h3,r.frame h5 h4,h5.frame rest⟩
theorem cI.perm {w:World} {S:Nat→Prop} {h h':Heap} (r:cI w S h) (hp:h.Perm h'):cI w S h' where
 nodup:=(List.Perm.flatMap_right _ hp).nodup_iff.1 r.nodup
 holds e he:=r.holds e (hp.mem_iff.2 he)
 sep e he:=r.sep e (hp.mem_iff.2 he)
 slt:=r.slt
 iy:=r.iy
def Mc:List AV→Nat→List (Nat×AV)
 | [],_=>[]
 | x :: r,i=>(i,x) :: Mc r (i+1)
theorem JB:∀ (l:List AV) (i s:Nat) (av:AV),lk (Mc l i) s=some av→i≤s∧l[s - i]? =some av
 | [],_,_,_,h=>by simp [Mc,lk] at h
 | x :: r,i,s,av,h=>by
   simp only [Mc,lk] at h
   split at h
   ·rename_i hb
    obtain rfl:i=s:=by simpa using hb
    simpa using h
   ·rename_i hb
    have sT:i≠s:=A7 hb
    obtain ⟨h1,h2⟩:=JB r (i+1) s av h
    refine ⟨by omega,?_⟩
    rw [show s - i=(s - (i+1))+1 from by omega]
    simpa using h2
class br (P:Program) (t:TypeId) (i:outParam TypeInfo):Prop where
 h:P.info? t=some i
class aP (P:Program) (t:TypeId) (d:outParam TypeDesc):Prop where
 h:P.underlying t=some d
section inv
variable {w:World} {S:Nat→Prop} {v:Value}
theorem At.eG {k:IntKind} {n:Int} (h:At w S (.int k n) v):v=.int k n:=by cases h;rfl
theorem At.ln {b:Bool} (h:At w S (.bool b) v):v=.bool b:=by cases h;rfl
theorem At.gQ {s:List UInt8} (h:At w S (.str s) v):v=.string ⟨s.toArray⟩:=by cases h;rfl
theorem At.DK {u:Value} (h:At w S (.raw u) v):v=u:=by cases h;rfl
theorem At.DL (h:At w S .nil v):v=.slice none 0 0:=by cases h;rfl
theorem At.nQ {cs:List AV} (h:At w S (.agg cs) v):∃ vs,v=.agg vs∧cs.length=vs.size∧mR w S cs vs:=by cases h with | agg _ vs hl h=>exact ⟨vs,rfl,hl,h⟩
theorem At.Md {cs:List AV} (h:At w S (.oL cs) v):∃ vs,v=.tuple vs∧cs.length=vs.size∧mR w S cs vs:=by cases h with | oL _ vs hl h=>exact ⟨vs,rfl,hl,h⟩
theorem At.ta {b:Bk} {o:Nat} (h:At w S (.ptr b o) v):∃ n,b.cu=some n∧v=.pointer (some ⟨n,o,none⟩):=by cases h with | ptr _ _ n hb=>exact ⟨n,hb,rfl⟩
theorem At.vz {sz:Nat} {b:Bk} {i o:Nat} (h:At w S (.qH sz b i o) v):∃ n,b.cu=some n∧v=.pointer (some ⟨n,i * sz+o,none⟩):=by cases h with | qH _ _ _ _ n hb=>exact ⟨n,hb,rfl⟩
theorem At.x8 {fn:Fn} {cs:List AV} (h:At w S (.func fn cs) v):∃ vs,v=.func fn #[] vs∧cs.length=vs.size∧mR w S cs vs:=by cases h with | func _ _ vs hl h=>exact ⟨vs,rfl,hl,h⟩
theorem At.vA {sz:Nat} {xs:List AV} (h:At w S (.list sz xs) v):∃ (a:Option Addr) (cap:Nat) (vs:List Value),v=.slice a xs.length cap∧(∀ x∈xs,El sz x)∧(flat xs).length=vs.length∧(∀ (i:Nat) c u,(flat xs)[i]? =some c→vs[i]? =some u→At w S c u)∧
 (∀ (i:Nat) u,vs[i]? =some u→∃ ad,a=some ad∧ad.spot=none∧S ad.block∧w.cell? ⟨ad.block,ad.off+i,none⟩=some u)∧xs.length≤cap:=by
 cases h with | list _ _ a cap vs h1 h2 h3 h4 h5=>exact ⟨a,cap,vs,rfl,h1,h2,h3,h4,h5⟩
theorem At.vB {cs:List AV} (h:At w S (.bR cs) v):∃ (ad:Addr) (vs:List Value),v=.pointer (some ad)∧cs.length=vs.length∧(∀ (i:Nat) c u,cs[i]? =some c→vs[i]? =some u→At w S c u)∧ad.spot=none∧S ad.block∧
 (∀ (i:Nat) u,vs[i]? =some u→w.cell? ⟨ad.block,ad.off+i,none⟩=some u):=by
 cases h with | bR _ ad vs h1 h2 h3 h4 h5=>exact ⟨ad,vs,rfl,h1,h2,h3,h4,h5⟩
theorem At.uB {sz:Nat} {b:Bk} {off len:Nat} (h:At w S (.sl sz b off len) v):∃ a cap,v=.slice a len cap∧((b.cu=none∧off=0∧len=0∧a=none∧cap=0)∨
 (∃ n,b.cu=some n∧a=some ⟨n,off * sz,none⟩∧len≤cap∧off+cap≤b.cap)∨(∃ n ad,b.cu=some n∧a=some ad∧len=0∧cap=0)):=by
 cases h with
 | Cx _ _ hb=>exact ⟨none,0,rfl,.inl ⟨hb,rfl,rfl,rfl,rfl⟩⟩
 | sl _ _ _ _ n cap hb h1 h2=>exact ⟨_,cap,rfl,.inr (.inl ⟨n,hb,rfl,h1,h2⟩)⟩
 | L9 _ _ _ n ad hb=>exact ⟨_,0,rfl,.inr (.inr ⟨n,ad,hb,rfl,rfl,rfl⟩)⟩
end inv
section rules
variable {P:Program} {all:Array Oper} {rest:List Oper} {n:Nat} {tm:List (Nat×AV)} {hp:Heap} {Q:St→Prop} {d:Nat} {ty:TypeId} {pos:String} {af:Array Edge}
theorem ax {x:Operand} {av:AV} (hx:dm tm x=some av):QV P ⟨some d,.move x,ty,pos,af,none⟩ ⟨n,tm,hp⟩ (av):=
 (fun w S a r=>⟨a.eval x,fun _ _=>rfl,bA (σ:=⟨n,tm,hp⟩) r hx⟩)
theorem bZ {x:Operand} {av:AV} (hx:dm tm x=some av):QV P ⟨some d,.assign x,ty,pos,af,none⟩ ⟨n,tm,hp⟩ (av):=
 (fun w S a r=>⟨a.eval x,fun _ _=>rfl,bA (σ:=⟨n,tm,hp⟩) r hx⟩)
theorem kj {c x y:Operand} {av:AV} (hc:dm tm c=some (.bool true)) (hx:dm tm x=some av):QV P ⟨some d,.pick c x y,ty,pos,af,none⟩ ⟨n,tm,hp⟩ (av):=
 (fun w S a r=>⟨a.eval x,fun w1 _=>by have h:=(bA (σ:=⟨n,tm,hp⟩) r hc).ln;simp [execOp,h,asBool],bA (σ:=⟨n,tm,hp⟩) r hx⟩)
theorem jz {c x y:Operand} {av:AV} (hc:dm tm c=some (.bool false)) (hx:dm tm y=some av):QV P ⟨some d,.pick c x y,ty,pos,af,none⟩ ⟨n,tm,hp⟩ (av):=
 (fun w S a r=>⟨a.eval y,fun w1 _=>by have h:=(bA (σ:=⟨n,tm,hp⟩) r hc).ln;simp [execOp,h,asBool],bA (σ:=⟨n,tm,hp⟩) r hx⟩)
theorem vC {op:BinOp} {xt yt:TypeId} {x y:Operand} {k:IntKind} {i j:Int} {av:AV} {v:Value} (hx:dm tm x=some (.int k i)) (hy:dm tm y=some (.int k j))
 (vD:∀ w,(binOp op xt (.int k i) (.int k j)).run P w=.ok v w) (sV:∀ w S,At w S av v):QV P ⟨some d,.binOp op xt x y yt,ty,pos,af,none⟩ ⟨n,tm,hp⟩ av:=by
 intro w S a r
 refine ⟨v,fun w' _=>?_,sV w S⟩
 simp [execOp,(bA (σ:=⟨n,tm,hp⟩) r hx).eG,(bA (σ:=⟨n,tm,hp⟩) r hy).eG,eqGuard_at_int,vD]
def OG (i:Int):Prop:=-9223372036854775808≤i∧i≤9223372036854775807
theorem Il {i:Int} (h:OG i):IntKind.i64.wrap i=i:=IntWalk.i64_in _ h
theorem bc {xt yt:TypeId} {x y:Operand} {k:IntKind} {i j:Int} (hx:dm tm x=some (.int k i)) (hy:dm tm y=some (.int k j)):QV P ⟨some d,.binOp .add xt x y yt,ty,pos,af,none⟩ ⟨n,tm,hp⟩ (.int k (k.wrap (i+j))):=
 vC hx hy (v:=_) (fun w=>by simp [binOp,Op.intArith]) (fun w S=>.int _ _)
theorem bK {xt yt:TypeId} {x y:Operand} {k:IntKind} {i j:Int} (hx:dm tm x=some (.int k i)) (hy:dm tm y=some (.int k j)):QV P ⟨some d,.binOp .sub xt x y yt,ty,pos,af,none⟩ ⟨n,tm,hp⟩ (.int k (k.wrap (i - j))):=
 vC hx hy (v:=_) (fun w=>by simp [binOp,Op.intArith]) (fun w S=>.int _ _)
theorem sj {xt yt:TypeId} {x y:Operand} {k:IntKind} {i j:Int} (hx:dm tm x=some (.int k i)) (hy:dm tm y=some (.int k j)):QV P ⟨some d,.binOp .mul xt x y yt,ty,pos,af,none⟩ ⟨n,tm,hp⟩ (.int k (k.wrap (i * j))):=
 vC hx hy (v:=_) (fun w=>by simp [binOp,Op.intArith]) (fun w S=>.int _ _)
theorem QQ {xt yt:TypeId} {x y:Operand} {k:IntKind} {i j:Int} (hx:dm tm x=some (.int k i)) (hy:dm tm y=some (.int k j)) (h0:j≠0):QV P ⟨some d,.binOp .rem xt x y yt,ty,pos,af,none⟩ ⟨n,tm,hp⟩ (.int k (i.tmod j)):=
 vC hx hy (v:=.int k (i.tmod j)) (fun w=>by simp [binOp,Op.intDiv,h0]) (fun w S=>.int _ _)
theorem bE {xt yt:TypeId} {x y:Operand} {k:IntKind} {i j:Int} (hx:dm tm x=some (.int k i)) (hy:dm tm y=some (.int k j)):QV P ⟨some d,.binOp .lss xt x y yt,ty,pos,af,none⟩ ⟨n,tm,hp⟩ (.bool (decide (i < j))):=
 vC hx hy (v:=.bool (decide (i < j))) (fun w=>by simp [binOp,Op.intCmp]) (fun w S=>.bool _)
theorem ot {xt yt:TypeId} {x y:Operand} {k:IntKind} {i j:Int} (hx:dm tm x=some (.int k i)) (hy:dm tm y=some (.int k j)):QV P ⟨some d,.binOp .leq xt x y yt,ty,pos,af,none⟩ ⟨n,tm,hp⟩ (.bool (decide (i≤j))):=
 vC hx hy (v:=.bool (decide (i≤j))) (fun w=>by simp [binOp,Op.intCmp]) (fun w S=>.bool _)
theorem fW {xt yt:TypeId} {x y:Operand} {k:IntKind} {i j:Int} (hx:dm tm x=some (.int k i)) (hy:dm tm y=some (.int k j)):QV P ⟨some d,.binOp .gtr xt x y yt,ty,pos,af,none⟩ ⟨n,tm,hp⟩ (.bool (decide (j < i))):=
 vC hx hy (v:=.bool (decide (j < i))) (fun w=>by simp [binOp,Op.intCmp]) (fun w S=>.bool _)
theorem tb {xt yt:TypeId} {x y:Operand} {k:IntKind} {i j:Int} (hx:dm tm x=some (.int k i)) (hy:dm tm y=some (.int k j)):QV P ⟨some d,.binOp .geq xt x y yt,ty,pos,af,none⟩ ⟨n,tm,hp⟩ (.bool (decide (j≤i))):=
 vC hx hy (v:=.bool (decide (j≤i))) (fun w=>by simp [binOp,Op.intCmp]) (fun w S=>.bool _)
theorem cL {xt yt:TypeId} {x y:Operand} {k:IntKind} {i j:Int} (hx:dm tm x=some (.int k i)) (hy:dm tm y=some (.int k j)):QV P ⟨some d,.binOp .eql xt x y yt,ty,pos,af,none⟩ ⟨n,tm,hp⟩ (.bool (decide (i=j))):=
 vC hx hy (v:=.bool (decide (i=j))) (fun w=>by simp [binOp,Op.intCmp];rfl) (fun w S=>.bool _)
theorem jU {xt yt:TypeId} {x y:Operand} {k:IntKind} {i j:Int} (hx:dm tm x=some (.int k i)) (hy:dm tm y=some (.int k j)):QV P ⟨some d,.binOp .neq xt x y yt,ty,pos,af,none⟩ ⟨n,tm,hp⟩ (.bool (decide (i≠j))):=
 vC hx hy (v:=.bool (decide (i≠j))) (fun w=>by simp [binOp,Op.intCmp,bne];rfl) (fun w S=>.bool _)
theorem uX {xt yt:TypeId} {x y:Operand} {s t:List UInt8} (hx:dm tm x=some (.str s)) (hy:dm tm y=some (.str t)):QV P ⟨some d,.binOp .eql xt x y yt,ty,pos,af,none⟩ ⟨n,tm,hp⟩ (.bool (decide (s=t))):=by
 refine fun w S a r=>⟨.bool (decide (s=t)),fun w1 _=>?_,.bool _⟩
 simp [execOp,(bA (σ:=⟨n,tm,hp⟩) r hx).gQ,(bA (σ:=⟨n,tm,hp⟩) r hy).gQ,eqGuard_at_string,binOp,Op.stringOp]
 rw [Bool.eq_iff_iff];simp
theorem A8 {xt yt:TypeId} {x y:Operand} {s t:List UInt8} (hx:dm tm x=some (.str s)) (hy:dm tm y=some (.str t)):QV P ⟨some d,.binOp .neq xt x y yt,ty,pos,af,none⟩ ⟨n,tm,hp⟩ (.bool (decide (s≠t))):=by
 refine fun w S a r=>⟨.bool (decide (s≠t)),fun w1 _=>?_,.bool _⟩
 simp [execOp,(bA (σ:=⟨n,tm,hp⟩) r hx).gQ,(bA (σ:=⟨n,tm,hp⟩) r hy).gQ,eqGuard_at_string,binOp,Op.stringOp]
 rw [Bool.eq_iff_iff];simp
theorem run_equal_bool {P:Program} {t:TypeId} (h:P.underlying t=some .bool) (b c:Bool) (w:World):(Op.equal t (.bool b) (.bool c)).run P w=.ok (b==c) w:=by
 show (Op.equalIn (9999+1) t (.bool b) (.bool c)).run P w=_
 rw [Op.equalIn]
 simp [run_underlying h]
theorem xE {P:Program} {t:TypeId} (h:P.underlying t=some .bool) (b c:Bool) (w:World):(binOp .neq t (.bool b) (.bool c)).run P w=.ok (.bool (b !=c)) w:=by
 rw [show binOp .neq t (.bool b) (.bool c)=(do pure (.bool (!(← Op.equal t (.bool b) (.bool c))))) from rfl]
 simp [run_equal_bool h,bne]
theorem Hj (s:List UInt8):(⟨s.toArray⟩:ByteArray).size=s.length:=rfl
theorem eF {xt:TypeId} {x:Operand} {b:Bool} (hx:dm tm x=some (.bool b)):QV P ⟨some d,.unOp .not xt x,ty,pos,af,none⟩ ⟨n,tm,hp⟩ (.bool (!b)):=
 (fun w S a r=>⟨.bool (!b),fun w1 _=>by simp [execOp,(bA (σ:=⟨n,tm,hp⟩) r hx).ln,Op.unary],.bool _⟩)
theorem QR {xt yt:TypeId} {x y:Operand} {b c:Bool} [aP P xt .bool] (hx:dm tm x=some (.bool b)) (hy:dm tm y=some (.bool c)):QV P ⟨some d,.binOp .neq xt x y yt,ty,pos,af,none⟩ ⟨n,tm,hp⟩ (.bool (b !=c)):=
 (fun w S a r=>⟨.bool (b !=c),fun w1 _=>by simp [execOp,(bA (σ:=⟨n,tm,hp⟩) r hx).ln,(bA (σ:=⟨n,tm,hp⟩) r hy).ln,eqGuard_at_bool,xE (aP.h (P:=P) (t:=xt))],.bool _⟩)
theorem JC {x y:Operand} {ts:Array TypeId} {k:IntKind} {i j:Int} (hx:dm tm x=some (.int k i)) (hy:dm tm y=some (.int k j)):QV P ⟨some d,.call {callee:=.builtin .max,args:=#[x,y],argTypes:=ts},ty,pos,af,none⟩ ⟨n,tm,hp⟩ (.int k (max i j)):=
 (fun w S a r=>⟨.int k (max i j),fun w1 _=>by
  have e:(if j > i then j else i)=max i j:=by rw [Int.max_def];split<;>split<;>omega
  simp [execOp,(bA (σ:=⟨n,tm,hp⟩) r hx).eG,(bA (σ:=⟨n,tm,hp⟩) r hy).eG,resolve,invoke,builtin,Builtin.max_,Builtin.max2,← e],.int _ _⟩)
theorem CT {x y:Operand} {ts:Array TypeId} {k:IntKind} {i j:Int} (hx:dm tm x=some (.int k i)) (hy:dm tm y=some (.int k j)):QV P ⟨some d,.call {callee:=.builtin .min,args:=#[x,y],argTypes:=ts},ty,pos,af,none⟩ ⟨n,tm,hp⟩ (.int k (min i j)):=
 (fun w S a r=>⟨.int k (min i j),fun w1 _=>by
  have e:(if j < i then j else i)=min i j:=by rw [Int.min_def];split<;>split<;>omega
  simp [execOp,(bA (σ:=⟨n,tm,hp⟩) r hx).eG,(bA (σ:=⟨n,tm,hp⟩) r hy).eG,resolve,invoke,builtin,Builtin.min_,Builtin.min2,← e],.int _ _⟩)
theorem Gu {x:Operand} {t e:TypeId} {sz:Nat} {xs:List AV} [aP P t (.slice e)] (hx:dm tm x=some (.list sz xs)):QV P ⟨some d,.call {callee:=.builtin .len,args:=#[x],argTypes:=#[t]},ty,pos,af,none⟩ ⟨n,tm,hp⟩ (.int .i64 (xs.length:Nat)):=
 (fun w S a r=>⟨.int .i64 (xs.length:Nat),fun w1 _=>by
  obtain ⟨ad,cap,vs,h1,_⟩:=(bA (σ:=⟨n,tm,hp⟩) r hx).vA
  simp [execOp,h1,resolve,invoke,builtin,Builtin.len_,run_underlying (aP.h (P:=P) (t:=t)),goInt],.int _ _⟩)
theorem A9 {x:Operand} {t e:TypeId} {sz off len:Nat} {b:Bk} [aP P t (.slice e)] (hx:dm tm x=some (.sl sz b off len)):QV P ⟨some d,.call {callee:=.builtin .len,args:=#[x],argTypes:=#[t]},ty,pos,af,none⟩ ⟨n,tm,hp⟩ (.int .i64 (len:Nat)):=
 (fun w S a r=>⟨.int .i64 (len:Nat),fun w1 _=>by
  obtain ⟨ad,cap,h1,_⟩:=(bA (σ:=⟨n,tm,hp⟩) r hx).uB
  simp [execOp,h1,resolve,invoke,builtin,Builtin.len_,run_underlying (aP.h (P:=P) (t:=t)),goInt],.int _ _⟩)
theorem zm {x:Operand} {t:TypeId} {s:List UInt8} [aP P t .string] (hx:dm tm x=some (.str s)):QV P ⟨some d,.call {callee:=.builtin .len,args:=#[x],argTypes:=#[t]},ty,pos,af,none⟩ ⟨n,tm,hp⟩ (.int .i64 (s.length:Nat)):=
 (fun w S a r=>⟨.int .i64 (s.length:Nat),fun w1 _=>by
  simp [execOp,(bA (σ:=⟨n,tm,hp⟩) r hx).gQ,resolve,invoke,builtin,Builtin.len_,run_underlying (aP.h (P:=P) (t:=t)),goInt,Hj],.int _ _⟩)
theorem EW {x y:Operand} {t:TypeId} {s:List UInt8} {k:IntKind} {i:Int} {c:UInt8} [aP P t .string] (hx:dm tm x=some (.str s)) (hy:dm tm y=some (.int k i)) (h0:0≤i) (hc:s[i.toNat]? =some c):QV P ⟨some d,.index t x y,ty,pos,af,none⟩ ⟨n,tm,hp⟩ (.int .u8 (c.toNat:Nat)):=
 (fun w S a r=>⟨.int .u8 (c.toNat:Nat),fun w1 _=>by
  have x9:(⟨s.toArray⟩:ByteArray)[i.toNat]? =some c:=by
   obtain ⟨hl,he⟩:=List.getElem?_eq_some_iff.1 hc
   rw [getElem?_pos _ _ (by rw [Hj];exact hl)]
   simp only [Option.some.injEq]
   rw [← he]
   rfl
  simp [execOp,(bA (σ:=⟨n,tm,hp⟩) r hx).gQ,(bA (σ:=⟨n,tm,hp⟩) r hy).eG,Instr.index,asIntOf,run_underlying (aP.h (P:=P) (t:=t)),h0,x9],.int _ _⟩)
theorem Im {x:Operand} {i:Nat} {vs:List AV} {av:AV} (hx:dm tm x=some (.oL vs)) (hi:vs[i]? =some av):QV P ⟨some d,.extract x i,ty,pos,af,none⟩ ⟨n,tm,hp⟩ (av):=
 (fun w S a r=>by
  obtain ⟨us,h1,h2,h3⟩:=(bA (σ:=⟨n,tm,hp⟩) r hx).Md
  have jh:i < us.size:=by rw [← h2];exact (List.getElem?_eq_some_iff.1 hi).1
  have hu:us[i]? =some us[i]:=by simp [jh]
  exact ⟨us[i],fun _ _=>by simp [execOp,h1,Instr.extract,hu],h3 i av _ hi hu⟩)
theorem aC {x:Operand} {b:Bk} {o:Nat} (hx:dm tm x=some (.ptr b o)):QV P ⟨some d,.nilCheck x,ty,pos,af,none⟩ ⟨n,tm,hp⟩ (.ptr b o):=
 (fun w S a r=>by
  have h:=bA (σ:=⟨n,tm,hp⟩) r hx
  obtain ⟨m,h1,h2⟩:=h.ta
  exact ⟨a.eval x,fun _ _=>by simp [execOp,h2],h⟩)
theorem bb {x:Operand} {cs:List AV} (hx:dm tm x=some (.bR cs)):QV P ⟨some d,.nilCheck x,ty,pos,af,none⟩ ⟨n,tm,hp⟩ (.bR cs):=
 (fun w S a r=>by
  have h:=bA (σ:=⟨n,tm,hp⟩) r hx
  obtain ⟨ad,vs,h2,_⟩:=h.vB
  exact ⟨a.eval x,fun _ _=>by simp [execOp,h2],h⟩)
theorem bD {x:Operand} {sz:Nat} {b:Bk} {i o:Nat} (hx:dm tm x=some (.qH sz b i o)):QV P ⟨some d,.nilCheck x,ty,pos,af,none⟩ ⟨n,tm,hp⟩ (.qH sz b i o):=
 (fun w S a r=>by
  have h:=bA (σ:=⟨n,tm,hp⟩) r hx
  obtain ⟨m,h1,h2⟩:=h.vz
  exact ⟨a.eval x,fun _ _=>by simp [execOp,h2],h⟩)
def zS (tm:List (Nat×AV)):List Operand→Option (List AV)
 | []=>some []
 | x :: r=>match dm tm x,zS tm r with
   | some a,some l=>some (a :: l)
   | _,_=>none
theorem Gv {w:World} {S:Nat→Prop} {σ:St} {a:Act} (r:dO w S σ a):∀ {xs:List Operand} {l:List AV},zS σ.tm xs=some l→l.length=xs.length∧∀ (i:Nat) c v,l[i]? =some c→(xs.map a.eval)[i]? =some v→At w S c v
 | [],l,h=>by simp [zS] at h;subst h;exact ⟨rfl,fun i c v hc=>by simp at hc⟩
 | x :: xs,l,h=>by
   simp only [zS] at h
   split at h
   ·rename_i av l' ha hl
    obtain rfl:=Option.some.inj h
    obtain ⟨h1,h2⟩:=Gv r hl
    refine ⟨by simp [h1],fun i c v hc hv=>?_⟩
    match i with
    | 0=>simp at hc hv;subst hc;subst hv;exact bA r ha
    | i+1=>simp at hc hv;exact h2 i c v hc (by simpa using hv)
   ·cases h
theorem sk {fn:Fn} {ra:List Operand} {l:List AV} (hl:zS tm ra=some l):QV P ⟨some d,.makeFunc fn #[] ra.toArray,ty,pos,af,none⟩ ⟨n,tm,hp⟩ (.func fn l):=
 (fun w S a r=>by
  obtain ⟨h1,h2⟩:=Gv (σ:=⟨n,tm,hp⟩) r hl
  exact ⟨.func fn #[] (ra.toArray.map a.eval),fun _ _=>by simp [execOp,Instr.makeFunc],.func _ _ _ (by simp [h1]) (fun i c v hc hv=>h2 i c v hc (by simpa using hv))⟩)
end rules
inductive nM:Heap→Bk→Ob→Prop
 | here {b:Bk} {o:Ob} {h:Heap}:nM ((b,o) :: h) b o
 | next {e:Bk×Ob} {b:Bk} {o:Ob} {h:Heap} (k:nM h b o):nM (e :: h) b o
 | skip {l:Heap} {b:Bk} {o:Ob} {h:Heap} (k:nM h b o):nM (l++h) b o
theorem nM.mem {h:Heap} {b:Bk} {o:Ob} (f:nM h b o):(b,o)∈h:=by
 induction f with
 | here=>simp
 | next _ ih=>simp [ih]
 | skip _ ih=>simp [ih]
inductive nN:Heap→Bk→Ob→Bk→Ob→Heap→Prop
 | here {b b':Bk} {o o':Ob} {h:Heap}:nN ((b,o) :: h) b o b' o' ((b',o') :: h)
 | next {e:Bk×Ob} {b b':Bk} {o o':Ob} {h h':Heap} (k:nN h b o b' o' h'):nN (e :: h) b o b' o' (e :: h')
 | skip {l:Heap} {b b':Bk} {o o':Ob} {h h':Heap} (k:nN h b o b' o' h'):nN (l++h) b o b' o' (l++h')
inductive w7:Heap→Bk→Ob→Heap→Prop
 | here {b:Bk} {o:Ob} {h:Heap}:w7 ((b,o) :: h) b o h
 | next {e:Bk×Ob} {b:Bk} {o:Ob} {h h':Heap} (k:w7 h b o h'):w7 (e :: h) b o (e :: h')
 | skip {l:Heap} {b:Bk} {o:Ob} {h h':Heap} (k:w7 h b o h'):w7 (l++h) b o (l++h')
theorem nN.split {h h':Heap} {b b':Bk} {o o':Ob} (u:nN h b o b' o' h'):∃ pre post,h=pre++(b,o) :: post∧h'=pre++(b',o') :: post:=by
 induction u with
 | here=>exact ⟨[],_,rfl,rfl⟩
 | next _ ih=>obtain ⟨p,q,rfl,rfl⟩:=ih;exact ⟨_ :: p,q,rfl,rfl⟩
 | @skip l _ _ _ _ _ _ _ ih=>obtain ⟨p,q,rfl,rfl⟩:=ih;exact ⟨l++p,q,(List.append_assoc _ _ _).symm,(List.append_assoc _ _ _).symm⟩
theorem w7.split {h h':Heap} {b:Bk} {o:Ob} (u:w7 h b o h'):∃ pre post,h=pre++(b,o) :: post∧h'=pre++post:=by
 induction u with
 | here=>exact ⟨[],_,rfl,rfl⟩
 | next _ ih=>obtain ⟨p,q,rfl,rfl⟩:=ih;exact ⟨_ :: p,q,rfl,rfl⟩
 | @skip l _ _ _ _ _ ih=>obtain ⟨p,q,rfl,rfl⟩:=ih;exact ⟨l++p,q,(List.append_assoc _ _ _).symm,(List.append_assoc _ _ _).symm⟩
theorem nN.lW {h h':Heap} {b b':Bk} {o o':Ob} (u:nN h b o b' o' h'):nM h b o:=by
 induction u with
 | here=>exact .here
 | next _ ih=>exact .next ih
 | skip _ ih=>exact .skip ih
theorem bx {α:Type} {p q:List α} {x y:α}:y∈p++x :: q↔y=x∨y∈p++q:=by
 simp only [List.mem_append,List.mem_cons]
 constructor
 ·rintro (h | h | h)
  ·exact .inr (.inl h)
  ·exact .inl h
  ·exact .inr (.inr h)
 ·rintro (h | h | h)
  ·exact .inr (.inl h)
  ·exact .inl h
  ·exact .inr (.inr h)
def GB (w w':World) (x:Option Nat):Prop:=w.grownBy w' x∧(bM.dr→w.drawn≤w'.drawn)
theorem wC {w w':World} {S:Nat→Prop} {hp cN:Heap} {b b':Bk} {o o':Ob} (r:cI w S hp) (u:nN hp b o b' o' cN) (cc:GB w w' b.cu) (hf:¬ o.zR) (Uc:¬ o'.zR)
 (hh:Holds w' S b' o') (Ar:b'.cu=b.cu∨b'.cu=none∨∃ m,b'.cu=some m∧w.heap.size≤m) (hm:o'.more=[]:=by rfl):
 cI w' S cN∧k9 w S hp w' S cN∧∀ n,S n→S n∧w'.heap[n]? =w.heap[n]?:=by
 obtain ⟨c,hd⟩:=cc
 obtain ⟨p,q,rfl,rfl⟩:=u.split
 have LN:(b,o)∈p++(b,o) :: q:=by simp
 have nS:∀ n,b.cu=some n→¬ S n:=fun n hn hs=>hf ((r.sep _ LN n (ki hn)).1 hs)
 have nf:∀ n,S n→S n∧w'.heap[n]? =w.heap[n]?:=fun n hs=>⟨hs,c.block n (r.slt n hs) (fun e=>nS n e.symm hs)⟩
 have vE:=r.nodup
 rw [List.flatMap_append,List.flatMap_cons,List.nodup_append,List.nodup_append] at vE
 have others:∀ e∈p++q,∀ n,n∈eb e→n < w.heap.size∧b.cu≠some n:=by
  intro e he n hn
  refine ⟨r.lt ⟨e,bx.2 (.inr he),hn⟩,fun hb=>?_⟩
  rcases List.mem_append.1 he with h | h
  ·exact vE.2.2 n (List.mem_flatMap.2 ⟨e,h,hn⟩) n (List.mem_append_left _ (ki hb)) rfl
  ·exact vE.2.1.2.2 n (ki hb) n (List.mem_flatMap.2 ⟨e,h,hn⟩) rfl
 have QS:∀ e∈p++q,∀ n,n∈eb e→b'.cu≠some n:=by
  intro e he n hn hb
  obtain ⟨h1,h2⟩:=others e he n hn
  rcases Ar with h | h | ⟨m,h,hm⟩
  ·exact h2 (h▸hb)
  ·rw [h] at hb;cases hb
  ·rw [h] at hb;have:=Option.some.inj hb;omega
 refine ⟨⟨?_,?_,?_,fun n hs=>Nat.lt_of_lt_of_le (r.slt n hs) c.size,fun g o ho=>⟨(r.iy g o ho).1,CQ (nf g (r.iy g o ho).1).2 (r.iy g o ho).2⟩⟩,⟨c.os,c.tape,c.output,c.size,nf,?_,?_,hd⟩,nf⟩
 ·rw [List.flatMap_append,List.flatMap_cons,List.nodup_append,List.nodup_append]
  have Ud:(eb (b',o')).Nodup:=by
   unfold eb;rw [hm,List.append_nil]
   cases b'.cu<;>simp
  refine ⟨vE.1,⟨Ud,vE.2.1.2.1,fun x hx y hy Gn=>?_⟩,fun x hx y hy Gn=>?_⟩
  ·subst Gn
   obtain ⟨e,he,tQ⟩:=List.mem_flatMap.1 hy
   exact QS e (List.mem_append_right _ he) x tQ ((vw hm).1 hx)
  ·subst Gn
   rcases List.mem_append.1 hy with hy | hy
   ·obtain ⟨e,he,tQ⟩:=List.mem_flatMap.1 hx
    exact QS e (List.mem_append_left _ he) x tQ ((vw hm).1 hy)
   ·exact vE.2.2 x hx x (List.mem_append_right _ hy) rfl
 ·intro e he
  rcases bx.1 he with rfl | he
  ·exact hh
  ·exact (r.holds e (bx.2 (.inr he))).mono nf (fun n hn=>c.block n (others e he n hn).1 (fun h=>(others e he n hn).2 h.symm))
 ·intro e he n hn
  rcases bx.1 he with rfl | he
  ·replace hn:=(vw hm).1 hn
   have ns:¬ S n:=by
    rcases Ar with h | h | ⟨m,h,hm⟩
    ·exact nS n (h▸hn)
    ·rw [h] at hn;cases hn
    ·intro hs;have:=r.slt n hs;rw [h] at hn;have:=Option.some.inj hn;omega
   exact ⟨fun hs=>(ns hs).elim,fun h=>(Uc h).elim⟩
  ·exact r.sep e (bx.2 (.inr he)) n hn
 ·intro n hn Ue
  exact ⟨c.block n hn (fun h=>Ue ⟨(b,o),LN,ki h.symm⟩),id⟩
 ·rintro n ⟨e,he,tQ⟩
  rcases bx.1 he with rfl | he
  ·replace tQ:=(vw hm).1 tQ
   rcases Ar with h | h | ⟨m,h,hm⟩
   ·exact .inl ⟨(b,o),LN,ki (h▸tQ)⟩
   ·rw [h] at tQ;cases tQ
   ·rw [h] at tQ;have:=Option.some.inj tQ;exact .inr (by omega)
  ·exact .inl ⟨e,bx.2 (.inr he),tQ⟩
theorem uC {w w':World} {S:Nat→Prop} {hp:Heap} {b:Bk} {o:Ob} (r:cI w S hp) (e:Ext w w') (hf:¬ o.zR) (hh:Holds w' S b o) (hb:b.cu=none∨∃ m,b.cu=some m∧w.heap.size≤m) (hm:o.more=[]:=by rfl):
 cI w' S ((b,o) :: hp)∧k9 w S hp w' S ((b,o) :: hp)∧∀ n,S n→S n∧w'.heap[n]? =w.heap[n]?:=by
 have r':=r.ext e
 have nf:∀ n,S n→S n∧w'.heap[n]? =w.heap[n]?:=fun n hs=>⟨hs,e.same n (r.slt n hs)⟩
 have fresh:∀ n,n∈eb (b,o)→w.heap.size≤n:=by
  intro n hn
  replace hn:=(vw hm).1 hn
  rcases hb with h | ⟨m,h,hm⟩
  ·rw [h] at hn;cases hn
  ·rw [h] at hn;have:=Option.some.inj hn;omega
 refine ⟨⟨?_,?_,?_,r'.slt,r'.iy⟩,⟨e.os,e.tape,e.output,e.size,nf,fun n hn _=>⟨e.same n hn,id⟩,?_,e.drawn⟩,nf⟩
 ·rw [List.flatMap_cons,List.nodup_append]
  refine ⟨?_,r.nodup,fun x hx y hy Gn=>?_⟩
  ·unfold eb;rw [hm,List.append_nil]
   cases b.cu<;>simp
  ·subst Gn
   obtain ⟨z,hz,YI⟩:=List.mem_flatMap.1 hy
   have:=r.lt ⟨z,hz,YI⟩
   have:=fresh x hx
   omega
 ·intro x hx
  rcases List.mem_cons.1 hx with rfl | hx
  ·exact hh
  ·exact r'.holds x hx
 ·intro x hx n hn
  rcases List.mem_cons.1 hx with rfl | hx
  ·refine ⟨fun hs=>?_,fun h=>(hf h).elim⟩
   have:=r.slt n hs
   have:=fresh n hn
   omega
  ·exact r.sep x hx n hn
 ·rintro n ⟨x,hx,QM⟩
  rcases List.mem_cons.1 hx with rfl | hx
  ·exact .inr (fresh n QM)
  ·exact .inl ⟨x,hx,QM⟩
theorem tT {w:World} {S:Nat→Prop} {av:AV} {v:Value} (h:At w S av v) (h1:∀ c∈av.cells,c.one=true):av.cells.length=v.cells.size∧mR w S av.cells v.cells:=by
 have single:∀ (c:AV) (u:Value),At w S c u→mR w S [c] #[u]:=by
  intro c u hc i c' u' h1 h2
  match i with
  | 0=>simp at h1 h2;subst h1;subst h2;exact hc
  | i+1=>simp at h1
 cases h with
 | agg cs vs hl h=>exact ⟨hl,h⟩
 | raw v=>
   have:v.oneCell'=true:=h1 (.raw v) (by simp [AV.cells])
   have hv:v.cells=#[v]:=by cases v<;>first | rfl | (simp [Value.oneCell'] at this)
   rw [hv]
   exact ⟨rfl,single _ _ (.raw v)⟩
 | LL φ v hm g1 g=>
   have this:v.oneCell'=true:=g1 _ _ _ g
   have hv:v.cells=#[v]:=by cases v<;>first | rfl | (simp [Value.oneCell'] at this)
   rw [hv]
   exact ⟨rfl,single _ _ (.LL φ v hm g1 g)⟩
 | oL cs vs hl h=>exact ⟨rfl,single _ _ (.oL cs vs hl h)⟩
 | int k n=>exact ⟨rfl,single _ _ (.int k n)⟩
 | bool b=>exact ⟨rfl,single _ _ (.bool b)⟩
 | str s=>exact ⟨rfl,single _ _ (.str s)⟩
 | list sz xs a cap vs jZ hl h hm hc=>exact ⟨rfl,single _ _ (.list sz xs a cap vs jZ hl h hm hc)⟩
 | nil=>exact ⟨rfl,single _ _ .nil⟩
 | ptr b o n hb=>exact ⟨rfl,single _ _ (.ptr b o n hb)⟩
 | Cx sz b hb=>exact ⟨rfl,single _ _ (.Cx sz b hb)⟩
 | sl sz b off len n cap hb g1 g2=>exact ⟨rfl,single _ _ (.sl sz b off len n cap hb g1 g2)⟩
 | L9 sz b off n ad hb=>exact ⟨rfl,single _ _ (.L9 sz b off n ad hb)⟩
 | bR cs ad vs hl h hs hS hm=>exact ⟨rfl,single _ _ (.bR cs ad vs hl h hs hS hm)⟩
 | qH sz b i o n hb=>exact ⟨rfl,single _ _ (.qH sz b i o n hb)⟩
 | sg b n hb=>exact ⟨rfl,single _ _ (.sg b n hb)⟩
 | func fn cs vs hl h=>exact ⟨rfl,single _ _ (.func fn cs vs hl h)⟩
theorem ya {w:World} {S:Nat→Prop} {cs:List AV} {vs:Array Value} (hl:cs.length=vs.size) (h:mR w S cs vs) (h1:∀ c∈cs,c.one=true):∀ v∈vs.toList,v.oneCell'=true:=by
 intro v hv
 obtain ⟨i,hi,he⟩:=List.mem_iff_getElem.1 hv
 have Gw:i < cs.length:=by rw [hl];simpa using hi
 have:=h i cs[i] v (by simp [Gw]) (by rw [← he];simp at hi ⊢)
 exact this.Gs (h1 _ (List.getElem_mem Gw))
def mL:List AV→Bool
 | []=>true
 | c :: r=>c.one&&mL r
theorem dG {cs:List AV} (h:mL cs=true):∀ c∈cs,c.one=true:=by
 induction cs with
 | nil=>simp
 | cons x r ih=>
   simp only [mL,Bool.and_eq_true] at h
   intro c hc
   rcases List.mem_cons.1 hc with rfl | hc
   ·exact h.1
   ·exact ih h.2 c hc
section rules
variable {P:Program} {all:Array Oper} {rest:List Oper} {n:Nat} {tm:List (Nat×AV)} {hp:Heap} {Q:St→Prop} {d:Nat} {ty:TypeId} {pos:String} {af:Array Edge}
theorem Hk {w:World} {S:Nat→Prop} {hp:Heap} (r:cI w S hp) {cs:List AV} {vs:Array Value} (E:TypeId) (hl:cs.length=vs.size) (h:mR w S cs vs) (h1:∀ c∈cs,c.one=true):
 cI (w.alloc (.cells vs E)) S ((⟨some w.heap.size,0⟩,.cells cs) :: hp)∧k9 w S hp (w.alloc (.cells vs E)) S ((⟨some w.heap.size,0⟩,.cells cs) :: hp)∧∀ n,S n→S n∧(w.alloc (.cells vs E)).heap[n]? =w.heap[n]?:=by
 have e:=Ext.alloc w (.cells vs E)
 refine uC r e id ⟨h1,w.heap.size,vs,E,rfl,?_,hl.symm,h.mono fun n hn=>⟨hn,e.same n (r.slt n hn)⟩⟩ (.inr ⟨_,rfl,Nat.le_refl _⟩)
 show (w.heap.push _)[w.heap.size]? =_
 simp
theorem QT {x:Operand} {E:TypeId} {av:AV} (hx:dm tm x=some av) (h1:mL av.cells=true) (hn:Nat.blt d n=true)
 (kk:∀ b:Bk,ae P all rest ⟨n,(d,.ptr b 0) :: tm,(b,.cells av.cells) :: hp⟩ Q):ae P all (⟨some d,.box E x,ty,pos,af,none⟩ :: rest) ⟨n,tm,hp⟩ Q:=by
 refine ae.NR rfl fun w S a r=>?_
 have hv:=bA (σ:=⟨n,tm,hp⟩) r hx
 obtain ⟨hl,sV⟩:=tT hv (dG h1)
 obtain ⟨g1,g2,g3⟩:=Hk r.hp E hl sV (dG h1)
 refine ⟨.pointer (some ⟨w.heap.size,0,none⟩),w.alloc (.cells (a.eval x).cells E),S,_,?_,(r.heap g3 g1).put hn (.ptr ⟨some w.heap.size,0⟩ 0 _ rfl),g2,kk ⟨some w.heap.size,0⟩⟩
 simp [execOp,Instr.box,newVar,newRow]
def CU:Value→AV
 | .agg cs=>.agg (cs.toList.map NQ)
 | v=>NQ v
theorem rJ (w:World) (S:Nat→Prop) (z:Value) (h1:∀ c∈(CU z).cells,c.one=true):(CU z).cells.length=z.cells.size∧mR w S (CU z).cells z.cells:=by
 by_cases hz:∃ cs,z=.agg cs
 ·obtain ⟨cs,rfl⟩:=hz
  refine ⟨by simp [CU,AV.cells,Value.cells],?_⟩
  intro i c v hc hv
  simp only [CU,AV.cells,List.getElem?_map,Array.getElem?_toList] at hc
  simp only [Value.cells] at hv
  rw [hv] at hc
  simp at hc
  subst hc
  exact DJ _ _ _
 ·have Me:CU z=NQ z:=by
   cases z<;>first | rfl | (exact (hz ⟨_,rfl⟩).elim)
  rw [Me] at h1 ⊢
  exact tT (DJ w S z) h1
theorem Mf {E:TypeId} {i:TypeInfo} {z:Value} [br P E i] (hz:i.zero=some z) (h1:mL (CU z).cells=true) (hn:Nat.blt d n=true)
 (kk:∀ b:Bk,ae P all rest ⟨n,(d,.ptr b 0) :: tm,(b,.cells (CU z).cells) :: hp⟩ Q):ae P all (⟨some d,.alloc E,ty,pos,af,none⟩ :: rest) ⟨n,tm,hp⟩ Q:=by
 refine ae.NR rfl fun w S a r=>?_
 obtain ⟨hl,sV⟩:=rJ w S z (dG h1)
 obtain ⟨g1,g2,g3⟩:=Hk r.hp E hl sV (dG h1)
 refine ⟨.pointer (some ⟨w.heap.size,0,none⟩),w.alloc (.cells z.cells E),S,_,?_,(r.heap g3 g1).put hn (.ptr ⟨some w.heap.size,0⟩ 0 _ rfl),g2,kk ⟨some w.heap.size,0⟩⟩
 have hi:=br.h (P:=P) (t:=E)
 simp [execOp,Instr.alloc,newVar,newRow,zeroValue,typeInfo,hi,hz]
theorem nj (m o k:Nat):(⟨m,o,none⟩:Addr).add k=⟨m,o+k,none⟩:=Addr.add_lit m o k
theorem vF {s:TypeId} {fs:Array Field} {j:Nat} {f:Field} {i:TypeInfo} (hs:P.underlying s=some (.struct fs)) (hj:fs[j]? =some f) (hi:P.info? f.type=some i) (h0:i.size≠0) (ad:Addr) (w:World):
 (Instr.fieldAt s (.pointer (some ad)) j).run P w=.ok (.pointer (some (ad.add f.offset))) w:=by
 simp [Instr.fieldAt,run_underlying hs,hj,Instr.sureAddr,fieldPlace,sizeOf,typeInfo,hi,h0]
class ng (P:Program) (s:TypeId) (j:Nat) (off:outParam Nat):Prop where
 h:∃ fs f i,P.underlying s=some (.struct fs)∧fs[j]? =some f∧P.info? f.type=some i∧(Nat.beq i.size 0)=false∧f.offset=off
theorem EX {x:Operand} {s:TypeId} {j:Nat} {off:Nat} {b:Bk} {o:Nat} [ng P s j off]
 (hx:dm tm x=some (.ptr b o)):QV P ⟨some d,.fieldAddr s x j,ty,pos,af,none⟩ ⟨n,tm,hp⟩ (.ptr b (o+off)):=
 (fun w S a r=>by
  obtain ⟨fs,f,i,hu,hj,hi,h0,rfl⟩:=ng.h (P:=P) (s:=s) (j:=j)
  obtain ⟨m,h1,h2⟩:=(bA (σ:=⟨n,tm,hp⟩) r hx).ta
  refine ⟨.pointer (some ⟨m,o+f.offset,none⟩),fun w1 _=>?_,.ptr b _ m h1⟩
  have hr:=vF (P:=P) hu hj hi (A7 h0) ⟨m,o,none⟩ w1
  rw [nj] at hr
  simp [execOp,h2,hr])
theorem DM {x:Operand} {s:TypeId} {j:Nat} {off:Nat} {sz:Nat} {b:Bk} {q o:Nat} [ng P s j off]
 (hx:dm tm x=some (.qH sz b q o)):QV P ⟨some d,.fieldAddr s x j,ty,pos,af,none⟩ ⟨n,tm,hp⟩ (.qH sz b q (o+off)):=
 (fun w S a r=>by
  obtain ⟨fs,f,i,hu,hj,hi,h0,rfl⟩:=ng.h (P:=P) (s:=s) (j:=j)
  obtain ⟨m,h1,h2⟩:=(bA (σ:=⟨n,tm,hp⟩) r hx).vz
  refine ⟨.pointer (some ⟨m,q * sz+(o+f.offset),none⟩),fun w1 _=>?_,.qH sz b q _ m h1⟩
  have hr:=vF (P:=P) hu hj hi (A7 h0) ⟨m,q * sz+o,none⟩ w1
  rw [nj,Nat.add_assoc] at hr
  simp [execOp,h2,hr])
theorem Io {w:World} {S:Nat→Prop} {cs:List AV} {ad:Addr} {vs:List Value} (k:Nat) (hl:cs.length=vs.length) (h:∀ (i:Nat) c u,cs[i]? =some c→vs[i]? =some u→At w S c u) (hs:ad.spot=none) (hS:S ad.block)
 (hm:∀ (i:Nat) u,vs[i]? =some u→w.cell? ⟨ad.block,ad.off+i,none⟩=some u):At w S (.bR (cs.drop k)) (.pointer (some (ad.add k))):=by
 obtain ⟨bk,of,sp⟩:=ad
 simp only at hs hS hm
 subst hs
 rw [nj]
 refine .bR _ _ (vs.drop k) (by simp [hl]) (fun i c u hc hu=>h (k+i) c u (by simpa using hc) (by simpa using hu)) rfl hS (fun i u hu=>?_)
 have:=hm (k+i) u (by simpa using hu)
 simpa [Nat.add_assoc] using this
theorem DN {x:Operand} {s:TypeId} {j:Nat} {off:Nat} {cs:List AV} [ng P s j off]
 (hx:dm tm x=some (.bR cs)):QV P ⟨some d,.fieldAddr s x j,ty,pos,af,none⟩ ⟨n,tm,hp⟩ (.bR (cs.drop off)):=
 (fun w S a r=>by
  obtain ⟨fs,f,i,hu,hj,hi,h0,rfl⟩:=ng.h (P:=P) (s:=s) (j:=j)
  obtain ⟨ad,vs,h2,h3,h4,h5,h6,h7⟩:=(bA (σ:=⟨n,tm,hp⟩) r hx).vB
  refine ⟨.pointer (some (ad.add f.offset)),fun w1 _=>?_,Io f.offset h3 h4 h5 h6 h7⟩
  have hr:=vF (P:=P) hu hj hi (A7 h0) ad w1
  simp [execOp,h2,hr])
def TypeDesc.lp:TypeDesc→Bool
 | .struct _=>true
 | .array _ _=>true
 | _=>false
theorem oM {t:TypeId} {D:TypeDesc} (ht:P.underlying t=some D) (hD:TypeDesc.lp D=false) {ad:Addr} {v:Value} {w:World} (hc:w.cell? ad=some v):(loadVar t ad).run P w=.ok v w:=by
 have:(isAgg t).run P w=.ok false w:=by
  simp only [isAgg,Sem.run_bind,run_underlying ht,Result.andThen_ok]
  cases D<;>first | rfl | (simp [TypeDesc.lp] at hD)
 simp [loadVar,this,hc]
theorem mn {t:TypeId} {D:TypeDesc} {i:TypeInfo} (ht:P.underlying t=some D) (hD:TypeDesc.lp D=true) (hi:P.info? t=some i) {ad:Addr} {vs:List Value} {w:World} (hl:vs.length=i.size)
 (hc:∀ (j:Nat) v,vs[j]? =some v→w.cell? (ad.add j)=some v):(loadVar t ad).run P w=.ok (.agg vs.toArray) w:=by
 have h1:(isAgg t).run P w=.ok true w:=by
  simp only [isAgg,Sem.run_bind,run_underlying ht,Result.andThen_ok]
  cases D<;>first | rfl | (simp [TypeDesc.lp] at hD)
 have h2:=run_loadCells_list (P:=P) w ad vs hc
 rw [hl] at h2
 simp [loadVar,h1,sizeOf,typeInfo,hi,h2]
theorem Mg {w:World} {m:Nat} {ob:Obj} (h:w.heap[m]? =some ob):m < w.heap.size:=by
 rcases Nat.lt_or_ge m w.heap.size with h' | h'
 ·exact h'
 ·simp [Array.getElem?_eq_none h'] at h
theorem Ext.at {w w':World} (e:Ext w w') {m:Nat} {ob:Obj} (h:w.heap[m]? =some ob):w'.heap[m]? =some ob:=by rw [e.same m (Mg h)];exact h
theorem Ext.cell {w w':World} (e:Ext w w') {m o:Nat} {v:Value} (h:w.cell? ⟨m,o,none⟩=some v):w'.cell? ⟨m,o,none⟩=some v:=by
 rw [cell_of_heap (e.same m (World.block_lt_of_cell? _ _ h))];exact h
theorem tU {w:World} {S:Nat→Prop} {hp:Heap} (r:cI w S hp) {b:Bk} {cs:List AV} (f:nM hp b (.cells cs)):(∀ c∈cs,c.one=true)∧∃ m vs E,b.cu=some m∧w.heap[m]? =some (.cells vs E (0,0))∧vs.size=cs.length∧mR w S cs vs:=
 r.holds _ f.mem
theorem pn {w:World} {m:Nat} {vs:Array Value} {E:TypeId} (h:w.heap[m]? =some (.cells vs E (0,0))) (o:Nat):w.cell? ⟨m,o,none⟩=vs[o]?:=cell_of_row w m o vs E (0,0) h
theorem aF {t:TypeId} {D:TypeDesc} {x:Operand} {b:Bk} {o:Nat} {cs:List AV} {av:AV} [aP P t D] (hD:TypeDesc.lp D=false) (hx:dm tm x=some (.ptr b o)) (f:nM hp b (.cells cs)) (ho:cs[o]? =some av):QV P ⟨some d,.load t x,ty,pos,af,none⟩ ⟨n,tm,hp⟩ (av):=
 (fun w S a r=>by
  obtain ⟨m,h1,h2⟩:=(bA (σ:=⟨n,tm,hp⟩) r hx).ta
  obtain ⟨_,m',vs,E,g1,g2,g3,g4⟩:=tU r.hp f
  obtain rfl:m'=m:=by rw [g1] at h1;exact Option.some.inj h1
  have jh:o < vs.size:=by rw [g3];exact (List.getElem?_eq_some_iff.1 ho).1
  have hv:vs[o]? =some vs[o]:=by simp [jh]
  refine ⟨vs[o],fun w1 ex=>?_,g4 o av _ ho hv⟩
  have:=oM (P:=P) (aP.h (P:=P) (t:=t)) hD (w:=w1) (ad:=⟨m',o,none⟩) (v:=vs[o]) (by rw [pn (ex.at g2),hv])
  simp [execOp,h2,Instr.loadAt,Instr.sureAddr,this])
theorem bq {t:TypeId} {D:TypeDesc} {i:TypeInfo} {x:Operand} {b:Bk} {cs:List AV} [aP P t D] [br P t i] (hD:TypeDesc.lp D=true) (hx:dm tm x=some (.ptr b 0)) (f:nM hp b (.cells cs)) (ho:Nat.beq cs.length i.size=true):QV P ⟨some d,.load t x,ty,pos,af,none⟩ ⟨n,tm,hp⟩ (.agg cs):=
 (fun w S a r=>by
  obtain ⟨m,h1,h2⟩:=(bA (σ:=⟨n,tm,hp⟩) r hx).ta
  obtain ⟨_,m',vs,E,g1,g2,g3,g4⟩:=tU r.hp f
  obtain rfl:m'=m:=by rw [g1] at h1;exact Option.some.inj h1
  have hlen:vs.toList.length=i.size:=by simp [g3];exact Nat.eq_of_beq_eq_true ho
  refine ⟨.agg vs,fun w1 ex=>?_,.agg cs vs g3.symm g4⟩
  have:=mn (P:=P) (aP.h (P:=P) (t:=t)) hD (br.h (P:=P) (t:=t)) (w:=w1) (ad:=⟨m',0,none⟩) (vs:=vs.toList) hlen (fun j v hv=>by rw [nj,pn (ex.at g2)];simpa using hv)
  simp [execOp,h2,Instr.loadAt,Instr.sureAddr,this])
theorem aJ {t:TypeId} {D:TypeDesc} {x:Operand} {cs:List AV} {av:AV} [aP P t D] (hD:TypeDesc.lp D=false) (hx:dm tm x=some (.bR cs)) (ho:cs[0]? =some av):QV P ⟨some d,.load t x,ty,pos,af,none⟩ ⟨n,tm,hp⟩ (av):=
 (fun w S a r=>by
  obtain ⟨ad,vs,h2,h3,h4,h5,h6,h7⟩:=(bA (σ:=⟨n,tm,hp⟩) r hx).vB
  have jh:0 < vs.length:=by rw [← h3];exact (List.getElem?_eq_some_iff.1 ho).1
  have hv:vs[0]? =some vs[0]:=by simp [jh]
  refine ⟨vs[0],fun w1 ex=>?_,h4 0 av _ ho hv⟩
  have hc:=ex.cell (h7 0 _ hv)
  have he:(⟨ad.block,ad.off+0,none⟩:Addr)=ad:=by cases ad;simp at h5;simp [h5]
  rw [he] at hc
  have:=oM (P:=P) (aP.h (P:=P) (t:=t)) hD hc
  simp [execOp,h2,Instr.loadAt,Instr.sureAddr,this])
theorem bf {t:TypeId} {D:TypeDesc} {i:TypeInfo} {x:Operand} {cs:List AV} [aP P t D] [br P t i] (hD:TypeDesc.lp D=true) (hx:dm tm x=some (.bR cs)) (ho:Nat.beq cs.length i.size=true):QV P ⟨some d,.load t x,ty,pos,af,none⟩ ⟨n,tm,hp⟩ (.agg cs):=
 (fun w S a r=>by
  obtain ⟨ad,vs,h2,h3,h4,h5,h6,h7⟩:=(bA (σ:=⟨n,tm,hp⟩) r hx).vB
  refine ⟨.agg vs.toArray,fun w1 ex=>?_,.agg cs _ (by simp [h3]) (fun j c v hc hv=>h4 j c v hc (by simpa using hv))⟩
  have:=mn (P:=P) (aP.h (P:=P) (t:=t)) hD (br.h (P:=P) (t:=t)) (w:=w1) (ad:=ad) (vs:=vs) (by rw [← h3];exact Nat.eq_of_beq_eq_true ho) (fun j v hv=>by
   obtain ⟨bk,of,sp⟩:=ad
   simp only at h5;subst h5
   rw [nj];exact ex.cell (h7 j v hv))
  simp [execOp,h2,Instr.loadAt,Instr.sureAddr,this])
theorem zn {t:TypeId} {D:TypeDesc} {i:TypeInfo} {x:Operand} {cs:List AV} [aP P t D] [br P t i] (hD:TypeDesc.lp D=true) (hx:dm tm x=some (.bR cs)) (ho:Nat.ble i.size cs.length=true):QV P ⟨some d,.load t x,ty,pos,af,none⟩ ⟨n,tm,hp⟩ (.agg (cs.take i.size)):=
 (fun w S a r=>by
  obtain ⟨ad,vs,h2,h3,h4,h5,h6,h7⟩:=(bA (σ:=⟨n,tm,hp⟩) r hx).vB
  have hle:i.size≤cs.length:=Nat.le_of_ble_eq_true ho
  have tk:∀ {α:Type} (l:List α) (k j:Nat) (y:α),(l.take k)[j]? =some y→l[j]? =some y:=by
   intro α l k j y h
   rw [List.getElem?_take] at h
   split at h
   ·exact h
   ·cases h
  refine ⟨.agg (vs.take i.size).toArray,fun w1 ex=>?_,.agg _ _ (by simp [h3]) (fun j c v hc hv=>h4 j c v (tk _ _ _ _ hc) (tk _ _ _ _ (by simpa using hv)))⟩
  have:=mn (P:=P) (aP.h (P:=P) (t:=t)) hD (br.h (P:=P) (t:=t)) (w:=w1) (ad:=ad) (vs:=vs.take i.size) (by simp;omega) (fun j v hv=>by
   obtain ⟨bk,of,sp⟩:=ad
   simp only at h5;subst h5
   rw [nj];exact ex.cell (h7 j v (tk _ _ _ _ hv)))
  simp [execOp,h2,Instr.loadAt,Instr.sureAddr,this])
def ov (cs:List AV) (o:Nat) (new:List AV):List AV:=cs.take o++new++cs.drop (o+new.length)
theorem Ba {w:World} {S:Nat→Prop} {cs new:List AV} {vs rq:Array Value} (o:Nat) (hl:vs.size=cs.length) (h:mR w S cs vs) (x4:new.length=rq.size) (h':mR w S new rq) (ho:o+new.length≤cs.length):
 mR w S (ov cs o new) (vs.toList.take o++rq.toList++vs.toList.drop (o+rq.toList.length)).toArray:=by
 intro i c v hc hv
 simp only [ov,List.getElem?_toArray] at hc hv
 have l1:(cs.take o).length=o:=by simp;omega
 have l2:(vs.toList.take o).length=o:=by simp;omega
 have l3:rq.toList.length=new.length:=by simp [x4]
 rw [List.append_assoc] at hc hv
 by_cases h1:i < o
 ·rw [List.getElem?_append_left (by omega)] at hc hv
  rw [List.getElem?_take,if_pos h1] at hc hv
  exact h i c v hc (by simpa using hv)
 ·rw [List.getElem?_append_right (by omega)] at hc hv
  rw [l1] at hc
  rw [l2] at hv
  by_cases h2:i - o < new.length
  ·rw [List.getElem?_append_left (by omega)] at hc hv
   exact h' (i - o) c v hc (by simpa using hv)
  ·rw [List.getElem?_append_right (by omega)] at hc hv
   rw [l3] at hv
   rw [List.getElem?_drop] at hc hv
   rw [show o+new.length+(i - o - new.length)=i from by omega] at hc
   rw [show o+new.length+(i - o - new.length)=i from by omega] at hv
   exact h i c v hc (by simpa using hv)
theorem EY {t:TypeId} {i:TypeInfo} {x y:Operand} {b:Bk} {o:Nat} {cs:List AV} {av:AV} {cN:Heap} [br P t i] (hx:dm tm x=some (.ptr b o)) (hy:dm tm y=some av) (h1:mL av.cells=true) (jZ:Nat.beq av.cells.length i.size=true)
 (u:nN hp b (.cells cs) b (.cells (ov cs o av.cells)) cN) (ho:Nat.ble (o+av.cells.length) cs.length=true) (kk:ae P all rest ⟨n,tm,cN⟩ Q):ae P all (⟨none,.store t x y,ty,pos,af,none⟩ :: rest) ⟨n,tm,hp⟩ Q:=by
 refine ae.act rfl rfl (aH:=⟨n,tm,cN⟩) (fun w S a r=>?_) kk
 obtain ⟨m,e1,e2⟩:=(bA (σ:=⟨n,tm,hp⟩) r hx).ta
 obtain ⟨g0,m',vs,E,g1,g2,g3,g4⟩:=tU r.hp u.lW
 obtain rfl:m'=m:=by rw [g1] at e1;exact Option.some.inj e1
 have hv:=bA (σ:=⟨n,tm,hp⟩) r hy
 obtain ⟨hl,sV⟩:=tT hv (dG h1)
 have hle:o+av.cells.length≤cs.length:=Nat.le_of_ble_eq_true ho
 have Bb:=ya hl sV (dG h1)
 have xn:=run_storeCells_at (P:=P) m' o E (a.eval y).cells.toList 0 vs w g2 (by simp;omega) Bb
 simp only [Nat.add_zero] at xn
 have CV:(a.eval y).cells.size=i.size:=by rw [← hl];exact Nat.eq_of_beq_eq_true jZ
 have QU:=fun (w':World) (ha:mR w' S cs vs) (hb:mR w' S av.cells (a.eval y).cells)=>Ba o g3 ha hl hb hle
 have NV:(vs.toList.take o++(a.eval y).cells.toList++vs.toList.drop (o+(a.eval y).cells.toList.length)).toArray.size=(ov cs o av.cells).length:=by
  simp [ov];omega
 generalize (vs.toList.take o++(a.eval y).cells.toList++vs.toList.drop (o+(a.eval y).cells.toList.length)).toArray=CW at xn QU NV
 have c:GB w (w.setRow m' CW) b.cu:=⟨⟨rfl,rfl,rfl,by simp,fun k hk sT=>setRow_other w m' k _ (fun e=>sT (by rw [e1,e]))⟩,fun _=>Nat.le_refl _⟩
 have k1:∀ n,S n→S n∧(w.setRow m' CW).heap[n]? =w.heap[n]?:=by
  intro k hk
  refine ⟨hk,setRow_other w m' k _ (fun e=>?_)⟩
  subst e
  exact (r.hp.sep _ u.lW.mem k (ki e1)).1 hk
 have hh:=wC r.hp u c id id ⟨?_,m',CW,E,e1,setRow_heap w m' vs _ E _ g2,NV,QU _ (g4.mono k1) (sV.mono k1)⟩ (.inl rfl)
 ·refine ⟨w.setRow m' CW,S,?_,r.heap hh.2.2 hh.1,hh.2.1⟩
  simp [execOp,e2,Instr.storeAt,Instr.sureAddr,storeVar,sizeOf,typeInfo,br.h (P:=P) (t:=t),CV,xn]
 ·intro c hc
  simp only [ov,List.mem_append] at hc
  rcases hc with (hc | hc) | hc
  ·exact g0 c (List.mem_of_mem_take hc)
  ·exact dG h1 c hc
  ·exact g0 c (List.mem_of_mem_drop hc)
end rules
def JD (xs:List AV) (i:Int):Option AV:=if 0≤i then xs[i.toNat]? else none
theorem Ip {xs:List AV} {i:Int} {x:AV} (h:JD xs i=some x):0≤i∧i < xs.length∧xs[i.toNat]? =some x:=by
 unfold JD at h
 split at h
 ·rename_i h0
  have:=(List.getElem?_eq_some_iff.1 h).1
  exact ⟨h0,by omega,h⟩
 ·cases h
theorem zT {P:Program} {t e:TypeId} {i:TypeInfo} (ht:P.underlying t=some (.slice e)) (hi:P.info? e=some i) (ad:Addr) (len cap:Nat) (k:IntKind) (j:Int) (h0:0≤j) (h1:j < len) (w:World):
 (Instr.indexAt t (.slice (some ad) len cap) (.int k j)).run P w=.ok (.pointer (some (ad.add (j.toNat * i.size)))) w:=by
 simp [Instr.indexAt,asIntOf,run_underlying ht,h0,h1,sizeOf,typeInfo,hi]
section rules
variable {P:Program} {all:Array Oper} {rest:List Oper} {n:Nat} {tm:List (Nat×AV)} {hp:Heap} {Q:St→Prop} {d:Nat} {ty:TypeId} {pos:String} {af:Array Edge}
theorem DO {t e:TypeId} {i:TypeInfo} {x y:Operand} {xs:List AV} {k:IntKind} {j:Int} {av:AV} {sz:Nat} [aP P t (.slice e)] [br P e i] (hx:dm tm x=some (.list sz xs)) (jZ:Nat.beq i.size sz=true) (hy:dm tm y=some (.int k j))
 (hg:JD xs j=some av) (h0:Nat.blt 0 sz=true):QV P ⟨some d,.indexAddr t x y,ty,pos,af,none⟩ ⟨n,tm,hp⟩ (.bR av.cells):=
 (fun w S a r=>by
  obtain rfl:i.size=sz:=Nat.eq_of_beq_eq_true jZ
  obtain ⟨g0,g1,g2⟩:=Ip hg
  obtain ⟨oa,cap,vs,e1,e2,e3,e4,e5,e6⟩:=(bA (σ:=⟨n,tm,hp⟩) r hx).vA
  have vg:0 < i.size:=by simpa using h0
  have sn:av∈xs:=List.mem_of_getElem? g2
  have Hl:=c0 e2
  have Jl:j.toNat < xs.length:=by omega
  have hmul:(j.toNat+1) * i.size≤xs.length * i.size:=Nat.mul_le_mul_right _ (by omega)
  rw [Nat.add_mul,Nat.one_mul] at hmul
  have hb:j.toNat * i.size < vs.length:=by rw [← e3,Hl];omega
  obtain ⟨ad,rfl,NP,hS,_⟩:=e5 (j.toNat * i.size) _ (List.getElem?_eq_getElem hb)
  obtain ⟨bk,of,sp⟩:=ad
  simp only at NP hS
  subst NP
  refine ⟨.pointer (some ⟨bk,of+j.toNat * i.size,none⟩),fun w1 _=>?_,.bR _ _ ((vs.drop (j.toNat * i.size)).take i.size) ?_ ?_ rfl hS ?_⟩
  ·have:=zT (P:=P) (aP.h (P:=P) (t:=t)) (br.h (P:=P) (t:=e)) ⟨bk,of,none⟩ xs.length cap k j g0 g1 w1
   rw [nj] at this
   simp [execOp,e1,(bA (σ:=⟨n,tm,hp⟩) r hy).eG,this]
  ·rw [(e2 av sn).1];simp;omega
  ·intro q c u hc hu
   have hq:q < i.size:=by rw [← (e2 av sn).1];exact (List.getElem?_eq_some_iff.1 hc).1
   have hf:=si e2 g2 q hq
   rw [hc] at hf
   rw [List.getElem?_take,if_pos hq,List.getElem?_drop] at hu
   exact e4 _ c u hf hu
  ·intro q u hu
   rw [List.getElem?_take] at hu
   split at hu
   ·rw [List.getElem?_drop] at hu
    obtain ⟨Uf,h1,h2,h3,h4⟩:=e5 _ u hu
    obtain rfl:=Option.some.inj h1
    simpa [Nat.add_assoc] using h4
   ·cases hu)
theorem Bc {t e:TypeId} {i:TypeInfo} {x y:Operand} {k:IntKind} {j:Int} {sz off len:Nat} {b:Bk} [aP P t (.slice e)] [br P e i] (hx:dm tm x=some (.sl sz b off len)) (jZ:Nat.beq i.size sz=true) (hy:dm tm y=some (.int k j))
 (h0:0≤j∧j < (len:Int)):QV P ⟨some d,.indexAddr t x y,ty,pos,af,none⟩ ⟨n,tm,hp⟩ (.qH sz b (off+j.toNat) 0):=
 (fun w S a r=>by
  obtain rfl:i.size=sz:=Nat.eq_of_beq_eq_true jZ
  obtain ⟨oa,cap,e1,e2⟩:=(bA (σ:=⟨n,tm,hp⟩) r hx).uB
  rcases e2 with ⟨_,_,hl,_⟩ | ⟨m,hb,rfl,h1,h2⟩ | ⟨m,ad,hb,_,hl,_⟩
  ·omega
  ·refine ⟨.pointer (some ⟨m,(off+j.toNat) * i.size+0,none⟩),fun w1 _=>?_,.qH _ _ _ _ m hb⟩
   have:=zT (P:=P) (aP.h (P:=P) (t:=t)) (br.h (P:=P) (t:=e)) ⟨m,off * i.size,none⟩ len cap k j h0.1 h0.2 w1
   rw [nj,← Nat.add_mul] at this
   simp [execOp,e1,(bA (σ:=⟨n,tm,hp⟩) r hy).eG,this]
  ·omega)
theorem se {w:World} {S:Nat→Prop} {hp:Heap} (r:cI w S hp) {b:Bk} {sz:Nat} {xs:List AV} (f:nM hp b (.arr sz xs)∨nM hp b (.x3 sz xs)):(∀ x∈xs,El sz x)∧xs.length≤b.cap∧
 ((b.cu=none∧b.cap=0)∨∃ m vs E,b.cu=some m∧w.heap[m]? =some (.cells vs E (0,0))∧vs.size=b.cap * sz∧mR w S (flat xs) vs):=by
 rcases f with f | f<;>exact r.holds _ f.mem
theorem EZ {t:TypeId} {D:TypeDesc} {x:Operand} {b:Bk} {sz q o:Nat} {xs:List AV} {el av:AV} [aP P t D] (hD:TypeDesc.lp D=false) (hx:dm tm x=some (.qH sz b q o)) (f:nM hp b (.arr sz xs)∨nM hp b (.x3 sz xs))
 (hq:xs[q]? =some el) (ho:el.cells[o]? =some av):QV P ⟨some d,.load t x,ty,pos,af,none⟩ ⟨n,tm,hp⟩ (av):=
 (fun w S a r=>by
  obtain ⟨m,h1,h2⟩:=(bA (σ:=⟨n,tm,hp⟩) r hx).vz
  obtain ⟨g0,g1,⟨g2,_⟩ | ⟨m',vs,E,g2,g3,g4,g5⟩⟩:=se r.hp f
  ·rw [g2] at h1;cases h1
  ·obtain rfl:m'=m:=by rw [g2] at h1;exact Option.some.inj h1
   have zo:=g0 el (List.mem_of_getElem? hq)
   have YJ:o < sz:=by rw [← zo.1];exact (List.getElem?_eq_some_iff.1 ho).1
   have Wn:q < xs.length:=(List.getElem?_eq_some_iff.1 hq).1
   have hf:=si g0 hq o YJ
   rw [ho] at hf
   have hmul:(q+1) * sz≤b.cap * sz:=Nat.mul_le_mul_right _ (by omega)
   rw [Nat.add_mul,Nat.one_mul] at hmul
   have jh:q * sz+o < vs.size:=by omega
   have hv:vs[q * sz+o]? =some vs[q * sz+o]:=by simp [jh]
   refine ⟨vs[q * sz+o],fun w1 ex=>?_,g5 _ av _ hf hv⟩
   have:=oM (P:=P) (aP.h (P:=P) (t:=t)) hD (w:=w1) (ad:=⟨m',q * sz+o,none⟩) (v:=vs[q * sz+o]) (by rw [pn (ex.at g3),hv])
   simp [execOp,h2,Instr.loadAt,Instr.sureAddr,this])
theorem As {t:TypeId} {D:TypeDesc} {i:TypeInfo} {x:Operand} {b:Bk} {sz q:Nat} {xs cs:List AV} [aP P t D] [br P t i] (hD:TypeDesc.lp D=true) (hx:dm tm x=some (.qH sz b q 0)) (f:nM hp b (.arr sz xs)∨nM hp b (.x3 sz xs)) (jZ:Nat.beq i.size sz=true)
 (hq:xs[q]? =some (.agg cs)):QV P ⟨some d,.load t x,ty,pos,af,none⟩ ⟨n,tm,hp⟩ (.agg cs):=
 (fun w S a r=>by
  obtain ⟨m,h1,h2⟩:=(bA (σ:=⟨n,tm,hp⟩) r hx).vz
  obtain ⟨g0,g1,⟨g2,_⟩ | ⟨m',vs,E,g2,g3,g4,g5⟩⟩:=se r.hp f
  ·rw [g2] at h1;cases h1
  ·obtain rfl:m'=m:=by rw [g2] at h1;exact Option.some.inj h1
   have zo:=g0 (.agg cs) (List.mem_of_getElem? hq)
   have Bd:cs.length=sz:=zo.1
   have hi:i.size=sz:=Nat.eq_of_beq_eq_true jZ
   have Wn:q < xs.length:=(List.getElem?_eq_some_iff.1 hq).1
   have hmul:(q+1) * sz≤b.cap * sz:=Nat.mul_le_mul_right _ (by omega)
   rw [Nat.add_mul,Nat.one_mul] at hmul
   have hlen:((vs.toList.drop (q * sz)).take sz).length=i.size:=by simp;omega
   refine ⟨.agg ((vs.toList.drop (q * sz)).take sz).toArray,fun w1 ex=>?_,.agg _ _ (by simp;omega) (fun j c v hc hv=>?_)⟩
   ·have:=mn (P:=P) (aP.h (P:=P) (t:=t)) hD (br.h (P:=P) (t:=t)) (w:=w1) (ad:=⟨m',q * sz+0,none⟩) (vs:=(vs.toList.drop (q * sz)).take sz) hlen (fun j v hv=>by
     rw [nj,pn (ex.at g3)]
     simp only [List.getElem?_take,List.getElem?_drop] at hv
     split at hv
     ·simpa using hv
     ·cases hv)
    simp only [Nat.add_zero] at this
    simp [execOp,h2,Instr.loadAt,Instr.sureAddr,this]
   ·simp only [List.getElem?_toArray,List.getElem?_take,List.getElem?_drop] at hv
    split at hv
    ·rename_i jh
     have hf:=si g0 hq j jh
     rw [show (AV.agg cs).cells=cs from rfl,hc] at hf
     exact g5 _ c v hf (by simpa using hv)
    ·cases hv)
theorem E0 (off:Nat):∀ (l:List Value) (j:Nat) (cs:Array Value),off+j+l.length≤cs.size→
 (l.zipIdx j).foldl (fun (cs:Array Value) (p:Value×Nat)=>cs.setIfInBounds (off+p.2) p.1) cs=(cs.toList.take (off+j)++l++cs.toList.drop (off+j+l.length)).toArray
 | [],j,cs,h=>by simp
 | v :: l,j,cs,h=>by
   simp only [List.length_cons] at h
   rw [List.zipIdx_cons,List.foldl_cons,E0 off l (j+1) _ (by simp;omega)]
   have jh:off+j < cs.size:=by omega
   apply Array.ext'
   simp only [Array.toList_setIfInBounds]
   rw [show off+(j+1)=(off+j)+1 from by omega]
   rw [List.take_add_one,List.take_set_of_le (Nat.le_refl _),List.drop_set_of_lt (by omega)]
   simp [jh,List.append_assoc]
   rw [show off+j+1+l.length=off+j+(l.length+1) from by omega]
theorem CX {place:Nat→Option (Nat×Nat)} {cells:Array Value} {i off size:Nat} {v:Value} {rest:List (Nat×Value)} (hp:place i=some (off,size)) (hs:v.cells.size=size) (ho:off+size≤cells.size):
 Instr.fill place cells ((i,v) :: rest)=Instr.fill place (cells.toList.take off++v.cells.toList++cells.toList.drop (off+v.cells.toList.length)).toArray rest:=by
 rw [Instr.fill,hp]
 simp only
 rw [if_neg (by simp [hs];omega)]
 congr 1
 have:=E0 off v.cells.toList 0 cells (by simp [hs];omega)
 simp only [Nat.add_zero] at this
 rw [← this,← Array.toList_zipIdx,Array.foldl_toList]
def CY (pl:List (Nat×Nat)):List AV→List (Nat×AV)→Option (List AV)
 | cells,[]=>some cells
 | cells,(i,v) :: rest=>match pl[i]? with
   | none=>none
   | some (off,size)=>match Nat.beq v.cells.length size&&Nat.ble (off+v.cells.length) cells.length&&mL v.cells with
     | true=>CY pl (ov cells off v.cells) rest
     | false=>none
def P7 (tm:List (Nat×AV)):List (Nat×Operand)→Option (List (Nat×AV))
 | []=>some []
 | (i,x) :: r=>match dm tm x,P7 tm r with
   | some a,some l=>some ((i,a) :: l)
   | _,_=>none
theorem CZ {w:World} {S:Nat→Prop} {σ:St} {a:Act} (r:dO w S σ a) (pl:List (Nat×Nat)):∀ (parts:List (Nat×Operand)) (l:List (Nat×AV)) (cells xF:List AV) (vs:Array Value),P7 σ.tm parts=some l→CY pl cells l=some xF→
 cells.length=vs.size→mR w S cells vs→(∀ c∈cells,c.one=true)→∃ CW,Instr.fill (pl.toArray[·]?) vs (parts.map fun p=>(p.1,a.eval p.2))=some CW∧xF.length=CW.size∧mR w S xF CW∧∀ c∈xF,c.one=true
 | [],l,cells,xF,vs,h1,h2,h3,h4,h5=>by
   simp only [P7,Option.some.injEq] at h1
   subst h1
   simp only [CY,Option.some.injEq] at h2
   subst h2
   exact ⟨vs,rfl,h3,h4,h5⟩
 | (i,x) :: parts,l,cells,xF,vs,h1,h2,h3,h4,h5=>by
   simp only [P7] at h1
   split at h1
   ·rename_i av l' ha hl
    obtain rfl:=Option.some.inj h1
    simp only [CY] at h2
    split at h2
    ·cases h2
    ·rename_i off size Mh
     split at h2
     ·rename_i hc
      simp only [Bool.and_eq_true] at hc
      obtain ⟨⟨c1,c2⟩,c3⟩:=hc
      have c1:=Nat.eq_of_beq_eq_true c1
      have c2:=Nat.le_of_ble_eq_true c2
      obtain ⟨SK,Jm⟩:=tT (bA r ha) (dG c3)
      have NP:=Ba off h3.symm h4 SK Jm c2
      obtain ⟨CW,g1,g2,g3,g4⟩:=CZ r pl parts l' (ov cells off av.cells) xF _ hl h2 (by simp [ov];omega) NP (by
       intro c hc
       simp only [ov,List.mem_append] at hc
       rcases hc with (hc | hc) | hc
       ·exact h5 c (List.mem_of_mem_take hc)
       ·exact dG c3 c hc
       ·exact h5 c (List.mem_of_mem_drop hc))
      refine ⟨CW,?_,g2,g3,g4⟩
      rw [List.map_cons,CX (off:=off) (size:=size) (by simpa using Mh) (by rw [← SK];exact c1) (by omega)]
      exact g1
     ·cases h2
   ·cases h1
def placesOf (P:Program):List Field→Option (List (Nat×Nat))
 | []=>some []
 | f :: r=>match P.info? f.type,placesOf P r with
   | some i,some l=>some ((f.offset,i.size) :: l)
   | _,_=>none
theorem run_places {P:Program}:∀ (fs:List Field) (pl:List (Nat×Nat)) (w:World),placesOf P fs=some pl→(fs.mapM (fun f=>do pure (f.offset,← sizeOf f.type)):Sem (List (Nat×Nat))).run P w=.ok pl w
 | [],pl,w,h=>by simp [placesOf] at h;subst h;simp
 | f :: fs,pl,w,h=>by
   simp only [placesOf] at h
   split at h
   ·rename_i i l hi hl
    obtain rfl:=Option.some.inj h
    have ih:=run_places fs l w hl
    simp only [List.mapM_cons,Sem.run_bind,sizeOf,typeInfo,hi,run_program,Result.andThen_ok,Sem.run_pure] at ih ⊢
    rw [ih]
    simp
   ·cases h
class lX (P:Program) (t:TypeId) (pl:outParam (List (Nat×Nat))):Prop where
 h:∃ fs,P.underlying t=some (.struct fs)∧placesOf P fs.toList=some pl
theorem Mi {t:TypeId} {i:TypeInfo} {z:Value} {parts:List (Nat×Operand)} {l:List (Nat×AV)} {cs:List AV} {pl:List (Nat×Nat)} [br P t i] [lX P t pl] (hz:i.zero=some z) (hl:P7 tm parts=some l) (h1:mL (CU z).cells=true)
 (hc:CY pl (CU z).cells l=some cs):QV P ⟨some d,.build t parts.toArray,ty,pos,af,none⟩ ⟨n,tm,hp⟩ (.agg cs):=
 (fun w S a r=>by
  obtain ⟨z1,z2⟩:=rJ w S z (dG h1)
  obtain ⟨vs,g1,g2,g3,g4⟩:=CZ (σ:=⟨n,tm,hp⟩) r pl parts l _ _ _ hl hc z1 z2 (dG h1)
  refine ⟨.agg vs,fun w1 _=>?_,.agg _ _ g2 g3⟩
  obtain ⟨fs,hu,Mh⟩:=lX.h (P:=P) (t:=t)
  have SL:=run_places fs.toList pl w1 Mh
  have Mj:(fs.mapM (fun f=>do pure (f.offset,← sizeOf f.type)):Sem (Array (Nat×Nat))).run P w1=.ok pl.toArray w1:=by
   have:(fs.mapM (fun f=>do pure (f.offset,← sizeOf f.type)):Sem (Array (Nat×Nat)))=Functor.map List.toArray (fs.toList.mapM (fun f=>do pure (f.offset,← sizeOf f.type))):=by
    rw [← List.mapM_toArray]
   rw [this,Sem.run_map,SL]
   rfl
  simp only [execOp,Instr.build,Sem.run_bind,zeroValue,typeInfo,run_program,Result.andThen_ok,br.h (P:=P) (t:=t),hz,Sem.run_pure,run_underlying hu,Mj]
  have:((parts.toArray.map fun p=>(p.1,a.eval p.2))).toList=parts.map fun p=>(p.1,a.eval p.2):=by simp
  simp only [this,g1,Sem.run_pure,Result.andThen_ok])
end rules
def QW (sz:Nat) (x:AV):Bool:=Nat.beq x.cells.length sz&&mL x.cells
def zU (sz:Nat):List AV→Bool
 | []=>true
 | x :: r=>QW sz x&&zU sz r
theorem E1 {sz:Nat} {x:AV} (h:QW sz x=true):El sz x:=by
 simp only [QW,Bool.and_eq_true] at h
 exact ⟨Nat.eq_of_beq_eq_true h.1,dG h.2⟩
theorem qh {sz:Nat}:∀ {xs:List AV},zU sz xs=true→∀ x∈xs,El sz x
 | [],_,x,hx=>by simp at hx
 | y :: r,h,x,hx=>by
   simp only [zU,Bool.and_eq_true] at h
   rcases List.mem_cons.1 hx with rfl | hx
   ·exact E1 h.1
   ·exact qh h.2 x hx
def Jn (tm:List (Nat×AV)):List (Nat×Operand)→Nat→Option (List AV)
 | [],_=>some []
 | (i,x) :: r,k=>match Nat.beq i k,dm tm x,Jn tm r (k+1) with
   | true,some a,some l=>some (a :: l)
   | _,_,_=>none
theorem vG {w:World} {S:Nat→Prop} {cs ds:List AV} {us vs:List Value} (hl:cs.length=us.length) (h1:mR w S cs us.toArray) (h2:mR w S ds vs.toArray):mR w S (cs++ds) (us++vs).toArray:=by
 intro i c v hc hv
 simp only [List.getElem?_toArray] at hv
 by_cases hi:i < cs.length
 ·rw [List.getElem?_append_left hi] at hc
  rw [List.getElem?_append_left (by omega)] at hv
  exact h1 i c v hc (by simpa using hv)
 ·rw [List.getElem?_append_right (by omega)] at hc
  rw [List.getElem?_append_right (by omega),← hl] at hv
  exact h2 _ c v hc (by simpa using hv)
theorem Be {w:World} {S:Nat→Prop} {σ:St} {a:Act} (r:dO w S σ a) (size:Nat):∀ (parts:List (Nat×Operand)) (k:Nat) (xs:List AV) (cells:Array Value),Jn σ.tm parts k=some xs→(∀ x∈xs,El size x)→cells.size=(k+parts.length) * size→
 ∃ vs:List Value,Instr.fill (fun i=>some (i * size,size)) cells (parts.map fun p=>(p.1,a.eval p.2))=some (cells.toList.take (k * size)++vs).toArray∧vs.length=xs.length * size∧xs.length=parts.length∧mR w S (flat xs) vs.toArray
 | [],k,xs,cells,h1,h2,h3=>by
   simp only [Jn,Option.some.injEq] at h1
   subst h1
   refine ⟨[],?_,by simp,rfl,fun i c v hc=>by simp [flat] at hc⟩
   simp only [List.length_nil,Nat.add_zero] at h3
   simp only [Instr.fill,List.map_nil,← h3,Option.some.injEq,List.append_nil]
   rw [List.take_of_length_le (by simp)]
 | (i,x) :: parts,k,xs,cells,h1,h2,h3=>by
   simp only [Jn] at h1
   split at h1
   ·rename_i av l hi ha hl
    obtain rfl:i=k:=Nat.eq_of_beq_eq_true hi
    obtain rfl:=Option.some.inj h1
    have zo:=h2 av (by simp)
    obtain ⟨c1,c2⟩:=tT (bA r ha) zo.2
    simp only [List.length_cons] at h3
    have jZ:(a.eval x).cells.size=size:=by rw [← c1];exact zo.1
    have e1:(i+(parts.length+1)) * size=i * size+size+parts.length * size:=by rw [Nat.add_mul,Nat.add_mul,Nat.one_mul];omega
    have hle:i * size+size≤cells.size:=by rw [h3,e1];omega
    obtain ⟨vs,g1,g2,g3,g4⟩:=Be r size parts (i+1) l (cells.toList.take (i * size)++(a.eval x).cells.toList++cells.toList.drop (i * size+(a.eval x).cells.toList.length)).toArray hl (fun y hy=>h2 y (by simp [hy])) (by
     simp [jZ];rw [show i+1+parts.length=i+(parts.length+1) from by omega,e1];omega)
    refine ⟨(a.eval x).cells.toList++vs,?_,?_,by simp [g3],?_⟩
    ·rw [List.map_cons,CX (off:=i * size) (size:=size) rfl jZ hle,g1]
     congr 2
     have l1:(cells.toList.take (i * size)).length=i * size:=by simp;omega
     have l2:(a.eval x).cells.toList.length=size:=by simp [jZ]
     rw [← List.append_assoc]
     congr 1
     rw [show (i+1) * size=(cells.toList.take (i * size)++(a.eval x).cells.toList).length from by rw [List.length_append,l1,l2,Nat.add_mul,Nat.one_mul]]
     exact List.take_left
    ·simp [g2,jZ,Nat.add_mul];omega
    ·rw [gI]
     exact vG (by simpa using c1) (by simpa using c2) g4
   ·cases h1
section rules
variable {P:Program} {all:Array Oper} {rest:List Oper} {n:Nat} {tm:List (Nat×AV)} {hp:Heap} {Q:St→Prop} {d:Nat} {ty:TypeId} {pos:String} {af:Array Edge}
theorem uD {P:Program} (w:World) (E:TypeId) (vs:Array Value):(newRow E vs).run P w=.ok ⟨w.heap.size,0,none⟩ (w.alloc (.cells vs E)):=by simp [newRow]
theorem yb {t e:TypeId} {i:TypeInfo} {z:Value} {len:Nat} {parts:List (Nat×Operand)} {xs:List AV} [aP P t (.slice e)] [br P e i] (hz:i.zero=some z) (hl:Jn tm parts 0=some xs) (hlen:Nat.beq parts.length len=true) (zo:zU i.size xs=true)
 (JE:Nat.ble (len * i.size) 16777216=true) (hn:Nat.blt d n=true) (kk:∀ b:Bk,ae P all rest ⟨n,(d,.sl i.size b 0 len) :: tm,(b,.arr i.size xs) :: hp⟩ Q):ae P all (⟨some d,.buildSlice t len parts.toArray,ty,pos,af,none⟩ :: rest) ⟨n,tm,hp⟩ Q:=by
 refine ae.NR rfl fun w S a r=>?_
 obtain rfl:parts.length=len:=Nat.eq_of_beq_eq_true hlen
 have JE:=Nat.le_of_ble_eq_true JE
 obtain ⟨zz,Mk⟩:∃ zz:Array Value,zz=if parts.length * i.size=0 then #[] else z.cells:=⟨_,rfl⟩
 obtain ⟨vs,g1,g2,g3,g4⟩:=Be (σ:=⟨n,tm,hp⟩) r i.size parts 0 xs ((Array.range (parts.length * i.size)).map (zz[· % zz.size]!)) hl (qh zo) (by simp)
 simp only [Nat.zero_mul,List.take_zero,List.nil_append] at g1
 have e0:=Ext.alloc w (.cells vs.toArray e)
 have hh:Holds (w.alloc (.cells vs.toArray e)) S ⟨some w.heap.size,parts.length⟩ (.arr i.size xs):=by
  refine ⟨qh zo,by simp [g3],.inr ⟨w.heap.size,vs.toArray,e,rfl,?_,by simp [g2,g3],g4.mono fun m hm=>⟨hm,e0.same m (r.hp.slt m hm)⟩⟩⟩
  show (w.heap.push _)[w.heap.size]? =_
  simp
 obtain ⟨k1,k2,k3⟩:=uC r.hp e0 id hh (.inr ⟨_,rfl,Nat.le_refl _⟩)
 refine ⟨.slice (some ⟨w.heap.size,0,none⟩) parts.length parts.length,w.alloc (.cells vs.toArray e),S,_,?_,(r.heap k3 k1).put hn ?_,k2,kk ⟨some w.heap.size,parts.length⟩⟩
 ·have hm:((parts.toArray.map fun p=>(p.1,a.eval p.2))).toList=parts.map fun p=>(p.1,a.eval p.2):=by simp
  simp only [execOp,Instr.buildSlice,Sem.run_bind,run_underlying (aP.h (P:=P) (t:=t)),Result.andThen_ok,sizeOf,typeInfo,run_program,br.h (P:=P) (t:=e),Sem.run_pure]
  rw [if_neg (by omega)]
  by_cases h0:parts.length * i.size=0
  ·rw [if_pos h0] at Mk ⊢
   subst Mk
   simp only [Sem.run_bind,Result.andThen_ok,Sem.run_pure,hm,g1,uD]
  ·rw [if_neg h0] at Mk ⊢
   subst Mk
   simp only [Sem.run_bind,Result.andThen_ok,Sem.run_pure,zeroValue,typeInfo,run_program,br.h (P:=P) (t:=e),hz,hm,g1,uD]
 ·have:=At.sl (w:=w.alloc (.cells vs.toArray e)) (S:=S) i.size ⟨some w.heap.size,parts.length⟩ 0 parts.length w.heap.size parts.length rfl (Nat.le_refl _) (by simp)
  simpa using this
def Ml (w:World) (S:Nat→Prop) (sz:Nat) (ys:List AV) (v:Value):Prop:=
 (∀ y∈ys,El sz y)∧∃ (a:Option Addr) (c:Nat) (rq:List Value),v=.slice a ys.length c∧rq.length=ys.length * sz∧mR w S (flat ys) rq.toArray∧∀ (i:Nat) u,rq[i]? =some u→∃ ad,a=some ad∧w.cell? (ad.add i)=some u
inductive Src (hp:Heap) (sz:Nat):AV→List AV→Prop
 | nil:Src hp sz .nil []
 | list (ys:List AV):Src hp sz (.list sz ys) ys
 | whole (b:Bk) (len:Nat) (xs:List AV) (f:nM hp b (.arr sz xs)∨nM hp b (.x3 sz xs)) (h:len=xs.length):Src hp sz (.sl sz b 0 len) xs
 | part (b:Bk) (off len:Nat) (xs:List AV) (f:nM hp b (.arr sz xs)∨nM hp b (.x3 sz xs)) (h:off+len≤xs.length):Src hp sz (.sl sz b off len) ((xs.drop off).take len)
theorem wD {sz:Nat}:∀ (xs:List AV) (k:Nat),(∀ x∈xs,El sz x)→flat (xs.drop k)=(flat xs).drop (k * sz)
 | xs,0,_=>by simp
 | [],k+1,_=>by simp [flat]
 | x :: xs,k+1,h=>by
   rw [List.drop_succ_cons,wD xs k (fun y hy=>h y (by simp [hy])),gI,Nat.add_mul,Nat.one_mul,Nat.add_comm (k * sz),← List.drop_drop]
   rw [List.drop_left' ((h x (by simp)).1)]
theorem wE {sz:Nat}:∀ (xs:List AV) (k:Nat),(∀ x∈xs,El sz x)→flat (xs.take k)=(flat xs).take (k * sz)
 | xs,0,_=>by simp [flat]
 | [],k+1,_=>by simp [flat]
 | x :: xs,k+1,h=>by
   rw [List.take_succ_cons,gI,wE xs k (fun y hy=>h y (by simp [hy])),gI,Nat.add_mul,Nat.one_mul,Nat.add_comm (k * sz)]
   have hx:=(h x (by simp)).1
   rw [List.take_append,List.take_of_length_le (l:=x.cells) (by omega),hx,Nat.add_sub_cancel_left]
theorem C0 {w:World} {S:Nat→Prop} {hp:Heap} (r:cI w S hp) {b:Bk} {sz off len:Nat} {xs:List AV} {v:Value} (f:nM hp b (.arr sz xs)∨nM hp b (.x3 sz xs)) (hle:off+len≤xs.length) (h:At w S (.sl sz b off len) v):
 Ml w S sz ((xs.drop off).take len) v:=by
 obtain ⟨g0,g1,g2⟩:=se r f
 have oy:∀ y∈(xs.drop off).take len,El sz y:=fun y hy=>g0 y (List.mem_of_mem_drop (List.mem_of_mem_take hy))
 have hlen:((xs.drop off).take len).length=len:=by simp;omega
 obtain ⟨oa,cap,e1,e2⟩:=h.uB
 refine ⟨oy,?_⟩
 rw [hlen,e1]
 rcases e2 with ⟨_,_,hl,ha,hc⟩ | ⟨m,hb,ha,h1,h2⟩ | ⟨m,ad,hb,ha,hl,hc⟩
 ·subst hl
  exact ⟨oa,cap,[],rfl,by simp,fun i c v hc hv=>by simp at hv,fun i u hu=>by simp at hu⟩
 ·rcases g2 with ⟨g2,_⟩ | ⟨m',vs,E,g2,g3,g4,g5⟩
  ·rw [g2] at hb;cases hb
  ·obtain rfl:m'=m:=by rw [g2] at hb;exact Option.some.inj hb
   subst ha
   have Mm:(off+len) * sz≤b.cap * sz:=Nat.mul_le_mul_right _ (by omega)
   rw [Nat.add_mul] at Mm
   refine ⟨_,cap,(vs.toList.drop (off * sz)).take (len * sz),rfl,by simp;omega,?_,?_⟩
   ·rw [wE _ _ (fun y hy=>g0 y (List.mem_of_mem_drop hy)),wD _ _ g0]
    intro i c v hc hv
    simp only [List.getElem?_toArray,List.getElem?_take,List.getElem?_drop] at hc hv
    split at hv
    ·rename_i jh
     rw [if_pos jh] at hc
     exact g5 _ c v hc (by simpa using hv)
    ·cases hv
   ·intro i u hu
    refine ⟨_,rfl,?_⟩
    rw [nj,pn g3]
    simp only [List.getElem?_take,List.getElem?_drop] at hu
    split at hu
    ·simpa using hu
    ·cases hu
 ·subst hl
  exact ⟨oa,cap,[],rfl,by simp,fun i c v hc hv=>by simp at hv,fun i u hu=>by simp at hu⟩
theorem Src.at {w:World} {S:Nat→Prop} {hp:Heap} {sz:Nat} {av:AV} {ys:List AV} {v:Value} (s:Src hp sz av ys) (r:cI w S hp) (h:At w S av v):Ml w S sz ys v:=by
 cases s with
 | nil=>exact ⟨by simp,none,0,[],h.DL,by simp,fun i c v hc hv=>by simp at hv,fun i u hu=>by simp at hu⟩
 | list ys=>
   obtain ⟨a,cap,vs,e1,e2,e3,e4,e5,e6⟩:=h.vA
   refine ⟨e2,a,cap,vs,e1,by rw [← e3,c0 e2],fun i c v hc hv=>e4 i c v hc (by simpa using hv),fun i u hu=>?_⟩
   obtain ⟨ad,h1,h2,h3,h4⟩:=e5 i u hu
   refine ⟨ad,h1,?_⟩
   obtain ⟨bk,of,sp⟩:=ad
   simp only at h2;subst h2
   rw [nj];exact h4
 | whole b len xs f hl=>
   subst hl
   have:=C0 r (off:=0) (len:=ys.length) f (by omega) h
   simpa using this
 | part b off len xs f hle=>exact C0 r f hle h
theorem Au {P:Program} {t e:TypeId} {i:TypeInfo} (ht:P.underlying t=some (.slice e)) (hi:P.info? e=some i) (ob a:Option Addr) (Bf Gx c:Nat) (h:Bf≤Gx) (w:World):
 (Builtin.append_ #[t,t] ty #[.slice ob Bf Gx,.slice a 0 c]).run P w=.ok (.slice ob Bf Gx) w:=by
 cases a<;>cases ob<;>simp [Builtin.append_,run_underlying ht,sizeOf,typeInfo,hi,Builtin.lenOf,h,Builtin.firstCells,loadCells,loadCellsFrom,storeCells]
theorem Cz {P:Program} {t e E:TypeId} {i:TypeInfo} {w:World} (ht:P.underlying t=some (.slice e)) (hi:P.info? e=some i) (g Bf Gx:Nat) (cur:Array Value) (hg:w.heap[g]? =some (.cells cur E (0,0)))
 (a:Addr) (m c:Nat) (news:List Value) (hl:news.length=m * i.size) (QX:∀ (j:Nat) u,news[j]? =some u→w.cell? (a.add j)=some u) (h1:∀ u∈news,u.oneCell'=true)
 (Hm:Bf+m≤Gx) (OH:Bf * i.size+news.length≤cur.size):
 (Builtin.append_ #[t,t] ty #[.slice (some ⟨g,0,none⟩) Bf Gx,.slice (some a) m c]).run P w=
  .ok (.slice (some ⟨g,0,none⟩) (Bf+m) Gx) (w.setRow g (cur.toList.take (Bf * i.size)++news++cur.toList.drop (Bf * i.size+news.length)).toArray):=by
 have hf:=run_firstCells_some (P:=P) w i.size m a m c news hl QX
 have xn:=run_storeCells_at P g (Bf * i.size) E news 0 cur w hg (by simpa using OH) h1
 simp only [Nat.add_zero] at xn
 simp [Builtin.append_,run_underlying ht,sizeOf,typeInfo,hi,Builtin.lenOf,Hm,hf,Addr.add_lit,xn]
theorem Gy {w:World} {S:Nat→Prop} {hp:Heap} {t e:TypeId} {i:TypeInfo} {z:Value} {b:Bk} {xs ys:List AV} {v1 v2:Value} (r:cI w S hp) (ht:P.underlying t=some (.slice e)) (hi:P.info? e=some i) (hz:i.zero=some z) (Iq:z.cells.size=i.size) (h0:0 < i.size)
 (f:nM hp b (.arr i.size xs)) (SN:At w S (.sl i.size b 0 xs.length) v1) (hs:Ml w S i.size ys v2) (hb:(xs.length+ys.length) * i.bytes≤140737488355328) (SO:xs.length+ys.length≤9223372036854775807):
 ∃ v' w' b',(Builtin.append_ #[t,t] ty #[v1,v2]).run P w=.ok v' w'∧At w' S (.sl i.size b' 0 (xs.length+ys.length)) v'∧GB w w' b.cu∧Holds w' S b' (.arr i.size (xs++ys))∧
   (b'.cu=b.cu∨b'.cu=none∨∃ m,b'.cu=some m∧w.heap.size≤m):=by
 obtain ⟨k0,a,c,rq,rfl,k1,k2,k3⟩:=hs
 have hold:=r.holds _ f.mem
 obtain ⟨g0,g1,g2⟩:=se r (.inl f)
 obtain ⟨oa,cap,rfl,e2⟩:=SN.uB
 by_cases hy:ys=[]
 ·subst hy
  have hle:xs.length≤cap:=by
   rcases e2 with ⟨_,_,hl,_,_⟩ | ⟨m,Ar,ha,h1,h2⟩ | ⟨m,ad,Ar,ha,hl,hc⟩<;>omega
  refine ⟨_,w,b,Au ht hi oa a xs.length cap c hle w,by simpa using SN,⟨⟨rfl,rfl,rfl,Nat.le_refl _,fun _ _ _=>rfl⟩,fun _=>Nat.le_refl _⟩,by simpa using hold,.inl rfl⟩
 ·have hm:0 < ys.length:=List.length_pos_iff.2 hy
  have P8:0 < rq.length:=by rw [k1];exact Nat.mul_pos hm h0
  obtain ⟨ad,rfl,_⟩:=k3 0 rq[0] (by simp [P8])
  have SP:∀ (j:Nat) u,rq[j]? =some u→w.cell? (ad.add j)=some u:=fun j u hu=>by
   obtain ⟨Uf,h1,h2⟩:=k3 j u hu
   obtain rfl:=Option.some.inj h1
   exact h2
  have Bb:∀ u∈rq,u.oneCell'=true:=ya (cs:=flat ys) (vs:=rq.toArray) (by simp [k1,c0 k0]) k2 (Jx k0)
  have tD:∀ x∈xs++ys,El i.size x:=fun x hx=>by rcases List.mem_append.1 hx with h | h;exact g0 x h;exact k0 x h
  have grown:∀ (old:Nat) (Av:List Value) (wr:Option Nat),Av.length=xs.length * i.size→mR w S (flat xs) Av.toArray→
   At (w.drew.alloc (.cells (Av.toArray++rq.toArray++Builtin.zeroCells z.cells (grownCap w (xs.length+ys.length) old e - (xs.length+ys.length))) e)) S (.sl i.size ⟨some w.heap.size,grownCap w (xs.length+ys.length) old e⟩ 0 (xs.length+ys.length))
    (.slice (some ⟨w.heap.size,0,none⟩) (xs.length+ys.length) (grownCap w (xs.length+ys.length) old e))∧
   GB w (w.drew.alloc (.cells (Av.toArray++rq.toArray++Builtin.zeroCells z.cells (grownCap w (xs.length+ys.length) old e - (xs.length+ys.length))) e)) wr∧
   Holds (w.drew.alloc (.cells (Av.toArray++rq.toArray++Builtin.zeroCells z.cells (grownCap w (xs.length+ys.length) old e - (xs.length+ys.length))) e)) S ⟨some w.heap.size,grownCap w (xs.length+ys.length) old e⟩ (.arr i.size (xs++ys)):=by
   intro old Av wr Ug YK
   have Uh:=grownCap_ge w (xs.length+ys.length) old e
   have ex:Ext w (w.drew.alloc (.cells (Av.toArray++rq.toArray++Builtin.zeroCells z.cells (grownCap w (xs.length+ys.length) old e - (xs.length+ys.length))) e)):=(Ext.Jy w _ (Nat.le_succ _)).trans (Ext.alloc w.drew _)
   generalize grownCap w (xs.length+ys.length) old e=cp at *
   refine ⟨?_,⟨⟨ex.os,ex.tape,ex.output,ex.size,fun k hk _=>ex.same k hk⟩,ex.drawn⟩,tD,by simpa using Uh,.inr ⟨w.heap.size,Av.toArray++rq.toArray++Builtin.zeroCells z.cells (cp - (xs.length+ys.length)),e,rfl,?_,?_,?_⟩⟩
   ·have:=At.sl (w:=w.drew.alloc (.cells (Av.toArray++rq.toArray++Builtin.zeroCells z.cells (cp - (xs.length+ys.length))) e)) (S:=S) i.size ⟨some w.heap.size,cp⟩ 0 (xs.length+ys.length) w.heap.size cp rfl Uh (by simp)
    simpa using this
   ·show (w.heap.push _)[w.heap.size]? =_
    simp
   ·simp only [Array.size_append,List.size_toArray,size_zeroCells,Iq,Ug,k1]
    rw [← Nat.add_mul,← Nat.add_mul]
    congr 1
    omega
   ·rw [sZ]
    have h2:mR w S (flat xs++flat ys) (Av++rq).toArray:=vG (by rw [c0 g0,Ug]) YK k2
    intro j c' u hc hu
    have hj:j < (Av++rq).length:=by
     have:=(List.getElem?_eq_some_iff.1 hc).1
     simp only [List.length_append,c0 g0,c0 k0] at this
     simp only [List.length_append,Ug,k1]
     exact this
    have YL:(Av++rq).toArray[j]? =some u:=by
     rw [Array.getElem?_append_left (by simpa using hj)] at hu
     simpa using hu
    exact (h2 j c' u hc YL).mono fun m Wo=>⟨Wo,ex.same m (r.slt m Wo)⟩
  rcases e2 with ⟨hbn,_,hl,rfl,rfl⟩ | ⟨m,Mn,rfl,h1,h2⟩ | ⟨m,Uf,Mn,rfl,hl,rfl⟩
  ·have hx:xs=[]:=List.eq_nil_of_length_eq_zero hl
   subst hx
   have hr:=run_append_nil (P:=P) (ty:=ty) w t e i z ht hi hz ad ys.length c rq k1 SP hm (by simp at SO;omega) (by simp only [List.length_nil,Nat.zero_add] at hb;omega)
   obtain ⟨q1,q2,q3⟩:=grown 0 [] b.cu (by simp) (fun j c' u hc=>by simp [flat] at hc)
   simp only [List.length_nil,Nat.zero_add,Array.empty_append] at q1 q2 q3 ⊢
   exact ⟨_,_,_,hr,q1,q2,q3,.inr (.inr ⟨_,rfl,Nat.le_refl _⟩)⟩
  ·rcases g2 with ⟨g2,_⟩ | ⟨m',vs,E,g2,g3,g4,g5⟩
   ·rw [g2] at Mn;cases Mn
   ·obtain rfl:m'=m:=by rw [g2] at Mn;exact Option.some.inj Mn
    simp only [Nat.zero_mul,Nat.zero_add] at *
    by_cases Hm:xs.length+ys.length≤cap
    ·have hmul:(xs.length+ys.length) * i.size≤b.cap * i.size:=Nat.mul_le_mul_right _ (by omega)
     have OH:xs.length * i.size+rq.length≤vs.size:=by rw [k1,← Nat.add_mul,g4];exact hmul
     have hr:=Cz (P:=P) (ty:=ty) ht hi m' xs.length cap vs g3 ad ys.length c rq k1 SP Bb Hm OH
     have nS:¬ S m':=fun hs=>(r.sep _ f.mem m' (ki Mn)).1 hs
     have ex:∀ k,S k→S k∧(w.setRow m' (vs.toList.take (xs.length * i.size)++rq++vs.toList.drop (xs.length * i.size+rq.length)).toArray).heap[k]? =w.heap[k]?:=fun k hk=>⟨hk,setRow_other w m' k _ (fun e=>nS (e▸hk))⟩
     refine ⟨_,_,b,hr,?_,⟨⟨rfl,rfl,rfl,by simp,fun k _ hk=>setRow_other w m' k _ (fun e=>hk (by rw [Mn,e]))⟩,fun _=>Nat.le_refl _⟩,⟨tD,by simp;omega,.inr ⟨m',(vs.toList.take (xs.length * i.size)++rq++vs.toList.drop (xs.length * i.size+rq.length)).toArray,E,Mn,setRow_heap w m' vs _ E _ g3,?_,?_⟩⟩,.inl rfl⟩
     ·have:=At.sl (w:=w.setRow m' (vs.toList.take (xs.length * i.size)++rq++vs.toList.drop (xs.length * i.size+rq.length)).toArray) (S:=S) i.size b 0 (xs.length+ys.length) m' cap Mn Hm (by omega)
      simpa using this
     ·simp;omega
     ·rw [sZ]
      have hA:mR w S (flat xs++flat ys) (vs.toList.take (xs.length * i.size)++rq).toArray:=vG (by simp [c0 g0];omega) (fun j c' u hc hu=>by
       simp only [List.getElem?_toArray,List.getElem?_take] at hu
       split at hu
       ·exact g5 j c' u hc (by simpa using hu)
       ·cases hu) k2
      intro j c' u hc hu
      have hj:j < (vs.toList.take (xs.length * i.size)++rq).length:=by
       have:=(List.getElem?_eq_some_iff.1 hc).1
       simp only [List.length_append,c0 g0,c0 k0] at this
       simp;omega
      simp only [List.getElem?_toArray] at hu
      rw [List.getElem?_append_left hj] at hu
      exact (hA j c' u hc (by simpa using hu)).mono ex
    ·have hr:=run_append_grow (P:=P) (ty:=ty) w t e i z ht hi hz ⟨m',0,none⟩ xs.length cap (vs.toList.take (xs.length * i.size)) (by
      have:=Nat.mul_le_mul_right i.size g1
      simp;omega) (fun j u hu=>by
       rw [nj,Nat.zero_add,pn g3]
       rw [List.getElem?_take] at hu
       split at hu
       ·simpa using hu
       ·cases hu) ad ys.length c rq k1 SP (by omega) (by omega) (growslice_fits (by omega) hb)
     obtain ⟨q1,q2,q3⟩:=grown cap (vs.toList.take (xs.length * i.size)) b.cu (by
      have:=Nat.mul_le_mul_right i.size g1
      simp;omega) (fun j c' u hc hu=>by
       simp only [List.getElem?_toArray,List.getElem?_take] at hu
       split at hu
       ·exact g5 j c' u hc (by simpa using hu)
       ·cases hu)
     exact ⟨_,_,_,hr,q1,q2,q3,.inr (.inr ⟨_,rfl,Nat.le_refl _⟩)⟩
  ·have hx:xs=[]:=List.eq_nil_of_length_eq_zero hl
   subst hx
   have hr:=run_append_grow (P:=P) (ty:=ty) w t e i z ht hi hz Uf 0 0 [] (by simp) (fun j u hu=>by simp at hu) ad ys.length c rq k1 SP (by omega) (by simp at SO;omega) (growslice_fits (by omega) (by simpa using hb))
   obtain ⟨q1,q2,q3⟩:=grown 0 [] b.cu (by simp) (fun j c' u hc=>by simp [flat] at hc)
   simp only [List.length_nil,Nat.zero_add] at q1 q2 q3 hr ⊢
   exact ⟨_,_,_,hr,q1,q2,q3,.inr (.inr ⟨_,rfl,Nat.le_refl _⟩)⟩
theorem JF {t e:TypeId} {i:TypeInfo} {z:Value} {x y:Operand} {src:AV} {b:Bk} {len sz:Nat} {xs ys:List AV} {cN:Bk→Heap} [aP P t (.slice e)] [br P e i] (hx:dm tm x=some (.sl sz b 0 len)) (hy:dm tm y=some src) (hz:i.zero=some z)
 (Iq:Nat.beq z.cells.size i.size=true) (jZ:Nat.beq i.size sz=true) (h0:Nat.blt 0 sz=true) (hn:Nat.blt d n=true) (hs:Src hp sz src ys) (u:∀ b',nN hp b (.arr sz xs) b' (.arr sz (xs++ys)) (cN b')) (hlen:len=xs.length)
 (hb:(xs.length+ys.length) * i.bytes≤140737488355328) (SO:xs.length+ys.length≤9223372036854775807)
 (kk:∀ b':Bk,ae P all rest ⟨n,(d,.sl sz b' 0 (len+ys.length)) :: tm,cN b'⟩ Q):ae P all (⟨some d,.call {callee:=.builtin .append,args:=#[x,y],argTypes:=#[t,t]},ty,pos,af,none⟩ :: rest) ⟨n,tm,hp⟩ Q:=by
 refine ae.NR rfl fun w S a r=>?_
 subst hlen
 obtain rfl:i.size=sz:=Nat.eq_of_beq_eq_true jZ
 obtain ⟨v',w',b',g1,g2,g3,g4,g5⟩:=Gy (P:=P) (ty:=ty) r.hp (aP.h (P:=P) (t:=t)) (br.h (P:=P) (t:=e)) hz (Nat.eq_of_beq_eq_true Iq) (by simpa using h0) (u b).lW (bA (σ:=⟨n,tm,hp⟩) r hx) (hs.at r.hp (bA (σ:=⟨n,tm,hp⟩) r hy)) hb SO
 obtain ⟨k1,k2,k3⟩:=wC r.hp (u b') g3 id id g4 g5
 refine ⟨v',w',S,_,?_,(r.heap k3 k1).put hn g2,k2,kk b'⟩
 simp [execOp,resolve,invoke,builtin,g1]
end rules
def aj (σ:St) (T:St→Prop):Prop:=∀ w S a,dO w S σ a→∃ aH S',T aH∧dO w S' aH a∧k9 w S σ.hp w S' aH.hp
theorem aj.here {σ:St} {T:St→Prop} (h:T σ):aj σ T:=fun w S a r=>⟨σ,S,h,r,k9.refl _ _ _⟩
theorem aj.step {σ Aq:St} {T:St→Prop} (h:aj σ (· =Aq)) (k:aj Aq T):aj σ T:=by
 intro w S a r
 obtain ⟨aH,S',rfl,r',e⟩:=h w S a r
 obtain ⟨Hi,S2,h2,r2,e2⟩:=k w S' a r'
 exact ⟨Hi,S2,h2,r2,e.trans e2⟩
theorem aj.mono {σ:St} {T T':St→Prop} (h:aj σ T) (ht:∀ σ,T σ→T' σ):aj σ T':=fun w S a r=>
 let ⟨aH,S',h1,h2,h3⟩:=h w S a r
 ⟨aH,S',ht _ h1,h2,h3⟩
def C1 (tm:List (Nat×AV)):List (Nat×AV)→Prop
 | []=>True
 | (s,av) :: r=>lk tm s=some av∧C1 tm r
theorem C1.lk {tm:List (Nat×AV)}:∀ {qj:List (Nat×AV)},C1 tm qj→∀ s av,Eng.lk qj s=some av→Eng.lk tm s=some av
 | [],_,s,av,h=>by simp [Eng.lk] at h
 | (k,v) :: r,h,s,av,hh=>by
   simp only [Eng.lk] at hh
   split at hh
   ·rename_i hb
    obtain rfl:k=s:=by simpa using hb
    obtain rfl:=Option.some.inj hh
    exact h.1
   ·exact C1.lk h.2 s av hh
theorem aj.arr {n s:Nat} {tm:List (Nat×AV)} {hp:Heap} {T:St→Prop} (sz:Nat) (hs:lk tm s=some .nil) (k:∀ b,aj ⟨n,(s,.sl sz b 0 0) :: tm,(b,.arr sz []) :: hp⟩ T):aj ⟨n,tm,hp⟩ T:=by
 refine aj.step (Aq:=⟨n,(s,.sl sz ⟨none,0⟩ 0 0) :: tm,(⟨none,0⟩,.arr sz []) :: hp⟩) (fun w S a r=>?_) (k ⟨none,0⟩)
 obtain ⟨g1,g2,g3⟩:=uC (b:=⟨none,0⟩) (o:=.arr sz []) r.hp (Ext.refl w) id ⟨by simp,by simp,.inl ⟨rfl,rfl⟩⟩ (.inl rfl)
 refine ⟨_,S,rfl,⟨r.size,r.defers,fun t av h=>?_,g1⟩,g2⟩
 simp only [lk] at h
 split at h
 ·rename_i hb
  obtain rfl:s=t:=by simpa using hb
  obtain rfl:=Option.some.inj h
  obtain ⟨v,h1,h2⟩:=r.tm s _ hs
  cases h2
  exact ⟨_,h1,.Cx sz _ rfl⟩
 ·exact r.tm t av h
theorem aj.freeze {n sz:Nat} {tm:List (Nat×AV)} {hp cN:Heap} {T:St→Prop} {b:Bk} {xs:List AV} (u:nN hp b (.arr sz xs) b (.x3 sz xs) cN) (k:aj ⟨n,tm,cN⟩ T):aj ⟨n,tm,hp⟩ T:=by
 refine aj.step (Aq:=⟨n,tm,cN⟩) (fun w S a r=>?_) k
 have oy:=u.lW.mem
 have LN:∀ m,b.cu=some m→m < w.heap.size:=fun m hm=>r.hp.lt ⟨_,oy,ki hm⟩
 let S':Nat→Prop:=fun m=>S m∨b.cu=some m
 have mono:∀ m,S m→S' m∧w.heap[m]? =w.heap[m]?:=fun m hm=>⟨.inl hm,rfl⟩
 obtain ⟨p,q,rfl,rfl⟩:=u.split
 have vE:=r.hp.nodup
 have vH:cI w S' (p++(b,.x3 sz xs) :: q):=by
  refine ⟨?_,?_,?_,?_,fun g o ho=>⟨.inl (r.hp.iy g o ho).1,(r.hp.iy g o ho).2⟩⟩
  ·simpa [List.flatMap_append,List.flatMap_cons,eb,Ob.more] using vE
  ·intro e he
   rcases bx.1 he with rfl | he
   ·exact Holds.mono (o:=.x3 sz xs) mono (fun _ _=>rfl) (show Holds w S b (.arr sz xs) from r.hp.holds (b,.arr sz xs) oy)
   ·exact (r.hp.holds e (bx.2 (.inr he))).mono mono (fun _ _=>rfl)
  ·intro e he m hm
   rcases bx.1 he with rfl | he
   ·exact ⟨fun _=>trivial,fun _=>.inr ((vw rfl).1 hm)⟩
   ·rw [← r.hp.sep e (bx.2 (.inr he)) m hm]
    refine ⟨fun hs=>hs.elim id fun hb=>?_,.inl⟩
    exfalso
    rw [List.flatMap_append,List.flatMap_cons,List.nodup_append,List.nodup_append] at vE
    rcases List.mem_append.1 he with h | h
    ·exact vE.2.2 m (List.mem_flatMap.2 ⟨e,h,hm⟩) m (List.mem_append_left _ (ki hb)) rfl
    ·exact vE.2.1.2.2 m (ki hb) m (List.mem_flatMap.2 ⟨e,h,hm⟩) rfl
  ·intro m hm
   rcases hm with h | h
   ·exact r.hp.slt m h
   ·exact LN m h
 refine ⟨_,S',rfl,r.heap mono vH,rfl,rfl,rfl,Nat.le_refl _,mono,fun m hm hh=>⟨rfl,fun hs=>hs.elim id fun hb=>(hh ⟨_,oy,ki hb⟩).elim⟩,fun m hm=>.inl ?_,fun _=>Nat.le_refl _⟩
 obtain ⟨e,he,hb⟩:=hm
 rcases bx.1 he with rfl | he
 ·exact ⟨_,oy,hb⟩
 ·exact ⟨e,bx.2 (.inr he),hb⟩
inductive Co (hp:Heap):AV→AV→Prop
 | refl (a:AV):Co hp a a
 | nil (sz:Nat):Co hp .nil (.list sz [])
 | x3 (sz:Nat) (b:Bk) (len:Nat) (xs:List AV) (f:nM hp b (.x3 sz xs)) (h:len=xs.length):Co hp (.sl sz b 0 len) (.list sz xs)
 | part (sz:Nat) (b:Bk) (off len:Nat) (xs:List AV) (f:nM hp b (.x3 sz xs)) (h:off+len≤xs.length):Co hp (.sl sz b off len) (.list sz ((xs.drop off).take len))
theorem pq {w:World} {S:Nat→Prop} {sz:Nat} {ys:List AV} {v:Value} (h:Ml w S sz ys v) (hS:∀ ad len cap,v=.slice (some ad) len cap→0 < len→ad.spot=none∧S ad.block) (hc:∀ ob len cap,v=.slice ob len cap→len≤cap):At w S (.list sz ys) v:=by
 obtain ⟨h0,a,c,rq,rfl,h1,h2,h3⟩:=h
 refine .list sz ys a c rq h0 (by rw [c0 h0,h1]) (fun i c v hc hv=>h2 i c v hc (by simpa using hv)) (fun i v hv=>?_) (hc _ _ _ rfl)
 obtain ⟨ad,rfl,h4⟩:=h3 i v hv
 have jh:i < rq.length:=(List.getElem?_eq_some_iff.1 hv).1
 have vg:0 < ys.length:=by
  rcases Nat.eq_zero_or_pos ys.length with h | h
  ·rw [h1,h] at jh;simp at jh
  ·exact h
 obtain ⟨g1,g2⟩:=hS ad _ _ rfl vg
 refine ⟨ad,rfl,g1,g2,?_⟩
 obtain ⟨bk,of,sp⟩:=ad
 simp only at g1;subst g1
 rw [nj] at h4;exact h4
theorem qJ {w:World} {S:Nat→Prop} {sz off len:Nat} {b:Bk} {v:Value} (h:At w S (.sl sz b off len) v):(∀ ad l c,v=.slice (some ad) l c→0 < l→ad.spot=none∧b.cu=some ad.block)∧∀ ob l c,v=.slice ob l c→l≤c:=by
 obtain ⟨oa,cap,rfl,e2⟩:=h.uB
 rcases e2 with ⟨_,_,hl,rfl,rfl⟩ | ⟨m,hb,rfl,h1,h2⟩ | ⟨m,ad,hb,rfl,hl,rfl⟩
 ·exact ⟨(fun ad l c h=>by cases h),(fun ob l c h=>by cases h;omega)⟩
 ·exact ⟨(fun ad l c h _=>by cases h;exact ⟨rfl,hb⟩),(fun ob l c h=>by cases h;omega)⟩
 ·exact ⟨(fun ad l c h x4=>by cases h;omega),(fun ob l c h=>by cases h;omega)⟩
theorem Co.at {w:World} {S:Nat→Prop} {hp:Heap} {a a':AV} {v:Value} (c:Co hp a a') (r:cI w S hp) (h:At w S a v):At w S a' v:=by
 cases c with
 | refl=>exact h
 | nil sz=>rw [h.DL];exact .list sz [] none 0 [] (by simp) rfl (fun i c v hc=>by simp [flat] at hc) (fun i v hv=>by simp at hv) (by simp)
 | x3 sz b len xs f hl=>
   have hs:=(Src.whole (hp:=hp) (sz:=sz) b len xs (.inr f) hl).at r h
   exact pq hs (fun ad l c hv hp=>let ⟨g1,g2⟩:=(qJ h).1 ad l c hv hp;⟨g1,(r.sep _ f.mem _ (ki g2)).2 trivial⟩) (qJ h).2
 | part sz b off len xs f hl=>
   have hs:=(Src.part (hp:=hp) (sz:=sz) b off len xs (.inr f) hl).at r h
   exact pq hs (fun ad l c hv hp=>let ⟨g1,g2⟩:=(qJ h).1 ad l c hv hp;⟨g1,(r.sep _ f.mem _ (ki g2)).2 trivial⟩) (qJ h).2
theorem aj.co {n s:Nat} {tm:List (Nat×AV)} {hp:Heap} {T:St→Prop} {av cy:AV} (hs:lk tm s=some av) (c:Co hp av cy) (k:aj ⟨n,(s,cy) :: tm,hp⟩ T):aj ⟨n,tm,hp⟩ T:=by
 refine aj.step (Aq:=⟨n,(s,cy) :: tm,hp⟩) (fun w S a r=>⟨_,S,rfl,⟨r.size,r.defers,fun t av h=>?_,r.hp⟩,k9.refl _ _ _⟩) k
 simp only [lk] at h
 split at h
 ·rename_i hb
  obtain rfl:s=t:=by simpa using hb
  obtain rfl:=Option.some.inj h
  obtain ⟨v,h1,h2⟩:=r.tm s _ hs
  exact ⟨v,h1,c.at r.hp h2⟩
 ·exact r.tm t av h
section
variable {P:Program} {R:St→Prop} {k:List It} {σ:St}
theorem aa.ghost {c:Code} (h:aj σ (aa P R (.code c :: k))):aa P R (.code c :: k) σ:=by
 intro w S a r
 obtain ⟨aH,S',h1,h2,h3⟩:=h w S a r
 exact aa.go h1 h2 h3
theorem ae.ghost {all:Array Oper} {l:List Oper} {Q:St→Prop} (h:aj σ (fun aH=>ae P all l aH Q)):ae P all l σ Q:=by
 intro w S a r
 obtain ⟨aH,S',h1,h2,h3⟩:=h w S a r
 exact h1.go h2 h3
theorem aa.QY {body:Code} (I:Nat→St→Prop) (m:Nat) (h0:aj σ (I m)) (hs:∀ m σ,I m σ→aa P R (.code body :: .stop (fun aH=>∃ m',m' < m∧aj aH (I m')) :: k) σ):
 aa P R (.code (.loop body) :: k) σ:=by
 refine aa.loop (fun m σ=>aj σ (I m)) m h0 (fun m σ hI=>?_)
 exact aa.ghost (hI.mono fun aH h=>hs m aH h)
end
class bF (P:Program) (f:FuncId):Prop where
 h:∃ fn,P.funcs[f]? =some fn∧(fn.name=="runtime.NumGoroutine")=false∧fn.body.isNone=false
theorem rK {P:Program} (f:FuncId) [bF P f] (args:Array Value) (w:World):(callFunc f args).run P w=.ok (.enter f args) w:=by
 obtain ⟨fn,h1,h2,h3⟩:=bF.h (P:=P) (f:=f)
 have JG:¬ (fn.name="runtime.NumGoroutine"):=by simpa using h2
 have SQ:¬ (fn.body=none):=fun h=>by simp [h] at h3
 simp [callFunc,h1,JG,SQ]
inductive yc (hp:Heap):List AV→List AV→Prop
 | nil:yc hp [] []
 | cons {a a':AV} {l l':List AV} (c:Co hp a a') (k:yc hp l l'):yc hp (a :: l) (a' :: l')
theorem yc.at {w:World} {S:Nat→Prop} {hp:Heap} (r:cI w S hp):∀ {l l':List AV},yc hp l l'→∀ {vs:List Value},l.length=vs.length→mR w S l vs.toArray→l'.length=vs.length∧mR w S l' vs.toArray
 | [],_,.nil,vs,hl,h=>⟨hl,h⟩
 | a :: l,_,.cons (a':=a') (l':=l') c k,vs,hl,h=>by
   match vs,hl with
   | v :: vs,hl=>
     obtain ⟨g1,g2⟩:=yc.at r k (vs:=vs) (by simpa using hl) (fun i c u hc hu=>h (i+1) c u (by simpa using hc) (by simpa using hu))
     refine ⟨by simpa using g1,fun i c u hc hu=>?_⟩
     match i with
     | 0=>
       simp at hc hu
       subst hc
       subst hu
       exact Co.at ‹Co hp a a'› r (h 0 a v (by simp) (by simp))
     | i+1=>exact g2 i c u (by simpa using hc) (by simpa using hu)
section rules
variable {P:Program} {all:Array Oper} {rest:List Oper} {n:Nat} {tm:List (Nat×AV)} {hp:Heap} {Q:St→Prop} {d:Nat} {ty:TypeId} {pos:String} {af:Array Edge}
theorem so {w:World} {S:Nat→Prop} {σ:St} {a:Act} (r:dO w S σ a) {xs:List Operand} {l:List AV} (h:zS σ.tm xs=some l):l.length=(xs.map a.eval).length∧mR w S l (xs.map a.eval).toArray:=by
 obtain ⟨h1,h2⟩:=Gv r h
 exact ⟨by simp [h1],fun i c v hc hv=>h2 i c v hc (by simpa using hv)⟩
theorem oz {f:FuncId} {args:List Operand} {ts:Array TypeId} {dd:Option Nat} [bF P f] (a:Act) (w:World):
 (execOp a.eval ⟨dd,.call {callee:=.value (.func f),args:=args.toArray,argTypes:=ts},ty,pos,af,none⟩).run P w=.ok (.enter f (args.map a.eval).toArray) w:=by
 simp [execOp,resolve,Act.eval,Deferred.ofValue,invoke,rK]
theorem vI {f:FuncId} {x:Operand} {args:List Operand} {ts:Array TypeId} {dd:Option Nat} {ra:Array Value} [bF P f] (a:Act) (w:World) (hx:a.eval x=.func (.func f) #[] ra):
 (execOp a.eval ⟨dd,.call {callee:=.value x,args:=args.toArray,argTypes:=ts},ty,pos,af,none⟩).run P w=.ok (.enter f ((args.map a.eval)++ra.toList).toArray) w:=by
 simp [execOp,resolve,hx,Deferred.ofValue,invoke,rK]
theorem JH {f:FuncId} {args:List Operand} {ts:Array TypeId} {l l':List AV} {h0 hr:Heap} {Qc:AV→Heap→Prop} [bF P f] (hl:zS tm args=some l) (c:aT P f l' h0 Qc) (co:yc hp l l') (hs:hp.Perm (h0++hr)) (hn:Nat.blt d n=true)
 (kk:∀ r h',Qc r h'→ae P all rest ⟨n,(d,r) :: tm,h'++hr⟩ Q):ae P all (⟨some d,.call {callee:=.value (.func f),args:=args.toArray,argTypes:=ts},ty,pos,af,none⟩ :: rest) ⟨n,tm,hp⟩ Q:=by
 refine ae.Hh rfl fun w S a r=>⟨f,_,oz a w,?_⟩
 obtain ⟨g1,g2⟩:=so (σ:=⟨n,tm,hp⟩) r hl
 obtain ⟨g3,g4⟩:=yc.at r.hp co g1 g2
 have rp:=r.hp.perm hs
 refine (c.frame hr w S _ rp (by simpa using g3) g4).mono ?_
 rintro e w' ⟨v,rr,h',S',rfl,⟨h1,rfl,hq⟩,h3,h4,h5⟩
 have E2:=h5.nf
 have ev:k9 w S hp w' S' (h1++hr):={h5 with
  other:=fun m hm hh=>h5.other m hm (fun ⟨x,hx,hb⟩=>hh ⟨x,hs.mem_iff.2 hx,hb⟩)
  new:=fun m hm=>(h5.new m hm).imp (fun ⟨x,hx,hb⟩=>⟨x,hs.mem_iff.2 hx,hb⟩) id}
 exact ⟨v,S',⟨n,(d,rr) :: tm,h1++hr⟩,rfl,(r.heap E2 h4).put hn h3,ev,kk rr h1 hq⟩
theorem Mo {f:FuncId} {args:List Operand} {ts:Array TypeId} {l l':List AV} {Qc:AV→Heap→Prop} [bF P f] (hl:zS tm args=some l) (c:aT P f l' [] Qc) (co:yc hp l l') (hn:Nat.blt d n=true)
 (kk:∀ r h',Qc r h'→ae P all rest ⟨n,(d,r) :: tm,h'++hp⟩ Q):ae P all (⟨some d,.call {callee:=.value (.func f),args:=args.toArray,argTypes:=ts},ty,pos,af,none⟩ :: rest) ⟨n,tm,hp⟩ Q:=
 JH hl c co (List.Perm.refl _) hn kk
theorem w7.perm {h h':Heap} {b:Bk} {o:Ob} (u:w7 h b o h'):h.Perm ([(b,o)]++h'):=by
 obtain ⟨p,q,rfl,rfl⟩:=u.split
 exact List.perm_middle
theorem Hn {f:FuncId} {x:Operand} {args:List Operand} {ts:Array TypeId} {ra l l':List AV} {h0 hr:Heap} {Qc:AV→Heap→Prop} [bF P f] (hx:dm tm x=some (.func (.func f) ra)) (hl:zS tm args=some l) (c:aT P f l' h0 Qc) (co:yc hp (l++ra) l') (hs:hp.Perm (h0++hr)) (hn:Nat.blt d n=true)
 (kk:∀ r h',Qc r h'→ae P all rest ⟨n,(d,r) :: tm,h'++hr⟩ Q):ae P all (⟨some d,.call {callee:=.value x,args:=args.toArray,argTypes:=ts},ty,pos,af,none⟩ :: rest) ⟨n,tm,hp⟩ Q:=by
 refine ae.Hh rfl fun w S a r=>?_
 obtain ⟨cv,e1,e2,e3⟩:=(bA (σ:=⟨n,tm,hp⟩) r hx).x8
 refine ⟨f,_,vI a w e1,?_⟩
 obtain ⟨g1,g2⟩:=so (σ:=⟨n,tm,hp⟩) r hl
 obtain ⟨g3,g4⟩:=yc.at r.hp co (vs:=args.map a.eval++cv.toList) (by simp [g1,e2]) (vG g1 g2 (by simpa using e3))
 have rp:=r.hp.perm hs
 refine (c.frame hr w S _ rp (by simpa using g3) g4).mono ?_
 rintro e w' ⟨v,rr,h',S',rfl,⟨h1,rfl,hq⟩,h3,h4,h5⟩
 have ev:k9 w S hp w' S' (h1++hr):={h5 with
  other:=fun m hm hh=>h5.other m hm (fun ⟨x,hx,hb⟩=>hh ⟨x,hs.mem_iff.2 hx,hb⟩)
  new:=fun m hm=>(h5.new m hm).imp (fun ⟨x,hx,hb⟩=>⟨x,hs.mem_iff.2 hx,hb⟩) id}
 exact ⟨v,S',⟨n,(d,rr) :: tm,h1++hr⟩,rfl,(r.heap h5.nf h4).put hn h3,ev,kk rr h1 hq⟩
def AV.DP:AV→Bool
 | .int _ _ | .bool _ | .str _ | .nil | .raw _=>true
 | _=>false
def E3:List AV→Bool
 | []=>true
 | c :: r=>c.DP&&E3 r
def AV.OI:AV→Bool
 | .agg cs=>E3 cs
 | v=>v.DP
def Mp:List AV→Bool
 | []=>true
 | c :: r=>c.OI&&Mp r
def AV.QZ:AV→Bool
 | .agg cs=>E3 cs
 | .oL cs=>Mp cs
 | v=>v.DP
theorem vJ {w w':World} {S S':Nat→Prop} {av:AV} {v:Value} (h:At w S av v) (hn:av.DP=true):At w' S' av v:=by
 cases h<;>first | (simp [AV.DP] at hn;done) | constructor
theorem vK:∀ {cs:List AV},E3 cs=true→∀ c∈cs,c.DP=true
 | [],_,c,hc=>by simp at hc
 | x :: r,h,c,hc=>by
   simp only [E3,Bool.and_eq_true] at h
   rcases List.mem_cons.1 hc with rfl | hc
   ·exact h.1
   ·exact vK h.2 c hc
theorem E4:∀ {cs:List AV},Mp cs=true→∀ c∈cs,c.OI=true
 | [],_,c,hc=>by simp at hc
 | x :: r,h,c,hc=>by
   simp only [Mp,Bool.and_eq_true] at h
   rcases List.mem_cons.1 hc with rfl | hc
   ·exact h.1
   ·exact E4 h.2 c hc
theorem Mq {w w':World} {S S':Nat→Prop} {av:AV} {v:Value} (h:At w S av v) (hn:av.OI=true):At w' S' av v:=by
 cases av with
 | agg cs=>
   cases h with
   | agg _ vs hl h=>exact .agg cs vs hl fun i c u hc hu=>vJ (h i c u hc hu) (vK hn c (List.mem_of_getElem? hc))
 | _=>exact vJ h hn
theorem JI {w w':World} {S S':Nat→Prop} {av:AV} {v:Value} (h:At w S av v) (hn:av.QZ=true):At w' S' av v:=by
 cases h with
 | agg cs vs hl h=>exact .agg cs vs hl fun i c u hc hu=>vJ (h i c u hc hu) (vK hn c (List.mem_of_getElem? hc))
 | oL cs vs hl h=>exact .oL cs vs hl fun i c u hc hu=>Mq (h i c u hc hu) (E4 hn c (List.mem_of_getElem? hc))
 | int k n=>exact .int k n
 | bool b=>exact .bool b
 | str s=>exact .str s
 | nil=>exact .nil
 | raw v=>exact .raw v
 | _=>simp [AV.QZ,AV.DP] at hn
inductive pk (hp:Heap):AV→AV→Prop
 | co {a a':AV} (c:Co hp a a'):pk hp a a'
 | arr (sz:Nat) (b:Bk) (len:Nat) (xs:List AV) (f:nM hp b (.arr sz xs)) (h:len=xs.length):pk hp (.sl sz b 0 len) (.list sz xs)
 | part (sz:Nat) (b:Bk) (off len:Nat) (xs:List AV) (f:nM hp b (.arr sz xs)) (h:off+len≤xs.length):pk hp (.sl sz b off len) (.list sz ((xs.drop off).take len))
 | box (b:Bk) (cs pW:List AV) (f:nM hp b (.cells cs)) (hl:pW.length=cs.length) (h:∀ (i:Nat) c c',cs[i]? =some c→pW[i]? =some c'→pk hp c c'):pk hp (.ptr b 0) (.bR pW)
 | func (fn:Fn) (cs pW:List AV) (hl:pW.length=cs.length) (h:∀ (i:Nat) c c',cs[i]? =some c→pW[i]? =some c'→pk hp c c'):pk hp (.func fn cs) (.func fn pW)
 | agg (cs pW:List AV) (hl:pW.length=cs.length) (h:∀ (i:Nat) c c',cs[i]? =some c→pW[i]? =some c'→pk hp c c'):pk hp (.agg cs) (.agg pW)
 | LL {a a':AV} (h:∀ (w:World) (S:Nat→Prop) v,cI w S hp→At w S a v→At w (fun m=>S m∨Has hp m) a' v):pk hp a a'
inductive rO (hp:Heap):List AV→List AV→Prop
 | nil:rO hp [] []
 | cons {a a':AV} {l l':List AV} (c:pk hp a a') (k:rO hp l l'):rO hp (a :: l) (a' :: l')
def SB (S:Nat→Prop) (hp:Heap):Nat→Prop:=fun m=>S m∨Has hp m
theorem rO.each {hp:Heap}:∀ {l l':List AV},rO hp l l'→l'.length=l.length∧∀ (i:Nat) c c',l[i]? =some c→l'[i]? =some c'→pk hp c c'
 | [],_,.nil=>⟨rfl,fun i c c' h=>by simp at h⟩
 | _ :: _,_,.cons c k=>by
   obtain ⟨g1,g2⟩:=rO.each k
   refine ⟨by simp [g1],fun i c1 c2 h1 h2=>?_⟩
   match i with
   | 0=>simp at h1 h2;subst h1;subst h2;assumption
   | i+1=>exact g2 i c1 c2 (by simpa using h1) (by simpa using h2)
theorem pk.Ir {hp:Heap} (b:Bk) (cs pW:List AV) (f:nM hp b (.cells cs)) (k:rO hp cs pW):pk hp (.ptr b 0) (.bR pW):=.box b cs pW f k.each.1 k.each.2
theorem pk.Ho {hp:Heap} (fn:Fn) (cs pW:List AV) (k:rO hp cs pW):pk hp (.func fn cs) (.func fn pW):=.func fn cs pW k.each.1 k.each.2
theorem pk.at {w:World} {S:Nat→Prop} {hp:Heap} {a a':AV} {v:Value} (c:pk hp a a') (r:cI w S hp) (h:At w S a v):At w (SB S hp) a' v:=by
 have mono:∀ m,S m→SB S hp m∧w.heap[m]? =w.heap[m]?:=fun m hm=>⟨.inl hm,rfl⟩
 induction c generalizing v with
 | box b cs pW f hl _ ih=>
   cases h with
   | ptr _ _ n hb=>
     obtain ⟨h1,n',vs,E,Ar,hh,hs,ha⟩:=r.holds _ f.mem
     obtain rfl:=Option.some.inj (hb.symm.trans Ar)
     refine .bR pW ⟨n,0,none⟩ vs.toList (by simp [hl,hs]) (fun i c v hc hv=>?_) rfl (.inr ⟨_,f.mem,ki hb⟩) (fun i v hv=>?_)
     ·have hi:i < cs.length:=by rw [← hl];exact (List.getElem?_eq_some_iff.1 hc).1
      exact ih i cs[i] c (by simp [hi]) hc (ha i _ _ (by simp [hi]) (by simpa using hv))
     ·rw [pn hh];simpa using hv
 | func fn cs pW hl _ ih=>
   cases h with
   | func _ _ vs Jm h2=>
     refine .func fn pW vs (by rw [hl,Jm]) (fun i c v hc hv=>?_)
     have hi:i < cs.length:=by rw [← hl];exact (List.getElem?_eq_some_iff.1 hc).1
     exact ih i cs[i] c (by simp [hi]) hc (h2 i _ _ (by simp [hi]) hv)
 | agg cs pW hl _ ih=>
   cases h with
   | agg _ vs h1 h2=>
     refine .agg pW vs (by rw [hl,h1]) (fun i c v hc hv=>?_)
     have hi:i < cs.length:=by rw [← hl];exact (List.getElem?_eq_some_iff.1 hc).1
     exact ih i cs[i] c (by simp [hi]) hc (h2 i _ _ (by simp [hi]) hv)
 | co c=>exact (c.at r h).mono mono
 | LL q=>exact q w S v r h
 | arr sz b len xs f hl=>
   obtain ⟨h0,a,c,rq,e1,h1,h2,h3⟩:=(Src.whole (hp:=hp) (sz:=sz) b len xs (.inl f) hl).at r h
   exact pq ⟨h0,a,c,rq,e1,h1,h2.mono mono,h3⟩ (fun ad l c hv hp=>let ⟨g1,g2⟩:=(qJ h).1 ad l c hv hp;⟨g1,.inr ⟨_,f.mem,ki g2⟩⟩) (qJ h).2
 | part sz b off len xs f hl=>
   obtain ⟨h0,a,c,rq,e1,h1,h2,h3⟩:=(Src.part (hp:=hp) (sz:=sz) b off len xs (.inl f) hl).at r h
   exact pq ⟨h0,a,c,rq,e1,h1,h2.mono mono,h3⟩ (fun ad l c hv hp=>let ⟨g1,g2⟩:=(qJ h).1 ad l c hv hp;⟨g1,.inr ⟨_,f.mem,ki g2⟩⟩) (qJ h).2
theorem rO.at {w:World} {S:Nat→Prop} {hp:Heap} (r:cI w S hp):∀ {l l':List AV},rO hp l l'→∀ {vs:List Value},l.length=vs.length→mR w S l vs.toArray→l'.length=vs.length∧mR w (SB S hp) l' vs.toArray
 | [],_,.nil,vs,hl,h=>⟨hl,fun i c v hc=>by simp at hc⟩
 | a :: l,_,.cons (a':=a') (l':=l') c k,vs,hl,h=>by
   match vs,hl with
   | v :: vs,hl=>
     obtain ⟨g1,g2⟩:=rO.at r k (vs:=vs) (by simpa using hl) (fun i c u hc hu=>h (i+1) c u (by simpa using hc) (by simpa using hu))
     refine ⟨by simpa using g1,fun i c u hc hu=>?_⟩
     match i with
     | 0=>
       simp at hc hu
       subst hc
       subst hu
       exact pk.at ‹pk hp a a'› r (h 0 a v (by simp) (by simp))
     | i+1=>exact g2 i c u (by simpa using hc) (by simpa using hu)
theorem k9.C2 {w w':World} {S S':Nat→Prop} {h':Heap} (e:k9 w S [] w' S' h'):Ext w w':=
 ⟨e.os,e.tape,e.output,e.size,fun m hm=>(e.other m hm (fun ⟨x,hx,_⟩=>by simp at hx)).1,e.drawn⟩
theorem sq {w:World} {S:Nat→Prop} (h:∀ n,S n→n < w.heap.size) (hg:∀ g o,bM.QG g=some o→S g∧o (w.heap[g]?)):cI w S []:=⟨by simp,by simp,by simp,h,hg⟩
theorem Mr {f:FuncId} {args:List Operand} {ts:Array TypeId} {l l':List AV} {Qc:AV→Heap→Prop} [bF P f] (hl:zS tm args=some l) (c:aT P f l' [] Qc) (co:rO hp l l') (hn:Nat.blt d n=true)
 (kk:∀ r h',Qc r h'→r.QZ=true∧ae P all rest ⟨n,(d,r) :: tm,hp⟩ Q):ae P all (⟨some d,.call {callee:=.value (.func f),args:=args.toArray,argTypes:=ts},ty,pos,af,none⟩ :: rest) ⟨n,tm,hp⟩ Q:=by
 refine ae.Hh rfl fun w S a r=>⟨f,_,oz a w,?_⟩
 obtain ⟨g1,g2⟩:=so (σ:=⟨n,tm,hp⟩) r hl
 obtain ⟨g3,g4⟩:=rO.at r.hp co g1 g2
 refine (c w (SB S hp) _ (sq (fun m hm=>hm.elim (r.hp.slt m) fun h=>r.hp.lt h) (fun g o ho=>⟨.inl (r.hp.iy g o ho).1,(r.hp.iy g o ho).2⟩)) (by simpa using g3) g4).mono ?_
 rintro e w' ⟨v,rr,h',S',rfl,hq,h3,h4,h5⟩
 obtain ⟨k1,k2⟩:=kk rr h' hq
 have ex:=h5.C2
 exact ⟨v,S,⟨n,(d,rr) :: tm,hp⟩,rfl,(r.ext ex).put hn (JI h3 k1),k9.ext r.hp.slt ex,k2⟩
def AQ (P:Program) (all:Array Oper) (l:List Oper) (σ:St) (Q:St→Prop):Prop:=
 ∀ w S a,dO w S σ a→wpQuiet P all (Ext w) (fun a'=>∃ qj,Q ⟨σ.n,qj,σ.hp⟩∧dO w S ⟨σ.n,qj,σ.hp⟩ a') l a
end rules
section
variable {P:Program} {R:St→Prop} {k:List It} {σ:St}
theorem aa.OJ {c:Operand} {x y:Code} {p:Prop} [Decidable p] (hc:dm σ.tm c=some (.bool (decide p))) (h1:p→aa P R (.code x :: k) σ) (h2:¬ p→aa P R (.code y :: k) σ):aa P R (.code (.cond c x y) :: k) σ:=
 aa.cond hc (fun h=>h1 (of_decide_eq_true h)) (fun h=>h2 (of_decide_eq_false h))
end
theorem dO.lit {w:World} {S:Nat→Prop} {n:Nat} {tm:List (Nat×AV)} {hp:Heap} {a:Act} {s:Nat} {b c:Bool} (r:dO w S ⟨n,tm,hp⟩ a) (hs:lk tm s=some (.bool b)) (hb:b=c):dO w S ⟨n,(s,.bool c) :: tm,hp⟩ a:=by
 subst hb
 refine ⟨r.size,r.defers,fun t av h=>?_,r.hp⟩
 simp only [lk] at h
 split at h
 ·rename_i hb
  obtain rfl:s=t:=by simpa using hb
  obtain rfl:=Option.some.inj h
  exact r.tm s _ hs
 ·exact r.tm t av h
section rules
variable {P:Program} {all:Array Oper} {rest:List Oper} {n:Nat} {tm:List (Nat×AV)} {hp:Heap} {Q:St→Prop} {d:Nat} {ty:TypeId} {pos:String} {af:Array Edge} {op:Op} {j s:Nat}
theorem ae.lit {l:List Oper} {b c:Bool} (hs:lk tm s=some (.bool b)) (hb:b=c) (k:ae P all l ⟨n,(s,.bool c) :: tm,hp⟩ Q):ae P all l ⟨n,tm,hp⟩ Q:=
 fun w S a r=>k w S a (r.lit hs hb)
theorem ae.guard {want b:Bool} (hj:(all[j]?).bind (·.dst)=some s) (hs:lk tm s=some (.bool b)) (hn:Nat.blt d n=true) (h1:b=want→ae P all (⟨some d,op,ty,pos,af,none⟩ :: rest) ⟨n,(s,.bool want) :: tm,hp⟩ Q)
 (h2:b=!want→ae P all rest ⟨n,(d,.raw undef) :: (s,.bool (!want)) :: tm,hp⟩ Q):ae P all (⟨some d,op,ty,pos,af,some (j,want)⟩ :: rest) ⟨n,tm,hp⟩ Q:=by
 by_cases hb:b=want
 ·exact ae.lit hs hb (ae.aI hj (by simp [lk]) rfl (h1 hb))
 ·have Ar:b=!want:=by cases b<;>cases want<;>simp_all
  exact ae.lit hs Ar (ae.aN hj (b:=!want) (by simp [lk]) rfl hn (h2 Ar))
theorem ae.bH {p:Prop} [Decidable p] (hj:(all[j]?).bind (·.dst)=some s) (hs:lk tm s=some (.bool (decide p))) (hn:Nat.blt d n=true) (h1:p→ae P all (⟨some d,op,ty,pos,af,none⟩ :: rest) ⟨n,(s,.bool true) :: tm,hp⟩ Q)
 (h2:¬ p→ae P all rest ⟨n,(d,.raw undef) :: (s,.bool false) :: tm,hp⟩ Q):ae P all (⟨some d,op,ty,pos,af,some (j,true)⟩ :: rest) ⟨n,tm,hp⟩ Q:=
 ae.guard hj hs hn (fun h=>h1 (of_decide_eq_true h)) (fun h=>h2 (of_decide_eq_false h))
theorem ae.ff {p:Prop} [Decidable p] (hj:(all[j]?).bind (·.dst)=some s) (hs:lk tm s=some (.bool (decide p))) (hn:Nat.blt d n=true) (h1:¬ p→ae P all (⟨some d,op,ty,pos,af,none⟩ :: rest) ⟨n,(s,.bool false) :: tm,hp⟩ Q)
 (h2:p→ae P all rest ⟨n,(d,.raw undef) :: (s,.bool true) :: tm,hp⟩ Q):ae P all (⟨some d,op,ty,pos,af,some (j,false)⟩ :: rest) ⟨n,tm,hp⟩ Q:=
 ae.guard hj hs hn (fun h=>h1 (of_decide_eq_false h)) (fun h=>h2 (of_decide_eq_true h))
theorem lY {xt:TypeId} {x:Operand} {p:Prop} [Decidable p] (hx:dm tm x=some (.bool (decide p))):QV P ⟨some d,.unOp .not xt x,ty,pos,af,none⟩ ⟨n,tm,hp⟩ (.bool (decide (¬ p))):=by
 have h:(!decide p)=decide (¬ p):=by by_cases h:p<;>simp [h]
 rw [← h]
 exact eF hx
end rules
end Go.Eng
