/- The engine: abstract values, the symbolic heap, one rule for each operation. No program in sight. -/
import Derived.WalkKit
import Derived.Deep.Quiet
import Derived.Lib.FrozenHead
set_option linter.unusedSectionVars false
namespace Go.Eng
open Go
class bA where
 Pt:Nat→Option (Option Obj→Prop)
 dr:Prop
theorem Cq {a b:Option Obj} {p:Option Obj→Prop} (e:a=b) (h:p b):p a:=e▸h
variable [bA]
@[reducible] def nk [G:bA]:bA:=⟨G.Pt,True⟩
structure Bk where
 cd:Option Nat
 cap:Nat
inductive AV where
 | int (k:IntKind) (n:Int)
 | bool (b:Bool)
 | str (s:List UInt8)
 | agg (cs:List AV)
 | nI (vs:List AV)
 | list (sz:Nat) (xs:List AV)
 | nil
 | ptr (b:Bk) (o:Nat)
 | sl (sz:Nat) (b:Bk) (off len:Nat)
 | gg (cs:List AV)
 | pB (sz:Nat) (b:Bk) (i o:Nat)
 | func (fn:Fn) (sU:List AV)
 | gD (b:Bk)
 | raw (v:Value)
def AV.cells:AV→List AV
 | .agg cs=>cs
 | x=>[x]
def AV.one:AV→Bool
 | .agg _=>false
 | .nI _=>false
 | .raw v=>v.oneCell'
 | _=>true
def El (sz:Nat) (x:AV):Prop:=x.cells.length=sz∧∀ c∈x.cells,c.one=true
def flat (xs:List AV):List AV:=xs.flatMap AV.cells
inductive At (w:World) (S:Nat→Prop):AV→Value→Prop
 | int (k:IntKind) (n:Int):At w S (.int k n) (.int k n)
 | bool (b:Bool):At w S (.bool b) (.bool b)
 | str (s:List UInt8):At w S (.str s) (.string ⟨s.toArray⟩)
 | agg (cs:List AV) (vs:Array Value) (hl:cs.length=vs.size) (h:∀ (i:Nat) c v,cs[i]? =some c→vs[i]? =some v→At w S c v):At w S (.agg cs) (.agg vs)
 | nI (cs:List AV) (vs:Array Value) (hl:cs.length=vs.size) (h:∀ (i:Nat) c v,cs[i]? =some c→vs[i]? =some v→At w S c v):At w S (.nI cs) (.tuple vs)
 | list (sz:Nat) (xs:List AV) (a:Option Addr) (cap:Nat) (vs:List Value) (lx:∀ x∈xs,El sz x) (hl:(flat xs).length=vs.length)
  (h:∀ (i:Nat) c v,(flat xs)[i]? =some c→vs[i]? =some v→At w S c v)
  (hm:∀ (i:Nat) v,vs[i]? =some v→∃ ad,a=some ad∧ad.spot=none∧S ad.block∧w.cell? ⟨ad.block,ad.off+i,none⟩=some v)
  (hc:xs.length≤cap):At w S (.list sz xs) (.slice a xs.length cap)
 | nil:At w S .nil (.slice none 0 0)
 | ptr (b:Bk) (o n:Nat) (hb:b.cd=some n):At w S (.ptr b o) (.pointer (some ⟨n,o,none⟩))
 | B0 (sz:Nat) (b:Bk) (hb:b.cd=none):At w S (.sl sz b 0 0) (.slice none 0 0)
 | sl (sz:Nat) (b:Bk) (off len n cap:Nat) (hb:b.cd=some n) (h1:len≤cap) (h2:off+cap≤b.cap):At w S (.sl sz b off len) (.slice (some ⟨n,off * sz,none⟩) len cap)
 | Lh (sz:Nat) (b:Bk) (off n:Nat) (ad:Addr) (hb:b.cd=some n):At w S (.sl sz b off 0) (.slice (some ad) 0 0)
 | gg (cs:List AV) (ad:Addr) (vs:List Value) (hl:cs.length=vs.length) (h:∀ (i:Nat) c v,cs[i]? =some c→vs[i]? =some v→At w S c v)
  (hs:ad.spot=none) (hS:S ad.block) (hm:∀ (i:Nat) v,vs[i]? =some v→w.cell? ⟨ad.block,ad.off+i,none⟩=some v):At w S (.gg cs) (.pointer (some ad))
 | pB (sz:Nat) (b:Bk) (i o n:Nat) (hb:b.cd=some n):At w S (.pB sz b i o) (.pointer (some ⟨n,i * sz+o,none⟩))
 | func (fn:Fn) (cs:List AV) (vs:Array Value) (hl:cs.length=vs.size) (h:∀ (i:Nat) c v,cs[i]? =some c→vs[i]? =some v→At w S c v):At w S (.func fn cs) (.func fn #[] vs)
 | gD (b:Bk) (n:Nat) (hb:b.cd=some n):At w S (.gD b) (.map (some n))
 | raw (v:Value):At w S (.raw v) v
theorem cell_of_heap {w w':World} {n o:Nat} (h:w'.heap[n]? =w.heap[n]?):w'.cell? ⟨n,o,none⟩=w.cell? ⟨n,o,none⟩:=by
 simp only [World.cell?,h]
theorem At.mono {w w':World} {S S':Nat→Prop} {av:AV} {v:Value} (hs:∀ n,S n→S' n∧w'.heap[n]? =w.heap[n]?) (h:At w S av v):At w' S' av v:=by
 induction h with
 | int k n=>exact .int k n
 | bool b=>exact .bool b
 | str s=>exact .str s
 | agg cs vs hl _ ih=>exact .agg cs vs hl ih
 | nI cs vs hl _ ih=>exact .nI cs vs hl ih
 | list sz xs a cap vs lx hl _ hm hc ih=>
   refine .list sz xs a cap vs lx hl ih (fun i v hv=>?_) hc
   obtain ⟨ad,h1,h2,h3,h4⟩:=hm i v hv
   exact ⟨ad,h1,h2,(hs _ h3).1,by rw [cell_of_heap (hs _ h3).2];exact h4⟩
 | nil=>exact .nil
 | ptr b o n hb=>exact .ptr b o n hb
 | B0 sz b hb=>exact .B0 sz b hb
 | sl sz b off len n cap hb h1 h2=>exact .sl sz b off len n cap hb h1 h2
 | Lh sz b off n ad hb=>exact .Lh sz b off n ad hb
 | gg cs ad vs hl _ KW hS hm ih=>
   exact .gg cs ad vs hl ih KW (hs _ hS).1 (fun i v hv=>by rw [cell_of_heap (hs _ hS).2];exact hm i v hv)
 | pB sz b i o n hb=>exact .pB sz b i o n hb
 | func fn cs vs hl _ ih=>exact .func fn cs vs hl ih
 | gD b n hb=>exact .gD b n hb
 | raw v=>exact .raw v
structure xi where
 k:AV
 v:AV
 born:Nat
def xi.kv (e:xi):AV×AV:=(e.k,e.v)
inductive PO where
 | cells (cs:List AV)
 | arr (sz:Nat) (xs:List AV)
inductive Ob where
 | cells (cs:List AV)
 | arr (sz:Nat) (xs:List AV)
 | yM (sz:Nat) (xs:List AV)
 | mp (es:List (AV×AV))
 | Pv (L:List xi) (c:Nat)
 | Pw (es:List (AV×AV)) (q:Nat) (k:AV)
 | Px (bm:Bk) (c:Nat) (seen:List Nat)
 | cj (es:List (Bk×PO))
 | OZ (T E:TypeId) (row:Option Nat) (bs:List UInt8)
abbrev Heap:=List (Bk×Ob)
def PO.ob:PO→Ob
 | .cells cs=>.cells cs
 | .arr sz xs=>.arr sz xs
def Ob.more:Ob→List Nat
 | .cj es=>es.filterMap (·.1.cd)
 | .OZ _ _ row _=>row.toList
 | _=>[]
def eb (e:Bk×Ob):List Nat:=e.1.cd.toList++e.2.more
theorem lY {b:Bk} {o:Ob} {n:Nat} (h:b.cd=some n):n∈eb (b,o):=by simp [eb,h]
theorem vm {b:Bk} {o:Ob} {n:Nat} (hm:o.more=[]):n∈eb (b,o)↔b.cd=some n:=by simp [eb,hm]
def lZ (w:World) (S:Nat→Prop) (cs:List AV) (vs:Array Value):Prop:=∀ (i:Nat) c v,cs[i]? =some c→vs[i]? =some v→At w S c v
theorem lZ.mono {w w':World} {S S':Nat→Prop} {cs:List AV} {vs:Array Value} (hs:∀ n,S n→S' n∧w'.heap[n]? =w.heap[n]?) (h:lZ w S cs vs):lZ w' S' cs vs:=
 fun i c v hc hv=>(h i c v hc hv).mono hs
def vn (w:World) (S:Nat→Prop) (b:Bk) (L:List xi) (c:Nat):Prop:=
 ∃ n ov,b.cd=some n∧w.heap[n]? =some (.map ov c)∧ov.size=L.length∧(∀ (i:Nat) e m,L[i]? =some e→ov[i]? =some m→m.born=e.born∧At w S e.k m.key∧At w S e.v m.val)∧
   (∀ e∈L,e.born < c)∧(L.map (·.born)).Nodup∧(L.map (·.k)).Nodup
theorem vn.mono {w w':World} {S S':Nat→Prop} {b:Bk} {L:List xi} {c:Nat} (hs:∀ n,S n→S' n∧w'.heap[n]? =w.heap[n]?) (hb:∀ n,b.cd=some n→w'.heap[n]? =w.heap[n]?) (h:vn w S b L c):vn w' S' b L c:=by
 obtain ⟨n,ov,g1,g2,g3,g4,g5⟩:=h
 exact ⟨n,ov,g1,by rw [hb n g1];exact g2,g3,fun i e m he hm=>⟨(g4 i e m he hm).1,(g4 i e m he hm).2.1.mono hs,(g4 i e m he hm).2.2.mono hs⟩,g5⟩
def oV (w:World) (S:Nat→Prop) (b:Bk):PO→Prop
 | .cells cs=>(∀ c∈cs,c.one=true)∧∃ n vs E,b.cd=some n∧w.heap[n]? =some (.cells vs E (0,0))∧vs.size=cs.length∧lZ w S cs vs
 | .arr sz xs=>(∀ x∈xs,El sz x)∧xs.length≤b.cap∧
  ((b.cd=none∧b.cap=0)∨∃ n vs E,b.cd=some n∧w.heap[n]? =some (.cells vs E (0,0))∧vs.size=b.cap * sz∧lZ w S (flat xs) vs)
def Holds (w:World) (S:Nat→Prop) (b:Bk):Ob→Prop
 | .cells cs=>(∀ c∈cs,c.one=true)∧∃ n vs E,b.cd=some n∧w.heap[n]? =some (.cells vs E (0,0))∧vs.size=cs.length∧lZ w S cs vs
 | .arr sz xs | .yM sz xs=>(∀ x∈xs,El sz x)∧xs.length≤b.cap∧
  ((b.cd=none∧b.cap=0)∨∃ n vs E,b.cd=some n∧w.heap[n]? =some (.cells vs E (0,0))∧vs.size=b.cap * sz∧lZ w S (flat xs) vs)
 | .mp es=>∃ L c,(L.map xi.kv).Perm es∧vn w S b L c
 | .Pv L c=>vn w S b L c
 | .Pw es q k=>∃ L c,(L.map xi.kv).Perm es∧vn w S b L c∧((∃ e∈L,e.k=k∧e.born=q)∨((∀ e∈L,e.k≠k)∧q=c))
 | .Px bm c seen=>∃ n nm,b.cd=some n∧bm.cd=some nm∧w.heap[n]? =some (.mapIter (some nm) c seen.toArray c)
 | .cj es=>b.cd=none∧∀ e∈es,oV w S e.1 e.2
 | .OZ T E row bs=>∃ n p v,b.cd=some n∧w.heap[n]? =some (.cells #[p,v] T (0,0))∧(p=.pointer none∨p=.pointer (some ⟨n,0,none⟩))∧w.ownsRowF 0 E 1 v bs.length (Lib.byteCells bs)∧v.ownBlock=row
theorem oV.ob {w:World} {S:Nat→Prop} {b:Bk} {o:PO}:oV w S b o↔Holds w S b o.ob:=by cases o<;>exact Iff.rfl
theorem zr {α β:Type} {f:α→List β} {l l':List α} (h:l.Sublist l'):(l.flatMap f).Sublist (l'.flatMap f):=by
 induction h with
 | slnil=>exact List.Sublist.refl _
 | cons a _ ih=>rw [List.flatMap_cons];exact ih.trans (List.sublist_append_right _ _)
 | cons_cons a _ ih=>rw [List.flatMap_cons,List.flatMap_cons];exact List.Sublist.append (List.Sublist.refl _) ih
def Ob.zt:Ob→Prop
 | .yM _ _=>True
 | _=>False
def Has (h:Heap) (n:Nat):Prop:=∃ e∈h,n∈eb e
structure cG (w:World) (S:Nat→Prop) (h:Heap):Prop where
 nodup:(h.flatMap eb).Nodup
 holds:∀ e∈h,Holds w S e.1 e.2
 sep:∀ e∈h,∀ n,n∈eb e→(S n↔e.2.zt)
 slt:∀ n,S n→n < w.heap.size
 jt:∀ g o,bA.Pt g=some o→S g∧o (w.heap[g]?)
structure lz (w:World) (S:Nat→Prop) (h:Heap) (w':World) (S':Nat→Prop) (h':Heap):Prop where
 os:w'.os=w.os
 tape:w'.tape=w.tape
 output:w'.output=w.output
 size:w.heap.size≤w'.heap.size
 mH:∀ n,S n→S' n∧w'.heap[n]? =w.heap[n]?
 other:∀ n,n < w.heap.size→¬ Has h n→w'.heap[n]? =w.heap[n]?∧(S' n→S n)
 new:∀ n,Has h' n→Has h n∨w.heap.size≤n
 drawn:bA.dr→w.drawn≤w'.drawn
theorem lz.refl (w:World) (S:Nat→Prop) (h:Heap):lz w S h w S h:=
 ⟨rfl,rfl,rfl,Nat.le_refl _,fun _ hs=>⟨hs,rfl⟩,fun _ _ _=>⟨rfl,id⟩,fun _ hn=>.inl hn,fun _=>Nat.le_refl _⟩
theorem lz.trans {w w1 w2:World} {S S1 S2:Nat→Prop} {h h1 h2:Heap} (a:lz w S h w1 S1 h1) (b:lz w1 S1 h1 w2 S2 h2):lz w S h w2 S2 h2 where
 os:=b.os.trans a.os
 tape:=b.tape.trans a.tape
 output:=b.output.trans a.output
 size:=Nat.le_trans a.size b.size
 mH n hs:=⟨(b.mH n (a.mH n hs).1).1,(b.mH n (a.mH n hs).1).2.trans (a.mH n hs).2⟩
 other n hn hh:=by
  have FQ:¬ Has h1 n:=fun hc=>by
   rcases a.new n hc with h | h
   ·exact hh h
   ·omega
  obtain ⟨e1,s1⟩:=a.other n hn hh
  obtain ⟨e2,s2⟩:=b.other n (Nat.lt_of_lt_of_le hn a.size) FQ
  exact ⟨e2.trans e1,fun hs=>s1 (s2 hs)⟩
 new n hn:=by
  rcases b.new n hn with h | h
  ·exact a.new n h
  ·exact .inr (Nat.le_trans a.size h)
 drawn:=fun h=>Nat.le_trans (a.drawn h) (b.drawn h)
theorem lz.less {w w':World} {S S':Nat→Prop} {h h' h2:Heap} (a:lz w S h w' S' h') (hl:∀ n,Has h2 n→Has h' n):lz w S h w' S' h2:=
 {a with new:=fun n hn=>a.new n (hl n hn)}
theorem oV.mono {w w':World} {S S':Nat→Prop} {b:Bk} {o:PO} (hs:∀ n,S n→S' n∧w'.heap[n]? =w.heap[n]?) (hb:∀ n,b.cd=some n→w'.heap[n]? =w.heap[n]?)
 (h:oV w S b o):oV w' S' b o:=by
 cases o with
 | cells cs=>
   obtain ⟨h0,n,vs,E,h1,h2,h3,h4⟩:=h
   exact ⟨h0,n,vs,E,h1,by rw [hb n h1];exact h2,h3,h4.mono hs⟩
 | arr sz xs=>
   obtain ⟨h1,h2,h3⟩:=h
   refine ⟨h1,h2,h3.imp id ?_⟩
   rintro ⟨n,vs,E,g1,g2,g3,g4⟩
   exact ⟨n,vs,E,g1,by rw [hb n g1];exact g2,g3,g4.mono hs⟩
theorem B1 {w w':World} {base:Nat} {e:TypeId} {size:Nat} {v:Value} {n:Nat} {xs:List Value} (h:w.ownsRowF base e size v n xs) (hk:∀ k,v.ownBlock=some k→w'.heap[k]? =w.heap[k]?):w'.ownsRowF base e size v n xs:=by
 refine ⟨h.1,?_⟩
 rcases h.2 with hn | ⟨g,cap,cur,fz,rfl,hb,Yp,rest⟩
 ·exact .inl hn
 ·exact .inr ⟨g,cap,cur,fz,rfl,hb,by rw [hk g rfl];exact Yp,rest⟩
theorem Holds.mono {w w':World} {S S':Nat→Prop} {b:Bk} {o:Ob} (hs:∀ n,S n→S' n∧w'.heap[n]? =w.heap[n]?) (hb:∀ n,n∈eb (b,o)→w'.heap[n]? =w.heap[n]?)
 (h:Holds w S b o):Holds w' S' b o:=by
 have Eb:∀ n,b.cd=some n→w'.heap[n]? =w.heap[n]?:=fun n hn=>hb n (lY hn)
 cases o with
 | cells cs=>
   obtain ⟨h0,n,vs,E,h1,h2,h3,h4⟩:=h
   exact ⟨h0,n,vs,E,h1,by rw [Eb n h1];exact h2,h3,h4.mono hs⟩
 | arr sz xs=>
   obtain ⟨h1,h2,h3⟩:=h
   refine ⟨h1,h2,h3.imp id ?_⟩
   rintro ⟨n,vs,E,g1,g2,g3,g4⟩
   exact ⟨n,vs,E,g1,by rw [Eb n g1];exact g2,g3,g4.mono hs⟩
 | yM sz xs=>
   obtain ⟨h1,h2,h3⟩:=h
   refine ⟨h1,h2,h3.imp id ?_⟩
   rintro ⟨n,vs,E,g1,g2,g3,g4⟩
   exact ⟨n,vs,E,g1,by rw [Eb n g1];exact g2,g3,g4.mono hs⟩
 | mp es=>
   obtain ⟨L,c,hp,h⟩:=h
   exact ⟨L,c,hp,h.mono hs Eb⟩
 | Pv L c=>exact vn.mono hs Eb h
 | Pw es q k=>
   obtain ⟨L,c,hp,h,hq⟩:=h
   exact ⟨L,c,hp,h.mono hs Eb,hq⟩
 | Px bm c seen=>
   obtain ⟨n,nm,g1,g2,g3⟩:=h
   exact ⟨n,nm,g1,g2,by rw [Eb n g1];exact g3⟩
 | cj es=>
   obtain ⟨h1,h2⟩:=h
   exact ⟨h1,fun e he=>(h2 e he).mono hs (fun n hn=>hb n (by
    unfold eb Ob.more
    exact List.mem_append_right _ (List.mem_filterMap.2 ⟨e,he,hn⟩)))⟩
 | OZ T E row bs=>
   obtain ⟨n,p,v,g1,g2,g3,g4,g5⟩:=h
   exact ⟨n,p,v,g1,by rw [Eb n g1];exact g2,g3,B1 g4 (fun k hk=>hb k (by
    rw [g5] at hk
    unfold eb Ob.more
    exact List.mem_append_right _ (by simp [hk]))),g5⟩
theorem vo {w:World} {n:Nat} {o:Obj} (h:w.heap[n]? =some o):n < w.heap.size:=by
 rcases Nat.lt_or_ge n w.heap.size with h' | h'
 ·exact h'
 ·simp [Array.getElem?_eq_none h'] at h
theorem oV.lt {w:World} {S:Nat→Prop} {b:Bk} {o:PO} (h:oV w S b o) {n:Nat} (hn:b.cd=some n):n < w.heap.size:=by
 cases o with
 | cells cs=>
   obtain ⟨_,m,vs,E,h1,h2,_⟩:=h
   obtain rfl:m=n:=by rw [h1] at hn;exact Option.some.inj hn
   exact vo h2
 | arr sz xs=>
   obtain ⟨_,_,⟨h3,_⟩ | ⟨m,vs,E,h1,h2,_⟩⟩:=h
   ·rw [h3] at hn;cases hn
   ·obtain rfl:m=n:=by rw [h1] at hn;exact Option.some.inj hn
    exact vo h2
theorem Holds.lt {w:World} {S:Nat→Prop} {b:Bk} {o:Ob} (h:Holds w S b o) {n:Nat} (Us:n∈eb (b,o)):n < w.heap.size:=by
 by_cases hb:b.cd=some n
 ·have hn:=hb
  cases o with
  | cells cs=>
    obtain ⟨_,m,vs,E,h1,h2,_⟩:=h
    obtain rfl:m=n:=by rw [h1] at hn;exact Option.some.inj hn
    exact vo h2
  | arr sz xs=>
    obtain ⟨_,_,⟨h3,_⟩ | ⟨m,vs,E,h1,h2,_⟩⟩:=h
    ·rw [h3] at hn;cases hn
    ·obtain rfl:m=n:=by rw [h1] at hn;exact Option.some.inj hn
     exact vo h2
  | yM sz xs=>
    obtain ⟨_,_,⟨h3,_⟩ | ⟨m,vs,E,h1,h2,_⟩⟩:=h
    ·rw [h3] at hn;cases hn
    ·obtain rfl:m=n:=by rw [h1] at hn;exact Option.some.inj hn
     exact vo h2
  | mp es=>
    obtain ⟨_,_,_,m,ov,h1,h2,_⟩:=h
    obtain rfl:m=n:=by rw [h1] at hn;exact Option.some.inj hn
    exact vo h2
  | Pv L c=>
    obtain ⟨m,ov,h1,h2,_⟩:=h
    obtain rfl:m=n:=by rw [h1] at hn;exact Option.some.inj hn
    exact vo h2
  | Pw es q k=>
    obtain ⟨_,_,_,⟨m,ov,h1,h2,_⟩,_⟩:=h
    obtain rfl:m=n:=by rw [h1] at hn;exact Option.some.inj hn
    exact vo h2
  | Px bm c seen=>
    obtain ⟨m,nm,h1,_,h2⟩:=h
    obtain rfl:m=n:=by rw [h1] at hn;exact Option.some.inj hn
    exact vo h2
  | cj es=>
    obtain ⟨h1,_⟩:=h
    rw [h1] at hn;cases hn
  | OZ T E row bs=>
    obtain ⟨m,p,v,h1,h2,_⟩:=h
    obtain rfl:m=n:=by rw [h1] at hn;exact Option.some.inj hn
    exact vo h2
 ·have hm:n∈o.more:=by
   unfold eb at Us
   rcases List.mem_append.1 Us with h | h
   ·exact absurd (by simpa using h) hb
   ·exact h
  cases o with
  | cj es=>
    obtain ⟨e,he,tO⟩:=List.mem_filterMap.1 hm
    exact (h.2 e he).lt tO
  | OZ T E row bs=>
    obtain ⟨m,p,v,h1,h2,h3,h4,h5⟩:=h
    have hr:row=some n:=by simpa [Ob.more] using hm
    exact (h4.lt n (h5.trans hr)).2
  | cells=>simp [Ob.more] at hm
  | arr=>simp [Ob.more] at hm
  | yM=>simp [Ob.more] at hm
  | mp=>simp [Ob.more] at hm
  | Pv=>simp [Ob.more] at hm
  | Pw=>simp [Ob.more] at hm
  | Px=>simp [Ob.more] at hm
theorem cG.lt {w:World} {S:Nat→Prop} {h:Heap} (r:cG w S h) {n:Nat} (hn:Has h n):n < w.heap.size:=by
 obtain ⟨e,he,hb⟩:=hn
 exact (r.holds e he).lt hb
theorem At.FW {w:World} {S:Nat→Prop} {c:AV} {v:Value} (h:At w S c v) (ho:c.one=true):v.oneCell'=true:=by
 cases h<;>first | rfl | (simp [AV.one] at ho;done) | exact ho
theorem iJ (x:AV) (xs:List AV):flat (x :: xs)=x.cells++flat xs:=by simp [flat]
theorem sY (xs ys:List AV):flat (xs++ys)=flat xs++flat ys:=by simp [flat]
theorem cQ {sz:Nat}:∀ {xs:List AV},(∀ x∈xs,El sz x)→(flat xs).length=xs.length * sz
 | [],_=>by simp [flat]
 | x :: xs,h=>by
   rw [iJ,List.length_append,(h x (by simp)).1,cQ (fun y hy=>h y (by simp [hy])),List.length_cons,Nat.add_mul]
   omega
theorem IL {sz:Nat} {xs:List AV} (h:∀ x∈xs,El sz x):∀ c∈flat xs,c.one=true:=by
 intro c hc
 obtain ⟨x,hx,R3⟩:=List.mem_flatMap.1 hc
 exact (h x hx).2 c R3
theorem qo {sz:Nat}:∀ {xs:List AV} {i:Nat} {x:AV},(∀ x∈xs,El sz x)→xs[i]? =some x→∀ j,j < sz→(flat xs)[i * sz+j]? =x.cells[j]?
 | [],i,x,_,h,_,_=>by simp at h
 | y :: xs,0,x,hs,h,j,hj=>by
   simp at h;subst h
   rw [iJ,List.getElem?_append_left (by rw [(hs y (by simp)).1];omega)]
   simp
 | y :: xs,i+1,x,hs,h,j,hj=>by
   simp at h
   rw [iJ,List.getElem?_append_right (by rw [(hs y (by simp)).1,Nat.add_mul];omega),(hs y (by simp)).1]
   rw [show (i+1) * sz+j - sz=i * sz+j from by rw [Nat.add_mul];omega]
   exact qo (fun z hz=>hs z (by simp [hz])) h j hj
structure Ext (w w':World):Prop where
 os:w'.os=w.os
 tape:w'.tape=w.tape
 output:w'.output=w.output
 size:w.heap.size≤w'.heap.size
 same:∀ n,n < w.heap.size→w'.heap[n]? =w.heap[n]?
 drawn:bA.dr→w.drawn≤w'.drawn
theorem Ext.refl (w:World):Ext w w:=⟨rfl,rfl,rfl,Nat.le_refl _,fun _ _=>rfl,fun _=>Nat.le_refl _⟩
theorem Ext.trans {a b c:World} (h:Ext a b) (k:Ext b c):Ext a c:=
 ⟨k.os.trans h.os,k.tape.trans h.tape,k.output.trans h.output,Nat.le_trans h.size k.size,fun n hn=>(k.same n (Nat.lt_of_lt_of_le hn h.size)).trans (h.same n hn),fun q=>Nat.le_trans (h.drawn q) (k.drawn q)⟩
theorem Ext.alloc (w:World) (o:Obj):Ext w (w.alloc o):=
 ⟨rfl,rfl,rfl,by simp,fun n hn=>by show (w.heap.push o)[n]? =_;rw [Array.getElem?_push,if_neg (by omega)],fun _=>Nat.le_refl _⟩
theorem Ext.IM (w:World) (k:Nat) (h:w.drawn≤k):Ext w {w with drawn:=k}:=⟨rfl,rfl,rfl,Nat.le_refl _,fun _ _=>rfl,fun _=>h⟩
theorem cG.ext {w w':World} {S:Nat→Prop} {h:Heap} (r:cG w S h) (e:Ext w w'):cG w' S h where
 nodup:=r.nodup
 holds x hx:=(r.holds x hx).mono (fun n hn=>⟨hn,e.same n (r.slt n hn)⟩) (fun n hn=>e.same n (r.lt ⟨x,hx,hn⟩))
 sep:=r.sep
 slt n hn:=Nat.lt_of_lt_of_le (r.slt n hn) e.size
 jt g o ho:=⟨(r.jt g o ho).1,Cq (e.same g (r.slt g (r.jt g o ho).1)) (r.jt g o ho).2⟩
theorem lz.ext {w w':World} {S:Nat→Prop} {h:Heap} (r:∀ n,S n→n < w.heap.size) (e:Ext w w'):lz w S h w' S h:=
 ⟨e.os,e.tape,e.output,e.size,fun n hn=>⟨hn,e.same n (r n hn)⟩,fun n hn _=>⟨e.same n hn,id⟩,fun _ hn=>.inl hn,e.drawn⟩
theorem cG.frame {w w':World} {S S':Nat→Prop} {h h1 rest:Heap} (r:cG w S (h++rest)) (e:lz w S h w' S' h1) (r1:cG w' S' h1):cG w' S' (h1++rest):=by
 have lA:∀ x∈rest,∀ n,n∈eb x→n < w.heap.size∧¬ Has h n:=by
  intro x hx n hn
  refine ⟨r.lt ⟨x,List.mem_append_right _ hx,hn⟩,fun ⟨y,hy,R4⟩=>?_⟩
  have:=r.nodup
  rw [List.flatMap_append,List.nodup_append] at this
  exact this.2.2 n (List.mem_flatMap.2 ⟨y,hy,R4⟩) n (List.mem_flatMap.2 ⟨x,hx,hn⟩) rfl
 refine ⟨?_,?_,?_,r1.slt,r1.jt⟩
 ·have:=r.nodup
  rw [List.flatMap_append,List.nodup_append] at this ⊢
  refine ⟨r1.nodup,this.2.1,fun n hn m hm KX=>?_⟩
  subst KX
  obtain ⟨y,hy,R4⟩:=List.mem_flatMap.1 hn
  obtain ⟨x,hx,Py⟩:=List.mem_flatMap.1 hm
  rcases e.new n ⟨y,hy,R4⟩ with hh | hh
  ·exact (lA x hx n Py).2 hh
  ·have:=(lA x hx n Py).1;omega
 ·intro x hx
  rcases List.mem_append.1 hx with hx | hx
  ·exact r1.holds x hx
  ·exact (r.holds x (List.mem_append_right _ hx)).mono e.mH (fun n hn=>(e.other n (lA x hx n hn).1 (lA x hx n hn).2).1)
 ·intro x hx n hn
  rcases List.mem_append.1 hx with hx | hx
  ·exact r1.sep x hx n hn
  ·rw [← r.sep x (List.mem_append_right _ hx) n hn]
   exact ⟨(e.other n (lA x hx n hn).1 (lA x hx n hn).2).2,fun hs=>(e.mH n hs).1⟩
theorem lz.frame {w w':World} {S S':Nat→Prop} {h h1:Heap} (rest:Heap) (e:lz w S h w' S' h1):lz w S (h++rest) w' S' (h1++rest) where
 os:=e.os
 tape:=e.tape
 output:=e.output
 size:=e.size
 drawn:=e.drawn
 mH:=e.mH
 other n hn hh:=e.other n hn (fun ⟨x,hx,hb⟩=>hh ⟨x,List.mem_append_left _ hx,hb⟩)
 new n hn:=by
  obtain ⟨x,hx,hb⟩:=hn
  rcases List.mem_append.1 hx with hx | hx
  ·rcases e.new n ⟨x,hx,hb⟩ with ⟨y,hy,Yq⟩ | h
   ·exact .inl ⟨y,List.mem_append_left _ hy,Yq⟩
   ·exact .inr h
  ·exact .inl ⟨x,List.mem_append_right _ hx,hb⟩
end Go.Eng
set_option linter.unusedVariables false
namespace Go.Eng
open Go
variable [bA]
theorem AH {a b:Nat} (h:Nat.beq a b=false):a≠b:=fun e=>by subst e;simp at h
theorem pZ {a b:Nat} (h:a≠b):Nat.beq a b=false:=by
 cases hb:Nat.beq a b with
 | false=>rfl
 | true=>exact absurd (Nat.eq_of_beq_eq_true hb) h
def lk:List (Nat×AV)→Nat→Option AV
 | [],_=>none
 | (k,v) :: r,s=>match Nat.beq k s with
   | true=>some v
   | false=>lk r s
structure St where
 n:Nat
 tm:List (Nat×AV)
 hp:Heap
structure dQ (w:World) (S:Nat→Prop) (σ:St) (a:Act):Prop where
 size:a.tmps.size=σ.n
 defers:a.defers=[]
 tm:∀ s av,lk σ.tm s=some av→∃ v,a.tmps[s]? =some v∧At w S av v
 hp:cG w S σ.hp
def MZ:Value→AV
 | .int k n=>.int k n
 | .bool b=>.bool b
 | .string s=>.str s.data.toList
 | .slice none 0 0=>.nil
 | v=>.raw v
theorem Dd (w:World) (S:Nat→Prop) (v:Value):At w S (MZ v) v:=by
 unfold MZ
 split
 ·exact .int _ _
 ·exact .bool _
 ·rename_i s
  have h:=At.str (w:=w) (S:=S) s.data.toList
  simpa using h
 ·exact .nil
 ·exact .raw _
def GQ:List UInt8→Option (List UInt8)
 | []=>some []
 | x :: r=>match GQ r with
   | some l=>some (x :: l)
   | none=>none
theorem Em:∀ (l:List UInt8),GQ l=some l
 | []=>rfl
 | x :: r=>by simp [GQ,Em r]
def NL:Value→Option AV
 | .int k n=>some (.int k n)
 | .bool b=>some (.bool b)
 | .string s=>match GQ s.data.toList with
   | some l=>some (.str l)
   | none=>none
 | .slice none 0 0=>some .nil
 | v=>some (.raw v)
theorem Li (v:Value):NL v=some (MZ v):=by
 unfold NL MZ
 split<;>simp [Em]
def cZ (tm:List (Nat×AV)):Operand→Option AV
 | .tmp t=>lk tm t
 | .const v=>NL v
 | .func f=>some (.func (.func f) [])
 | .global g=>some (.raw (.pointer (some ⟨g,0,none⟩)))
theorem bj {w:World} {S:Nat→Prop} {σ:St} {a:Act} {x:Operand} {av:AV} (r:dQ w S σ a) (h:cZ σ.tm x=some av):At w S av (a.eval x):=by
 cases x with
 | tmp t=>
   obtain ⟨v,h1,h2⟩:=r.tm t av h
   simp [Act.eval,h1,h2]
 | const v=>simp only [cZ,Li,Option.some.injEq] at h;subst h;exact Dd _ _ _
 | global g=>simp only [cZ,Option.some.injEq] at h;subst h;exact .raw _
 | func f=>simp only [cZ,Option.some.injEq] at h;subst h;exact .func _ _ _ rfl (fun i c v hc=>by simp at hc)
theorem dQ.put {w:World} {S:Nat→Prop} {n:Nat} {tm:List (Nat×AV)} {hp:Heap} {a:Act} {d:Nat} {av:AV} {v:Value} (r:dQ w S ⟨n,tm,hp⟩ a) (hd:Nat.blt d n=true) (hv:At w S av v):
 dQ w S ⟨n,(d,av) :: tm,hp⟩ (a.put (some d) v) where
 size:=by simp [Act.put,r.size]
 defers:=r.defers
 hp:=r.hp
 tm s bZ h:=by
  have KY:d < a.tmps.size:=by rw [r.size];simpa using hd
  simp only [lk] at h
  split at h
  ·rename_i hb
   obtain rfl:d=s:=by simpa using hb
   obtain rfl:=Option.some.inj h
   exact ⟨v,by simp [Act.put,KY],hv⟩
  ·rename_i hb
   have mJ:d≠s:=AH hb
   obtain ⟨u,h1,h2⟩:=r.tm s bZ h
   exact ⟨u,by simp [Act.put,mJ,h1],h2⟩
theorem dQ.ext {w w':World} {S:Nat→Prop} {σ:St} {a:Act} (r:dQ w S σ a) (e:Ext w w'):dQ w' S σ a where
 size:=r.size
 defers:=r.defers
 hp:=r.hp.ext e
 tm s av h:=let ⟨v,h1,h2⟩:=r.tm s av h;⟨v,h1,h2.mono fun n hn=>⟨hn,e.same n (r.hp.slt n hn)⟩⟩
theorem dQ.heap {w w':World} {S S':Nat→Prop} {n:Nat} {tm:List (Nat×AV)} {hp de:Heap} {a:Act} (r:dQ w S ⟨n,tm,hp⟩ a) (hs:∀ n,S n→S' n∧w'.heap[n]? =w.heap[n]?) (h:cG w' S' de):
 dQ w' S' ⟨n,tm,de⟩ a where
 size:=r.size
 defers:=r.defers
 hp:=h
 tm s av h:=let ⟨v,h1,h2⟩:=r.tm s av h;⟨v,h1,h2.mono hs⟩
def QT (w:World) (S:Nat→Prop) (h:Heap) (Q:St→Prop) (a':Act) (w':World):Prop:=
 ∃ aC S',Q aC∧dQ w' S' aC a'∧lz w S h w' S' aC.hp
def NM (w:World) (S:Nat→Prop) (h:Heap) (Q:Exit→St→Prop) (e:Exit) (a':Act) (w':World):Prop:=
 ∃ aC S',Q e aC∧dQ w' S' aC a'∧lz w S h w' S' aC.hp
def xj (K:Act→World→Prop):Exit→Act→World→Prop:=fun e a w=>e=.normal∧K a w
def ah (P:Program) (all:Array Oper) (l:List Oper) (σ:St) (Q:St→Prop):Prop:=
 ∀ w S a,dQ w S σ a→wpList P all (xj (QT w S σ.hp Q)) l a w
theorem Oper.Hx {P:Program} {o:Oper} {a:Act} {K K':Act→World→Prop} {Q Q':Exit→Act→World→Prop} (hK:∀ a w,K a w→K' a w) (hQ:∀ e a w,Q e a w→Q' e a w):
 ∀ r,o.upon P a K Q r→o.upon P a K' Q' r:=by
 intro r h
 unfold Oper.upon at *
 split at h
 ·exact hK _ _ h
 ·exact hK _ _ h
 ·exact hK _ _ h
 ·refine Calls.mono h ?_
  intro e w' he
  cases e with
  | returned v=>exact hK _ _ he
  | panicked c=>exact hQ _ _ _ he
  | outgrown=>obtain ⟨a0,w0,h0⟩:=he;exact ⟨a0,w0,hQ _ _ _ h0⟩
 ·exact Rows.mono h fun v w' hv=>hK _ _ hv
 ·exact hQ _ _ _ h
 ·exact h.elim
theorem jP {P:Program} {all:Array Oper} {Q Q':Exit→Act→World→Prop} (hQ:∀ e a w,Q e a w→Q' e a w):∀ (l:List Oper) (a:Act) (w:World),wpList P all Q l a w→wpList P all Q' l a w
 | [],_,_,h=>hQ _ _ _ h
 | o :: rest,a,w,h=>by
   unfold wpList at *
   split
   ·rename_i hw
    rw [if_pos hw] at h
    rcases h with h | ⟨h1,a0,w0,h0⟩
    ·exact .inl (Oper.Hx (fun a w hh=>jP hQ rest a w hh) hQ _ h)
    ·exact .inr ⟨h1,a0,w0,hQ _ _ _ h0⟩
   ·rename_i hw
    rw [if_neg hw] at h
    exact jP hQ rest _ _ h
theorem ah.nil {P:Program} {all:Array Oper} {σ:St} {Q:St→Prop} (h:Q σ):ah P all [] σ Q:=
 fun w S _ r=>⟨rfl,σ,S,h,r,lz.refl _ _ _⟩
theorem ah.go {P:Program} {all:Array Oper} {rest:List Oper} {σ:St} {Q:St→Prop} (k:ah P all rest σ Q) {w w':World} {S S':Nat→Prop} {h:Heap} {a':Act}
 (r:dQ w' S' σ a') (e:lz w S h w' S' σ.hp):wpList P all (xj (QT w S h Q)) rest a' w':=
 jP (fun _ _ _ ⟨h1,aC,Pz,h2,h3,h4⟩=>⟨h1,aC,Pz,h2,h3,e.trans h4⟩) _ _ _ (k w' S' a' r)
theorem ah.M0 {P:Program} {all:Array Oper} {o:Oper} {rest:List Oper} {σ:St} {Q:St→Prop} (hg:o.guard=none)
 (h:∀ w S a,dQ w S σ a→∃ v w' S' aC,(execOp a.eval o).run P w=.ok (.value v) w'∧dQ w' S' aC (a.put o.dst v)∧lz w S σ.hp w' S' aC.hp∧ah P all rest aC Q):
 ah P all (o :: rest) σ Q:=by
 intro w S a r
 obtain ⟨v,w',S',aC,h1,h2,h3,k⟩:=h w S a r
 unfold wpList
 rw [if_pos (by simp [Region.wanted,hg])]
 refine .inl ?_
 show o.upon P a _ _ _
 rw [h1]
 exact k.go h2 h3
theorem ah.op {P:Program} {all:Array Oper} {o:Oper} {rest:List Oper} {σ aC:St} {Q:St→Prop} (hg:o.guard=none)
 (h:∀ w S a,dQ w S σ a→∃ v w' S',(execOp a.eval o).run P w=.ok (.value v) w'∧dQ w' S' aC (a.put o.dst v)∧lz w S σ.hp w' S' aC.hp)
 (k:ah P all rest aC Q):ah P all (o :: rest) σ Q:=
 ah.M0 hg fun w S a r=>let ⟨v,w',S',h1,h2,h3⟩:=h w S a r;⟨v,w',S',aC,h1,h2,h3,k⟩
theorem ah.GR {P:Program} {all:Array Oper} {o:Oper} {rest:List Oper} {σ:St} {Q:St→Prop} (hg:o.guard=none)
 (h:∀ w S a,dQ w S σ a→∃ f args,(execOp a.eval o).run P w=.ok (.enter f args) w∧
  Calls P f args w fun e w'=>∃ v S' aC,e=.returned v∧dQ w' S' aC (a.put o.dst v)∧lz w S σ.hp w' S' aC.hp∧ah P all rest aC Q):
 ah P all (o :: rest) σ Q:=by
 intro w S a r
 obtain ⟨f,args,h1,h2⟩:=h w S a r
 unfold wpList
 rw [if_pos (by simp [Region.wanted,hg])]
 refine .inl ?_
 show o.upon P a _ _ _
 rw [h1]
 refine Calls.mono h2 ?_
 rintro e w' ⟨v,S',aC,rfl,g1,g2,k⟩
 exact k.go g1 g2
theorem ah.act {P:Program} {all:Array Oper} {o:Oper} {rest:List Oper} {σ aC:St} {Q:St→Prop} (hg:o.guard=none) (hd:o.dst=none)
 (h:∀ w S a,dQ w S σ a→∃ w' S',(execOp a.eval o).run P w=.ok .skip w'∧dQ w' S' aC a∧lz w S σ.hp w' S' aC.hp)
 (k:ah P all rest aC Q):ah P all (o :: rest) σ Q:=by
 intro w S a r
 obtain ⟨w',S',h1,h2,h3⟩:=h w S a r
 unfold wpList
 rw [if_pos (by simp [Region.wanted,hg])]
 refine .inl ?_
 show o.upon P a _ _ _
 rw [h1]
 show wpList P all _ rest (a.put o.dst undef) w'
 rw [hd]
 exact k.go h2 h3
theorem ah.val {P:Program} {all:Array Oper} {o:Oper} {rest:List Oper} {n:Nat} {tm:List (Nat×AV)} {hp:Heap} {Q:St→Prop} {d:Nat} {av:AV} (hg:o.guard=none) (hd:o.dst=some d) (hn:Nat.blt d n=true)
 (h:∀ w S a,dQ w S ⟨n,tm,hp⟩ a→∃ v,(execOp a.eval o).run P w=.ok (.value v) w∧At w S av v)
 (k:ah P all rest ⟨n,(d,av) :: tm,hp⟩ Q):ah P all (o :: rest) ⟨n,tm,hp⟩ Q:=by
 refine ah.op hg (aC:=⟨n,(d,av) :: tm,hp⟩) ?_ k
 intro w S a r
 obtain ⟨v,h1,h2⟩:=h w S a r
 exact ⟨v,w,S,h1,by rw [hd];exact r.put hn h2,lz.refl _ _ _⟩
def QV (P:Program) (o:Oper) (σ:St) (av:AV):Prop:=
 ∀ w S a,dQ w S σ a→∃ v,(∀ w',Ext w w'→(execOp a.eval o).run P w'=.ok (.value v) w')∧At w S av v
theorem ah.qv {P:Program} {all:Array Oper} {rest:List Oper} {n:Nat} {tm:List (Nat×AV)} {hp:Heap} {Q:St→Prop} {d:Nat} {av:AV} {op:Op} {ty:TypeId} {pos:String} {af:Array Edge}
 (q:QV P ⟨some d,op,ty,pos,af,none⟩ ⟨n,tm,hp⟩ av) (hn:Nat.blt d n=true) (k:ah P all rest ⟨n,(d,av) :: tm,hp⟩ Q):ah P all (⟨some d,op,ty,pos,af,none⟩ :: rest) ⟨n,tm,hp⟩ Q:=
 ah.val rfl rfl hn (fun w S a r=>let ⟨v,h1,h2⟩:=q w S a r;⟨v,h1 w (Ext.refl w),h2⟩) k
structure PA (σ aC:St):Prop where
 n:aC.n=σ.n
 tm:∀ s av,lk aC.tm s=some av→lk σ.tm s=some av
 hp:aC.hp.Sublist σ.hp
theorem cG.sub {w:World} {S:Nat→Prop} {h h':Heap} (r:cG w S h) (hs:h'.Sublist h):cG w S h' where
 nodup:=r.nodup.sublist (zr hs)
 holds e he:=r.holds e (hs.subset he)
 sep e he:=r.sep e (hs.subset he)
 slt:=r.slt
 jt:=r.jt
theorem dQ.less {w:World} {S:Nat→Prop} {σ aC:St} {a:Act} (r:dQ w S σ a) (h:PA σ aC):dQ w S aC a where
 size:=r.size.trans h.n.symm
 defers:=r.defers
 tm s av hh:=r.tm s av (h.tm s av hh)
 hp:=r.hp.sub h.hp
theorem Has.sub {h h':Heap} (hs:h'.Sublist h) {n:Nat} (hh:Has h' n):Has h n:=let ⟨e,he,hb⟩:=hh;⟨e,hs.subset he,hb⟩
theorem ah.weaken {P:Program} {all:Array Oper} {l:List Oper} {σ aC:St} {Q:St→Prop} (h:PA σ aC) (k:ah P all l aC Q):ah P all l σ Q:=
 fun w S _ r=>k.go (r.less h) (lz.less (lz.refl w S σ.hp) fun _ hn=>hn.sub h.hp)
theorem ah.aJ {P:Program} {all:Array Oper} {d:Nat} {op:Op} {ty:TypeId} {pos:String} {af:Array Edge} {j:Nat} {want b:Bool} {s:Nat} {rest:List Oper} {n:Nat} {tm:List (Nat×AV)} {hp:Heap} {Q:St→Prop}
 (hj:(all[j]?).bind (·.dst)=some s) (hs:lk tm s=some (.bool b)) (hb:b=!want) (hn:Nat.blt d n=true)
 (k:ah P all rest ⟨n,(d,.raw undef) :: tm,hp⟩ Q):ah P all (⟨some d,op,ty,pos,af,some (j,want)⟩ :: rest) ⟨n,tm,hp⟩ Q:=by
 intro w S a r
 obtain ⟨v,h1,h2⟩:=r.tm s _ hs
 cases h2
 unfold wpList
 rw [if_neg (by simp [Region.wanted,yielded,hj,h1,hb])]
 exact k.go (r.put hn (.raw undef)) (lz.refl _ _ _)
theorem ah.fT {P:Program} {all:Array Oper} {d:Nat} {op:Op} {ty:TypeId} {pos:String} {af:Array Edge} {j:Nat} {want:Bool} {s:Nat} {rest:List Oper} {n:Nat} {tm:List (Nat×AV)} {hp:Heap} {Q:St→Prop}
 (hj:(all[j]?).bind (·.dst)=some s) (hs:lk tm s=some (.raw undef)) (hn:Nat.blt d n=true)
 (k:ah P all rest ⟨n,(d,.raw undef) :: tm,hp⟩ Q):ah P all (⟨some d,op,ty,pos,af,some (j,want)⟩ :: rest) ⟨n,tm,hp⟩ Q:=by
 intro w S a r
 obtain ⟨v,h1,h2⟩:=r.tm s _ hs
 cases h2
 unfold wpList
 rw [if_neg (by simp [Region.wanted,yielded,hj,h1,undef])]
 exact k.go (r.put hn (.raw undef)) (lz.refl _ _ _)
theorem ah.aF {P:Program} {all:Array Oper} {d:Option Nat} {op:Op} {ty:TypeId} {pos:String} {af:Array Edge} {j:Nat} {want b:Bool} {s:Nat} {rest:List Oper} {σ:St} {Q:St→Prop}
 (hj:(all[j]?).bind (·.dst)=some s) (hs:lk σ.tm s=some (.bool b)) (hb:b=want)
 (k:ah P all (⟨d,op,ty,pos,af,none⟩ :: rest) σ Q):ah P all (⟨d,op,ty,pos,af,some (j,want)⟩ :: rest) σ Q:=by
 intro w S a r
 obtain ⟨v,h1,h2⟩:=r.tm s _ hs
 cases h2
 have:=k w S a r
 unfold wpList at this ⊢
 rw [if_pos (by simp [Region.wanted])] at this
 rw [if_pos (by simp [Region.wanted,yielded,hj,h1,hb])]
 exact this
def M1 (P:Program) (c:Code) (σ:St) (Q:Exit→St→Prop):Prop:=
 ∀ w S a,dQ w S σ a→c.wp P (NM w S σ.hp Q) a w
theorem M1.go {P:Program} {c:Code} {σ:St} {Q:Exit→St→Prop} (k:M1 P c σ Q) {w w':World} {S S':Nat→Prop} {h:Heap} {a':Act}
 (r:dQ w' S' σ a') (e:lz w S h w' S' σ.hp):c.wp P (NM w S h Q) a' w':=
 wp_mono (k w' S' a' r) (fun _ _ _ ⟨aC,Pz,h2,h3,h4⟩=>⟨aC,Pz,h2,h3,e.trans h4⟩)
inductive It where
 | code (c:Code)
 | cd (id:Nat)
 | stop (I:St→Prop)
def TD (P:Program) (R:St→Prop):List It→Exit→St→Prop
 | [],.normal,σ | [],.ret,σ=>R σ
 | [],_,_=>False
 | .cd id :: k,.exit M3,σ=>match Nat.beq M3 id with
   | true=>TD P R k .normal σ
   | false=>TD P R k (.exit M3) σ
 | .cd _ :: k,e,σ=>TD P R k e σ
 | .stop I :: _,.normal,σ=>I σ
 | .stop _ :: k,e,σ=>TD P R k e σ
 | .code c :: k,.normal,σ=>M1 P c σ (fun e aC=>TD P R k e aC)
 | .code _ :: k,e,σ=>TD P R k e σ
def ae (P:Program) (R:St→Prop) (k:List It) (σ:St):Prop:=TD P R k .normal σ
section
variable {P:Program} {R:St→Prop} {k:List It} {σ:St}
theorem ae.nil (h:R σ):ae P R [] σ:=h
theorem ae.cd {id:Nat} (h:ae P R k σ):ae P R (.cd id :: k) σ:=h
theorem ae.stop {I:St→Prop} (h:I σ):ae P R (.stop I :: k) σ:=h
theorem TD.ret:∀ (k:List It),R σ→TD P R k .ret σ
 | [],h=>h
 | .cd _ :: k,h=>TD.ret k h
 | .stop _ :: k,h=>TD.ret k h
 | .code _ :: k,h=>TD.ret k h
theorem ae.ret (h:R σ):ae P R (.code .ret :: k) σ:=
 fun w S _ r=>wp_ret ⟨σ,S,TD.ret k h,r,lz.refl _ _ _⟩
theorem ae.skip (h:ae P R k σ):ae P R (.code .skip :: k) σ:=
 fun w S _ r=>wp_skip ⟨σ,S,h,r,lz.refl _ _ _⟩
def Cr (id:Nat):List It→Option (List It)
 | []=>none
 | .cd M3 :: k=>match Nat.beq id M3 with
   | true=>some k
   | false=>Cr id k
 | _ :: k=>Cr id k
theorem TD.exit {id:Nat}:∀ (k k':List It),Cr id k=some k'→ae P R k' σ→TD P R k (.exit id) σ
 | [],_,h,_=>by simp [Cr] at h
 | .cd M3 :: k,k',h,h'=>by
   simp only [Cr] at h
   unfold TD
   split at h
   ·obtain rfl:=Option.some.inj h;exact h'
   ·exact TD.exit k k' h h'
 | .stop _ :: k,k',h,h'=>TD.exit k k' h h'
 | .code _ :: k,k',h,h'=>TD.exit k k' h h'
theorem ae.exit {id:Nat} {k':List It} (hp:Cr id k=some k') (h:ae P R k' σ):ae P R (.code (.exit id) :: k) σ:=
 fun w S _ r=>wp_exit ⟨σ,S,TD.exit k k' hp h,r,lz.refl _ _ _⟩
theorem ae.seq {x y:Code} (h:ae P R (.code x :: .code y :: k) σ):ae P R (.code (.seq x y) :: k) σ:=by
 intro w S a r
 refine wp_seq (wp_mono (h w S a r) ?_)
 rintro e a' w' ⟨aC,S',h1,h2,h3⟩
 cases e with
 | normal=>exact M1.go (Q:=fun e aC=>TD P R k e aC) h1 h2 h3
 | exit id=>exact ⟨aC,S',h1,h2,h3⟩
 | goto l=>exact ⟨aC,S',h1,h2,h3⟩
 | ret=>exact ⟨aC,S',h1,h2,h3⟩
 | panic c=>exact ⟨aC,S',h1,h2,h3⟩
 | outgrown=>exact ⟨aC,S',h1,h2,h3⟩
theorem ae.block {id:Nat} {c:Code} (h:ae P R (.code c :: .cd id :: k) σ):ae P R (.code (.block id c) :: k) σ:=by
 intro w S a r
 refine wp_block (wp_mono (h w S a r) ?_)
 rintro e a' w' ⟨aC,S',h1,h2,h3⟩
 cases e with
 | normal=>exact ⟨aC,S',h1,h2,h3⟩
 | exit M3=>
   simp only [TD] at h1
   by_cases hb:M3=id
   ·subst hb
    simp only [Nat.beq_refl] at h1
    simp only [Exit.inBlock,if_true]
    exact ⟨aC,S',h1,h2,h3⟩
   ·have:Nat.beq M3 id=false:=pZ hb
    rw [this] at h1
    simp only [Exit.inBlock,hb,if_false]
    exact ⟨aC,S',h1,h2,h3⟩
 | goto l=>exact ⟨aC,S',h1,h2,h3⟩
 | ret=>exact ⟨aC,S',h1,h2,h3⟩
 | panic c=>exact ⟨aC,S',h1,h2,h3⟩
 | outgrown=>exact ⟨aC,S',h1,h2,h3⟩
theorem ae.cond {c:Operand} {x y:Code} {b:Bool} (hc:cZ σ.tm c=some (.bool b)) (h1:b=true→ae P R (.code x :: k) σ) (h2:b=false→ae P R (.code y :: k) σ):
 ae P R (.code (.cond c x y) :: k) σ:=by
 intro w S a r
 have hv:=bj r hc
 generalize O0:a.eval c=v at hv
 cases hv
 exact wp_cond_split O0 (fun hb=>h1 hb w S a r) (fun hb=>h2 hb w S a r)
theorem ae.IN {c:Operand} {x y:Code} (hc:cZ σ.tm c=some (.bool true)) (h1:ae P R (.code x :: k) σ):ae P R (.code (.cond c x y) :: k) σ:=
 ae.cond hc (fun _=>h1) (fun h=>by cases h)
theorem ae.IP {c:Operand} {x y:Code} (hc:cZ σ.tm c=some (.bool false)) (h1:ae P R (.code y :: k) σ):ae P R (.code (.cond c x y) :: k) σ:=
 ae.cond hc (fun h=>by cases h) (fun _=>h1)
theorem ae.region {id:Nat} {l:List Oper} (h:ah P l.toArray l σ (ae P R k)):ae P R (.code (.region id l.toArray false) :: k) σ:=by
 intro w S a r
 refine wp_region_lit (jP ?_ _ _ _ (h w S a r))
 rintro e a' w' ⟨rfl,aC,S',h1,h2,h3⟩
 exact ⟨aC,S',h1,h2,h3⟩
theorem ae.go {w w':World} {S S':Nat→Prop} {h:Heap} {a':Act} {c:Code} (kk:ae P R (.code c :: k) σ) (r:dQ w' S' σ a') (e:lz w S h w' S' σ.hp):
 c.wp P (NM w S h (TD P R k)) a' w':=M1.go (Q:=fun e aC=>TD P R k e aC) kk r e
theorem least (p:Nat→Prop) (n:Nat) (h:p n):∃ m,p m∧∀ i,p i→m≤i:=by
 induction n using Nat.strongRecOn with
 | _ n ih=>
   by_cases hx:∃ i,i < n∧p i
   ·obtain ⟨i,hi,hp⟩:=hx;exact ih i hi hp
   ·exact ⟨n,h,fun i hi=>Nat.le_of_not_lt fun lA=>hx ⟨i,lA,hi⟩⟩
open Classical in
noncomputable def xR (p:Nat→Prop):Nat:=if h:∃ n,p n then Classical.choose (least p h.choose h.choose_spec) else 0
theorem w7 {p:Nat→Prop} {n:Nat} (h:p n):p (xR p)∧xR p≤n:=by
 have hx:∃ n,p n:=⟨n,h⟩
 unfold xR
 rw [dif_pos hx]
 have:=Classical.choose_spec (least p hx.choose hx.choose_spec)
 exact ⟨this.1,this.2 n h⟩
theorem ae.loop {body:Code} (I:Nat→St→Prop) (m:Nat) (h0:I m σ) (hs:∀ m σ,I m σ→ae P R (.code body :: .stop (fun aC=>∃ m',m' < m∧I m' aC) :: k) σ):
 ae P R (.code (.loop body) :: k) σ:=by
 intro w S a r
 let p:Act→World→Nat→Prop:=fun a' w' m=>∃ aC S',I m aC∧dQ w' S' aC a'∧lz w S σ.hp w' S' aC.hp
 refine wp_loop (fun a' w'=>∃ m,p a' w' m) (fun a' w'=>xR (p a' w')) ⟨m,σ,S,h0,r,lz.refl _ _ _⟩ ?_
 rintro a1 w1 ⟨m1,PB⟩
 obtain ⟨⟨De,S1,hI,Yr,R5⟩,_⟩:=w7 PB
 refine wp_mono (ae.go (hs _ De hI) Yr R5) ?_
 rintro e a2 w2 ⟨GS,S2,h2,M4,Lj⟩
 cases e with
 | normal=>
   obtain ⟨m2,lA,Yt⟩:=h2
   have KZ:p a2 w2 m2:=⟨GS,S2,Yt,M4,Lj⟩
   exact ⟨⟨m2,KZ⟩,Nat.lt_of_le_of_lt (w7 KZ).2 lA⟩
 | exit id=>exact ⟨GS,S2,h2,M4,Lj⟩
 | goto l=>exact ⟨GS,S2,h2,M4,Lj⟩
 | ret=>exact ⟨GS,S2,h2,M4,Lj⟩
 | panic c=>exact ⟨GS,S2,h2,M4,Lj⟩
 | outgrown=>exact ⟨GS,S2,h2,M4,Lj⟩
end
def aG (P:Program) (f:FuncId) (args:List AV) (h:Heap) (Q:AV→Heap→Prop):Prop:=
 ∀ w S (vs:Array Value),cG w S h→args.length=vs.size→lZ w S args vs→
   Calls P f vs w fun e w'=>∃ v r h' S',e=.returned v∧Q r h'∧At w' S' r v∧cG w' S' h'∧lz w S h w' S' h'
theorem aG.frame {P:Program} {f:FuncId} {args:List AV} {h:Heap} {Q:AV→Heap→Prop} (c:aG P f args h Q) (rest:Heap):
 aG P f args (h++rest) (fun r h'=>∃ h1,h'=h1++rest∧Q r h1):=by
 intro w S vs r hl ha
 refine (c w S vs (r.sub (List.sublist_append_left _ _)) hl ha).mono ?_
 rintro e w' ⟨v,rr,h',S',h1,h2,h3,h4,h5⟩
 exact ⟨v,rr,h'++rest,S',h1,⟨h',rfl,h2⟩,h3,r.frame h5 h4,h5.frame rest⟩
theorem cG.perm {w:World} {S:Nat→Prop} {h h':Heap} (r:cG w S h) (hp:h.Perm h'):cG w S h' where
 nodup:=(List.Perm.flatMap_right _ hp).nodup_iff.1 r.nodup
 holds e he:=r.holds e (hp.mem_iff.2 he)
 sep e he:=r.sep e (hp.mem_iff.2 he)
 slt:=r.slt
 jt:=r.jt
def Lk:List AV→Nat→List (Nat×AV)
 | [],_=>[]
 | x :: r,i=>(i,x) :: Lk r (i+1)
theorem IQ:∀ (l:List AV) (i s:Nat) (av:AV),lk (Lk l i) s=some av→i≤s∧l[s - i]? =some av
 | [],_,_,_,h=>by simp [Lk,lk] at h
 | x :: r,i,s,av,h=>by
   simp only [Lk,lk] at h
   split at h
   ·rename_i hb
    obtain rfl:i=s:=by simpa using hb
    simpa using h
   ·rename_i hb
    have mJ:i≠s:=AH hb
    obtain ⟨h1,h2⟩:=IQ r (i+1) s av h
    refine ⟨by omega,?_⟩
    rw [show s - i=(s - (i+1))+1 from by omega]
    simpa using h2
theorem GU {w:World} {S:Nat→Prop} {x y:AV} {u v:Value} (hx:At w S x u) (hy:At w S y v):lZ w S [x,y] #[u,v]:=by
 intro i c d hc hd
 match i with
 | 0=>simp at hc hd;subst hc;subst hd;exact hx
 | 1=>simp at hc hd;subst hc;subst hd;exact hy
 | i+2=>simp at hc
class aX (P:Program) (t:TypeId) (i:outParam TypeInfo):Prop where
 h:P.info? t=some i
class aD (P:Program) (t:TypeId) (d:outParam TypeDesc):Prop where
 h:P.underlying t=some d
section inv
variable {w:World} {S:Nat→Prop} {v:Value}
theorem At.eB {k:IntKind} {n:Int} (h:At w S (.int k n) v):v=.int k n:=by cases h;rfl
theorem At.kP {b:Bool} (h:At w S (.bool b) v):v=.bool b:=by cases h;rfl
theorem At.gO {s:List UInt8} (h:At w S (.str s) v):v=.string ⟨s.toArray⟩:=by cases h;rfl
theorem At.Df {u:Value} (h:At w S (.raw u) v):v=u:=by cases h;rfl
theorem At.Dg (h:At w S .nil v):v=.slice none 0 0:=by cases h;rfl
theorem At.nn {cs:List AV} (h:At w S (.agg cs) v):∃ vs,v=.agg vs∧cs.length=vs.size∧lZ w S cs vs:=by cases h with | agg _ vs hl h=>exact ⟨vs,rfl,hl,h⟩
theorem At.Ll {cs:List AV} (h:At w S (.nI cs) v):∃ vs,v=.tuple vs∧cs.length=vs.size∧lZ w S cs vs:=by cases h with | nI _ vs hl h=>exact ⟨vs,rfl,hl,h⟩
theorem At.rD {b:Bk} {o:Nat} (h:At w S (.ptr b o) v):∃ n,b.cd=some n∧v=.pointer (some ⟨n,o,none⟩):=by cases h with | ptr _ _ n hb=>exact ⟨n,hb,rfl⟩
theorem At.tP {sz:Nat} {b:Bk} {i o:Nat} (h:At w S (.pB sz b i o) v):∃ n,b.cd=some n∧v=.pointer (some ⟨n,i * sz+o,none⟩):=by cases h with | pB _ _ _ _ n hb=>exact ⟨n,hb,rfl⟩
theorem At.xS {fn:Fn} {cs:List AV} (h:At w S (.func fn cs) v):∃ vs,v=.func fn #[] vs∧cs.length=vs.size∧lZ w S cs vs:=by cases h with | func _ _ vs hl h=>exact ⟨vs,rfl,hl,h⟩
theorem At.xT {sz:Nat} {xs:List AV} (h:At w S (.list sz xs) v):∃ (a:Option Addr) (cap:Nat) (vs:List Value),v=.slice a xs.length cap∧(∀ x∈xs,El sz x)∧(flat xs).length=vs.length∧(∀ (i:Nat) c u,(flat xs)[i]? =some c→vs[i]? =some u→At w S c u)∧
 (∀ (i:Nat) u,vs[i]? =some u→∃ ad,a=some ad∧ad.spot=none∧S ad.block∧w.cell? ⟨ad.block,ad.off+i,none⟩=some u)∧xs.length≤cap:=by
 cases h with | list _ _ a cap vs h1 h2 h3 h4 h5=>exact ⟨a,cap,vs,rfl,h1,h2,h3,h4,h5⟩
theorem At.vp {cs:List AV} (h:At w S (.gg cs) v):∃ (ad:Addr) (vs:List Value),v=.pointer (some ad)∧cs.length=vs.length∧(∀ (i:Nat) c u,cs[i]? =some c→vs[i]? =some u→At w S c u)∧ad.spot=none∧S ad.block∧
 (∀ (i:Nat) u,vs[i]? =some u→w.cell? ⟨ad.block,ad.off+i,none⟩=some u):=by
 cases h with | gg _ ad vs h1 h2 h3 h4 h5=>exact ⟨ad,vs,rfl,h1,h2,h3,h4,h5⟩
theorem At.uy {sz:Nat} {b:Bk} {off len:Nat} (h:At w S (.sl sz b off len) v):∃ a cap,v=.slice a len cap∧((b.cd=none∧off=0∧len=0∧a=none∧cap=0)∨
 (∃ n,b.cd=some n∧a=some ⟨n,off * sz,none⟩∧len≤cap∧off+cap≤b.cap)∨(∃ n ad,b.cd=some n∧a=some ad∧len=0∧cap=0)):=by
 cases h with
 | B0 _ _ hb=>exact ⟨none,0,rfl,.inl ⟨hb,rfl,rfl,rfl,rfl⟩⟩
 | sl _ _ _ _ n cap hb h1 h2=>exact ⟨_,cap,rfl,.inr (.inl ⟨n,hb,rfl,h1,h2⟩)⟩
 | Lh _ _ _ n ad hb=>exact ⟨_,0,rfl,.inr (.inr ⟨n,ad,hb,rfl,rfl,rfl⟩)⟩
end inv
section rules
variable {P:Program} {all:Array Oper} {rest:List Oper} {n:Nat} {tm:List (Nat×AV)} {hp:Heap} {Q:St→Prop} {d:Nat} {ty:TypeId} {pos:String} {af:Array Edge}
theorem ax {x:Operand} {av:AV} (hx:cZ tm x=some av):QV P ⟨some d,.move x,ty,pos,af,none⟩ ⟨n,tm,hp⟩ (av):=
 (fun w S a r=>⟨a.eval x,fun _ _=>rfl,bj (σ:=⟨n,tm,hp⟩) r hx⟩)
theorem c0 {x:Operand} {av:AV} (hx:cZ tm x=some av):QV P ⟨some d,.assign x,ty,pos,af,none⟩ ⟨n,tm,hp⟩ (av):=
 (fun w S a r=>⟨a.eval x,fun _ _=>rfl,bj (σ:=⟨n,tm,hp⟩) r hx⟩)
theorem jv {c x y:Operand} {av:AV} (hc:cZ tm c=some (.bool true)) (hx:cZ tm x=some av):QV P ⟨some d,.pick c x y,ty,pos,af,none⟩ ⟨n,tm,hp⟩ (av):=
 (fun w S a r=>⟨a.eval x,fun w1 _=>by have h:=(bj (σ:=⟨n,tm,hp⟩) r hc).kP;simp [execOp,h,asBool],bj (σ:=⟨n,tm,hp⟩) r hx⟩)
theorem iX {c x y:Operand} {av:AV} (hc:cZ tm c=some (.bool false)) (hx:cZ tm y=some av):QV P ⟨some d,.pick c x y,ty,pos,af,none⟩ ⟨n,tm,hp⟩ (av):=
 (fun w S a r=>⟨a.eval y,fun w1 _=>by have h:=(bj (σ:=⟨n,tm,hp⟩) r hc).kP;simp [execOp,h,asBool],bj (σ:=⟨n,tm,hp⟩) r hx⟩)
theorem vq {op:BinOp} {xt yt:TypeId} {x y:Operand} {k:IntKind} {i j:Int} {av:AV} {v:Value} (hx:cZ tm x=some (.int k i)) (hy:cZ tm y=some (.int k j))
 (xk:∀ w,(binOp op xt (.int k i) (.int k j)).run P w=.ok v w) (tJ:∀ w S,At w S av v):QV P ⟨some d,.binOp op xt x y yt,ty,pos,af,none⟩ ⟨n,tm,hp⟩ av:=by
 intro w S a r
 refine ⟨v,fun w' _=>?_,tJ w S⟩
 simp [execOp,(bj (σ:=⟨n,tm,hp⟩) r hx).eB,(bj (σ:=⟨n,tm,hp⟩) r hy).eB,eqGuard_at_int,xk]
def NN (i:Int):Prop:=-9223372036854775808≤i∧i≤9223372036854775807
theorem Hy {i:Int} (h:NN i):IntKind.i64.wrap i=i:=IntWalk.i64_in _ h
theorem aV {xt yt:TypeId} {x y:Operand} {k:IntKind} {i j:Int} (hx:cZ tm x=some (.int k i)) (hy:cZ tm y=some (.int k j)):QV P ⟨some d,.binOp .add xt x y yt,ty,pos,af,none⟩ ⟨n,tm,hp⟩ (.int k (k.wrap (i+j))):=
 vq hx hy (v:=_) (fun w=>by simp [binOp,Op.intArith]) (fun w S=>.int _ _)
theorem bF {xt yt:TypeId} {x y:Operand} {k:IntKind} {i j:Int} (hx:cZ tm x=some (.int k i)) (hy:cZ tm y=some (.int k j)):QV P ⟨some d,.binOp .sub xt x y yt,ty,pos,af,none⟩ ⟨n,tm,hp⟩ (.int k (k.wrap (i - j))):=
 vq hx hy (v:=_) (fun w=>by simp [binOp,Op.intArith]) (fun w S=>.int _ _)
theorem vr {xt yt:TypeId} {x y:Operand} {k:IntKind} {i j:Int} (hx:cZ tm x=some (.int k i)) (hy:cZ tm y=some (.int k j)):QV P ⟨some d,.binOp .mul xt x y yt,ty,pos,af,none⟩ ⟨n,tm,hp⟩ (.int k (k.wrap (i * j))):=
 vq hx hy (v:=_) (fun w=>by simp [binOp,Op.intArith]) (fun w S=>.int _ _)
theorem PC {xt yt:TypeId} {x y:Operand} {k:IntKind} {i j:Int} (hx:cZ tm x=some (.int k i)) (hy:cZ tm y=some (.int k j)) (h0:j≠0):QV P ⟨some d,.binOp .rem xt x y yt,ty,pos,af,none⟩ ⟨n,tm,hp⟩ (.int k (i.tmod j)):=
 vq hx hy (v:=.int k (i.tmod j)) (fun w=>by simp [binOp,Op.intDiv,h0]) (fun w S=>.int _ _)
theorem bB {xt yt:TypeId} {x y:Operand} {k:IntKind} {i j:Int} (hx:cZ tm x=some (.int k i)) (hy:cZ tm y=some (.int k j)):QV P ⟨some d,.binOp .lss xt x y yt,ty,pos,af,none⟩ ⟨n,tm,hp⟩ (.bool (decide (i < j))):=
 vq hx hy (v:=.bool (decide (i < j))) (fun w=>by simp [binOp,Op.intCmp]) (fun w S=>.bool _)
theorem oW {xt yt:TypeId} {x y:Operand} {k:IntKind} {i j:Int} (hx:cZ tm x=some (.int k i)) (hy:cZ tm y=some (.int k j)):QV P ⟨some d,.binOp .leq xt x y yt,ty,pos,af,none⟩ ⟨n,tm,hp⟩ (.bool (decide (i≤j))):=
 vq hx hy (v:=.bool (decide (i≤j))) (fun w=>by simp [binOp,Op.intCmp]) (fun w S=>.bool _)
theorem gR {xt yt:TypeId} {x y:Operand} {k:IntKind} {i j:Int} (hx:cZ tm x=some (.int k i)) (hy:cZ tm y=some (.int k j)):QV P ⟨some d,.binOp .gtr xt x y yt,ty,pos,af,none⟩ ⟨n,tm,hp⟩ (.bool (decide (j < i))):=
 vq hx hy (v:=.bool (decide (j < i))) (fun w=>by simp [binOp,Op.intCmp]) (fun w S=>.bool _)
theorem sn {xt yt:TypeId} {x y:Operand} {k:IntKind} {i j:Int} (hx:cZ tm x=some (.int k i)) (hy:cZ tm y=some (.int k j)):QV P ⟨some d,.binOp .geq xt x y yt,ty,pos,af,none⟩ ⟨n,tm,hp⟩ (.bool (decide (j≤i))):=
 vq hx hy (v:=.bool (decide (j≤i))) (fun w=>by simp [binOp,Op.intCmp]) (fun w S=>.bool _)
theorem cH {xt yt:TypeId} {x y:Operand} {k:IntKind} {i j:Int} (hx:cZ tm x=some (.int k i)) (hy:cZ tm y=some (.int k j)):QV P ⟨some d,.binOp .eql xt x y yt,ty,pos,af,none⟩ ⟨n,tm,hp⟩ (.bool (decide (i=j))):=
 vq hx hy (v:=.bool (decide (i=j))) (fun w=>by simp [binOp,Op.intCmp];rfl) (fun w S=>.bool _)
theorem jH {xt yt:TypeId} {x y:Operand} {k:IntKind} {i j:Int} (hx:cZ tm x=some (.int k i)) (hy:cZ tm y=some (.int k j)):QV P ⟨some d,.binOp .neq xt x y yt,ty,pos,af,none⟩ ⟨n,tm,hp⟩ (.bool (decide (i≠j))):=
 vq hx hy (v:=.bool (decide (i≠j))) (fun w=>by simp [binOp,Op.intCmp,bne];rfl) (fun w S=>.bool _)
theorem uX {xt yt:TypeId} {x y:Operand} {s t:List UInt8} (hx:cZ tm x=some (.str s)) (hy:cZ tm y=some (.str t)):QV P ⟨some d,.binOp .eql xt x y yt,ty,pos,af,none⟩ ⟨n,tm,hp⟩ (.bool (decide (s=t))):=by
 refine fun w S a r=>⟨.bool (decide (s=t)),fun w1 _=>?_,.bool _⟩
 simp [execOp,(bj (σ:=⟨n,tm,hp⟩) r hx).gO,(bj (σ:=⟨n,tm,hp⟩) r hy).gO,eqGuard_at_string,binOp,Op.stringOp]
 rw [Bool.eq_iff_iff];simp
theorem zu {xt yt:TypeId} {x y:Operand} {s t:List UInt8} (hx:cZ tm x=some (.str s)) (hy:cZ tm y=some (.str t)):QV P ⟨some d,.binOp .neq xt x y yt,ty,pos,af,none⟩ ⟨n,tm,hp⟩ (.bool (decide (s≠t))):=by
 refine fun w S a r=>⟨.bool (decide (s≠t)),fun w1 _=>?_,.bool _⟩
 simp [execOp,(bj (σ:=⟨n,tm,hp⟩) r hx).gO,(bj (σ:=⟨n,tm,hp⟩) r hy).gO,eqGuard_at_string,binOp,Op.stringOp]
 rw [Bool.eq_iff_iff];simp
theorem run_equal_bool {P:Program} {t:TypeId} (h:P.underlying t=some .bool) (b c:Bool) (w:World):(Op.equal t (.bool b) (.bool c)).run P w=.ok (b==c) w:=by
 show (Op.equalIn (9999+1) t (.bool b) (.bool c)).run P w=_
 rw [Op.equalIn]
 simp [run_underlying h]
theorem xl {P:Program} {t:TypeId} (h:P.underlying t=some .bool) (b c:Bool) (w:World):(binOp .neq t (.bool b) (.bool c)).run P w=.ok (.bool (b !=c)) w:=by
 rw [show binOp .neq t (.bool b) (.bool c)=(do pure (.bool (!(← Op.equal t (.bool b) (.bool c))))) from rfl]
 simp [run_equal_bool h,bne]
theorem GV (s:List UInt8):(⟨s.toArray⟩:ByteArray).size=s.length:=rfl
theorem dB {xt:TypeId} {x:Operand} {b:Bool} (hx:cZ tm x=some (.bool b)):QV P ⟨some d,.unOp .not xt x,ty,pos,af,none⟩ ⟨n,tm,hp⟩ (.bool (!b)):=
 (fun w S a r=>⟨.bool (!b),fun w1 _=>by simp [execOp,(bj (σ:=⟨n,tm,hp⟩) r hx).kP,Op.unary],.bool _⟩)
theorem PD {xt yt:TypeId} {x y:Operand} {b c:Bool} [aD P xt .bool] (hx:cZ tm x=some (.bool b)) (hy:cZ tm y=some (.bool c)):QV P ⟨some d,.binOp .neq xt x y yt,ty,pos,af,none⟩ ⟨n,tm,hp⟩ (.bool (b !=c)):=
 (fun w S a r=>⟨.bool (b !=c),fun w1 _=>by simp [execOp,(bj (σ:=⟨n,tm,hp⟩) r hx).kP,(bj (σ:=⟨n,tm,hp⟩) r hy).kP,eqGuard_at_bool,xl (aD.h (P:=P) (t:=xt))],.bool _⟩)
theorem PE {x y:Operand} {ts:Array TypeId} {k:IntKind} {i j:Int} (hx:cZ tm x=some (.int k i)) (hy:cZ tm y=some (.int k j)):QV P ⟨some d,.call {callee:=.builtin .max,args:=#[x,y],argTypes:=ts},ty,pos,af,none⟩ ⟨n,tm,hp⟩ (.int k (max i j)):=
 (fun w S a r=>⟨.int k (max i j),fun w1 _=>by
  have e:(if j > i then j else i)=max i j:=by rw [Int.max_def];split<;>split<;>omega
  simp [execOp,(bj (σ:=⟨n,tm,hp⟩) r hx).eB,(bj (σ:=⟨n,tm,hp⟩) r hy).eB,resolve,invoke,builtin,Builtin.max_,Builtin.max2,← e],.int _ _⟩)
theorem IS {x y:Operand} {ts:Array TypeId} {k:IntKind} {i j:Int} (hx:cZ tm x=some (.int k i)) (hy:cZ tm y=some (.int k j)):QV P ⟨some d,.call {callee:=.builtin .min,args:=#[x,y],argTypes:=ts},ty,pos,af,none⟩ ⟨n,tm,hp⟩ (.int k (min i j)):=
 (fun w S a r=>⟨.int k (min i j),fun w1 _=>by
  have e:(if j < i then j else i)=min i j:=by rw [Int.min_def];split<;>split<;>omega
  simp [execOp,(bj (σ:=⟨n,tm,hp⟩) r hx).eB,(bj (σ:=⟨n,tm,hp⟩) r hy).eB,resolve,invoke,builtin,Builtin.min_,Builtin.min2,← e],.int _ _⟩)
theorem FX {x:Operand} {t e:TypeId} {sz:Nat} {xs:List AV} [aD P t (.slice e)] (hx:cZ tm x=some (.list sz xs)):QV P ⟨some d,.call {callee:=.builtin .len,args:=#[x],argTypes:=#[t]},ty,pos,af,none⟩ ⟨n,tm,hp⟩ (.int .i64 (xs.length:Nat)):=
 (fun w S a r=>⟨.int .i64 (xs.length:Nat),fun w1 _=>by
  obtain ⟨ad,cap,vs,h1,_⟩:=(bj (σ:=⟨n,tm,hp⟩) r hx).xT
  simp [execOp,h1,resolve,invoke,builtin,Builtin.len_,run_underlying (aD.h (P:=P) (t:=t)),goInt],.int _ _⟩)
theorem En {x:Operand} {t e:TypeId} {sz off len:Nat} {b:Bk} [aD P t (.slice e)] (hx:cZ tm x=some (.sl sz b off len)):QV P ⟨some d,.call {callee:=.builtin .len,args:=#[x],argTypes:=#[t]},ty,pos,af,none⟩ ⟨n,tm,hp⟩ (.int .i64 (len:Nat)):=
 (fun w S a r=>⟨.int .i64 (len:Nat),fun w1 _=>by
  obtain ⟨ad,cap,h1,_⟩:=(bj (σ:=⟨n,tm,hp⟩) r hx).uy
  simp [execOp,h1,resolve,invoke,builtin,Builtin.len_,run_underlying (aD.h (P:=P) (t:=t)),goInt],.int _ _⟩)
theorem yO {x:Operand} {t:TypeId} {s:List UInt8} [aD P t .string] (hx:cZ tm x=some (.str s)):QV P ⟨some d,.call {callee:=.builtin .len,args:=#[x],argTypes:=#[t]},ty,pos,af,none⟩ ⟨n,tm,hp⟩ (.int .i64 (s.length:Nat)):=
 (fun w S a r=>⟨.int .i64 (s.length:Nat),fun w1 _=>by
  simp [execOp,(bj (σ:=⟨n,tm,hp⟩) r hx).gO,resolve,invoke,builtin,Builtin.len_,run_underlying (aD.h (P:=P) (t:=t)),goInt,GV],.int _ _⟩)
theorem Eo {x y:Operand} {t:TypeId} {s:List UInt8} {k:IntKind} {i:Int} {c:UInt8} [aD P t .string] (hx:cZ tm x=some (.str s)) (hy:cZ tm y=some (.int k i)) (h0:0≤i) (hc:s[i.toNat]? =some c):QV P ⟨some d,.index t x y,ty,pos,af,none⟩ ⟨n,tm,hp⟩ (.int .u8 (c.toNat:Nat)):=
 (fun w S a r=>⟨.int .u8 (c.toNat:Nat),fun w1 _=>by
  have Dh:(⟨s.toArray⟩:ByteArray)[i.toNat]? =some c:=by
   obtain ⟨hl,he⟩:=List.getElem?_eq_some_iff.1 hc
   rw [getElem?_pos _ _ (by rw [GV];exact hl)]
   simp only [Option.some.injEq]
   rw [← he]
   rfl
  simp [execOp,(bj (σ:=⟨n,tm,hp⟩) r hx).gO,(bj (σ:=⟨n,tm,hp⟩) r hy).eB,Instr.index,asIntOf,run_underlying (aD.h (P:=P) (t:=t)),h0,Dh],.int _ _⟩)
theorem Hz {x:Operand} {i:Nat} {vs:List AV} {av:AV} (hx:cZ tm x=some (.nI vs)) (hi:vs[i]? =some av):QV P ⟨some d,.extract x i,ty,pos,af,none⟩ ⟨n,tm,hp⟩ (av):=
 (fun w S a r=>by
  obtain ⟨us,h1,h2,h3⟩:=(bj (σ:=⟨n,tm,hp⟩) r hx).Ll
  have lA:i < us.size:=by rw [← h2];exact (List.getElem?_eq_some_iff.1 hi).1
  have hu:us[i]? =some us[i]:=by simp [lA]
  exact ⟨us[i],fun _ _=>by simp [execOp,h1,Instr.extract,hu],h3 i av _ hi hu⟩)
theorem ay {x:Operand} {b:Bk} {o:Nat} (hx:cZ tm x=some (.ptr b o)):QV P ⟨some d,.nilCheck x,ty,pos,af,none⟩ ⟨n,tm,hp⟩ (.ptr b o):=
 (fun w S a r=>by
  have h:=bj (σ:=⟨n,tm,hp⟩) r hx
  obtain ⟨m,h1,h2⟩:=h.rD
  exact ⟨a.eval x,fun _ _=>by simp [execOp,h2],h⟩)
theorem bt {x:Operand} {cs:List AV} (hx:cZ tm x=some (.gg cs)):QV P ⟨some d,.nilCheck x,ty,pos,af,none⟩ ⟨n,tm,hp⟩ (.gg cs):=
 (fun w S a r=>by
  have h:=bj (σ:=⟨n,tm,hp⟩) r hx
  obtain ⟨ad,vs,h2,_⟩:=h.vp
  exact ⟨a.eval x,fun _ _=>by simp [execOp,h2],h⟩)
theorem cm {x:Operand} {sz:Nat} {b:Bk} {i o:Nat} (hx:cZ tm x=some (.pB sz b i o)):QV P ⟨some d,.nilCheck x,ty,pos,af,none⟩ ⟨n,tm,hp⟩ (.pB sz b i o):=
 (fun w S a r=>by
  have h:=bj (σ:=⟨n,tm,hp⟩) r hx
  obtain ⟨m,h1,h2⟩:=h.tP
  exact ⟨a.eval x,fun _ _=>by simp [execOp,h2],h⟩)
def zZ (tm:List (Nat×AV)):List Operand→Option (List AV)
 | []=>some []
 | x :: r=>match cZ tm x,zZ tm r with
   | some a,some l=>some (a :: l)
   | _,_=>none
theorem FY {w:World} {S:Nat→Prop} {σ:St} {a:Act} (r:dQ w S σ a):∀ {xs:List Operand} {l:List AV},zZ σ.tm xs=some l→l.length=xs.length∧∀ (i:Nat) c v,l[i]? =some c→(xs.map a.eval)[i]? =some v→At w S c v
 | [],l,h=>by simp [zZ] at h;subst h;exact ⟨rfl,fun i c v hc=>by simp at hc⟩
 | x :: xs,l,h=>by
   simp only [zZ] at h
   split at h
   ·rename_i av l' ha hl
    obtain rfl:=Option.some.inj h
    obtain ⟨h1,h2⟩:=FY r hl
    refine ⟨by simp [h1],fun i c v hc hv=>?_⟩
    match i with
    | 0=>simp at hc hv;subst hc;subst hv;exact bj r ha
    | i+1=>simp at hc hv;exact h2 i c v hc (by simpa using hv)
   ·cases h
theorem ow {fn:Fn} {sU:List Operand} {l:List AV} (hl:zZ tm sU=some l):QV P ⟨some d,.makeFunc fn #[] sU.toArray,ty,pos,af,none⟩ ⟨n,tm,hp⟩ (.func fn l):=
 (fun w S a r=>by
  obtain ⟨h1,h2⟩:=FY (σ:=⟨n,tm,hp⟩) r hl
  exact ⟨.func fn #[] (sU.toArray.map a.eval),fun _ _=>by simp [execOp,Instr.makeFunc],.func _ _ _ (by simp [h1]) (fun i c v hc hv=>h2 i c v hc (by simpa using hv))⟩)
end rules
inductive mr:Heap→Bk→Ob→Prop
 | here {b:Bk} {o:Ob} {h:Heap}:mr ((b,o) :: h) b o
 | next {e:Bk×Ob} {b:Bk} {o:Ob} {h:Heap} (k:mr h b o):mr (e :: h) b o
 | skip {l:Heap} {b:Bk} {o:Ob} {h:Heap} (k:mr h b o):mr (l++h) b o
theorem mr.mem {h:Heap} {b:Bk} {o:Ob} (f:mr h b o):(b,o)∈h:=by
 induction f with
 | here=>simp
 | next _ ih=>simp [ih]
 | skip _ ih=>simp [ih]
inductive nA:Heap→Bk→Ob→Bk→Ob→Heap→Prop
 | here {b b':Bk} {o o':Ob} {h:Heap}:nA ((b,o) :: h) b o b' o' ((b',o') :: h)
 | next {e:Bk×Ob} {b b':Bk} {o o':Ob} {h h':Heap} (k:nA h b o b' o' h'):nA (e :: h) b o b' o' (e :: h')
 | skip {l:Heap} {b b':Bk} {o o':Ob} {h h':Heap} (k:nA h b o b' o' h'):nA (l++h) b o b' o' (l++h')
inductive xU:Heap→Bk→Ob→Heap→Prop
 | here {b:Bk} {o:Ob} {h:Heap}:xU ((b,o) :: h) b o h
 | next {e:Bk×Ob} {b:Bk} {o:Ob} {h h':Heap} (k:xU h b o h'):xU (e :: h) b o (e :: h')
 | skip {l:Heap} {b:Bk} {o:Ob} {h h':Heap} (k:xU h b o h'):xU (l++h) b o (l++h')
theorem nA.split {h h':Heap} {b b':Bk} {o o':Ob} (u:nA h b o b' o' h'):∃ pre post,h=pre++(b,o) :: post∧h'=pre++(b',o') :: post:=by
 induction u with
 | here=>exact ⟨[],_,rfl,rfl⟩
 | next _ ih=>obtain ⟨p,q,rfl,rfl⟩:=ih;exact ⟨_ :: p,q,rfl,rfl⟩
 | @skip l _ _ _ _ _ _ _ ih=>obtain ⟨p,q,rfl,rfl⟩:=ih;exact ⟨l++p,q,(List.append_assoc _ _ _).symm,(List.append_assoc _ _ _).symm⟩
theorem xU.split {h h':Heap} {b:Bk} {o:Ob} (u:xU h b o h'):∃ pre post,h=pre++(b,o) :: post∧h'=pre++post:=by
 induction u with
 | here=>exact ⟨[],_,rfl,rfl⟩
 | next _ ih=>obtain ⟨p,q,rfl,rfl⟩:=ih;exact ⟨_ :: p,q,rfl,rfl⟩
 | @skip l _ _ _ _ _ ih=>obtain ⟨p,q,rfl,rfl⟩:=ih;exact ⟨l++p,q,(List.append_assoc _ _ _).symm,(List.append_assoc _ _ _).symm⟩
theorem nA.ml {h h':Heap} {b b':Bk} {o o':Ob} (u:nA h b o b' o' h'):mr h b o:=by
 induction u with
 | here=>exact .here
 | next _ ih=>exact .next ih
 | skip _ ih=>exact .skip ih
theorem bl {α:Type} {p q:List α} {x y:α}:y∈p++x :: q↔y=x∨y∈p++q:=by
 simp only [List.mem_append,List.mem_cons]
 constructor
 ·rintro (h | h | h)
  ·exact .inr (.inl h)
  ·exact .inl h
  ·exact .inr (.inr h)
 ·rintro (h | h | h)
  ·exact .inr (.inl h)
  ·exact .inl h
  ·exact .inr (.inr h)
def GB (w w':World) (x:Option Nat):Prop:=w.grownBy w' x∧(bA.dr→w.drawn≤w'.drawn)
theorem xV {w w':World} {S:Nat→Prop} {hp de:Heap} {b b':Bk} {o o':Ob} (r:cG w S hp) (u:nA hp b o b' o' de) (cc:GB w w' b.cd) (hf:¬ o.zt) (R6:¬ o'.zt)
 (hh:Holds w' S b' o') (B2:b'.cd=b.cd∨b'.cd=none∨∃ m,b'.cd=some m∧w.heap.size≤m) (hm:o'.more=[]:=by rfl):
 cG w' S de∧lz w S hp w' S de∧∀ n,S n→S n∧w'.heap[n]? =w.heap[n]?:=by
 obtain ⟨c,hd⟩:=cc
 obtain ⟨p,q,rfl,rfl⟩:=u.split
 have M5:(b,o)∈p++(b,o) :: q:=by simp
 have nS:∀ n,b.cd=some n→¬ S n:=fun n hn hs=>hf ((r.sep _ M5 n (lY hn)).1 hs)
 have mH:∀ n,S n→S n∧w'.heap[n]? =w.heap[n]?:=fun n hs=>⟨hs,c.block n (r.slt n hs) (fun e=>nS n e.symm hs)⟩
 have xm:=r.nodup
 rw [List.flatMap_append,List.flatMap_cons,List.nodup_append,List.nodup_append] at xm
 have others:∀ e∈p++q,∀ n,n∈eb e→n < w.heap.size∧b.cd≠some n:=by
  intro e he n hn
  refine ⟨r.lt ⟨e,bl.2 (.inr he),hn⟩,fun hb=>?_⟩
  rcases List.mem_append.1 he with h | h
  ·exact xm.2.2 n (List.mem_flatMap.2 ⟨e,h,hn⟩) n (List.mem_append_left _ (lY hb)) rfl
  ·exact xm.2.1.2.2 n (lY hb) n (List.mem_flatMap.2 ⟨e,h,hn⟩) rfl
 have PF:∀ e∈p++q,∀ n,n∈eb e→b'.cd≠some n:=by
  intro e he n hn hb
  obtain ⟨h1,h2⟩:=others e he n hn
  rcases B2 with h | h | ⟨m,h,hm⟩
  ·exact h2 (h▸hb)
  ·rw [h] at hb;cases hb
  ·rw [h] at hb;have:=Option.some.inj hb;omega
 refine ⟨⟨?_,?_,?_,fun n hs=>Nat.lt_of_lt_of_le (r.slt n hs) c.size,fun g o ho=>⟨(r.jt g o ho).1,Cq (mH g (r.jt g o ho).1).2 (r.jt g o ho).2⟩⟩,⟨c.os,c.tape,c.output,c.size,mH,?_,?_,hd⟩,mH⟩
 ·rw [List.flatMap_append,List.flatMap_cons,List.nodup_append,List.nodup_append]
  have R7:(eb (b',o')).Nodup:=by
   unfold eb;rw [hm,List.append_nil]
   cases b'.cd<;>simp
  refine ⟨xm.1,⟨R7,xm.2.1.2.1,fun x hx y hy FR=>?_⟩,fun x hx y hy FR=>?_⟩
  ·subst FR
   obtain ⟨e,he,tO⟩:=List.mem_flatMap.1 hy
   exact PF e (List.mem_append_right _ he) x tO ((vm hm).1 hx)
  ·subst FR
   rcases List.mem_append.1 hy with hy | hy
   ·obtain ⟨e,he,tO⟩:=List.mem_flatMap.1 hx
    exact PF e (List.mem_append_left _ he) x tO ((vm hm).1 hy)
   ·exact xm.2.2 x hx x (List.mem_append_right _ hy) rfl
 ·intro e he
  rcases bl.1 he with rfl | he
  ·exact hh
  ·exact (r.holds e (bl.2 (.inr he))).mono mH (fun n hn=>c.block n (others e he n hn).1 (fun h=>(others e he n hn).2 h.symm))
 ·intro e he n hn
  rcases bl.1 he with rfl | he
  ·replace hn:=(vm hm).1 hn
   have ns:¬ S n:=by
    rcases B2 with h | h | ⟨m,h,hm⟩
    ·exact nS n (h▸hn)
    ·rw [h] at hn;cases hn
    ·intro hs;have:=r.slt n hs;rw [h] at hn;have:=Option.some.inj hn;omega
   exact ⟨fun hs=>(ns hs).elim,fun h=>(R6 h).elim⟩
  ·exact r.sep e (bl.2 (.inr he)) n hn
 ·intro n hn R8
  exact ⟨c.block n hn (fun h=>R8 ⟨(b,o),M5,lY h.symm⟩),id⟩
 ·rintro n ⟨e,he,tO⟩
  rcases bl.1 he with rfl | he
  ·replace tO:=(vm hm).1 tO
   rcases B2 with h | h | ⟨m,h,hm⟩
   ·exact .inl ⟨(b,o),M5,lY (h▸tO)⟩
   ·rw [h] at tO;cases tO
   ·rw [h] at tO;have:=Option.some.inj tO;exact .inr (by omega)
  ·exact .inl ⟨e,bl.2 (.inr he),tO⟩
theorem wk {w w':World} {S:Nat→Prop} {hp:Heap} {b:Bk} {o:Ob} (r:cG w S hp) (e:Ext w w') (hf:¬ o.zt) (hh:Holds w' S b o) (hb:b.cd=none∨∃ m,b.cd=some m∧w.heap.size≤m) (hm:o.more=[]:=by rfl):
 cG w' S ((b,o) :: hp)∧lz w S hp w' S ((b,o) :: hp)∧∀ n,S n→S n∧w'.heap[n]? =w.heap[n]?:=by
 have r':=r.ext e
 have mH:∀ n,S n→S n∧w'.heap[n]? =w.heap[n]?:=fun n hs=>⟨hs,e.same n (r.slt n hs)⟩
 have fresh:∀ n,n∈eb (b,o)→w.heap.size≤n:=by
  intro n hn
  replace hn:=(vm hm).1 hn
  rcases hb with h | ⟨m,h,hm⟩
  ·rw [h] at hn;cases hn
  ·rw [h] at hn;have:=Option.some.inj hn;omega
 refine ⟨⟨?_,?_,?_,r'.slt,r'.jt⟩,⟨e.os,e.tape,e.output,e.size,mH,fun n hn _=>⟨e.same n hn,id⟩,?_,e.drawn⟩,mH⟩
 ·rw [List.flatMap_cons,List.nodup_append]
  refine ⟨?_,r.nodup,fun x hx y hy FR=>?_⟩
  ·unfold eb;rw [hm,List.append_nil]
   cases b.cd<;>simp
  ·subst FR
   obtain ⟨z,hz,Yu⟩:=List.mem_flatMap.1 hy
   have:=r.lt ⟨z,hz,Yu⟩
   have:=fresh x hx
   omega
 ·intro x hx
  rcases List.mem_cons.1 hx with rfl | hx
  ·exact hh
  ·exact r'.holds x hx
 ·intro x hx n hn
  rcases List.mem_cons.1 hx with rfl | hx
  ·refine ⟨fun hs=>?_,fun h=>(hf h).elim⟩
   have:=r.slt n hs
   have:=fresh n hn
   omega
  ·exact r.sep x hx n hn
 ·rintro n ⟨x,hx,Py⟩
  rcases List.mem_cons.1 hx with rfl | hx
  ·exact .inr (fresh n Py)
  ·exact .inl ⟨x,hx,Py⟩
theorem tQ {w:World} {S:Nat→Prop} {av:AV} {v:Value} (h:At w S av v) (h1:∀ c∈av.cells,c.one=true):av.cells.length=v.cells.size∧lZ w S av.cells v.cells:=by
 have single:∀ (c:AV) (u:Value),At w S c u→lZ w S [c] #[u]:=by
  intro c u hc i c' u' h1 h2
  match i with
  | 0=>simp at h1 h2;subst h1;subst h2;exact hc
  | i+1=>simp at h1
 cases h with
 | agg cs vs hl h=>exact ⟨hl,h⟩
 | raw v=>
   have:v.oneCell'=true:=h1 (.raw v) (by simp [AV.cells])
   have hv:v.cells=#[v]:=by cases v<;>first | rfl | (simp [Value.oneCell'] at this)
   rw [hv]
   exact ⟨rfl,single _ _ (.raw v)⟩
 | nI cs vs hl h=>exact ⟨rfl,single _ _ (.nI cs vs hl h)⟩
 | int k n=>exact ⟨rfl,single _ _ (.int k n)⟩
 | bool b=>exact ⟨rfl,single _ _ (.bool b)⟩
 | str s=>exact ⟨rfl,single _ _ (.str s)⟩
 | list sz xs a cap vs lx hl h hm hc=>exact ⟨rfl,single _ _ (.list sz xs a cap vs lx hl h hm hc)⟩
 | nil=>exact ⟨rfl,single _ _ .nil⟩
 | ptr b o n hb=>exact ⟨rfl,single _ _ (.ptr b o n hb)⟩
 | B0 sz b hb=>exact ⟨rfl,single _ _ (.B0 sz b hb)⟩
 | sl sz b off len n cap hb g1 g2=>exact ⟨rfl,single _ _ (.sl sz b off len n cap hb g1 g2)⟩
 | Lh sz b off n ad hb=>exact ⟨rfl,single _ _ (.Lh sz b off n ad hb)⟩
 | gg cs ad vs hl h hs hS hm=>exact ⟨rfl,single _ _ (.gg cs ad vs hl h hs hS hm)⟩
 | pB sz b i o n hb=>exact ⟨rfl,single _ _ (.pB sz b i o n hb)⟩
 | gD b n hb=>exact ⟨rfl,single _ _ (.gD b n hb)⟩
 | func fn cs vs hl h=>exact ⟨rfl,single _ _ (.func fn cs vs hl h)⟩
theorem xW {w:World} {S:Nat→Prop} {cs:List AV} {vs:Array Value} (hl:cs.length=vs.size) (h:lZ w S cs vs) (h1:∀ c∈cs,c.one=true):∀ v∈vs.toList,v.oneCell'=true:=by
 intro v hv
 obtain ⟨i,hi,he⟩:=List.mem_iff_getElem.1 hv
 have Lm:i < cs.length:=by rw [hl];simpa using hi
 have:=h i cs[i] v (by simp [Lm]) (by rw [← he];simp at hi ⊢)
 exact this.FW (h1 _ (List.getElem_mem Lm))
def kQ:List AV→Bool
 | []=>true
 | c :: r=>c.one&&kQ r
theorem dp {cs:List AV} (h:kQ cs=true):∀ c∈cs,c.one=true:=by
 induction cs with
 | nil=>simp
 | cons x r ih=>
   simp only [kQ,Bool.and_eq_true] at h
   intro c hc
   rcases List.mem_cons.1 hc with rfl | hc
   ·exact h.1
   ·exact ih h.2 c hc
section rules
variable {P:Program} {all:Array Oper} {rest:List Oper} {n:Nat} {tm:List (Nat×AV)} {hp:Heap} {Q:St→Prop} {d:Nat} {ty:TypeId} {pos:String} {af:Array Edge}
theorem GW {w:World} {S:Nat→Prop} {hp:Heap} (r:cG w S hp) {cs:List AV} {vs:Array Value} (E:TypeId) (hl:cs.length=vs.size) (h:lZ w S cs vs) (h1:∀ c∈cs,c.one=true):
 cG (w.alloc (.cells vs E)) S ((⟨some w.heap.size,0⟩,.cells cs) :: hp)∧lz w S hp (w.alloc (.cells vs E)) S ((⟨some w.heap.size,0⟩,.cells cs) :: hp)∧∀ n,S n→S n∧(w.alloc (.cells vs E)).heap[n]? =w.heap[n]?:=by
 have e:=Ext.alloc w (.cells vs E)
 refine wk r e id ⟨h1,w.heap.size,vs,E,rfl,?_,hl.symm,h.mono fun n hn=>⟨hn,e.same n (r.slt n hn)⟩⟩ (.inr ⟨_,rfl,Nat.le_refl _⟩)
 show (w.heap.push _)[w.heap.size]? =_
 simp
theorem PG {x:Operand} {E:TypeId} {av:AV} (hx:cZ tm x=some av) (h1:kQ av.cells=true) (hn:Nat.blt d n=true)
 (kk:∀ b:Bk,ah P all rest ⟨n,(d,.ptr b 0) :: tm,(b,.cells av.cells) :: hp⟩ Q):ah P all (⟨some d,.box E x,ty,pos,af,none⟩ :: rest) ⟨n,tm,hp⟩ Q:=by
 refine ah.M0 rfl fun w S a r=>?_
 have hv:=bj (σ:=⟨n,tm,hp⟩) r hx
 obtain ⟨hl,tJ⟩:=tQ hv (dp h1)
 obtain ⟨g1,g2,g3⟩:=GW r.hp E hl tJ (dp h1)
 refine ⟨.pointer (some ⟨w.heap.size,0,none⟩),w.alloc (.cells (a.eval x).cells E),S,_,?_,(r.heap g3 g1).put hn (.ptr ⟨some w.heap.size,0⟩ 0 _ rfl),g2,kk ⟨some w.heap.size,0⟩⟩
 simp [execOp,Instr.box,newVar,newRow]
def BU:Value→AV
 | .agg cs=>.agg (cs.toList.map MZ)
 | v=>MZ v
theorem rH (w:World) (S:Nat→Prop) (z:Value) (h1:∀ c∈(BU z).cells,c.one=true):(BU z).cells.length=z.cells.size∧lZ w S (BU z).cells z.cells:=by
 by_cases hz:∃ cs,z=.agg cs
 ·obtain ⟨cs,rfl⟩:=hz
  refine ⟨by simp [BU,AV.cells,Value.cells],?_⟩
  intro i c v hc hv
  simp only [BU,AV.cells,List.getElem?_map,Array.getElem?_toList] at hc
  simp only [Value.cells] at hv
  rw [hv] at hc
  simp at hc
  subst hc
  exact Dd _ _ _
 ·have Ln:BU z=MZ z:=by
   cases z<;>first | rfl | (exact (hz ⟨_,rfl⟩).elim)
  rw [Ln] at h1 ⊢
  exact tQ (Dd w S z) h1
theorem Lo {E:TypeId} {i:TypeInfo} {z:Value} [aX P E i] (hz:i.zero=some z) (h1:kQ (BU z).cells=true) (hn:Nat.blt d n=true)
 (kk:∀ b:Bk,ah P all rest ⟨n,(d,.ptr b 0) :: tm,(b,.cells (BU z).cells) :: hp⟩ Q):ah P all (⟨some d,.alloc E,ty,pos,af,none⟩ :: rest) ⟨n,tm,hp⟩ Q:=by
 refine ah.M0 rfl fun w S a r=>?_
 obtain ⟨hl,tJ⟩:=rH w S z (dp h1)
 obtain ⟨g1,g2,g3⟩:=GW r.hp E hl tJ (dp h1)
 refine ⟨.pointer (some ⟨w.heap.size,0,none⟩),w.alloc (.cells z.cells E),S,_,?_,(r.heap g3 g1).put hn (.ptr ⟨some w.heap.size,0⟩ 0 _ rfl),g2,kk ⟨some w.heap.size,0⟩⟩
 have hi:=aX.h (P:=P) (t:=E)
 simp [execOp,Instr.alloc,newVar,newRow,zeroValue,typeInfo,hi,hz]
theorem mu (m o k:Nat):(⟨m,o,none⟩:Addr).add k=⟨m,o+k,none⟩:=Addr.add_lit m o k
theorem vu {s:TypeId} {fs:Array Field} {j:Nat} {f:Field} {i:TypeInfo} (hs:P.underlying s=some (.struct fs)) (hj:fs[j]? =some f) (hi:P.info? f.type=some i) (h0:i.size≠0) (ad:Addr) (w:World):
 (Instr.fieldAt s (.pointer (some ad)) j).run P w=.ok (.pointer (some (ad.add f.offset))) w:=by
 simp [Instr.fieldAt,run_underlying hs,hj,Instr.sureAddr,fieldPlace,sizeOf,typeInfo,hi,h0]
class mI (P:Program) (s:TypeId) (j:Nat) (off:outParam Nat):Prop where
 h:∃ fs f i,P.underlying s=some (.struct fs)∧fs[j]? =some f∧P.info? f.type=some i∧(Nat.beq i.size 0)=false∧f.offset=off
theorem Ep {x:Operand} {s:TypeId} {j:Nat} {off:Nat} {b:Bk} {o:Nat} [mI P s j off]
 (hx:cZ tm x=some (.ptr b o)):QV P ⟨some d,.fieldAddr s x j,ty,pos,af,none⟩ ⟨n,tm,hp⟩ (.ptr b (o+off)):=
 (fun w S a r=>by
  obtain ⟨fs,f,i,hu,hj,hi,h0,rfl⟩:=mI.h (P:=P) (s:=s) (j:=j)
  obtain ⟨m,h1,h2⟩:=(bj (σ:=⟨n,tm,hp⟩) r hx).rD
  refine ⟨.pointer (some ⟨m,o+f.offset,none⟩),fun w1 _=>?_,.ptr b _ m h1⟩
  have hr:=vu (P:=P) hu hj hi (AH h0) ⟨m,o,none⟩ w1
  rw [mu] at hr
  simp [execOp,h2,hr])
theorem Di {x:Operand} {s:TypeId} {j:Nat} {off:Nat} {sz:Nat} {b:Bk} {q o:Nat} [mI P s j off]
 (hx:cZ tm x=some (.pB sz b q o)):QV P ⟨some d,.fieldAddr s x j,ty,pos,af,none⟩ ⟨n,tm,hp⟩ (.pB sz b q (o+off)):=
 (fun w S a r=>by
  obtain ⟨fs,f,i,hu,hj,hi,h0,rfl⟩:=mI.h (P:=P) (s:=s) (j:=j)
  obtain ⟨m,h1,h2⟩:=(bj (σ:=⟨n,tm,hp⟩) r hx).tP
  refine ⟨.pointer (some ⟨m,q * sz+(o+f.offset),none⟩),fun w1 _=>?_,.pB sz b q _ m h1⟩
  have hr:=vu (P:=P) hu hj hi (AH h0) ⟨m,q * sz+o,none⟩ w1
  rw [mu,Nat.add_assoc] at hr
  simp [execOp,h2,hr])
theorem HA {w:World} {S:Nat→Prop} {cs:List AV} {ad:Addr} {vs:List Value} (k:Nat) (hl:cs.length=vs.length) (h:∀ (i:Nat) c u,cs[i]? =some c→vs[i]? =some u→At w S c u) (hs:ad.spot=none) (hS:S ad.block)
 (hm:∀ (i:Nat) u,vs[i]? =some u→w.cell? ⟨ad.block,ad.off+i,none⟩=some u):At w S (.gg (cs.drop k)) (.pointer (some (ad.add k))):=by
 obtain ⟨bk,of,sp⟩:=ad
 simp only at hs hS hm
 subst hs
 rw [mu]
 refine .gg _ _ (vs.drop k) (by simp [hl]) (fun i c u hc hu=>h (k+i) c u (by simpa using hc) (by simpa using hu)) rfl hS (fun i u hu=>?_)
 have:=hm (k+i) u (by simpa using hu)
 simpa [Nat.add_assoc] using this
theorem Dj {x:Operand} {s:TypeId} {j:Nat} {off:Nat} {cs:List AV} [mI P s j off]
 (hx:cZ tm x=some (.gg cs)):QV P ⟨some d,.fieldAddr s x j,ty,pos,af,none⟩ ⟨n,tm,hp⟩ (.gg (cs.drop off)):=
 (fun w S a r=>by
  obtain ⟨fs,f,i,hu,hj,hi,h0,rfl⟩:=mI.h (P:=P) (s:=s) (j:=j)
  obtain ⟨ad,vs,h2,h3,h4,h5,h6,h7⟩:=(bj (σ:=⟨n,tm,hp⟩) r hx).vp
  refine ⟨.pointer (some (ad.add f.offset)),fun w1 _=>?_,HA f.offset h3 h4 h5 h6 h7⟩
  have hr:=vu (P:=P) hu hj hi (AH h0) ad w1
  simp [execOp,h2,hr])
def TypeDesc.iA:TypeDesc→Bool
 | .struct _=>true
 | .array _ _=>true
 | _=>false
theorem nZ {t:TypeId} {D:TypeDesc} (ht:P.underlying t=some D) (hD:TypeDesc.iA D=false) {ad:Addr} {v:Value} {w:World} (hc:w.cell? ad=some v):(loadVar t ad).run P w=.ok v w:=by
 have:(isAgg t).run P w=.ok false w:=by
  simp only [isAgg,Sem.run_bind,run_underlying ht,Result.andThen_ok]
  cases D<;>first | rfl | (simp [TypeDesc.iA] at hD)
 simp [loadVar,this,hc]
theorem iU {t:TypeId} {D:TypeDesc} {i:TypeInfo} (ht:P.underlying t=some D) (hD:TypeDesc.iA D=true) (hi:P.info? t=some i) {ad:Addr} {vs:List Value} {w:World} (hl:vs.length=i.size)
 (hc:∀ (j:Nat) v,vs[j]? =some v→w.cell? (ad.add j)=some v):(loadVar t ad).run P w=.ok (.agg vs.toArray) w:=by
 have h1:(isAgg t).run P w=.ok true w:=by
  simp only [isAgg,Sem.run_bind,run_underlying ht,Result.andThen_ok]
  cases D<;>first | rfl | (simp [TypeDesc.iA] at hD)
 have h2:=run_loadCells_list (P:=P) w ad vs hc
 rw [hl] at h2
 simp [loadVar,h1,sizeOf,typeInfo,hi,h2]
theorem Lq {w:World} {m:Nat} {ob:Obj} (h:w.heap[m]? =some ob):m < w.heap.size:=by
 rcases Nat.lt_or_ge m w.heap.size with h' | h'
 ·exact h'
 ·simp [Array.getElem?_eq_none h'] at h
theorem Ext.at {w w':World} (e:Ext w w') {m:Nat} {ob:Obj} (h:w.heap[m]? =some ob):w'.heap[m]? =some ob:=by rw [e.same m (Lq h)];exact h
theorem Ext.cell {w w':World} (e:Ext w w') {m o:Nat} {v:Value} (h:w.cell? ⟨m,o,none⟩=some v):w'.cell? ⟨m,o,none⟩=some v:=by
 rw [cell_of_heap (e.same m (World.block_lt_of_cell? _ _ h))];exact h
theorem se {w:World} {S:Nat→Prop} {hp:Heap} (r:cG w S hp) {b:Bk} {cs:List AV} (f:mr hp b (.cells cs)):(∀ c∈cs,c.one=true)∧∃ m vs E,b.cd=some m∧w.heap[m]? =some (.cells vs E (0,0))∧vs.size=cs.length∧lZ w S cs vs:=
 r.holds _ f.mem
theorem oc {w:World} {m:Nat} {vs:Array Value} {E:TypeId} (h:w.heap[m]? =some (.cells vs E (0,0))) (o:Nat):w.cell? ⟨m,o,none⟩=vs[o]?:=cell_of_row w m o vs E (0,0) h
theorem aB {t:TypeId} {D:TypeDesc} {x:Operand} {b:Bk} {o:Nat} {cs:List AV} {av:AV} [aD P t D] (hD:TypeDesc.iA D=false) (hx:cZ tm x=some (.ptr b o)) (f:mr hp b (.cells cs)) (ho:cs[o]? =some av):QV P ⟨some d,.load t x,ty,pos,af,none⟩ ⟨n,tm,hp⟩ (av):=
 (fun w S a r=>by
  obtain ⟨m,h1,h2⟩:=(bj (σ:=⟨n,tm,hp⟩) r hx).rD
  obtain ⟨_,m',vs,E,g1,g2,g3,g4⟩:=se r.hp f
  obtain rfl:m'=m:=by rw [g1] at h1;exact Option.some.inj h1
  have lA:o < vs.size:=by rw [g3];exact (List.getElem?_eq_some_iff.1 ho).1
  have hv:vs[o]? =some vs[o]:=by simp [lA]
  refine ⟨vs[o],fun w1 ex=>?_,g4 o av _ ho hv⟩
  have:=nZ (P:=P) (aD.h (P:=P) (t:=t)) hD (w:=w1) (ad:=⟨m',o,none⟩) (v:=vs[o]) (by rw [oc (ex.at g2),hv])
  simp [execOp,h2,Instr.loadAt,Instr.sureAddr,this])
theorem aL {t:TypeId} {D:TypeDesc} {i:TypeInfo} {x:Operand} {b:Bk} {cs:List AV} [aD P t D] [aX P t i] (hD:TypeDesc.iA D=true) (hx:cZ tm x=some (.ptr b 0)) (f:mr hp b (.cells cs)) (ho:Nat.beq cs.length i.size=true):QV P ⟨some d,.load t x,ty,pos,af,none⟩ ⟨n,tm,hp⟩ (.agg cs):=
 (fun w S a r=>by
  obtain ⟨m,h1,h2⟩:=(bj (σ:=⟨n,tm,hp⟩) r hx).rD
  obtain ⟨_,m',vs,E,g1,g2,g3,g4⟩:=se r.hp f
  obtain rfl:m'=m:=by rw [g1] at h1;exact Option.some.inj h1
  have hlen:vs.toList.length=i.size:=by simp [g3];exact Nat.eq_of_beq_eq_true ho
  refine ⟨.agg vs,fun w1 ex=>?_,.agg cs vs g3.symm g4⟩
  have:=iU (P:=P) (aD.h (P:=P) (t:=t)) hD (aX.h (P:=P) (t:=t)) (w:=w1) (ad:=⟨m',0,none⟩) (vs:=vs.toList) hlen (fun j v hv=>by rw [mu,oc (ex.at g2)];simpa using hv)
  simp [execOp,h2,Instr.loadAt,Instr.sureAddr,this])
theorem z6 {t:TypeId} {D:TypeDesc} {i:TypeInfo} {x:Operand} {b:Bk} {o:Nat} {cs:List AV} [aD P t D] [aX P t i] (hD:TypeDesc.iA D=true) (hx:cZ tm x=some (.ptr b o)) (f:mr hp b (.cells cs)) (ho:Nat.ble (o+i.size) cs.length=true):QV P ⟨some d,.load t x,ty,pos,af,none⟩ ⟨n,tm,hp⟩ (.agg ((cs.drop o).take i.size)):=
 (fun w S a r=>by
  obtain ⟨m,h1,h2⟩:=(bj (σ:=⟨n,tm,hp⟩) r hx).rD
  obtain ⟨_,m',vs,E,g1,g2,g3,g4⟩:=se r.hp f
  obtain rfl:m'=m:=by rw [g1] at h1;exact Option.some.inj h1
  have hle:o+i.size≤cs.length:=Nat.le_of_ble_eq_true ho
  have hlen:((vs.toList.drop o).take i.size).length=i.size:=by simp [g3];omega
  refine ⟨.agg ((vs.toList.drop o).take i.size).toArray,fun w1 ex=>?_,.agg _ _ (by simp [g3]) (fun j c v hc hv=>?_)⟩
  ·have:=iU (P:=P) (aD.h (P:=P) (t:=t)) hD (aX.h (P:=P) (t:=t)) (w:=w1) (ad:=⟨m',o,none⟩) (vs:=(vs.toList.drop o).take i.size) hlen (fun j v hv=>by
    rw [mu,oc (ex.at g2)]
    simp only [List.getElem?_take,List.getElem?_drop] at hv
    split at hv
    ·simpa using hv
    ·cases hv)
   simp [execOp,h2,Instr.loadAt,Instr.sureAddr,this]
  ·simp only [List.getElem?_toArray,List.getElem?_take,List.getElem?_drop] at hc hv
   split at hv
   ·rename_i lA;rw [if_pos lA] at hc;exact g4 (o+j) c v hc (by simpa using hv)
   ·cases hv)
theorem aU {t:TypeId} {D:TypeDesc} {x:Operand} {cs:List AV} {av:AV} [aD P t D] (hD:TypeDesc.iA D=false) (hx:cZ tm x=some (.gg cs)) (ho:cs[0]? =some av):QV P ⟨some d,.load t x,ty,pos,af,none⟩ ⟨n,tm,hp⟩ (av):=
 (fun w S a r=>by
  obtain ⟨ad,vs,h2,h3,h4,h5,h6,h7⟩:=(bj (σ:=⟨n,tm,hp⟩) r hx).vp
  have lA:0 < vs.length:=by rw [← h3];exact (List.getElem?_eq_some_iff.1 ho).1
  have hv:vs[0]? =some vs[0]:=by simp [lA]
  refine ⟨vs[0],fun w1 ex=>?_,h4 0 av _ ho hv⟩
  have hc:=ex.cell (h7 0 _ hv)
  have he:(⟨ad.block,ad.off+0,none⟩:Addr)=ad:=by cases ad;simp at h5;simp [h5]
  rw [he] at hc
  have:=nZ (P:=P) (aD.h (P:=P) (t:=t)) hD hc
  simp [execOp,h2,Instr.loadAt,Instr.sureAddr,this])
theorem bn {t:TypeId} {D:TypeDesc} {i:TypeInfo} {x:Operand} {cs:List AV} [aD P t D] [aX P t i] (hD:TypeDesc.iA D=true) (hx:cZ tm x=some (.gg cs)) (ho:Nat.beq cs.length i.size=true):QV P ⟨some d,.load t x,ty,pos,af,none⟩ ⟨n,tm,hp⟩ (.agg cs):=
 (fun w S a r=>by
  obtain ⟨ad,vs,h2,h3,h4,h5,h6,h7⟩:=(bj (σ:=⟨n,tm,hp⟩) r hx).vp
  refine ⟨.agg vs.toArray,fun w1 ex=>?_,.agg cs _ (by simp [h3]) (fun j c v hc hv=>h4 j c v hc (by simpa using hv))⟩
  have:=iU (P:=P) (aD.h (P:=P) (t:=t)) hD (aX.h (P:=P) (t:=t)) (w:=w1) (ad:=ad) (vs:=vs) (by rw [← h3];exact Nat.eq_of_beq_eq_true ho) (fun j v hv=>by
   obtain ⟨bk,of,sp⟩:=ad
   simp only at h5;subst h5
   rw [mu];exact ex.cell (h7 j v hv))
  simp [execOp,h2,Instr.loadAt,Instr.sureAddr,this])
theorem yP {t:TypeId} {D:TypeDesc} {i:TypeInfo} {x:Operand} {cs:List AV} [aD P t D] [aX P t i] (hD:TypeDesc.iA D=true) (hx:cZ tm x=some (.gg cs)) (ho:Nat.ble i.size cs.length=true):QV P ⟨some d,.load t x,ty,pos,af,none⟩ ⟨n,tm,hp⟩ (.agg (cs.take i.size)):=
 (fun w S a r=>by
  obtain ⟨ad,vs,h2,h3,h4,h5,h6,h7⟩:=(bj (σ:=⟨n,tm,hp⟩) r hx).vp
  have hle:i.size≤cs.length:=Nat.le_of_ble_eq_true ho
  have tk:∀ {α:Type} (l:List α) (k j:Nat) (y:α),(l.take k)[j]? =some y→l[j]? =some y:=by
   intro α l k j y h
   rw [List.getElem?_take] at h
   split at h
   ·exact h
   ·cases h
  refine ⟨.agg (vs.take i.size).toArray,fun w1 ex=>?_,.agg _ _ (by simp [h3]) (fun j c v hc hv=>h4 j c v (tk _ _ _ _ hc) (tk _ _ _ _ (by simpa using hv)))⟩
  have:=iU (P:=P) (aD.h (P:=P) (t:=t)) hD (aX.h (P:=P) (t:=t)) (w:=w1) (ad:=ad) (vs:=vs.take i.size) (by simp;omega) (fun j v hv=>by
   obtain ⟨bk,of,sp⟩:=ad
   simp only at h5;subst h5
   rw [mu];exact ex.cell (h7 j v (tk _ _ _ _ hv)))
  simp [execOp,h2,Instr.loadAt,Instr.sureAddr,this])
def nD (cs:List AV) (o:Nat) (new:List AV):List AV:=cs.take o++new++cs.drop (o+new.length)
theorem AI {w:World} {S:Nat→Prop} {cs new:List AV} {vs rj:Array Value} (o:Nat) (hl:vs.size=cs.length) (h:lZ w S cs vs) (yN:new.length=rj.size) (h':lZ w S new rj) (ho:o+new.length≤cs.length):
 lZ w S (nD cs o new) (vs.toList.take o++rj.toList++vs.toList.drop (o+rj.toList.length)).toArray:=by
 intro i c v hc hv
 simp only [nD,List.getElem?_toArray] at hc hv
 have l1:(cs.take o).length=o:=by simp;omega
 have l2:(vs.toList.take o).length=o:=by simp;omega
 have l3:rj.toList.length=new.length:=by simp [yN]
 rw [List.append_assoc] at hc hv
 by_cases h1:i < o
 ·rw [List.getElem?_append_left (by omega)] at hc hv
  rw [List.getElem?_take,if_pos h1] at hc hv
  exact h i c v hc (by simpa using hv)
 ·rw [List.getElem?_append_right (by omega)] at hc hv
  rw [l1] at hc
  rw [l2] at hv
  by_cases h2:i - o < new.length
  ·rw [List.getElem?_append_left (by omega)] at hc hv
   exact h' (i - o) c v hc (by simpa using hv)
  ·rw [List.getElem?_append_right (by omega)] at hc hv
   rw [l3] at hv
   rw [List.getElem?_drop] at hc hv
   rw [show o+new.length+(i - o - new.length)=i from by omega] at hc
   rw [show o+new.length+(i - o - new.length)=i from by omega] at hv
   exact h i c v hc (by simpa using hv)
theorem Er {t:TypeId} {i:TypeInfo} {x y:Operand} {b:Bk} {o:Nat} {cs:List AV} {av:AV} {de:Heap} [aX P t i] (hx:cZ tm x=some (.ptr b o)) (hy:cZ tm y=some av) (h1:kQ av.cells=true) (lx:Nat.beq av.cells.length i.size=true)
 (u:nA hp b (.cells cs) b (.cells (nD cs o av.cells)) de) (ho:Nat.ble (o+av.cells.length) cs.length=true) (kk:ah P all rest ⟨n,tm,de⟩ Q):ah P all (⟨none,.store t x y,ty,pos,af,none⟩ :: rest) ⟨n,tm,hp⟩ Q:=by
 refine ah.act rfl rfl (aC:=⟨n,tm,de⟩) (fun w S a r=>?_) kk
 obtain ⟨m,e1,e2⟩:=(bj (σ:=⟨n,tm,hp⟩) r hx).rD
 obtain ⟨g0,m',vs,E,g1,g2,g3,g4⟩:=se r.hp u.ml
 obtain rfl:m'=m:=by rw [g1] at e1;exact Option.some.inj e1
 have hv:=bj (σ:=⟨n,tm,hp⟩) r hy
 obtain ⟨hl,tJ⟩:=tQ hv (dp h1)
 have hle:o+av.cells.length≤cs.length:=Nat.le_of_ble_eq_true ho
 have AJ:=xW hl tJ (dp h1)
 have Dk:=run_storeCells_at (P:=P) m' o E (a.eval y).cells.toList 0 vs w g2 (by simp;omega) AJ
 simp only [Nat.add_zero] at Dk
 have Cs:(a.eval y).cells.size=i.size:=by rw [← hl];exact Nat.eq_of_beq_eq_true lx
 have PH:=fun (w':World) (ha:lZ w' S cs vs) (hb:lZ w' S av.cells (a.eval y).cells)=>AI o g3 ha hl hb hle
 have M6:(vs.toList.take o++(a.eval y).cells.toList++vs.toList.drop (o+(a.eval y).cells.toList.length)).toArray.size=(nD cs o av.cells).length:=by
  simp [nD];omega
 generalize (vs.toList.take o++(a.eval y).cells.toList++vs.toList.drop (o+(a.eval y).cells.toList.length)).toArray=Ct at Dk PH M6
 have c:GB w (w.setRow m' Ct) b.cd:=⟨⟨rfl,rfl,rfl,by simp,fun k hk mJ=>setRow_other w m' k _ (fun e=>mJ (by rw [e1,e]))⟩,fun _=>Nat.le_refl _⟩
 have k1:∀ n,S n→S n∧(w.setRow m' Ct).heap[n]? =w.heap[n]?:=by
  intro k hk
  refine ⟨hk,setRow_other w m' k _ (fun e=>?_)⟩
  subst e
  exact (r.hp.sep _ u.ml.mem k (lY e1)).1 hk
 have hh:=xV r.hp u c id id ⟨?_,m',Ct,E,e1,setRow_heap w m' vs _ E _ g2,M6,PH _ (g4.mono k1) (tJ.mono k1)⟩ (.inl rfl)
 ·refine ⟨w.setRow m' Ct,S,?_,r.heap hh.2.2 hh.1,hh.2.1⟩
  simp [execOp,e2,Instr.storeAt,Instr.sureAddr,storeVar,sizeOf,typeInfo,aX.h (P:=P) (t:=t),Cs,Dk]
 ·intro c hc
  simp only [nD,List.mem_append] at hc
  rcases hc with (hc | hc) | hc
  ·exact g0 c (List.mem_of_mem_take hc)
  ·exact dp h1 c hc
  ·exact g0 c (List.mem_of_mem_drop hc)
end rules
def IT (xs:List AV) (i:Int):Option AV:=if 0≤i then xs[i.toNat]? else none
theorem HB {xs:List AV} {i:Int} {x:AV} (h:IT xs i=some x):0≤i∧i < xs.length∧xs[i.toNat]? =some x:=by
 unfold IT at h
 split at h
 ·rename_i h0
  have:=(List.getElem?_eq_some_iff.1 h).1
  exact ⟨h0,by omega,h⟩
 ·cases h
theorem zv {P:Program} {t e:TypeId} {i:TypeInfo} (ht:P.underlying t=some (.slice e)) (hi:P.info? e=some i) (ad:Addr) (len cap:Nat) (k:IntKind) (j:Int) (h0:0≤j) (h1:j < len) (w:World):
 (Instr.indexAt t (.slice (some ad) len cap) (.int k j)).run P w=.ok (.pointer (some (ad.add (j.toNat * i.size)))) w:=by
 simp [Instr.indexAt,asIntOf,run_underlying ht,h0,h1,sizeOf,typeInfo,hi]
section rules
variable {P:Program} {all:Array Oper} {rest:List Oper} {n:Nat} {tm:List (Nat×AV)} {hp:Heap} {Q:St→Prop} {d:Nat} {ty:TypeId} {pos:String} {af:Array Edge}
theorem Dl {t e:TypeId} {i:TypeInfo} {x y:Operand} {xs:List AV} {k:IntKind} {j:Int} {av:AV} {sz:Nat} [aD P t (.slice e)] [aX P e i] (hx:cZ tm x=some (.list sz xs)) (lx:Nat.beq i.size sz=true) (hy:cZ tm y=some (.int k j))
 (hg:IT xs j=some av) (h0:Nat.blt 0 sz=true):QV P ⟨some d,.indexAddr t x y,ty,pos,af,none⟩ ⟨n,tm,hp⟩ (.gg av.cells):=
 (fun w S a r=>by
  obtain rfl:i.size=sz:=Nat.eq_of_beq_eq_true lx
  obtain ⟨g0,g1,g2⟩:=HB hg
  obtain ⟨oa,cap,vs,e1,e2,e3,e4,e5,e6⟩:=(bj (σ:=⟨n,tm,hp⟩) r hx).xT
  have uz:0 < i.size:=by simpa using h0
  have rk:av∈xs:=List.mem_of_getElem? g2
  have Iy:=cQ e2
  have Iz:j.toNat < xs.length:=by omega
  have hmul:(j.toNat+1) * i.size≤xs.length * i.size:=Nat.mul_le_mul_right _ (by omega)
  rw [Nat.add_mul,Nat.one_mul] at hmul
  have hb:j.toNat * i.size < vs.length:=by rw [← e3,Iy];omega
  obtain ⟨ad,rfl,KW,hS,_⟩:=e5 (j.toNat * i.size) _ (List.getElem?_eq_getElem hb)
  obtain ⟨bk,of,sp⟩:=ad
  simp only at KW hS
  subst KW
  refine ⟨.pointer (some ⟨bk,of+j.toNat * i.size,none⟩),fun w1 _=>?_,.gg _ _ ((vs.drop (j.toNat * i.size)).take i.size) ?_ ?_ rfl hS ?_⟩
  ·have:=zv (P:=P) (aD.h (P:=P) (t:=t)) (aX.h (P:=P) (t:=e)) ⟨bk,of,none⟩ xs.length cap k j g0 g1 w1
   rw [mu] at this
   simp [execOp,e1,(bj (σ:=⟨n,tm,hp⟩) r hy).eB,this]
  ·rw [(e2 av rk).1];simp;omega
  ·intro q c u hc hu
   have hq:q < i.size:=by rw [← (e2 av rk).1];exact (List.getElem?_eq_some_iff.1 hc).1
   have hf:=qo e2 g2 q hq
   rw [hc] at hf
   rw [List.getElem?_take,if_pos hq,List.getElem?_drop] at hu
   exact e4 _ c u hf hu
  ·intro q u hu
   rw [List.getElem?_take] at hu
   split at hu
   ·rw [List.getElem?_drop] at hu
    obtain ⟨R9,h1,h2,h3,h4⟩:=e5 _ u hu
    obtain rfl:=Option.some.inj h1
    simpa [Nat.add_assoc] using h4
   ·cases hu)
theorem AK {t e:TypeId} {i:TypeInfo} {x y:Operand} {k:IntKind} {j:Int} {sz off len:Nat} {b:Bk} [aD P t (.slice e)] [aX P e i] (hx:cZ tm x=some (.sl sz b off len)) (lx:Nat.beq i.size sz=true) (hy:cZ tm y=some (.int k j))
 (h0:0≤j∧j < (len:Int)):QV P ⟨some d,.indexAddr t x y,ty,pos,af,none⟩ ⟨n,tm,hp⟩ (.pB sz b (off+j.toNat) 0):=
 (fun w S a r=>by
  obtain rfl:i.size=sz:=Nat.eq_of_beq_eq_true lx
  obtain ⟨oa,cap,e1,e2⟩:=(bj (σ:=⟨n,tm,hp⟩) r hx).uy
  rcases e2 with ⟨_,_,hl,_⟩ | ⟨m,hb,rfl,h1,h2⟩ | ⟨m,ad,hb,_,hl,_⟩
  ·omega
  ·refine ⟨.pointer (some ⟨m,(off+j.toNat) * i.size+0,none⟩),fun w1 _=>?_,.pB _ _ _ _ m hb⟩
   have:=zv (P:=P) (aD.h (P:=P) (t:=t)) (aX.h (P:=P) (t:=e)) ⟨m,off * i.size,none⟩ len cap k j h0.1 h0.2 w1
   rw [mu,← Nat.add_mul] at this
   simp [execOp,e1,(bj (σ:=⟨n,tm,hp⟩) r hy).eB,this]
  ·omega)
theorem pL {w:World} {S:Nat→Prop} {hp:Heap} (r:cG w S hp) {b:Bk} {sz:Nat} {xs:List AV} (f:mr hp b (.arr sz xs)∨mr hp b (.yM sz xs)):(∀ x∈xs,El sz x)∧xs.length≤b.cap∧
 ((b.cd=none∧b.cap=0)∨∃ m vs E,b.cd=some m∧w.heap[m]? =some (.cells vs E (0,0))∧vs.size=b.cap * sz∧lZ w S (flat xs) vs):=by
 rcases f with f | f<;>exact r.holds _ f.mem
theorem Es {t:TypeId} {D:TypeDesc} {x:Operand} {b:Bk} {sz q o:Nat} {xs:List AV} {el av:AV} [aD P t D] (hD:TypeDesc.iA D=false) (hx:cZ tm x=some (.pB sz b q o)) (f:mr hp b (.arr sz xs)∨mr hp b (.yM sz xs))
 (hq:xs[q]? =some el) (ho:el.cells[o]? =some av):QV P ⟨some d,.load t x,ty,pos,af,none⟩ ⟨n,tm,hp⟩ (av):=
 (fun w S a r=>by
  obtain ⟨m,h1,h2⟩:=(bj (σ:=⟨n,tm,hp⟩) r hx).tP
  obtain ⟨g0,g1,⟨g2,_⟩ | ⟨m',vs,E,g2,g3,g4,g5⟩⟩:=pL r.hp f
  ·rw [g2] at h1;cases h1
  ·obtain rfl:m'=m:=by rw [g2] at h1;exact Option.some.inj h1
   have xX:=g0 el (List.mem_of_getElem? hq)
   have Yv:o < sz:=by rw [← xX.1];exact (List.getElem?_eq_some_iff.1 ho).1
   have Sa:q < xs.length:=(List.getElem?_eq_some_iff.1 hq).1
   have hf:=qo g0 hq o Yv
   rw [ho] at hf
   have hmul:(q+1) * sz≤b.cap * sz:=Nat.mul_le_mul_right _ (by omega)
   rw [Nat.add_mul,Nat.one_mul] at hmul
   have lA:q * sz+o < vs.size:=by omega
   have hv:vs[q * sz+o]? =some vs[q * sz+o]:=by simp [lA]
   refine ⟨vs[q * sz+o],fun w1 ex=>?_,g5 _ av _ hf hv⟩
   have:=nZ (P:=P) (aD.h (P:=P) (t:=t)) hD (w:=w1) (ad:=⟨m',q * sz+o,none⟩) (v:=vs[q * sz+o]) (by rw [oc (ex.at g3),hv])
   simp [execOp,h2,Instr.loadAt,Instr.sureAddr,this])
theorem z7 {t:TypeId} {D:TypeDesc} {i:TypeInfo} {x:Operand} {b:Bk} {sz q:Nat} {xs cs:List AV} [aD P t D] [aX P t i] (hD:TypeDesc.iA D=true) (hx:cZ tm x=some (.pB sz b q 0)) (f:mr hp b (.arr sz xs)∨mr hp b (.yM sz xs)) (lx:Nat.beq i.size sz=true)
 (hq:xs[q]? =some (.agg cs)):QV P ⟨some d,.load t x,ty,pos,af,none⟩ ⟨n,tm,hp⟩ (.agg cs):=
 (fun w S a r=>by
  obtain ⟨m,h1,h2⟩:=(bj (σ:=⟨n,tm,hp⟩) r hx).tP
  obtain ⟨g0,g1,⟨g2,_⟩ | ⟨m',vs,E,g2,g3,g4,g5⟩⟩:=pL r.hp f
  ·rw [g2] at h1;cases h1
  ·obtain rfl:m'=m:=by rw [g2] at h1;exact Option.some.inj h1
   have xX:=g0 (.agg cs) (List.mem_of_getElem? hq)
   have BV:cs.length=sz:=xX.1
   have hi:i.size=sz:=Nat.eq_of_beq_eq_true lx
   have Sa:q < xs.length:=(List.getElem?_eq_some_iff.1 hq).1
   have hmul:(q+1) * sz≤b.cap * sz:=Nat.mul_le_mul_right _ (by omega)
   rw [Nat.add_mul,Nat.one_mul] at hmul
   have hlen:((vs.toList.drop (q * sz)).take sz).length=i.size:=by simp;omega
   refine ⟨.agg ((vs.toList.drop (q * sz)).take sz).toArray,fun w1 ex=>?_,.agg _ _ (by simp;omega) (fun j c v hc hv=>?_)⟩
   ·have:=iU (P:=P) (aD.h (P:=P) (t:=t)) hD (aX.h (P:=P) (t:=t)) (w:=w1) (ad:=⟨m',q * sz+0,none⟩) (vs:=(vs.toList.drop (q * sz)).take sz) hlen (fun j v hv=>by
     rw [mu,oc (ex.at g3)]
     simp only [List.getElem?_take,List.getElem?_drop] at hv
     split at hv
     ·simpa using hv
     ·cases hv)
    simp only [Nat.add_zero] at this
    simp [execOp,h2,Instr.loadAt,Instr.sureAddr,this]
   ·simp only [List.getElem?_toArray,List.getElem?_take,List.getElem?_drop] at hv
    split at hv
    ·rename_i lA
     have hf:=qo g0 hq j lA
     rw [show (AV.agg cs).cells=cs from rfl,hc] at hf
     exact g5 _ c v hf (by simpa using hv)
    ·cases hv)
theorem Et (off:Nat):∀ (l:List Value) (j:Nat) (cs:Array Value),off+j+l.length≤cs.size→
 (l.zipIdx j).foldl (fun (cs:Array Value) (p:Value×Nat)=>cs.setIfInBounds (off+p.2) p.1) cs=(cs.toList.take (off+j)++l++cs.toList.drop (off+j+l.length)).toArray
 | [],j,cs,h=>by simp
 | v :: l,j,cs,h=>by
   simp only [List.length_cons] at h
   rw [List.zipIdx_cons,List.foldl_cons,Et off l (j+1) _ (by simp;omega)]
   have lA:off+j < cs.size:=by omega
   apply Array.ext'
   simp only [Array.toList_setIfInBounds]
   rw [show off+(j+1)=(off+j)+1 from by omega]
   rw [List.take_add_one,List.take_set_of_le (Nat.le_refl _),List.drop_set_of_lt (by omega)]
   simp [lA,List.append_assoc]
   rw [show off+j+1+l.length=off+j+(l.length+1) from by omega]
theorem Cu {place:Nat→Option (Nat×Nat)} {cells:Array Value} {i off size:Nat} {v:Value} {rest:List (Nat×Value)} (hp:place i=some (off,size)) (hs:v.cells.size=size) (ho:off+size≤cells.size):
 Instr.fill place cells ((i,v) :: rest)=Instr.fill place (cells.toList.take off++v.cells.toList++cells.toList.drop (off+v.cells.toList.length)).toArray rest:=by
 rw [Instr.fill,hp]
 simp only
 rw [if_neg (by simp [hs];omega)]
 congr 1
 have:=Et off v.cells.toList 0 cells (by simp [hs];omega)
 simp only [Nat.add_zero] at this
 rw [← this,← Array.toList_zipIdx,Array.foldl_toList]
def Cv (pl:List (Nat×Nat)):List AV→List (Nat×AV)→Option (List AV)
 | cells,[]=>some cells
 | cells,(i,v) :: rest=>match pl[i]? with
   | none=>none
   | some (off,size)=>match Nat.beq v.cells.length size&&Nat.ble (off+v.cells.length) cells.length&&kQ v.cells with
     | true=>Cv pl (nD cells off v.cells) rest
     | false=>none
def O1 (tm:List (Nat×AV)):List (Nat×Operand)→Option (List (Nat×AV))
 | []=>some []
 | (i,x) :: r=>match cZ tm x,O1 tm r with
   | some a,some l=>some ((i,a) :: l)
   | _,_=>none
theorem Cw {w:World} {S:Nat→Prop} {σ:St} {a:Act} (r:dQ w S σ a) (pl:List (Nat×Nat)):∀ (parts:List (Nat×Operand)) (l:List (Nat×AV)) (cells xn:List AV) (vs:Array Value),O1 σ.tm parts=some l→Cv pl cells l=some xn→
 cells.length=vs.size→lZ w S cells vs→(∀ c∈cells,c.one=true)→∃ Ct,Instr.fill (pl.toArray[·]?) vs (parts.map fun p=>(p.1,a.eval p.2))=some Ct∧xn.length=Ct.size∧lZ w S xn Ct∧∀ c∈xn,c.one=true
 | [],l,cells,xn,vs,h1,h2,h3,h4,h5=>by
   simp only [O1,Option.some.injEq] at h1
   subst h1
   simp only [Cv,Option.some.injEq] at h2
   subst h2
   exact ⟨vs,rfl,h3,h4,h5⟩
 | (i,x) :: parts,l,cells,xn,vs,h1,h2,h3,h4,h5=>by
   simp only [O1] at h1
   split at h1
   ·rename_i av l' ha hl
    obtain rfl:=Option.some.inj h1
    simp only [Cv] at h2
    split at h2
    ·cases h2
    ·rename_i off size HC
     split at h2
     ·rename_i hc
      simp only [Bool.and_eq_true] at hc
      obtain ⟨⟨c1,c2⟩,c3⟩:=hc
      have c1:=Nat.eq_of_beq_eq_true c1
      have c2:=Nat.le_of_ble_eq_true c2
      obtain ⟨QU,IU⟩:=tQ (bj r ha) (dp c3)
      have KW:=AI off h3.symm h4 QU IU c2
      obtain ⟨Ct,g1,g2,g3,g4⟩:=Cw r pl parts l' (nD cells off av.cells) xn _ hl h2 (by simp [nD];omega) KW (by
       intro c hc
       simp only [nD,List.mem_append] at hc
       rcases hc with (hc | hc) | hc
       ·exact h5 c (List.mem_of_mem_take hc)
       ·exact dp c3 c hc
       ·exact h5 c (List.mem_of_mem_drop hc))
      refine ⟨Ct,?_,g2,g3,g4⟩
      rw [List.map_cons,Cu (off:=off) (size:=size) (by simpa using HC) (by rw [← QU];exact c1) (by omega)]
      exact g1
     ·cases h2
   ·cases h1
def placesOf (P:Program):List Field→Option (List (Nat×Nat))
 | []=>some []
 | f :: r=>match P.info? f.type,placesOf P r with
   | some i,some l=>some ((f.offset,i.size) :: l)
   | _,_=>none
theorem run_places {P:Program}:∀ (fs:List Field) (pl:List (Nat×Nat)) (w:World),placesOf P fs=some pl→(fs.mapM (fun f=>do pure (f.offset,← sizeOf f.type)):Sem (List (Nat×Nat))).run P w=.ok pl w
 | [],pl,w,h=>by simp [placesOf] at h;subst h;simp
 | f :: fs,pl,w,h=>by
   simp only [placesOf] at h
   split at h
   ·rename_i i l hi hl
    obtain rfl:=Option.some.inj h
    have ih:=run_places fs l w hl
    simp only [List.mapM_cons,Sem.run_bind,sizeOf,typeInfo,hi,run_program,Result.andThen_ok,Sem.run_pure] at ih ⊢
    rw [ih]
    simp
   ·cases h
class kR (P:Program) (t:TypeId) (pl:outParam (List (Nat×Nat))):Prop where
 h:∃ fs,P.underlying t=some (.struct fs)∧placesOf P fs.toList=some pl
theorem Lr {t:TypeId} {i:TypeInfo} {z:Value} {parts:List (Nat×Operand)} {l:List (Nat×AV)} {cs:List AV} {pl:List (Nat×Nat)} [aX P t i] [kR P t pl] (hz:i.zero=some z) (hl:O1 tm parts=some l) (h1:kQ (BU z).cells=true)
 (hc:Cv pl (BU z).cells l=some cs):QV P ⟨some d,.build t parts.toArray,ty,pos,af,none⟩ ⟨n,tm,hp⟩ (.agg cs):=
 (fun w S a r=>by
  obtain ⟨z1,z2⟩:=rH w S z (dp h1)
  obtain ⟨vs,g1,g2,g3,g4⟩:=Cw (σ:=⟨n,tm,hp⟩) r pl parts l _ _ _ hl hc z1 z2 (dp h1)
  refine ⟨.agg vs,fun w1 _=>?_,.agg _ _ g2 g3⟩
  obtain ⟨fs,hu,HC⟩:=kR.h (P:=P) (t:=t)
  have QW:=run_places fs.toList pl w1 HC
  have z8:(fs.mapM (fun f=>do pure (f.offset,← sizeOf f.type)):Sem (Array (Nat×Nat))).run P w1=.ok pl.toArray w1:=by
   have:(fs.mapM (fun f=>do pure (f.offset,← sizeOf f.type)):Sem (Array (Nat×Nat)))=Functor.map List.toArray (fs.toList.mapM (fun f=>do pure (f.offset,← sizeOf f.type))):=by
    rw [← List.mapM_toArray]
   rw [this,Sem.run_map,QW]
   rfl
  simp only [execOp,Instr.build,Sem.run_bind,zeroValue,typeInfo,run_program,Result.andThen_ok,aX.h (P:=P) (t:=t),hz,Sem.run_pure,run_underlying hu,z8]
  have:((parts.toArray.map fun p=>(p.1,a.eval p.2))).toList=parts.map fun p=>(p.1,a.eval p.2):=by simp
  simp only [this,g1,Sem.run_pure,Result.andThen_ok])
end rules
def PI (sz:Nat) (x:AV):Bool:=Nat.beq x.cells.length sz&&kQ x.cells
def zw (sz:Nat):List AV→Bool
 | []=>true
 | x :: r=>PI sz x&&zw sz r
theorem Eu {sz:Nat} {x:AV} (h:PI sz x=true):El sz x:=by
 simp only [PI,Bool.and_eq_true] at h
 exact ⟨Nat.eq_of_beq_eq_true h.1,dp h.2⟩
theorem pM {sz:Nat}:∀ {xs:List AV},zw sz xs=true→∀ x∈xs,El sz x
 | [],_,x,hx=>by simp at hx
 | y :: r,h,x,hx=>by
   simp only [zw,Bool.and_eq_true] at h
   rcases List.mem_cons.1 hx with rfl | hx
   ·exact Eu h.1
   ·exact pM h.2 x hx
def IA (tm:List (Nat×AV)):List (Nat×Operand)→Nat→Option (List AV)
 | [],_=>some []
 | (i,x) :: r,k=>match Nat.beq i k,cZ tm x,IA tm r (k+1) with
   | true,some a,some l=>some (a :: l)
   | _,_,_=>none
theorem vv {w:World} {S:Nat→Prop} {cs ds:List AV} {us vs:List Value} (hl:cs.length=us.length) (h1:lZ w S cs us.toArray) (h2:lZ w S ds vs.toArray):lZ w S (cs++ds) (us++vs).toArray:=by
 intro i c v hc hv
 simp only [List.getElem?_toArray] at hv
 by_cases hi:i < cs.length
 ·rw [List.getElem?_append_left hi] at hc
  rw [List.getElem?_append_left (by omega)] at hv
  exact h1 i c v hc (by simpa using hv)
 ·rw [List.getElem?_append_right (by omega)] at hc
  rw [List.getElem?_append_right (by omega),← hl] at hv
  exact h2 _ c v hc (by simpa using hv)
theorem AL {w:World} {S:Nat→Prop} {σ:St} {a:Act} (r:dQ w S σ a) (size:Nat):∀ (parts:List (Nat×Operand)) (k:Nat) (xs:List AV) (cells:Array Value),IA σ.tm parts k=some xs→(∀ x∈xs,El size x)→cells.size=(k+parts.length) * size→
 ∃ vs:List Value,Instr.fill (fun i=>some (i * size,size)) cells (parts.map fun p=>(p.1,a.eval p.2))=some (cells.toList.take (k * size)++vs).toArray∧vs.length=xs.length * size∧xs.length=parts.length∧lZ w S (flat xs) vs.toArray
 | [],k,xs,cells,h1,h2,h3=>by
   simp only [IA,Option.some.injEq] at h1
   subst h1
   refine ⟨[],?_,by simp,rfl,fun i c v hc=>by simp [flat] at hc⟩
   simp only [List.length_nil,Nat.add_zero] at h3
   simp only [Instr.fill,List.map_nil,← h3,Option.some.injEq,List.append_nil]
   rw [List.take_of_length_le (by simp)]
 | (i,x) :: parts,k,xs,cells,h1,h2,h3=>by
   simp only [IA] at h1
   split at h1
   ·rename_i av l hi ha hl
    obtain rfl:i=k:=Nat.eq_of_beq_eq_true hi
    obtain rfl:=Option.some.inj h1
    have xX:=h2 av (by simp)
    obtain ⟨c1,c2⟩:=tQ (bj r ha) xX.2
    simp only [List.length_cons] at h3
    have lx:(a.eval x).cells.size=size:=by rw [← c1];exact xX.1
    have e1:(i+(parts.length+1)) * size=i * size+size+parts.length * size:=by rw [Nat.add_mul,Nat.add_mul,Nat.one_mul];omega
    have hle:i * size+size≤cells.size:=by rw [h3,e1];omega
    obtain ⟨vs,g1,g2,g3,g4⟩:=AL r size parts (i+1) l (cells.toList.take (i * size)++(a.eval x).cells.toList++cells.toList.drop (i * size+(a.eval x).cells.toList.length)).toArray hl (fun y hy=>h2 y (by simp [hy])) (by
     simp [lx];rw [show i+1+parts.length=i+(parts.length+1) from by omega,e1];omega)
    refine ⟨(a.eval x).cells.toList++vs,?_,?_,by simp [g3],?_⟩
    ·rw [List.map_cons,Cu (off:=i * size) (size:=size) rfl lx hle,g1]
     congr 2
     have l1:(cells.toList.take (i * size)).length=i * size:=by simp;omega
     have l2:(a.eval x).cells.toList.length=size:=by simp [lx]
     rw [← List.append_assoc]
     congr 1
     rw [show (i+1) * size=(cells.toList.take (i * size)++(a.eval x).cells.toList).length from by rw [List.length_append,l1,l2,Nat.add_mul,Nat.one_mul]]
     exact List.take_left
    ·simp [g2,lx,Nat.add_mul];omega
    ·rw [iJ]
     exact vv (by simpa using c1) (by simpa using c2) g4
   ·cases h1
section rules
variable {P:Program} {all:Array Oper} {rest:List Oper} {n:Nat} {tm:List (Nat×AV)} {hp:Heap} {Q:St→Prop} {d:Nat} {ty:TypeId} {pos:String} {af:Array Edge}
theorem uA {P:Program} (w:World) (E:TypeId) (vs:Array Value):(newRow E vs).run P w=.ok ⟨w.heap.size,0,none⟩ (w.alloc (.cells vs E)):=by simp [newRow]
theorem xY {t e:TypeId} {i:TypeInfo} {z:Value} {len:Nat} {parts:List (Nat×Operand)} {xs:List AV} [aD P t (.slice e)] [aX P e i] (hz:i.zero=some z) (hl:IA tm parts 0=some xs) (hlen:Nat.beq parts.length len=true) (xX:zw i.size xs=true)
 (IV:Nat.ble (len * i.size) 16777216=true) (hn:Nat.blt d n=true) (kk:∀ b:Bk,ah P all rest ⟨n,(d,.sl i.size b 0 len) :: tm,(b,.arr i.size xs) :: hp⟩ Q):ah P all (⟨some d,.buildSlice t len parts.toArray,ty,pos,af,none⟩ :: rest) ⟨n,tm,hp⟩ Q:=by
 refine ah.M0 rfl fun w S a r=>?_
 obtain rfl:parts.length=len:=Nat.eq_of_beq_eq_true hlen
 have IV:=Nat.le_of_ble_eq_true IV
 obtain ⟨zz,Ls⟩:∃ zz:Array Value,zz=if parts.length * i.size=0 then #[] else z.cells:=⟨_,rfl⟩
 obtain ⟨vs,g1,g2,g3,g4⟩:=AL (σ:=⟨n,tm,hp⟩) r i.size parts 0 xs ((Array.range (parts.length * i.size)).map (zz[· % zz.size]!)) hl (pM xX) (by simp)
 simp only [Nat.zero_mul,List.take_zero,List.nil_append] at g1
 have e0:=Ext.alloc w (.cells vs.toArray e)
 have hh:Holds (w.alloc (.cells vs.toArray e)) S ⟨some w.heap.size,parts.length⟩ (.arr i.size xs):=by
  refine ⟨pM xX,by simp [g3],.inr ⟨w.heap.size,vs.toArray,e,rfl,?_,by simp [g2,g3],g4.mono fun m hm=>⟨hm,e0.same m (r.hp.slt m hm)⟩⟩⟩
  show (w.heap.push _)[w.heap.size]? =_
  simp
 obtain ⟨k1,k2,k3⟩:=wk r.hp e0 id hh (.inr ⟨_,rfl,Nat.le_refl _⟩)
 refine ⟨.slice (some ⟨w.heap.size,0,none⟩) parts.length parts.length,w.alloc (.cells vs.toArray e),S,_,?_,(r.heap k3 k1).put hn ?_,k2,kk ⟨some w.heap.size,parts.length⟩⟩
 ·have hm:((parts.toArray.map fun p=>(p.1,a.eval p.2))).toList=parts.map fun p=>(p.1,a.eval p.2):=by simp
  simp only [execOp,Instr.buildSlice,Sem.run_bind,run_underlying (aD.h (P:=P) (t:=t)),Result.andThen_ok,sizeOf,typeInfo,run_program,aX.h (P:=P) (t:=e),Sem.run_pure]
  rw [if_neg (by omega)]
  by_cases h0:parts.length * i.size=0
  ·rw [if_pos h0] at Ls ⊢
   subst Ls
   simp only [Sem.run_bind,Result.andThen_ok,Sem.run_pure,hm,g1,uA]
  ·rw [if_neg h0] at Ls ⊢
   subst Ls
   simp only [Sem.run_bind,Result.andThen_ok,Sem.run_pure,zeroValue,typeInfo,run_program,aX.h (P:=P) (t:=e),hz,hm,g1,uA]
 ·have:=At.sl (w:=w.alloc (.cells vs.toArray e)) (S:=S) i.size ⟨some w.heap.size,parts.length⟩ 0 parts.length w.heap.size parts.length rfl (Nat.le_refl _) (by simp)
  simpa using this
def Lt (w:World) (S:Nat→Prop) (sz:Nat) (ys:List AV) (v:Value):Prop:=
 (∀ y∈ys,El sz y)∧∃ (a:Option Addr) (c:Nat) (rj:List Value),v=.slice a ys.length c∧rj.length=ys.length * sz∧lZ w S (flat ys) rj.toArray∧∀ (i:Nat) u,rj[i]? =some u→∃ ad,a=some ad∧w.cell? (ad.add i)=some u
inductive Src (hp:Heap) (sz:Nat):AV→List AV→Prop
 | nil:Src hp sz .nil []
 | list (ys:List AV):Src hp sz (.list sz ys) ys
 | whole (b:Bk) (len:Nat) (xs:List AV) (f:mr hp b (.arr sz xs)∨mr hp b (.yM sz xs)) (h:len=xs.length):Src hp sz (.sl sz b 0 len) xs
 | part (b:Bk) (off len:Nat) (xs:List AV) (f:mr hp b (.arr sz xs)∨mr hp b (.yM sz xs)) (h:off+len≤xs.length):Src hp sz (.sl sz b off len) ((xs.drop off).take len)
theorem yQ {sz:Nat}:∀ (xs:List AV) (k:Nat),(∀ x∈xs,El sz x)→flat (xs.drop k)=(flat xs).drop (k * sz)
 | xs,0,_=>by simp
 | [],k+1,_=>by simp [flat]
 | x :: xs,k+1,h=>by
   rw [List.drop_succ_cons,yQ xs k (fun y hy=>h y (by simp [hy])),iJ,Nat.add_mul,Nat.one_mul,Nat.add_comm (k * sz),← List.drop_drop]
   rw [List.drop_left' ((h x (by simp)).1)]
theorem yR {sz:Nat}:∀ (xs:List AV) (k:Nat),(∀ x∈xs,El sz x)→flat (xs.take k)=(flat xs).take (k * sz)
 | xs,0,_=>by simp [flat]
 | [],k+1,_=>by simp [flat]
 | x :: xs,k+1,h=>by
   rw [List.take_succ_cons,iJ,yR xs k (fun y hy=>h y (by simp [hy])),iJ,Nat.add_mul,Nat.one_mul,Nat.add_comm (k * sz)]
   have hx:=(h x (by simp)).1
   rw [List.take_append,List.take_of_length_le (l:=x.cells) (by omega),hx,Nat.add_sub_cancel_left]
theorem Cx {w:World} {S:Nat→Prop} {hp:Heap} (r:cG w S hp) {b:Bk} {sz off len:Nat} {xs:List AV} {v:Value} (f:mr hp b (.arr sz xs)∨mr hp b (.yM sz xs)) (hle:off+len≤xs.length) (h:At w S (.sl sz b off len) v):
 Lt w S sz ((xs.drop off).take len) v:=by
 obtain ⟨g0,g1,g2⟩:=pL r f
 have rI:∀ y∈(xs.drop off).take len,El sz y:=fun y hy=>g0 y (List.mem_of_mem_drop (List.mem_of_mem_take hy))
 have hlen:((xs.drop off).take len).length=len:=by simp;omega
 obtain ⟨oa,cap,e1,e2⟩:=h.uy
 refine ⟨rI,?_⟩
 rw [hlen,e1]
 rcases e2 with ⟨_,_,hl,ha,hc⟩ | ⟨m,hb,ha,h1,h2⟩ | ⟨m,ad,hb,ha,hl,hc⟩
 ·subst hl
  exact ⟨oa,cap,[],rfl,by simp,fun i c v hc hv=>by simp at hv,fun i u hu=>by simp at hu⟩
 ·rcases g2 with ⟨g2,_⟩ | ⟨m',vs,E,g2,g3,g4,g5⟩
  ·rw [g2] at hb;cases hb
  ·obtain rfl:m'=m:=by rw [g2] at hb;exact Option.some.inj hb
   subst ha
   have Lu:(off+len) * sz≤b.cap * sz:=Nat.mul_le_mul_right _ (by omega)
   rw [Nat.add_mul] at Lu
   refine ⟨_,cap,(vs.toList.drop (off * sz)).take (len * sz),rfl,by simp;omega,?_,?_⟩
   ·rw [yR _ _ (fun y hy=>g0 y (List.mem_of_mem_drop hy)),yQ _ _ g0]
    intro i c v hc hv
    simp only [List.getElem?_toArray,List.getElem?_take,List.getElem?_drop] at hc hv
    split at hv
    ·rename_i lA
     rw [if_pos lA] at hc
     exact g5 _ c v hc (by simpa using hv)
    ·cases hv
   ·intro i u hu
    refine ⟨_,rfl,?_⟩
    rw [mu,oc g3]
    simp only [List.getElem?_take,List.getElem?_drop] at hu
    split at hu
    ·simpa using hu
    ·cases hu
 ·subst hl
  exact ⟨oa,cap,[],rfl,by simp,fun i c v hc hv=>by simp at hv,fun i u hu=>by simp at hu⟩
theorem Src.at {w:World} {S:Nat→Prop} {hp:Heap} {sz:Nat} {av:AV} {ys:List AV} {v:Value} (s:Src hp sz av ys) (r:cG w S hp) (h:At w S av v):Lt w S sz ys v:=by
 cases s with
 | nil=>exact ⟨by simp,none,0,[],h.Dg,by simp,fun i c v hc hv=>by simp at hv,fun i u hu=>by simp at hu⟩
 | list ys=>
   obtain ⟨a,cap,vs,e1,e2,e3,e4,e5,e6⟩:=h.xT
   refine ⟨e2,a,cap,vs,e1,by rw [← e3,cQ e2],fun i c v hc hv=>e4 i c v hc (by simpa using hv),fun i u hu=>?_⟩
   obtain ⟨ad,h1,h2,h3,h4⟩:=e5 i u hu
   refine ⟨ad,h1,?_⟩
   obtain ⟨bk,of,sp⟩:=ad
   simp only at h2;subst h2
   rw [mu];exact h4
 | whole b len xs f hl=>
   subst hl
   have:=Cx r (off:=0) (len:=ys.length) f (by omega) h
   simpa using this
 | part b off len xs f hle=>exact Cx r f hle h
theorem Aa {P:Program} {t e:TypeId} {i:TypeInfo} (ht:P.underlying t=some (.slice e)) (hi:P.info? e=some i) (ob a:Option Addr) (AN FZ c:Nat) (h:AN≤FZ) (w:World):
 (Builtin.append_ #[t,t] ty #[.slice ob AN FZ,.slice a 0 c]).run P w=.ok (.slice ob AN FZ) w:=by
 cases a<;>cases ob<;>simp [Builtin.append_,run_underlying ht,sizeOf,typeInfo,hi,Builtin.lenOf,h,Builtin.firstCells,loadCells,loadCellsFrom,storeCells]
theorem B3 {P:Program} {t e E:TypeId} {i:TypeInfo} {w:World} (ht:P.underlying t=some (.slice e)) (hi:P.info? e=some i) (g AN FZ:Nat) (cur:Array Value) (hg:w.heap[g]? =some (.cells cur E (0,0)))
 (a:Addr) (m c:Nat) (news:List Value) (hl:news.length=m * i.size) (PJ:∀ (j:Nat) u,news[j]? =some u→w.cell? (a.add j)=some u) (h1:∀ u∈news,u.oneCell'=true)
 (GX:AN+m≤FZ) (NO:AN * i.size+news.length≤cur.size):
 (Builtin.append_ #[t,t] ty #[.slice (some ⟨g,0,none⟩) AN FZ,.slice (some a) m c]).run P w=
  .ok (.slice (some ⟨g,0,none⟩) (AN+m) FZ) (w.setRow g (cur.toList.take (AN * i.size)++news++cur.toList.drop (AN * i.size+news.length)).toArray):=by
 have hf:=run_firstCells_some (P:=P) w i.size m a m c news hl PJ
 have Dk:=run_storeCells_at P g (AN * i.size) E news 0 cur w hg (by simpa using NO) h1
 simp only [Nat.add_zero] at Dk
 simp [Builtin.append_,run_underlying ht,sizeOf,typeInfo,hi,Builtin.lenOf,GX,hf,Addr.add_lit,Dk]
theorem F0 {w:World} {S:Nat→Prop} {hp:Heap} {t e:TypeId} {i:TypeInfo} {z:Value} {b:Bk} {xs ys:List AV} {v1 v2:Value} (r:cG w S hp) (ht:P.underlying t=some (.slice e)) (hi:P.info? e=some i) (hz:i.zero=some z) (IW:z.cells.size=i.size) (h0:0 < i.size)
 (f:mr hp b (.arr i.size xs)) (QX:At w S (.sl i.size b 0 xs.length) v1) (hs:Lt w S i.size ys v2) (hb:(xs.length+ys.length) * i.bytes≤140737488355328) (QY:xs.length+ys.length≤9223372036854775807):
 ∃ v' w' b',(Builtin.append_ #[t,t] ty #[v1,v2]).run P w=.ok v' w'∧At w' S (.sl i.size b' 0 (xs.length+ys.length)) v'∧GB w w' b.cd∧Holds w' S b' (.arr i.size (xs++ys))∧
   (b'.cd=b.cd∨b'.cd=none∨∃ m,b'.cd=some m∧w.heap.size≤m):=by
 obtain ⟨k0,a,c,rj,rfl,k1,k2,k3⟩:=hs
 have hold:=r.holds _ f.mem
 obtain ⟨g0,g1,g2⟩:=pL r (.inl f)
 obtain ⟨oa,cap,rfl,e2⟩:=QX.uy
 by_cases hy:ys=[]
 ·subst hy
  have hle:xs.length≤cap:=by
   rcases e2 with ⟨_,_,hl,_,_⟩ | ⟨m,B2,ha,h1,h2⟩ | ⟨m,ad,B2,ha,hl,hc⟩<;>omega
  refine ⟨_,w,b,Aa ht hi oa a xs.length cap c hle w,by simpa using QX,⟨⟨rfl,rfl,rfl,Nat.le_refl _,fun _ _ _=>rfl⟩,fun _=>Nat.le_refl _⟩,by simpa using hold,.inl rfl⟩
 ·have hm:0 < ys.length:=List.length_pos_iff.2 hy
  have Lv:0 < rj.length:=by rw [k1];exact Nat.mul_pos hm h0
  obtain ⟨ad,rfl,_⟩:=k3 0 rj[0] (by simp [Lv])
  have QZ:∀ (j:Nat) u,rj[j]? =some u→w.cell? (ad.add j)=some u:=fun j u hu=>by
   obtain ⟨R9,h1,h2⟩:=k3 j u hu
   obtain rfl:=Option.some.inj h1
   exact h2
  have AJ:∀ u∈rj,u.oneCell'=true:=xW (cs:=flat ys) (vs:=rj.toArray) (by simp [k1,cQ k0]) k2 (IL k0)
  have tz:∀ x∈xs++ys,El i.size x:=fun x hx=>by rcases List.mem_append.1 hx with h | h;exact g0 x h;exact k0 x h
  have grown:∀ (IB:Nat) (Ab:List Value) (wr:Option Nat),Ab.length=xs.length * i.size→lZ w S (flat xs) Ab.toArray→
   At (w.drew.alloc (.cells (Ab.toArray++rj.toArray++Builtin.zeroCells z.cells (grownCap w (xs.length+ys.length) IB e - (xs.length+ys.length))) e)) S (.sl i.size ⟨some w.heap.size,grownCap w (xs.length+ys.length) IB e⟩ 0 (xs.length+ys.length))
    (.slice (some ⟨w.heap.size,0,none⟩) (xs.length+ys.length) (grownCap w (xs.length+ys.length) IB e))∧
   GB w (w.drew.alloc (.cells (Ab.toArray++rj.toArray++Builtin.zeroCells z.cells (grownCap w (xs.length+ys.length) IB e - (xs.length+ys.length))) e)) wr∧
   Holds (w.drew.alloc (.cells (Ab.toArray++rj.toArray++Builtin.zeroCells z.cells (grownCap w (xs.length+ys.length) IB e - (xs.length+ys.length))) e)) S ⟨some w.heap.size,grownCap w (xs.length+ys.length) IB e⟩ (.arr i.size (xs++ys)):=by
   intro IB Ab wr Sb Yw
   have NP:=grownCap_ge w (xs.length+ys.length) IB e
   have ex:Ext w (w.drew.alloc (.cells (Ab.toArray++rj.toArray++Builtin.zeroCells z.cells (grownCap w (xs.length+ys.length) IB e - (xs.length+ys.length))) e)):=(Ext.IM w _ (Nat.le_succ _)).trans (Ext.alloc w.drew _)
   generalize grownCap w (xs.length+ys.length) IB e=cp at *
   refine ⟨?_,⟨⟨ex.os,ex.tape,ex.output,ex.size,fun k hk _=>ex.same k hk⟩,ex.drawn⟩,tz,by simpa using NP,.inr ⟨w.heap.size,Ab.toArray++rj.toArray++Builtin.zeroCells z.cells (cp - (xs.length+ys.length)),e,rfl,?_,?_,?_⟩⟩
   ·have:=At.sl (w:=w.drew.alloc (.cells (Ab.toArray++rj.toArray++Builtin.zeroCells z.cells (cp - (xs.length+ys.length))) e)) (S:=S) i.size ⟨some w.heap.size,cp⟩ 0 (xs.length+ys.length) w.heap.size cp rfl NP (by simp)
    simpa using this
   ·show (w.heap.push _)[w.heap.size]? =_
    simp
   ·simp only [Array.size_append,List.size_toArray,size_zeroCells,IW,Sb,k1]
    rw [← Nat.add_mul,← Nat.add_mul]
    congr 1
    omega
   ·rw [sY]
    have h2:lZ w S (flat xs++flat ys) (Ab++rj).toArray:=vv (by rw [cQ g0,Sb]) Yw k2
    intro j c' u hc hu
    have hj:j < (Ab++rj).length:=by
     have:=(List.getElem?_eq_some_iff.1 hc).1
     simp only [List.length_append,cQ g0,cQ k0] at this
     simp only [List.length_append,Sb,k1]
     exact this
    have Yx:(Ab++rj).toArray[j]? =some u:=by
     rw [Array.getElem?_append_left (by simpa using hj)] at hu
     simpa using hu
    exact (h2 j c' u hc Yx).mono fun m Ut=>⟨Ut,ex.same m (r.slt m Ut)⟩
  rcases e2 with ⟨hbn,_,hl,rfl,rfl⟩ | ⟨m,Lw,rfl,h1,h2⟩ | ⟨m,R9,Lw,rfl,hl,rfl⟩
  ·have hx:xs=[]:=List.eq_nil_of_length_eq_zero hl
   subst hx
   have hr:=run_append_nil (P:=P) (ty:=ty) w t e i z ht hi hz ad ys.length c rj k1 QZ hm (by simp at QY;omega) (by simp only [List.length_nil,Nat.zero_add] at hb;omega)
   obtain ⟨q1,q2,q3⟩:=grown 0 [] b.cd (by simp) (fun j c' u hc=>by simp [flat] at hc)
   simp only [List.length_nil,Nat.zero_add,Array.empty_append] at q1 q2 q3 ⊢
   exact ⟨_,_,_,hr,q1,q2,q3,.inr (.inr ⟨_,rfl,Nat.le_refl _⟩)⟩
  ·rcases g2 with ⟨g2,_⟩ | ⟨m',vs,E,g2,g3,g4,g5⟩
   ·rw [g2] at Lw;cases Lw
   ·obtain rfl:m'=m:=by rw [g2] at Lw;exact Option.some.inj Lw
    simp only [Nat.zero_mul,Nat.zero_add] at *
    by_cases GX:xs.length+ys.length≤cap
    ·have hmul:(xs.length+ys.length) * i.size≤b.cap * i.size:=Nat.mul_le_mul_right _ (by omega)
     have NO:xs.length * i.size+rj.length≤vs.size:=by rw [k1,← Nat.add_mul,g4];exact hmul
     have hr:=B3 (P:=P) (ty:=ty) ht hi m' xs.length cap vs g3 ad ys.length c rj k1 QZ AJ GX NO
     have nS:¬ S m':=fun hs=>(r.sep _ f.mem m' (lY Lw)).1 hs
     have ex:∀ k,S k→S k∧(w.setRow m' (vs.toList.take (xs.length * i.size)++rj++vs.toList.drop (xs.length * i.size+rj.length)).toArray).heap[k]? =w.heap[k]?:=fun k hk=>⟨hk,setRow_other w m' k _ (fun e=>nS (e▸hk))⟩
     refine ⟨_,_,b,hr,?_,⟨⟨rfl,rfl,rfl,by simp,fun k _ hk=>setRow_other w m' k _ (fun e=>hk (by rw [Lw,e]))⟩,fun _=>Nat.le_refl _⟩,⟨tz,by simp;omega,.inr ⟨m',(vs.toList.take (xs.length * i.size)++rj++vs.toList.drop (xs.length * i.size+rj.length)).toArray,E,Lw,setRow_heap w m' vs _ E _ g3,?_,?_⟩⟩,.inl rfl⟩
     ·have:=At.sl (w:=w.setRow m' (vs.toList.take (xs.length * i.size)++rj++vs.toList.drop (xs.length * i.size+rj.length)).toArray) (S:=S) i.size b 0 (xs.length+ys.length) m' cap Lw GX (by omega)
      simpa using this
     ·simp;omega
     ·rw [sY]
      have hA:lZ w S (flat xs++flat ys) (vs.toList.take (xs.length * i.size)++rj).toArray:=vv (by simp [cQ g0];omega) (fun j c' u hc hu=>by
       simp only [List.getElem?_toArray,List.getElem?_take] at hu
       split at hu
       ·exact g5 j c' u hc (by simpa using hu)
       ·cases hu) k2
      intro j c' u hc hu
      have hj:j < (vs.toList.take (xs.length * i.size)++rj).length:=by
       have:=(List.getElem?_eq_some_iff.1 hc).1
       simp only [List.length_append,cQ g0,cQ k0] at this
       simp;omega
      simp only [List.getElem?_toArray] at hu
      rw [List.getElem?_append_left hj] at hu
      exact (hA j c' u hc (by simpa using hu)).mono ex
    ·have hr:=run_append_grow (P:=P) (ty:=ty) w t e i z ht hi hz ⟨m',0,none⟩ xs.length cap (vs.toList.take (xs.length * i.size)) (by
      have:=Nat.mul_le_mul_right i.size g1
      simp;omega) (fun j u hu=>by
       rw [mu,Nat.zero_add,oc g3]
       rw [List.getElem?_take] at hu
       split at hu
       ·simpa using hu
       ·cases hu) ad ys.length c rj k1 QZ (by omega) (by omega) (growslice_fits (by omega) hb)
     obtain ⟨q1,q2,q3⟩:=grown cap (vs.toList.take (xs.length * i.size)) b.cd (by
      have:=Nat.mul_le_mul_right i.size g1
      simp;omega) (fun j c' u hc hu=>by
       simp only [List.getElem?_toArray,List.getElem?_take] at hu
       split at hu
       ·exact g5 j c' u hc (by simpa using hu)
       ·cases hu)
     exact ⟨_,_,_,hr,q1,q2,q3,.inr (.inr ⟨_,rfl,Nat.le_refl _⟩)⟩
  ·have hx:xs=[]:=List.eq_nil_of_length_eq_zero hl
   subst hx
   have hr:=run_append_grow (P:=P) (ty:=ty) w t e i z ht hi hz R9 0 0 [] (by simp) (fun j u hu=>by simp at hu) ad ys.length c rj k1 QZ (by omega) (by simp at QY;omega) (growslice_fits (by omega) (by simpa using hb))
   obtain ⟨q1,q2,q3⟩:=grown 0 [] b.cd (by simp) (fun j c' u hc=>by simp [flat] at hc)
   simp only [List.length_nil,Nat.zero_add] at q1 q2 q3 hr ⊢
   exact ⟨_,_,_,hr,q1,q2,q3,.inr (.inr ⟨_,rfl,Nat.le_refl _⟩)⟩
theorem IX {t e:TypeId} {i:TypeInfo} {z:Value} {x y:Operand} {src:AV} {b:Bk} {len sz:Nat} {xs ys:List AV} {de:Bk→Heap} [aD P t (.slice e)] [aX P e i] (hx:cZ tm x=some (.sl sz b 0 len)) (hy:cZ tm y=some src) (hz:i.zero=some z)
 (IW:Nat.beq z.cells.size i.size=true) (lx:Nat.beq i.size sz=true) (h0:Nat.blt 0 sz=true) (hn:Nat.blt d n=true) (hs:Src hp sz src ys) (u:∀ b',nA hp b (.arr sz xs) b' (.arr sz (xs++ys)) (de b')) (hlen:len=xs.length)
 (hb:(xs.length+ys.length) * i.bytes≤140737488355328) (QY:xs.length+ys.length≤9223372036854775807)
 (kk:∀ b':Bk,ah P all rest ⟨n,(d,.sl sz b' 0 (len+ys.length)) :: tm,de b'⟩ Q):ah P all (⟨some d,.call {callee:=.builtin .append,args:=#[x,y],argTypes:=#[t,t]},ty,pos,af,none⟩ :: rest) ⟨n,tm,hp⟩ Q:=by
 refine ah.M0 rfl fun w S a r=>?_
 subst hlen
 obtain rfl:i.size=sz:=Nat.eq_of_beq_eq_true lx
 obtain ⟨v',w',b',g1,g2,g3,g4,g5⟩:=F0 (P:=P) (ty:=ty) r.hp (aD.h (P:=P) (t:=t)) (aX.h (P:=P) (t:=e)) hz (Nat.eq_of_beq_eq_true IW) (by simpa using h0) (u b).ml (bj (σ:=⟨n,tm,hp⟩) r hx) (hs.at r.hp (bj (σ:=⟨n,tm,hp⟩) r hy)) hb QY
 obtain ⟨k1,k2,k3⟩:=xV r.hp (u b') g3 id id g4 g5
 refine ⟨v',w',S,_,?_,(r.heap k3 k1).put hn g2,k2,kk b'⟩
 simp [execOp,resolve,invoke,builtin,g1]
end rules
def aj (σ:St) (T:St→Prop):Prop:=∀ w S a,dQ w S σ a→∃ aC S',T aC∧dQ w S' aC a∧lz w S σ.hp w S' aC.hp
theorem aj.here {σ:St} {T:St→Prop} (h:T σ):aj σ T:=fun w S a r=>⟨σ,S,h,r,lz.refl _ _ _⟩
theorem aj.step {σ De:St} {T:St→Prop} (h:aj σ (· =De)) (k:aj De T):aj σ T:=by
 intro w S a r
 obtain ⟨aC,S',rfl,r',e⟩:=h w S a r
 obtain ⟨GS,S2,h2,r2,e2⟩:=k w S' a r'
 exact ⟨GS,S2,h2,r2,e.trans e2⟩
theorem aj.mono {σ:St} {T T':St→Prop} (h:aj σ T) (ht:∀ σ,T σ→T' σ):aj σ T':=fun w S a r=>
 let ⟨aC,S',h1,h2,h3⟩:=h w S a r
 ⟨aC,S',ht _ h1,h2,h3⟩
def Cy (tm:List (Nat×AV)):List (Nat×AV)→Prop
 | []=>True
 | (s,av) :: r=>lk tm s=some av∧Cy tm r
theorem Cy.lk {tm:List (Nat×AV)}:∀ {qQ:List (Nat×AV)},Cy tm qQ→∀ s av,Eng.lk qQ s=some av→Eng.lk tm s=some av
 | [],_,s,av,h=>by simp [Eng.lk] at h
 | (k,v) :: r,h,s,av,hh=>by
   simp only [Eng.lk] at hh
   split at hh
   ·rename_i hb
    obtain rfl:k=s:=by simpa using hb
    obtain rfl:=Option.some.inj hh
    exact h.1
   ·exact Cy.lk h.2 s av hh
theorem aj.arr {n s:Nat} {tm:List (Nat×AV)} {hp:Heap} {T:St→Prop} (sz:Nat) (hs:lk tm s=some .nil) (k:∀ b,aj ⟨n,(s,.sl sz b 0 0) :: tm,(b,.arr sz []) :: hp⟩ T):aj ⟨n,tm,hp⟩ T:=by
 refine aj.step (De:=⟨n,(s,.sl sz ⟨none,0⟩ 0 0) :: tm,(⟨none,0⟩,.arr sz []) :: hp⟩) (fun w S a r=>?_) (k ⟨none,0⟩)
 obtain ⟨g1,g2,g3⟩:=wk (b:=⟨none,0⟩) (o:=.arr sz []) r.hp (Ext.refl w) id ⟨by simp,by simp,.inl ⟨rfl,rfl⟩⟩ (.inl rfl)
 refine ⟨_,S,rfl,⟨r.size,r.defers,fun t av h=>?_,g1⟩,g2⟩
 simp only [lk] at h
 split at h
 ·rename_i hb
  obtain rfl:s=t:=by simpa using hb
  obtain rfl:=Option.some.inj h
  obtain ⟨v,h1,h2⟩:=r.tm s _ hs
  cases h2
  exact ⟨_,h1,.B0 sz _ rfl⟩
 ·exact r.tm t av h
theorem aj.freeze {n sz:Nat} {tm:List (Nat×AV)} {hp de:Heap} {T:St→Prop} {b:Bk} {xs:List AV} (u:nA hp b (.arr sz xs) b (.yM sz xs) de) (k:aj ⟨n,tm,de⟩ T):aj ⟨n,tm,hp⟩ T:=by
 refine aj.step (De:=⟨n,tm,de⟩) (fun w S a r=>?_) k
 have rI:=u.ml.mem
 have M5:∀ m,b.cd=some m→m < w.heap.size:=fun m hm=>r.hp.lt ⟨_,rI,lY hm⟩
 let S':Nat→Prop:=fun m=>S m∨b.cd=some m
 have mono:∀ m,S m→S' m∧w.heap[m]? =w.heap[m]?:=fun m hm=>⟨.inl hm,rfl⟩
 obtain ⟨p,q,rfl,rfl⟩:=u.split
 have xm:=r.hp.nodup
 have yS:cG w S' (p++(b,.yM sz xs) :: q):=by
  refine ⟨?_,?_,?_,?_,fun g o ho=>⟨.inl (r.hp.jt g o ho).1,(r.hp.jt g o ho).2⟩⟩
  ·simpa [List.flatMap_append,List.flatMap_cons,eb,Ob.more] using xm
  ·intro e he
   rcases bl.1 he with rfl | he
   ·exact Holds.mono (o:=.yM sz xs) mono (fun _ _=>rfl) (show Holds w S b (.arr sz xs) from r.hp.holds (b,.arr sz xs) rI)
   ·exact (r.hp.holds e (bl.2 (.inr he))).mono mono (fun _ _=>rfl)
  ·intro e he m hm
   rcases bl.1 he with rfl | he
   ·exact ⟨fun _=>trivial,fun _=>.inr ((vm rfl).1 hm)⟩
   ·rw [← r.hp.sep e (bl.2 (.inr he)) m hm]
    refine ⟨fun hs=>hs.elim id fun hb=>?_,.inl⟩
    exfalso
    rw [List.flatMap_append,List.flatMap_cons,List.nodup_append,List.nodup_append] at xm
    rcases List.mem_append.1 he with h | h
    ·exact xm.2.2 m (List.mem_flatMap.2 ⟨e,h,hm⟩) m (List.mem_append_left _ (lY hb)) rfl
    ·exact xm.2.1.2.2 m (lY hb) m (List.mem_flatMap.2 ⟨e,h,hm⟩) rfl
  ·intro m hm
   rcases hm with h | h
   ·exact r.hp.slt m h
   ·exact M5 m h
 refine ⟨_,S',rfl,r.heap mono yS,rfl,rfl,rfl,Nat.le_refl _,mono,fun m hm hh=>⟨rfl,fun hs=>hs.elim id fun hb=>(hh ⟨_,rI,lY hb⟩).elim⟩,fun m hm=>.inl ?_,fun _=>Nat.le_refl _⟩
 obtain ⟨e,he,hb⟩:=hm
 rcases bl.1 he with rfl | he
 ·exact ⟨_,rI,hb⟩
 ·exact ⟨e,bl.2 (.inr he),hb⟩
inductive Co (hp:Heap):AV→AV→Prop
 | refl (a:AV):Co hp a a
 | nil (sz:Nat):Co hp .nil (.list sz [])
 | yM (sz:Nat) (b:Bk) (len:Nat) (xs:List AV) (f:mr hp b (.yM sz xs)) (h:len=xs.length):Co hp (.sl sz b 0 len) (.list sz xs)
 | part (sz:Nat) (b:Bk) (off len:Nat) (xs:List AV) (f:mr hp b (.yM sz xs)) (h:off+len≤xs.length):Co hp (.sl sz b off len) (.list sz ((xs.drop off).take len))
theorem oX {w:World} {S:Nat→Prop} {sz:Nat} {ys:List AV} {v:Value} (h:Lt w S sz ys v) (hS:∀ ad len cap,v=.slice (some ad) len cap→0 < len→ad.spot=none∧S ad.block) (hc:∀ ob len cap,v=.slice ob len cap→len≤cap):At w S (.list sz ys) v:=by
 obtain ⟨h0,a,c,rj,rfl,h1,h2,h3⟩:=h
 refine .list sz ys a c rj h0 (by rw [cQ h0,h1]) (fun i c v hc hv=>h2 i c v hc (by simpa using hv)) (fun i v hv=>?_) (hc _ _ _ rfl)
 obtain ⟨ad,rfl,h4⟩:=h3 i v hv
 have lA:i < rj.length:=(List.getElem?_eq_some_iff.1 hv).1
 have uz:0 < ys.length:=by
  rcases Nat.eq_zero_or_pos ys.length with h | h
  ·rw [h1,h] at lA;simp at lA
  ·exact h
 obtain ⟨g1,g2⟩:=hS ad _ _ rfl uz
 refine ⟨ad,rfl,g1,g2,?_⟩
 obtain ⟨bk,of,sp⟩:=ad
 simp only at g1;subst g1
 rw [mu] at h4;exact h4
theorem qp {w:World} {S:Nat→Prop} {sz off len:Nat} {b:Bk} {v:Value} (h:At w S (.sl sz b off len) v):(∀ ad l c,v=.slice (some ad) l c→0 < l→ad.spot=none∧b.cd=some ad.block)∧∀ ob l c,v=.slice ob l c→l≤c:=by
 obtain ⟨oa,cap,rfl,e2⟩:=h.uy
 rcases e2 with ⟨_,_,hl,rfl,rfl⟩ | ⟨m,hb,rfl,h1,h2⟩ | ⟨m,ad,hb,rfl,hl,rfl⟩
 ·exact ⟨(fun ad l c h=>by cases h),(fun ob l c h=>by cases h;omega)⟩
 ·exact ⟨(fun ad l c h _=>by cases h;exact ⟨rfl,hb⟩),(fun ob l c h=>by cases h;omega)⟩
 ·exact ⟨(fun ad l c h yN=>by cases h;omega),(fun ob l c h=>by cases h;omega)⟩
theorem Co.at {w:World} {S:Nat→Prop} {hp:Heap} {a a':AV} {v:Value} (c:Co hp a a') (r:cG w S hp) (h:At w S a v):At w S a' v:=by
 cases c with
 | refl=>exact h
 | nil sz=>rw [h.Dg];exact .list sz [] none 0 [] (by simp) rfl (fun i c v hc=>by simp [flat] at hc) (fun i v hv=>by simp at hv) (by simp)
 | yM sz b len xs f hl=>
   have hs:=(Src.whole (hp:=hp) (sz:=sz) b len xs (.inr f) hl).at r h
   exact oX hs (fun ad l c hv hp=>let ⟨g1,g2⟩:=(qp h).1 ad l c hv hp;⟨g1,(r.sep _ f.mem _ (lY g2)).2 trivial⟩) (qp h).2
 | part sz b off len xs f hl=>
   have hs:=(Src.part (hp:=hp) (sz:=sz) b off len xs (.inr f) hl).at r h
   exact oX hs (fun ad l c hv hp=>let ⟨g1,g2⟩:=(qp h).1 ad l c hv hp;⟨g1,(r.sep _ f.mem _ (lY g2)).2 trivial⟩) (qp h).2
theorem aj.co {n s:Nat} {tm:List (Nat×AV)} {hp:Heap} {T:St→Prop} {av bZ:AV} (hs:lk tm s=some av) (c:Co hp av bZ) (k:aj ⟨n,(s,bZ) :: tm,hp⟩ T):aj ⟨n,tm,hp⟩ T:=by
 refine aj.step (De:=⟨n,(s,bZ) :: tm,hp⟩) (fun w S a r=>⟨_,S,rfl,⟨r.size,r.defers,fun t av h=>?_,r.hp⟩,lz.refl _ _ _⟩) k
 simp only [lk] at h
 split at h
 ·rename_i hb
  obtain rfl:s=t:=by simpa using hb
  obtain rfl:=Option.some.inj h
  obtain ⟨v,h1,h2⟩:=r.tm s _ hs
  exact ⟨v,h1,c.at r.hp h2⟩
 ·exact r.tm t av h
section
variable {P:Program} {R:St→Prop} {k:List It} {σ:St}
theorem ae.ghost {c:Code} (h:aj σ (ae P R (.code c :: k))):ae P R (.code c :: k) σ:=by
 intro w S a r
 obtain ⟨aC,S',h1,h2,h3⟩:=h w S a r
 exact ae.go h1 h2 h3
theorem ah.ghost {all:Array Oper} {l:List Oper} {Q:St→Prop} (h:aj σ (fun aC=>ah P all l aC Q)):ah P all l σ Q:=by
 intro w S a r
 obtain ⟨aC,S',h1,h2,h3⟩:=h w S a r
 exact h1.go h2 h3
theorem ae.PK {body:Code} (I:Nat→St→Prop) (m:Nat) (h0:aj σ (I m)) (hs:∀ m σ,I m σ→ae P R (.code body :: .stop (fun aC=>∃ m',m' < m∧aj aC (I m')) :: k) σ):
 ae P R (.code (.loop body) :: k) σ:=by
 refine ae.loop (fun m σ=>aj σ (I m)) m h0 (fun m σ hI=>?_)
 exact ae.ghost (hI.mono fun aC h=>hs m aC h)
end
class bq (P:Program) (f:FuncId):Prop where
 h:∃ fn,P.funcs[f]? =some fn∧(fn.name=="runtime.NumGoroutine")=false∧fn.body.isNone=false
theorem rJ {P:Program} (f:FuncId) [bq P f] (args:Array Value) (w:World):(callFunc f args).run P w=.ok (.enter f args) w:=by
 obtain ⟨fn,h1,h2,h3⟩:=bq.h (P:=P) (f:=f)
 have M7:¬ (fn.name="runtime.NumGoroutine"):=by simpa using h2
 have GY:¬ (fn.body=none):=fun h=>by simp [h] at h3
 simp [callFunc,h1,M7,GY]
inductive xZ (hp:Heap):List AV→List AV→Prop
 | nil:xZ hp [] []
 | cons {a a':AV} {l l':List AV} (c:Co hp a a') (k:xZ hp l l'):xZ hp (a :: l) (a' :: l')
theorem xZ.at {w:World} {S:Nat→Prop} {hp:Heap} (r:cG w S hp):∀ {l l':List AV},xZ hp l l'→∀ {vs:List Value},l.length=vs.length→lZ w S l vs.toArray→l'.length=vs.length∧lZ w S l' vs.toArray
 | [],_,.nil,vs,hl,h=>⟨hl,h⟩
 | a :: l,_,.cons (a':=a') (l':=l') c k,vs,hl,h=>by
   match vs,hl with
   | v :: vs,hl=>
     obtain ⟨g1,g2⟩:=xZ.at r k (vs:=vs) (by simpa using hl) (fun i c u hc hu=>h (i+1) c u (by simpa using hc) (by simpa using hu))
     refine ⟨by simpa using g1,fun i c u hc hu=>?_⟩
     match i with
     | 0=>
       simp at hc hu
       subst hc
       subst hu
       exact Co.at ‹Co hp a a'› r (h 0 a v (by simp) (by simp))
     | i+1=>exact g2 i c u (by simpa using hc) (by simpa using hu)
section rules
variable {P:Program} {all:Array Oper} {rest:List Oper} {n:Nat} {tm:List (Nat×AV)} {hp:Heap} {Q:St→Prop} {d:Nat} {ty:TypeId} {pos:String} {af:Array Edge}
theorem tT {w:World} {S:Nat→Prop} {σ:St} {a:Act} (r:dQ w S σ a) {xs:List Operand} {l:List AV} (h:zZ σ.tm xs=some l):l.length=(xs.map a.eval).length∧lZ w S l (xs.map a.eval).toArray:=by
 obtain ⟨h1,h2⟩:=FY r h
 exact ⟨by simp [h1],fun i c v hc hv=>h2 i c v hc (by simpa using hv)⟩
theorem p9 {f:FuncId} {args:List Operand} {ts:Array TypeId} {dd:Option Nat} [bq P f] (a:Act) (w:World):
 (execOp a.eval ⟨dd,.call {callee:=.value (.func f),args:=args.toArray,argTypes:=ts},ty,pos,af,none⟩).run P w=.ok (.enter f (args.map a.eval).toArray) w:=by
 simp [execOp,resolve,Act.eval,Deferred.ofValue,invoke,rJ]
theorem vw {f:FuncId} {x:Operand} {args:List Operand} {ts:Array TypeId} {dd:Option Nat} {sU:Array Value} [bq P f] (a:Act) (w:World) (hx:a.eval x=.func (.func f) #[] sU):
 (execOp a.eval ⟨dd,.call {callee:=.value x,args:=args.toArray,argTypes:=ts},ty,pos,af,none⟩).run P w=.ok (.enter f ((args.map a.eval)++sU.toList).toArray) w:=by
 simp [execOp,resolve,hx,Deferred.ofValue,invoke,rJ]
theorem IY {f:FuncId} {args:List Operand} {ts:Array TypeId} {l l':List AV} {h0 hr:Heap} {Qc:AV→Heap→Prop} [bq P f] (hl:zZ tm args=some l) (c:aG P f l' h0 Qc) (co:xZ hp l l') (hs:hp.Perm (h0++hr)) (hn:Nat.blt d n=true)
 (kk:∀ r h',Qc r h'→ah P all rest ⟨n,(d,r) :: tm,h'++hr⟩ Q):ah P all (⟨some d,.call {callee:=.value (.func f),args:=args.toArray,argTypes:=ts},ty,pos,af,none⟩ :: rest) ⟨n,tm,hp⟩ Q:=by
 refine ah.GR rfl fun w S a r=>⟨f,_,p9 a w,?_⟩
 obtain ⟨g1,g2⟩:=tT (σ:=⟨n,tm,hp⟩) r hl
 obtain ⟨g3,g4⟩:=xZ.at r.hp co g1 g2
 have rp:=r.hp.perm hs
 refine (c.frame hr w S _ rp (by simpa using g3) g4).mono ?_
 rintro e w' ⟨v,rr,h',S',rfl,⟨h1,rfl,hq⟩,h3,h4,h5⟩
 have Ev:=h5.mH
 have ev:lz w S hp w' S' (h1++hr):={h5 with
  other:=fun m hm hh=>h5.other m hm (fun ⟨x,hx,hb⟩=>hh ⟨x,hs.mem_iff.2 hx,hb⟩)
  new:=fun m hm=>(h5.new m hm).imp (fun ⟨x,hx,hb⟩=>⟨x,hs.mem_iff.2 hx,hb⟩) id}
 exact ⟨v,S',⟨n,(d,rr) :: tm,h1++hr⟩,rfl,(r.heap Ev h4).put hn h3,ev,kk rr h1 hq⟩
theorem Lx {f:FuncId} {args:List Operand} {ts:Array TypeId} {l l':List AV} {Qc:AV→Heap→Prop} [bq P f] (hl:zZ tm args=some l) (c:aG P f l' [] Qc) (co:xZ hp l l') (hn:Nat.blt d n=true)
 (kk:∀ r h',Qc r h'→ah P all rest ⟨n,(d,r) :: tm,h'++hp⟩ Q):ah P all (⟨some d,.call {callee:=.value (.func f),args:=args.toArray,argTypes:=ts},ty,pos,af,none⟩ :: rest) ⟨n,tm,hp⟩ Q:=
 IY hl c co (List.Perm.refl _) hn kk
theorem xU.perm {h h':Heap} {b:Bk} {o:Ob} (u:xU h b o h'):h.Perm ([(b,o)]++h'):=by
 obtain ⟨p,q,rfl,rfl⟩:=u.split
 exact List.perm_middle
theorem GZ {f:FuncId} {x:Operand} {args:List Operand} {ts:Array TypeId} {sU l l':List AV} {h0 hr:Heap} {Qc:AV→Heap→Prop} [bq P f] (hx:cZ tm x=some (.func (.func f) sU)) (hl:zZ tm args=some l) (c:aG P f l' h0 Qc) (co:xZ hp (l++sU) l') (hs:hp.Perm (h0++hr)) (hn:Nat.blt d n=true)
 (kk:∀ r h',Qc r h'→ah P all rest ⟨n,(d,r) :: tm,h'++hr⟩ Q):ah P all (⟨some d,.call {callee:=.value x,args:=args.toArray,argTypes:=ts},ty,pos,af,none⟩ :: rest) ⟨n,tm,hp⟩ Q:=by
 refine ah.GR rfl fun w S a r=>?_
 obtain ⟨cv,e1,e2,e3⟩:=(bj (σ:=⟨n,tm,hp⟩) r hx).xS
 refine ⟨f,_,vw a w e1,?_⟩
 obtain ⟨g1,g2⟩:=tT (σ:=⟨n,tm,hp⟩) r hl
 obtain ⟨g3,g4⟩:=xZ.at r.hp co (vs:=args.map a.eval++cv.toList) (by simp [g1,e2]) (vv g1 g2 (by simpa using e3))
 have rp:=r.hp.perm hs
 refine (c.frame hr w S _ rp (by simpa using g3) g4).mono ?_
 rintro e w' ⟨v,rr,h',S',rfl,⟨h1,rfl,hq⟩,h3,h4,h5⟩
 have ev:lz w S hp w' S' (h1++hr):={h5 with
  other:=fun m hm hh=>h5.other m hm (fun ⟨x,hx,hb⟩=>hh ⟨x,hs.mem_iff.2 hx,hb⟩)
  new:=fun m hm=>(h5.new m hm).imp (fun ⟨x,hx,hb⟩=>⟨x,hs.mem_iff.2 hx,hb⟩) id}
 exact ⟨v,S',⟨n,(d,rr) :: tm,h1++hr⟩,rfl,(r.heap h5.mH h4).put hn h3,ev,kk rr h1 hq⟩
def AV.Dm:AV→Bool
 | .int _ _ | .bool _ | .str _ | .nil | .raw _=>true
 | _=>false
def Ew:List AV→Bool
 | []=>true
 | c :: r=>c.Dm&&Ew r
def AV.NQ:AV→Bool
 | .agg cs=>Ew cs
 | v=>v.Dm
def Ly:List AV→Bool
 | []=>true
 | c :: r=>c.NQ&&Ly r
def AV.Q0:AV→Bool
 | .agg cs=>Ew cs
 | .nI cs=>Ly cs
 | v=>v.Dm
theorem vx {w w':World} {S S':Nat→Prop} {av:AV} {v:Value} (h:At w S av v) (hn:av.Dm=true):At w' S' av v:=by
 cases h<;>first | (simp [AV.Dm] at hn;done) | constructor
theorem vy:∀ {cs:List AV},Ew cs=true→∀ c∈cs,c.Dm=true
 | [],_,c,hc=>by simp at hc
 | x :: r,h,c,hc=>by
   simp only [Ew,Bool.and_eq_true] at h
   rcases List.mem_cons.1 hc with rfl | hc
   ·exact h.1
   ·exact vy h.2 c hc
theorem Ex:∀ {cs:List AV},Ly cs=true→∀ c∈cs,c.NQ=true
 | [],_,c,hc=>by simp at hc
 | x :: r,h,c,hc=>by
   simp only [Ly,Bool.and_eq_true] at h
   rcases List.mem_cons.1 hc with rfl | hc
   ·exact h.1
   ·exact Ex h.2 c hc
theorem Lz {w w':World} {S S':Nat→Prop} {av:AV} {v:Value} (h:At w S av v) (hn:av.NQ=true):At w' S' av v:=by
 cases av with
 | agg cs=>
   cases h with
   | agg _ vs hl h=>exact .agg cs vs hl fun i c u hc hu=>vx (h i c u hc hu) (vy hn c (List.mem_of_getElem? hc))
 | _=>exact vx h hn
theorem NR {w w':World} {S S':Nat→Prop} {av:AV} {v:Value} (h:At w S av v) (hn:av.Q0=true):At w' S' av v:=by
 cases h with
 | agg cs vs hl h=>exact .agg cs vs hl fun i c u hc hu=>vx (h i c u hc hu) (vy hn c (List.mem_of_getElem? hc))
 | nI cs vs hl h=>exact .nI cs vs hl fun i c u hc hu=>Lz (h i c u hc hu) (Ex hn c (List.mem_of_getElem? hc))
 | int k n=>exact .int k n
 | bool b=>exact .bool b
 | str s=>exact .str s
 | nil=>exact .nil
 | raw v=>exact .raw v
 | _=>simp [AV.Q0,AV.Dm] at hn
inductive nJ (hp:Heap):AV→AV→Prop
 | co {a a':AV} (c:Co hp a a'):nJ hp a a'
 | arr (sz:Nat) (b:Bk) (len:Nat) (xs:List AV) (f:mr hp b (.arr sz xs)) (h:len=xs.length):nJ hp (.sl sz b 0 len) (.list sz xs)
 | part (sz:Nat) (b:Bk) (off len:Nat) (xs:List AV) (f:mr hp b (.arr sz xs)) (h:off+len≤xs.length):nJ hp (.sl sz b off len) (.list sz ((xs.drop off).take len))
 | box (b:Bk) (cs od:List AV) (f:mr hp b (.cells cs)) (hl:od.length=cs.length) (h:∀ (i:Nat) c c',cs[i]? =some c→od[i]? =some c'→nJ hp c c'):nJ hp (.ptr b 0) (.gg od)
 | func (fn:Fn) (cs od:List AV) (hl:od.length=cs.length) (h:∀ (i:Nat) c c',cs[i]? =some c→od[i]? =some c'→nJ hp c c'):nJ hp (.func fn cs) (.func fn od)
 | agg (cs od:List AV) (hl:od.length=cs.length) (h:∀ (i:Nat) c c',cs[i]? =some c→od[i]? =some c'→nJ hp c c'):nJ hp (.agg cs) (.agg od)
 | Q1 {a a':AV} (h:∀ (w:World) (S:Nat→Prop) v,cG w S hp→At w S a v→At w (fun m=>S m∨Has hp m) a' v):nJ hp a a'
inductive sV (hp:Heap):List AV→List AV→Prop
 | nil:sV hp [] []
 | cons {a a':AV} {l l':List AV} (c:nJ hp a a') (k:sV hp l l'):sV hp (a :: l) (a' :: l')
def SB (S:Nat→Prop) (hp:Heap):Nat→Prop:=fun m=>S m∨Has hp m
theorem sV.each {hp:Heap}:∀ {l l':List AV},sV hp l l'→l'.length=l.length∧∀ (i:Nat) c c',l[i]? =some c→l'[i]? =some c'→nJ hp c c'
 | [],_,.nil=>⟨rfl,fun i c c' h=>by simp at h⟩
 | _ :: _,_,.cons c k=>by
   obtain ⟨g1,g2⟩:=sV.each k
   refine ⟨by simp [g1],fun i c1 c2 h1 h2=>?_⟩
   match i with
   | 0=>simp at h1 h2;subst h1;subst h2;assumption
   | i+1=>exact g2 i c1 c2 (by simpa using h1) (by simpa using h2)
theorem nJ.B4 {hp:Heap} (b:Bk) (cs od:List AV) (f:mr hp b (.cells cs)) (k:sV hp cs od):nJ hp (.ptr b 0) (.gg od):=.box b cs od f k.each.1 k.each.2
theorem nJ.AO {hp:Heap} (fn:Fn) (cs od:List AV) (k:sV hp cs od):nJ hp (.func fn cs) (.func fn od):=.func fn cs od k.each.1 k.each.2
theorem nJ.at {w:World} {S:Nat→Prop} {hp:Heap} {a a':AV} {v:Value} (c:nJ hp a a') (r:cG w S hp) (h:At w S a v):At w (SB S hp) a' v:=by
 have mono:∀ m,S m→SB S hp m∧w.heap[m]? =w.heap[m]?:=fun m hm=>⟨.inl hm,rfl⟩
 induction c generalizing v with
 | box b cs od f hl _ ih=>
   cases h with
   | ptr _ _ n hb=>
     obtain ⟨h1,n',vs,E,B2,hh,hs,ha⟩:=r.holds _ f.mem
     obtain rfl:=Option.some.inj (hb.symm.trans B2)
     refine .gg od ⟨n,0,none⟩ vs.toList (by simp [hl,hs]) (fun i c v hc hv=>?_) rfl (.inr ⟨_,f.mem,lY hb⟩) (fun i v hv=>?_)
     ·have hi:i < cs.length:=by rw [← hl];exact (List.getElem?_eq_some_iff.1 hc).1
      exact ih i cs[i] c (by simp [hi]) hc (ha i _ _ (by simp [hi]) (by simpa using hv))
     ·rw [oc hh];simpa using hv
 | func fn cs od hl _ ih=>
   cases h with
   | func _ _ vs IU h2=>
     refine .func fn od vs (by rw [hl,IU]) (fun i c v hc hv=>?_)
     have hi:i < cs.length:=by rw [← hl];exact (List.getElem?_eq_some_iff.1 hc).1
     exact ih i cs[i] c (by simp [hi]) hc (h2 i _ _ (by simp [hi]) hv)
 | agg cs od hl _ ih=>
   cases h with
   | agg _ vs h1 h2=>
     refine .agg od vs (by rw [hl,h1]) (fun i c v hc hv=>?_)
     have hi:i < cs.length:=by rw [← hl];exact (List.getElem?_eq_some_iff.1 hc).1
     exact ih i cs[i] c (by simp [hi]) hc (h2 i _ _ (by simp [hi]) hv)
 | co c=>exact (c.at r h).mono mono
 | Q1 q=>exact q w S v r h
 | arr sz b len xs f hl=>
   obtain ⟨h0,a,c,rj,e1,h1,h2,h3⟩:=(Src.whole (hp:=hp) (sz:=sz) b len xs (.inl f) hl).at r h
   exact oX ⟨h0,a,c,rj,e1,h1,h2.mono mono,h3⟩ (fun ad l c hv hp=>let ⟨g1,g2⟩:=(qp h).1 ad l c hv hp;⟨g1,.inr ⟨_,f.mem,lY g2⟩⟩) (qp h).2
 | part sz b off len xs f hl=>
   obtain ⟨h0,a,c,rj,e1,h1,h2,h3⟩:=(Src.part (hp:=hp) (sz:=sz) b off len xs (.inl f) hl).at r h
   exact oX ⟨h0,a,c,rj,e1,h1,h2.mono mono,h3⟩ (fun ad l c hv hp=>let ⟨g1,g2⟩:=(qp h).1 ad l c hv hp;⟨g1,.inr ⟨_,f.mem,lY g2⟩⟩) (qp h).2
theorem sV.at {w:World} {S:Nat→Prop} {hp:Heap} (r:cG w S hp):∀ {l l':List AV},sV hp l l'→∀ {vs:List Value},l.length=vs.length→lZ w S l vs.toArray→l'.length=vs.length∧lZ w (SB S hp) l' vs.toArray
 | [],_,.nil,vs,hl,h=>⟨hl,fun i c v hc=>by simp at hc⟩
 | a :: l,_,.cons (a':=a') (l':=l') c k,vs,hl,h=>by
   match vs,hl with
   | v :: vs,hl=>
     obtain ⟨g1,g2⟩:=sV.at r k (vs:=vs) (by simpa using hl) (fun i c u hc hu=>h (i+1) c u (by simpa using hc) (by simpa using hu))
     refine ⟨by simpa using g1,fun i c u hc hu=>?_⟩
     match i with
     | 0=>
       simp at hc hu
       subst hc
       subst hu
       exact nJ.at ‹nJ hp a a'› r (h 0 a v (by simp) (by simp))
     | i+1=>exact g2 i c u (by simpa using hc) (by simpa using hu)
theorem lz.Ey {w w':World} {S S':Nat→Prop} {h':Heap} (e:lz w S [] w' S' h'):Ext w w':=
 ⟨e.os,e.tape,e.output,e.size,fun m hm=>(e.other m hm (fun ⟨x,hx,_⟩=>by simp at hx)).1,e.drawn⟩
theorem tU {w:World} {S:Nat→Prop} (h:∀ n,S n→n < w.heap.size) (hg:∀ g o,bA.Pt g=some o→S g∧o (w.heap[g]?)):cG w S []:=⟨by simp,by simp,by simp,h,hg⟩
theorem LA {f:FuncId} {args:List Operand} {ts:Array TypeId} {l l':List AV} {Qc:AV→Heap→Prop} [bq P f] (hl:zZ tm args=some l) (c:aG P f l' [] Qc) (co:sV hp l l') (hn:Nat.blt d n=true)
 (kk:∀ r h',Qc r h'→r.Q0=true∧ah P all rest ⟨n,(d,r) :: tm,hp⟩ Q):ah P all (⟨some d,.call {callee:=.value (.func f),args:=args.toArray,argTypes:=ts},ty,pos,af,none⟩ :: rest) ⟨n,tm,hp⟩ Q:=by
 refine ah.GR rfl fun w S a r=>⟨f,_,p9 a w,?_⟩
 obtain ⟨g1,g2⟩:=tT (σ:=⟨n,tm,hp⟩) r hl
 obtain ⟨g3,g4⟩:=sV.at r.hp co g1 g2
 refine (c w (SB S hp) _ (tU (fun m hm=>hm.elim (r.hp.slt m) fun h=>r.hp.lt h) (fun g o ho=>⟨.inl (r.hp.jt g o ho).1,(r.hp.jt g o ho).2⟩)) (by simpa using g3) g4).mono ?_
 rintro e w' ⟨v,rr,h',S',rfl,hq,h3,h4,h5⟩
 obtain ⟨k1,k2⟩:=kk rr h' hq
 have ex:=h5.Ey
 exact ⟨v,S,⟨n,(d,rr) :: tm,hp⟩,rfl,(r.ext ex).put hn (NR h3 k1),lz.ext r.hp.slt ex,k2⟩
def AQ (P:Program) (all:Array Oper) (l:List Oper) (σ:St) (Q:St→Prop):Prop:=
 ∀ w S a,dQ w S σ a→wpQuiet P all (Ext w) (fun a'=>∃ qQ,Q ⟨σ.n,qQ,σ.hp⟩∧dQ w S ⟨σ.n,qQ,σ.hp⟩ a') l a
end rules
section
variable {P:Program} {R:St→Prop} {k:List It} {σ:St}
theorem ae.NS {c:Operand} {x y:Code} {p:Prop} [Decidable p] (hc:cZ σ.tm c=some (.bool (decide p))) (h1:p→ae P R (.code x :: k) σ) (h2:¬ p→ae P R (.code y :: k) σ):ae P R (.code (.cond c x y) :: k) σ:=
 ae.cond hc (fun h=>h1 (of_decide_eq_true h)) (fun h=>h2 (of_decide_eq_false h))
end
theorem dQ.lit {w:World} {S:Nat→Prop} {n:Nat} {tm:List (Nat×AV)} {hp:Heap} {a:Act} {s:Nat} {b c:Bool} (r:dQ w S ⟨n,tm,hp⟩ a) (hs:lk tm s=some (.bool b)) (hb:b=c):dQ w S ⟨n,(s,.bool c) :: tm,hp⟩ a:=by
 subst hb
 refine ⟨r.size,r.defers,fun t av h=>?_,r.hp⟩
 simp only [lk] at h
 split at h
 ·rename_i hb
  obtain rfl:s=t:=by simpa using hb
  obtain rfl:=Option.some.inj h
  exact r.tm s _ hs
 ·exact r.tm t av h
section rules
variable {P:Program} {all:Array Oper} {rest:List Oper} {n:Nat} {tm:List (Nat×AV)} {hp:Heap} {Q:St→Prop} {d:Nat} {ty:TypeId} {pos:String} {af:Array Edge} {op:Op} {j s:Nat}
theorem ah.lit {l:List Oper} {b c:Bool} (hs:lk tm s=some (.bool b)) (hb:b=c) (k:ah P all l ⟨n,(s,.bool c) :: tm,hp⟩ Q):ah P all l ⟨n,tm,hp⟩ Q:=
 fun w S a r=>k w S a (r.lit hs hb)
theorem ah.guard {want b:Bool} (hj:(all[j]?).bind (·.dst)=some s) (hs:lk tm s=some (.bool b)) (hn:Nat.blt d n=true) (h1:b=want→ah P all (⟨some d,op,ty,pos,af,none⟩ :: rest) ⟨n,(s,.bool want) :: tm,hp⟩ Q)
 (h2:b=!want→ah P all rest ⟨n,(d,.raw undef) :: (s,.bool (!want)) :: tm,hp⟩ Q):ah P all (⟨some d,op,ty,pos,af,some (j,want)⟩ :: rest) ⟨n,tm,hp⟩ Q:=by
 by_cases hb:b=want
 ·exact ah.lit hs hb (ah.aF hj (by simp [lk]) rfl (h1 hb))
 ·have B2:b=!want:=by cases b<;>cases want<;>simp_all
  exact ah.lit hs B2 (ah.aJ hj (b:=!want) (by simp [lk]) rfl hn (h2 B2))
theorem ah.bJ {p:Prop} [Decidable p] (hj:(all[j]?).bind (·.dst)=some s) (hs:lk tm s=some (.bool (decide p))) (hn:Nat.blt d n=true) (h1:p→ah P all (⟨some d,op,ty,pos,af,none⟩ :: rest) ⟨n,(s,.bool true) :: tm,hp⟩ Q)
 (h2:¬ p→ah P all rest ⟨n,(d,.raw undef) :: (s,.bool false) :: tm,hp⟩ Q):ah P all (⟨some d,op,ty,pos,af,some (j,true)⟩ :: rest) ⟨n,tm,hp⟩ Q:=
 ah.guard hj hs hn (fun h=>h1 (of_decide_eq_true h)) (fun h=>h2 (of_decide_eq_false h))
theorem ah.fU {p:Prop} [Decidable p] (hj:(all[j]?).bind (·.dst)=some s) (hs:lk tm s=some (.bool (decide p))) (hn:Nat.blt d n=true) (h1:¬ p→ah P all (⟨some d,op,ty,pos,af,none⟩ :: rest) ⟨n,(s,.bool false) :: tm,hp⟩ Q)
 (h2:p→ah P all rest ⟨n,(d,.raw undef) :: (s,.bool true) :: tm,hp⟩ Q):ah P all (⟨some d,op,ty,pos,af,some (j,false)⟩ :: rest) ⟨n,tm,hp⟩ Q:=
 ah.guard hj hs hn (fun h=>h1 (of_decide_eq_false h)) (fun h=>h2 (of_decide_eq_true h))
theorem lM {xt:TypeId} {x:Operand} {p:Prop} [Decidable p] (hx:cZ tm x=some (.bool (decide p))):QV P ⟨some d,.unOp .not xt x,ty,pos,af,none⟩ ⟨n,tm,hp⟩ (.bool (decide (¬ p))):=by
 have h:(!decide p)=decide (¬ p):=by by_cases h:p<;>simp [h]
 rw [← h]
 exact dB hx
end rules
end Go.Eng
