/- The engine: abstract values, the symbolic heap, one rule for each operation. No program in sight. -/
import Derived.WalkKit
import Derived.Deep.Quiet
import Derived.Lib.FrozenHead
open Array renaming getElem?_eq_none→c8
open Bool renaming and_eq_true→b5,eq_iff_iff→da
open List renaming getElem?_eq_some_iff→ap,getElem?_take→aH,mem_flatMap→a6,mem_append→a7,nodup_append→bc,getElem?_drop→be,flatMap_cons→bi,mem_append_right→bo,mem_cons→bv,getElem?_toArray→bx,append_assoc→bz,getElem?_append_left→bX,flatMap_append→b4,mem_of_getElem?→b6,length_append→b8,getElem?_append_right→b9,mem_append_left→cb,mem_of_mem_drop→cm,length_nil→cn,length_cons→cy,append_nil→cz,mem_of_mem_take→cJ,Sublist.refl→cK,mem_filterMap→c6,map_cons→db,take_of_length_le→dg,eq_nil_of_length_eq_zero→dn
open Nat renaming beq→ac,le_refl→ag,blt→ai,add_mul→al,eq_of_beq_eq_true→aw,mul_le_mul_right→bO,one_mul→bW,le_trans→b7,ble→ce,le_of_ble_eq_true→cf,add_zero→ci,zero_add→ck,lt_of_lt_of_le→cl,add_assoc→cA,lt_or_ge→c7,zero_mul→dk,add_comm→dl
open Option renaming some.inj→aa,some.injEq→bp
set_option linter.unusedSectionVars false
namespace Go.Eng
open Go
class bU where
 Xk:Nat→Option (Option Obj→Prop)
 dr:Prop
theorem Aw {a b:Option Obj} {p:Option Obj→Prop} (e:a=b) (h:p b):p a:=e▸h
variable [bU]
@[reducible] def nz [G:bU]:bU:=⟨G.Xk,True⟩
structure Bk where
 cH:Option Nat
 cap:Nat
inductive AV where
 | int (k:IntKind) (n:Int)
 | bool (b:Bool)
 | str (s:List UInt8)
 | agg (cs:List AV)
 | lM (vs:List AV)
 | list (sz:Nat) (xs:List AV)
 | nil
 | ptr (b:Bk) (o:Nat)
 | sl (sz:Nat) (b:Bk) (off len:Nat)
 | ch (cs:List AV)
 | tg (sz:Nat) (b:Bk) (i o:Nat)
 | func (fn:Fn) (vI:List AV)
 | bV (b:Bk)
 | raw (v:Value)
 | LI (φ:World→(Nat→Prop)→Value→Prop)
def AV.cells:AV→List AV
 | .agg cs=>cs
 | x=>[x]
def AV.one:AV→Bool
 | .agg _=>false
 | .lM _=>false
 | .raw v=>v.oneCell'
 | _=>true
def El (sz:Nat) (x:AV):Prop:=x.cells.length=sz∧∀ c∈x.cells,c.one=true
def flat (xs:List AV):List AV:=xs.flatMap AV.cells
inductive At (w:World) (S:Nat→Prop):AV→Value→Prop
 | int (k:IntKind) (n:Int):At w S (.int k n) (.int k n)
 | bool (b:Bool):At w S (.bool b) (.bool b)
 | str (s:List UInt8):At w S (.str s) (.string ⟨s.toArray⟩)
 | agg (cs:List AV) (vs:Array Value) (hl:cs.length=vs.size) (h:∀ (i:Nat) c v,cs[i]? =some c→vs[i]? =some v→At w S c v):At w S (.agg cs) (.agg vs)
 | lM (cs:List AV) (vs:Array Value) (hl:cs.length=vs.size) (h:∀ (i:Nat) c v,cs[i]? =some c→vs[i]? =some v→At w S c v):At w S (.lM cs) (.tuple vs)
 | list (sz:Nat) (xs:List AV) (a:Option Addr) (cap:Nat) (vs:List Value) (jc:∀ x∈xs,El sz x) (hl:(flat xs).length=vs.length)
  (h:∀ (i:Nat) c v,(flat xs)[i]? =some c→vs[i]? =some v→At w S c v)
  (hm:∀ (i:Nat) v,vs[i]? =some v→∃ ad,a=some ad∧ad.spot=none∧S ad.block∧w.cell? ⟨ad.block,ad.off+i,none⟩=some v)
  (hc:xs.length≤cap):At w S (.list sz xs) (.slice a xs.length cap)
 | nil:At w S .nil (.slice none 0 0)
 | ptr (b:Bk) (o n:Nat) (hb:b.cH=some n):At w S (.ptr b o) (.pointer (some ⟨n,o,none⟩))
 | Ax (sz:Nat) (b:Bk) (hb:b.cH=none):At w S (.sl sz b 0 0) (.slice none 0 0)
 | sl (sz:Nat) (b:Bk) (off len n cap:Nat) (hb:b.cH=some n) (h1:len≤cap) (h2:off+cap≤b.cap):At w S (.sl sz b off len) (.slice (some ⟨n,off * sz,none⟩) len cap)
 | Oq (sz:Nat) (b:Bk) (off n:Nat) (ad:Addr) (hb:b.cH=some n):At w S (.sl sz b off 0) (.slice (some ad) 0 0)
 | ch (cs:List AV) (ad:Addr) (vs:List Value) (hl:cs.length=vs.length) (h:∀ (i:Nat) c v,cs[i]? =some c→vs[i]? =some v→At w S c v)
  (hs:ad.spot=none) (hS:S ad.block) (hm:∀ (i:Nat) v,vs[i]? =some v→w.cell? ⟨ad.block,ad.off+i,none⟩=some v):At w S (.ch cs) (.pointer (some ad))
 | tg (sz:Nat) (b:Bk) (i o n:Nat) (hb:b.cH=some n):At w S (.tg sz b i o) (.pointer (some ⟨n,i * sz+o,none⟩))
 | func (fn:Fn) (cs:List AV) (vs:Array Value) (hl:cs.length=vs.size) (h:∀ (i:Nat) c v,cs[i]? =some c→vs[i]? =some v→At w S c v):At w S (.func fn cs) (.func fn #[] vs)
 | bV (b:Bk) (n:Nat) (hb:b.cH=some n):At w S (.bV b) (.map (some n))
 | raw (v:Value):At w S (.raw v) v
 | LI (φ:World→(Nat→Prop)→Value→Prop) (v:Value) (hm:∀ (w w':World) (S S':Nat→Prop) (v:Value),(∀ n,S n→S' n∧w'.heap[n]? =w.heap[n]?)→φ w S v→φ w' S' v) (h1:∀ (w:World) (S:Nat→Prop) (v:Value),φ w S v→v.oneCell'=true) (h:φ w S v):At w S (.LI φ) v
theorem cell_of_heap {w w':World} {n o:Nat} (h:w'.heap[n]? =w.heap[n]?):w'.cell? ⟨n,o,none⟩=w.cell? ⟨n,o,none⟩:=by
 simp only [World.cell?,h]
theorem At.mono {w w':World} {S S':Nat→Prop} {av:AV} {v:Value} (hs:∀ n,S n→S' n∧w'.heap[n]? =w.heap[n]?) (h:At w S av v):At w' S' av v:=by
 induction h with
 | int k n=>exact .int k n
 | bool b=>exact .bool b
 | str s=>exact .str s
 | agg cs vs hl _ ih=>exact .agg cs vs hl ih
 | lM cs vs hl _ ih=>exact .lM cs vs hl ih
 | list sz xs a cap vs jc hl _ hm hc ih=>
   refine .list sz xs a cap vs jc hl ih (fun i v hv=>?_) hc
   obtain ⟨ad,h1,h2,h3,h4⟩:=hm i v hv
   exact ⟨ad,h1,h2,(hs _ h3).1,by rw [cell_of_heap (hs _ h3).2];exact h4⟩
 | nil=>exact .nil
 | ptr b o n hb=>exact .ptr b o n hb
 | Ax sz b hb=>exact .Ax sz b hb
 | sl sz b off len n cap hb h1 h2=>exact .sl sz b off len n cap hb h1 h2
 | Oq sz b off n ad hb=>exact .Oq sz b off n ad hb
 | ch cs ad vs hl _ Ot hS hm ih=>
   exact .ch cs ad vs hl ih Ot (hs _ hS).1 (fun i v hv=>by rw [cell_of_heap (hs _ hS).2];exact hm i v hv)
 | tg sz b i o n hb=>exact .tg sz b i o n hb
 | func fn cs vs hl _ ih=>exact .func fn cs vs hl ih
 | bV b n hb=>exact .bV b n hb
 | raw v=>exact .raw v
 | LI φ v hm h1 h=>exact .LI φ v hm h1 (hm _ _ _ _ _ hs h)
structure me where
 k:AV
 v:AV
 born:Nat
def me.kv (e:me):AV×AV:=(e.k,e.v)
inductive PO where
 | cells (cs:List AV)
 | arr (sz:Nat) (xs:List AV)
inductive Ob where
 | cells (cs:List AV)
 | arr (sz:Nat) (xs:List AV)
 | Bw (sz:Nat) (xs:List AV)
 | mp (es:List (AV×AV))
 | LJ (L:List me) (c:Nat)
 | Gz (es:List (AV×AV)) (q:Nat) (k:AV)
 | Km (bm:Bk) (c:Nat) (seen:List Nat)
 | cu (es:List (Bk×PO))
 | WD (T E:TypeId) (row:Option Nat) (bs:List UInt8)
 | Xl (s:List UInt8) (pos:Nat)
 | Xm (xs:List Int)
abbrev Heap:=List (Bk×Ob)
def PO.ob:PO→Ob
 | .cells cs=>.cells cs
 | .arr sz xs=>.arr sz xs
def Ob.more:Ob→List Nat
 | .cu es=>es.filterMap (·.1.cH)
 | .WD _ _ row _=>row.toList
 | _=>[]
def eb (e:Bk×Ob):List Nat:=e.1.cH.toList++e.2.more
theorem fF {b:Bk} {o:Ob} {n:Nat} (h:b.cH=some n):n∈eb (b,o):=by simp [eb,h]
theorem wV {b:Bk} {o:Ob} {n:Nat} (hm:o.more=[]):n∈eb (b,o)↔b.cH=some n:=by simp [eb,hm]
def oe (w:World) (S:Nat→Prop) (cs:List AV) (vs:Array Value):Prop:=∀ (i:Nat) c v,cs[i]? =some c→vs[i]? =some v→At w S c v
theorem oe.mono {w w':World} {S S':Nat→Prop} {cs:List AV} {vs:Array Value} (hs:∀ n,S n→S' n∧w'.heap[n]? =w.heap[n]?) (h:oe w S cs vs):oe w' S' cs vs:=
 fun i c v hc hv=>(h i c v hc hv).mono hs
def uy (w:World) (S:Nat→Prop) (b:Bk) (L:List me) (c:Nat):Prop:=
 ∃ n cC,b.cH=some n∧w.heap[n]? =some (.map cC c)∧cC.size=L.length∧(∀ (i:Nat) e m,L[i]? =some e→cC[i]? =some m→m.born=e.born∧At w S e.k m.key∧At w S e.v m.val)∧
   (∀ e∈L,e.born < c)∧(L.map (·.born)).Nodup∧(L.map (·.k)).Nodup
theorem uy.mono {w w':World} {S S':Nat→Prop} {b:Bk} {L:List me} {c:Nat} (hs:∀ n,S n→S' n∧w'.heap[n]? =w.heap[n]?) (hb:∀ n,b.cH=some n→w'.heap[n]? =w.heap[n]?) (h:uy w S b L c):uy w' S' b L c:=by
 obtain ⟨n,cC,g1,g2,g3,g4,g5⟩:=h
 exact ⟨n,cC,g1,by rw [hb n g1];exact g2,g3,fun i e m he hm=>⟨(g4 i e m he hm).1,(g4 i e m he hm).2.1.mono hs,(g4 i e m he hm).2.2.mono hs⟩,g5⟩
def qz (w:World) (S:Nat→Prop) (b:Bk):PO→Prop
 | .cells cs=>(∀ c∈cs,c.one=true)∧∃ n vs E,b.cH=some n∧w.heap[n]? =some (.cells vs E (0,0))∧vs.size=cs.length∧oe w S cs vs
 | .arr sz xs=>(∀ x∈xs,El sz x)∧xs.length≤b.cap∧
  ((b.cH=none∧b.cap=0)∨∃ n vs E,b.cH=some n∧w.heap[n]? =some (.cells vs E (0,0))∧vs.size=b.cap * sz∧oe w S (flat xs) vs)
def Holds (w:World) (S:Nat→Prop) (b:Bk):Ob→Prop
 | .cells cs=>(∀ c∈cs,c.one=true)∧∃ n vs E,b.cH=some n∧w.heap[n]? =some (.cells vs E (0,0))∧vs.size=cs.length∧oe w S cs vs
 | .arr sz xs | .Bw sz xs=>(∀ x∈xs,El sz x)∧xs.length≤b.cap∧
  ((b.cH=none∧b.cap=0)∨∃ n vs E,b.cH=some n∧w.heap[n]? =some (.cells vs E (0,0))∧vs.size=b.cap * sz∧oe w S (flat xs) vs)
 | .mp es=>∃ L c,(L.map me.kv).Perm es∧uy w S b L c
 | .LJ L c=>uy w S b L c
 | .Gz es q k=>∃ L c,(L.map me.kv).Perm es∧uy w S b L c∧((∃ e∈L,e.k=k∧e.born=q)∨((∀ e∈L,e.k≠k)∧q=c))
 | .Km bm c seen=>∃ n nm,b.cH=some n∧bm.cH=some nm∧w.heap[n]? =some (.mapIter (some nm) c seen.toArray c)
 | .cu es=>b.cH=none∧∀ e∈es,qz w S e.1 e.2
 | .WD T E row bs=>∃ n p v,b.cH=some n∧w.heap[n]? =some (.cells #[p,v] T (0,0))∧(p=.pointer none∨p=.pointer (some ⟨n,0,none⟩))∧w.ownsRowF 0 E 1 v bs.length (Lib.byteCells bs)∧v.ownBlock=row
 | .Xl s pos=>∃ n,b.cH=some n∧w.heap[n]? =some (.stringIter ⟨s.toArray⟩ pos)
 | .Xm xs=>∃ n vs E,b.cH=some n∧w.heap[n]? =some (.cells vs E (vs.size,vs.size+1))∧vs.size=b.cap∧xs.length≤b.cap∧∀ (i:Nat) z,xs[i]? =some z→vs[i]? =some (.int .u8 z)
theorem qz.ob {w:World} {S:Nat→Prop} {b:Bk} {o:PO}:qz w S b o↔Holds w S b o.ob:=by cases o<;>exact Iff.rfl
theorem th {α β:Type} {f:α→List β} {l l':List α} (h:l.Sublist l'):(l.flatMap f).Sublist (l'.flatMap f):=by
 induction h with
 | slnil=>exact cK _
 | cons a _ ih=>rw [bi];exact ih.trans (List.sublist_append_right _ _)
 | cons_cons a _ ih=>rw [bi,bi];exact List.Sublist.append (cK _) ih
def Ob.B7:Ob→Prop
 | .Bw _ _=>True
 | _=>False
def Has (h:Heap) (n:Nat):Prop:=∃ e∈h,n∈eb e
structure de (w:World) (S:Nat→Prop) (h:Heap):Prop where
 nodup:(h.flatMap eb).Nodup
 holds:∀ e∈h,Holds w S e.1 e.2
 sep:∀ e∈h,∀ n,n∈eb e→(S n↔e.2.B7)
 slt:∀ n,S n→n < w.heap.size
 gh:∀ g o,bU.Xk g=some o→S g∧o (w.heap[g]?)
structure kT (w:World) (S:Nat→Prop) (h:Heap) (w':World) (S':Nat→Prop) (h':Heap):Prop where
 os:w'.os=w.os
 tape:w'.tape=w.tape
 output:w'.output=w.output
 size:w.heap.size≤w'.heap.size
 mf:∀ n,S n→S' n∧w'.heap[n]? =w.heap[n]?
 other:∀ n,n < w.heap.size→¬ Has h n→w'.heap[n]? =w.heap[n]?∧(S' n→S n)
 new:∀ n,Has h' n→Has h n∨w.heap.size≤n
 drawn:bU.dr→w.drawn≤w'.drawn
theorem kT.refl (w:World) (S:Nat→Prop) (h:Heap):kT w S h w S h:=
 ⟨rfl,rfl,rfl,ag _,fun _ hs=>⟨hs,rfl⟩,fun _ _ _=>⟨rfl,id⟩,fun _ hn=>.inl hn,fun _=>ag _⟩
theorem kT.trans {w w1 w2:World} {S S1 S2:Nat→Prop} {h h1 h2:Heap} (a:kT w S h w1 S1 h1) (b:kT w1 S1 h1 w2 S2 h2):kT w S h w2 S2 h2 where
 os:=b.os.trans a.os
 tape:=b.tape.trans a.tape
 output:=b.output.trans a.output
 size:=b7 a.size b.size
 mf n hs:=⟨(b.mf n (a.mf n hs).1).1,(b.mf n (a.mf n hs).1).2.trans (a.mf n hs).2⟩
 other n hn hh:=by
  have GA:¬ Has h1 n:=fun hc=>by
   rcases a.new n hc with h | h
   ·exact hh h
   ·omega
  obtain ⟨e1,s1⟩:=a.other n hn hh
  obtain ⟨e2,s2⟩:=b.other n (cl hn a.size) GA
  exact ⟨e2.trans e1,fun hs=>s1 (s2 hs)⟩
 new n hn:=by
  rcases b.new n hn with h | h
  ·exact a.new n h
  ·exact .inr (b7 a.size h)
 drawn:=fun h=>b7 (a.drawn h) (b.drawn h)
theorem kT.less {w w':World} {S S':Nat→Prop} {h h' h2:Heap} (a:kT w S h w' S' h') (hl:∀ n,Has h2 n→Has h' n):kT w S h w' S' h2:=
 {a with new:=fun n hn=>a.new n (hl n hn)}
theorem qz.mono {w w':World} {S S':Nat→Prop} {b:Bk} {o:PO} (hs:∀ n,S n→S' n∧w'.heap[n]? =w.heap[n]?) (hb:∀ n,b.cH=some n→w'.heap[n]? =w.heap[n]?)
 (h:qz w S b o):qz w' S' b o:=by
 cases o with
 | cells cs=>
   obtain ⟨h0,n,vs,E,h1,h2,h3,h4⟩:=h
   exact ⟨h0,n,vs,E,h1,by rw [hb n h1];exact h2,h3,h4.mono hs⟩
 | arr sz xs=>
   obtain ⟨h1,h2,h3⟩:=h
   refine ⟨h1,h2,h3.imp id ?_⟩
   rintro ⟨n,vs,E,g1,g2,g3,g4⟩
   exact ⟨n,vs,E,g1,by rw [hb n g1];exact g2,g3,g4.mono hs⟩
theorem E2 {w w':World} {base:Nat} {e:TypeId} {size:Nat} {v:Value} {n:Nat} {xs:List Value} (h:w.ownsRowF base e size v n xs) (hk:∀ k,v.ownBlock=some k→w'.heap[k]? =w.heap[k]?):w'.ownsRowF base e size v n xs:=by
 refine ⟨h.1,?_⟩
 rcases h.2 with hn | ⟨g,cap,cur,fz,rfl,hb,hgg,rest⟩
 ·exact .inl hn
 ·exact .inr ⟨g,cap,cur,fz,rfl,hb,by rw [hk g rfl];exact hgg,rest⟩
theorem Holds.mono {w w':World} {S S':Nat→Prop} {b:Bk} {o:Ob} (hs:∀ n,S n→S' n∧w'.heap[n]? =w.heap[n]?) (hb:∀ n,n∈eb (b,o)→w'.heap[n]? =w.heap[n]?)
 (h:Holds w S b o):Holds w' S' b o:=by
 have B8:∀ n,b.cH=some n→w'.heap[n]? =w.heap[n]?:=fun n hn=>hb n (fF hn)
 cases o with
 | cells cs=>
   obtain ⟨h0,n,vs,E,h1,h2,h3,h4⟩:=h
   exact ⟨h0,n,vs,E,h1,by rw [B8 n h1];exact h2,h3,h4.mono hs⟩
 | arr sz xs=>
   obtain ⟨h1,h2,h3⟩:=h
   refine ⟨h1,h2,h3.imp id ?_⟩
   rintro ⟨n,vs,E,g1,g2,g3,g4⟩
   exact ⟨n,vs,E,g1,by rw [B8 n g1];exact g2,g3,g4.mono hs⟩
 | Bw sz xs=>
   obtain ⟨h1,h2,h3⟩:=h
   refine ⟨h1,h2,h3.imp id ?_⟩
   rintro ⟨n,vs,E,g1,g2,g3,g4⟩
   exact ⟨n,vs,E,g1,by rw [B8 n g1];exact g2,g3,g4.mono hs⟩
 | mp es=>
   obtain ⟨L,c,hp,h⟩:=h
   exact ⟨L,c,hp,h.mono hs B8⟩
 | LJ L c=>exact uy.mono hs B8 h
 | Gz es q k=>
   obtain ⟨L,c,hp,h,hq⟩:=h
   exact ⟨L,c,hp,h.mono hs B8,hq⟩
 | Km bm c seen=>
   obtain ⟨n,nm,g1,g2,g3⟩:=h
   exact ⟨n,nm,g1,g2,by rw [B8 n g1];exact g3⟩
 | Xl s pos=>
   obtain ⟨n,g1,g3⟩:=h
   exact ⟨n,g1,by rw [B8 n g1];exact g3⟩
 | Xm xs=>
   obtain ⟨n,vs,E,g1,g3,g4⟩:=h
   exact ⟨n,vs,E,g1,by rw [B8 n g1];exact g3,g4⟩
 | cu es=>
   obtain ⟨h1,h2⟩:=h
   exact ⟨h1,fun e he=>(h2 e he).mono hs (fun n hn=>hb n (by
    unfold eb Ob.more
    exact bo _ (c6.2 ⟨e,he,hn⟩)))⟩
 | WD T E row bs=>
   obtain ⟨n,p,v,g1,g2,g3,g4,g5⟩:=h
   exact ⟨n,p,v,g1,by rw [B8 n g1];exact g2,g3,E2 g4 (fun k hk=>hb k (by
    rw [g5] at hk
    unfold eb Ob.more
    exact bo _ (by simp [hk]))),g5⟩
theorem xq {w:World} {n:Nat} {o:Obj} (h:w.heap[n]? =some o):n < w.heap.size:=by
 rcases c7 n w.heap.size with h' | h'
 ·exact h'
 ·simp [c8 h'] at h
theorem qz.lt {w:World} {S:Nat→Prop} {b:Bk} {o:PO} (h:qz w S b o) {n:Nat} (hn:b.cH=some n):n < w.heap.size:=by
 cases o with
 | cells cs=>
   obtain ⟨_,m,vs,E,h1,h2,_⟩:=h
   obtain rfl:m=n:=by rw [h1] at hn;exact aa hn
   exact xq h2
 | arr sz xs=>
   obtain ⟨_,_,⟨h3,_⟩ | ⟨m,vs,E,h1,h2,_⟩⟩:=h
   ·rw [h3] at hn;cases hn
   ·obtain rfl:m=n:=by rw [h1] at hn;exact aa hn
    exact xq h2
theorem Holds.lt {w:World} {S:Nat→Prop} {b:Bk} {o:Ob} (h:Holds w S b o) {n:Nat} (hnn:n∈eb (b,o)):n < w.heap.size:=by
 by_cases hb:b.cH=some n
 ·have hn:=hb
  cases o with
  | cells cs=>
    obtain ⟨_,m,vs,E,h1,h2,_⟩:=h
    obtain rfl:m=n:=by rw [h1] at hn;exact aa hn
    exact xq h2
  | arr sz xs=>
    obtain ⟨_,_,⟨h3,_⟩ | ⟨m,vs,E,h1,h2,_⟩⟩:=h
    ·rw [h3] at hn;cases hn
    ·obtain rfl:m=n:=by rw [h1] at hn;exact aa hn
     exact xq h2
  | Bw sz xs=>
    obtain ⟨_,_,⟨h3,_⟩ | ⟨m,vs,E,h1,h2,_⟩⟩:=h
    ·rw [h3] at hn;cases hn
    ·obtain rfl:m=n:=by rw [h1] at hn;exact aa hn
     exact xq h2
  | mp es=>
    obtain ⟨_,_,_,m,cC,h1,h2,_⟩:=h
    obtain rfl:m=n:=by rw [h1] at hn;exact aa hn
    exact xq h2
  | LJ L c=>
    obtain ⟨m,cC,h1,h2,_⟩:=h
    obtain rfl:m=n:=by rw [h1] at hn;exact aa hn
    exact xq h2
  | Gz es q k=>
    obtain ⟨_,_,_,⟨m,cC,h1,h2,_⟩,_⟩:=h
    obtain rfl:m=n:=by rw [h1] at hn;exact aa hn
    exact xq h2
  | Km bm c seen=>
    obtain ⟨m,nm,h1,_,h2⟩:=h
    obtain rfl:m=n:=by rw [h1] at hn;exact aa hn
    exact xq h2
  | Xl s pos=>
    obtain ⟨m,h1,h2⟩:=h
    obtain rfl:m=n:=by rw [h1] at hn;exact aa hn
    exact xq h2
  | Xm xs=>
    obtain ⟨m,vs,E,h1,h2,_⟩:=h
    obtain rfl:m=n:=by rw [h1] at hn;exact aa hn
    exact xq h2
  | cu es=>
    obtain ⟨h1,_⟩:=h
    rw [h1] at hn;cases hn
  | WD T E row bs=>
    obtain ⟨m,p,v,h1,h2,_⟩:=h
    obtain rfl:m=n:=by rw [h1] at hn;exact aa hn
    exact xq h2
 ·have hm:n∈o.more:=by
   unfold eb at hnn
   rcases a7.1 hnn with h | h
   ·exact absurd (by simpa using h) hb
   ·exact h
  cases o with
  | cu es=>
    obtain ⟨e,he,u5⟩:=c6.1 hm
    exact (h.2 e he).lt u5
  | WD T E row bs=>
    obtain ⟨m,p,v,h1,h2,h3,h4,h5⟩:=h
    have hr:row=some n:=by simpa [Ob.more] using hm
    exact (h4.lt n (h5.trans hr)).2
  | cells=>simp [Ob.more] at hm
  | arr=>simp [Ob.more] at hm
  | Bw=>simp [Ob.more] at hm
  | mp=>simp [Ob.more] at hm
  | LJ=>simp [Ob.more] at hm
  | Gz=>simp [Ob.more] at hm
  | Km=>simp [Ob.more] at hm
  | Xl=>simp [Ob.more] at hm
  | Xm=>simp [Ob.more] at hm
theorem de.lt {w:World} {S:Nat→Prop} {h:Heap} (r:de w S h) {n:Nat} (hn:Has h n):n < w.heap.size:=by
 obtain ⟨e,he,hb⟩:=hn
 exact (r.holds e he).lt hb
theorem At.Kn {w:World} {S:Nat→Prop} {c:AV} {v:Value} (h:At w S c v) (ho:c.one=true):v.oneCell'=true:=by
 cases h<;>first | rfl | (simp [AV.one] at ho;done) | exact ho | (rename_i h1 h;exact h1 _ _ _ h)
theorem kI (x:AV) (xs:List AV):flat (x :: xs)=x.cells++flat xs:=by simp [flat]
theorem qL (xs ys:List AV):flat (xs++ys)=flat xs++flat ys:=by simp [flat]
theorem cT {sz:Nat}:∀ {xs:List AV},(∀ x∈xs,El sz x)→(flat xs).length=xs.length * sz
 | [],_=>by simp [flat]
 | x :: xs,h=>by
   rw [kI,b8,(h x (by simp)).1,cT (fun y hy=>h y (by simp [hy])),cy,al]
   omega
theorem Ou {sz:Nat} {xs:List AV} (h:∀ x∈xs,El sz x):∀ c∈flat xs,c.one=true:=by
 intro c hc
 obtain ⟨x,hx,hcx⟩:=a6.1 hc
 exact (h x hx).2 c hcx
theorem pL {sz:Nat}:∀ {xs:List AV} {i:Nat} {x:AV},(∀ x∈xs,El sz x)→xs[i]? =some x→∀ j,j < sz→(flat xs)[i * sz+j]? =x.cells[j]?
 | [],i,x,_,h,_,_=>by simp at h
 | y :: xs,0,x,hs,h,j,hj=>by
   simp at h;subst h
   rw [kI,bX (by rw [(hs y (by simp)).1];omega)]
   simp
 | y :: xs,i+1,x,hs,h,j,hj=>by
   simp at h
   rw [kI,b9 (by rw [(hs y (by simp)).1,al];omega),(hs y (by simp)).1]
   rw [show (i+1) * sz+j - sz=i * sz+j from by rw [al];omega]
   exact pL (fun z hz=>hs z (by simp [hz])) h j hj
structure Ext (w w':World):Prop where
 os:w'.os=w.os
 tape:w'.tape=w.tape
 output:w'.output=w.output
 size:w.heap.size≤w'.heap.size
 same:∀ n,n < w.heap.size→w'.heap[n]? =w.heap[n]?
 drawn:bU.dr→w.drawn≤w'.drawn
theorem Ext.refl (w:World):Ext w w:=⟨rfl,rfl,rfl,ag _,fun _ _=>rfl,fun _=>ag _⟩
theorem Ext.trans {a b c:World} (h:Ext a b) (k:Ext b c):Ext a c:=
 ⟨k.os.trans h.os,k.tape.trans h.tape,k.output.trans h.output,b7 h.size k.size,fun n hn=>(k.same n (cl hn h.size)).trans (h.same n hn),fun q=>b7 (h.drawn q) (k.drawn q)⟩
theorem Ext.alloc (w:World) (o:Obj):Ext w (w.alloc o):=
 ⟨rfl,rfl,rfl,by simp,fun n hn=>by show (w.heap.push o)[n]? =_;rw [Array.getElem?_push,if_neg (by omega)],fun _=>ag _⟩
theorem Ext.LK (w:World) (k:Nat) (h:w.drawn≤k):Ext w {w with drawn:=k}:=⟨rfl,rfl,rfl,ag _,fun _ _=>rfl,fun _=>h⟩
theorem de.ext {w w':World} {S:Nat→Prop} {h:Heap} (r:de w S h) (e:Ext w w'):de w' S h where
 nodup:=r.nodup
 holds x hx:=(r.holds x hx).mono (fun n hn=>⟨hn,e.same n (r.slt n hn)⟩) (fun n hn=>e.same n (r.lt ⟨x,hx,hn⟩))
 sep:=r.sep
 slt n hn:=cl (r.slt n hn) e.size
 gh g o ho:=⟨(r.gh g o ho).1,Aw (e.same g (r.slt g (r.gh g o ho).1)) (r.gh g o ho).2⟩
theorem kT.ext {w w':World} {S:Nat→Prop} {h:Heap} (r:∀ n,S n→n < w.heap.size) (e:Ext w w'):kT w S h w' S h:=
 ⟨e.os,e.tape,e.output,e.size,fun n hn=>⟨hn,e.same n (r n hn)⟩,fun n hn _=>⟨e.same n hn,id⟩,fun _ hn=>.inl hn,e.drawn⟩
theorem de.frame {w w':World} {S S':Nat→Prop} {h h1 rest:Heap} (r:de w S (h++rest)) (e:kT w S h w' S' h1) (r1:de w' S' h1):de w' S' (h1++rest):=by
 have eI:∀ x∈rest,∀ n,n∈eb x→n < w.heap.size∧¬ Has h n:=by
  intro x hx n hn
  refine ⟨r.lt ⟨x,bo _ hx,hn⟩,fun ⟨y,hy,hyn⟩=>?_⟩
  have:=r.nodup
  rw [b4,bc] at this
  exact this.2.2 n (a6.2 ⟨y,hy,hyn⟩) n (a6.2 ⟨x,hx,hn⟩) rfl
 refine ⟨?_,?_,?_,r1.slt,r1.gh⟩
 ·have:=r.nodup
  rw [b4,bc] at this ⊢
  refine ⟨r1.nodup,this.2.1,fun n hn m hm hnm=>?_⟩
  subst hnm
  obtain ⟨y,hy,hyn⟩:=a6.1 hn
  obtain ⟨x,hx,Xn⟩:=a6.1 hm
  rcases e.new n ⟨y,hy,hyn⟩ with hh | hh
  ·exact (eI x hx n Xn).2 hh
  ·have:=(eI x hx n Xn).1;omega
 ·intro x hx
  rcases a7.1 hx with hx | hx
  ·exact r1.holds x hx
  ·exact (r.holds x (bo _ hx)).mono e.mf (fun n hn=>(e.other n (eI x hx n hn).1 (eI x hx n hn).2).1)
 ·intro x hx n hn
  rcases a7.1 hx with hx | hx
  ·exact r1.sep x hx n hn
  ·rw [← r.sep x (bo _ hx) n hn]
   exact ⟨(e.other n (eI x hx n hn).1 (eI x hx n hn).2).2,fun hs=>(e.mf n hs).1⟩
theorem kT.frame {w w':World} {S S':Nat→Prop} {h h1:Heap} (rest:Heap) (e:kT w S h w' S' h1):kT w S (h++rest) w' S' (h1++rest) where
 os:=e.os
 tape:=e.tape
 output:=e.output
 size:=e.size
 drawn:=e.drawn
 mf:=e.mf
 other n hn hh:=e.other n hn (fun ⟨x,hx,hb⟩=>hh ⟨x,cb _ hx,hb⟩)
 new n hn:=by
  obtain ⟨x,hx,hb⟩:=hn
  rcases a7.1 hx with hx | hx
  ·rcases e.new n ⟨x,hx,hb⟩ with ⟨y,hy,hyb⟩ | h
   ·exact .inl ⟨y,cb _ hy,hyb⟩
   ·exact .inr h
  ·exact .inl ⟨x,bo _ hx,hb⟩
end Go.Eng
set_option linter.unusedVariables false
namespace Go.Eng
open Go
variable [bU]
theorem Dp {a b:Nat} (h:ac a b=false):a≠b:=fun e=>by subst e;simp at h
theorem sQ {a b:Nat} (h:a≠b):ac a b=false:=by
 cases hb:ac a b with
 | false=>rfl
 | true=>exact absurd (aw hb) h
def lk:List (Nat×AV)→Nat→Option AV
 | [],_=>none
 | (k,v) :: r,s=>match ac k s with
   | true=>some v
   | false=>lk r s
structure St where
 n:Nat
 tm:List (Nat×AV)
 hp:Heap
structure eU (w:World) (S:Nat→Prop) (σ:St) (a:Act):Prop where
 size:a.tmps.size=σ.n
 defers:a.defers=[]
 tm:∀ s av,lk σ.tm s=some av→∃ v,a.tmps[s]? =some v∧At w S av v
 hp:de w S σ.hp
def T8:Value→AV
 | .int k n=>.int k n
 | .bool b=>.bool b
 | .string s=>.str s.data.toList
 | .slice none 0 0=>.nil
 | v=>.raw v
theorem GC (w:World) (S:Nat→Prop) (v:Value):At w S (T8 v) v:=by
 unfold T8
 split
 ·exact .int _ _
 ·exact .bool _
 ·rename_i s
  have h:=At.str (w:=w) (S:=S) s.data.toList
  simpa using h
 ·exact .nil
 ·exact .raw _
def LL:List UInt8→Option (List UInt8)
 | []=>some []
 | x :: r=>match LL r with
   | some l=>some (x :: l)
   | none=>none
theorem HX:∀ (l:List UInt8),LL l=some l
 | []=>rfl
 | x :: r=>by simp [LL,HX r]
def UQ:Value→Option AV
 | .int k n=>some (.int k n)
 | .bool b=>some (.bool b)
 | .string s=>match LL s.data.toList with
   | some l=>some (.str l)
   | none=>none
 | .slice none 0 0=>some .nil
 | v=>some (.raw v)
theorem RB (v:Value):UQ v=some (T8 v):=by
 unfold UQ T8
 split<;>simp [HX]
def du (tm:List (Nat×AV)):Operand→Option AV
 | .tmp t=>lk tm t
 | .const v=>UQ v
 | .func f=>some (.func (.func f) [])
 | .global g=>some (.raw (.pointer (some ⟨g,0,none⟩)))
theorem bl {w:World} {S:Nat→Prop} {σ:St} {a:Act} {x:Operand} {av:AV} (r:eU w S σ a) (h:du σ.tm x=some av):At w S av (a.eval x):=by
 cases x with
 | tmp t=>
   obtain ⟨v,h1,h2⟩:=r.tm t av h
   simp [Act.eval,h1,h2]
 | const v=>simp only [du,RB,bp] at h;subst h;exact GC _ _ _
 | global g=>simp only [du,bp] at h;subst h;exact .raw _
 | func f=>simp only [du,bp] at h;subst h;exact .func _ _ _ rfl (fun i c v hc=>by simp at hc)
theorem eU.put {w:World} {S:Nat→Prop} {n:Nat} {tm:List (Nat×AV)} {hp:Heap} {a:Act} {d:Nat} {av:AV} {v:Value} (r:eU w S ⟨n,tm,hp⟩ a) (hd:ai d n=true) (hv:At w S av v):
 eU w S ⟨n,(d,av) :: tm,hp⟩ (a.put (some d) v) where
 size:=by simp [Act.put,r.size]
 defers:=r.defers
 hp:=r.hp
 tm s iI h:=by
  have T9:d < a.tmps.size:=by rw [r.size];simpa using hd
  simp only [lk] at h
  split at h
  ·rename_i hb
   obtain rfl:d=s:=by simpa using hb
   obtain rfl:=aa h
   exact ⟨v,by simp [Act.put,T9],hv⟩
  ·rename_i hb
   have Aq:d≠s:=Dp hb
   obtain ⟨u,h1,h2⟩:=r.tm s iI h
   exact ⟨u,by simp [Act.put,Aq,h1],h2⟩
theorem eU.ext {w w':World} {S:Nat→Prop} {σ:St} {a:Act} (r:eU w S σ a) (e:Ext w w'):eU w' S σ a where
 size:=r.size
 defers:=r.defers
 hp:=r.hp.ext e
 tm s av h:=let ⟨v,h1,h2⟩:=r.tm s av h;⟨v,h1,h2.mono fun n hn=>⟨hn,e.same n (r.hp.slt n hn)⟩⟩
theorem eU.heap {w w':World} {S S':Nat→Prop} {n:Nat} {tm:List (Nat×AV)} {hp cQ:Heap} {a:Act} (r:eU w S ⟨n,tm,hp⟩ a) (hs:∀ n,S n→S' n∧w'.heap[n]? =w.heap[n]?) (h:de w' S' cQ):
 eU w' S' ⟨n,tm,cQ⟩ a where
 size:=r.size
 defers:=r.defers
 hp:=h
 tm s av h:=let ⟨v,h1,h2⟩:=r.tm s av h;⟨v,h1,h2.mono hs⟩
def Zd (w:World) (S:Nat→Prop) (h:Heap) (Q:St→Prop) (a':Act) (w':World):Prop:=
 ∃ aJ S',Q aJ∧eU w' S' aJ a'∧kT w S h w' S' aJ.hp
def UR (w:World) (S:Nat→Prop) (h:Heap) (Q:Exit→St→Prop) (e:Exit) (a':Act) (w':World):Prop:=
 ∃ aJ S',Q e aJ∧eU w' S' aJ a'∧kT w S h w' S' aJ.hp
def zM (K:Act→World→Prop):Exit→Act→World→Prop:=fun e a w=>e=.normal∧K a w
def ae (P:Program) (all:Array Oper) (l:List Oper) (σ:St) (Q:St→Prop):Prop:=
 ∀ w S a,eU w S σ a→wpList P all (zM (Zd w S σ.hp Q)) l a w
theorem Oper.MN {P:Program} {o:Oper} {a:Act} {K K':Act→World→Prop} {Q Q':Exit→Act→World→Prop} (hK:∀ a w,K a w→K' a w) (hQ:∀ e a w,Q e a w→Q' e a w):
 ∀ r,o.upon P a K Q r→o.upon P a K' Q' r:=by
 intro r h
 unfold Oper.upon at *
 split at h
 ·exact hK _ _ h
 ·exact hK _ _ h
 ·exact hK _ _ h
 ·refine Calls.mono h ?_
  intro e w' he
  cases e with
  | returned v=>exact hK _ _ he
  | panicked c=>exact hQ _ _ _ he
  | outgrown=>obtain ⟨a0,w0,h0⟩:=he;exact ⟨a0,w0,hQ _ _ _ h0⟩
 ·exact Rows.mono h fun v w' hv=>hK _ _ hv
 ·exact hQ _ _ _ h
 ·exact h.elim
theorem jr {P:Program} {all:Array Oper} {Q Q':Exit→Act→World→Prop} (hQ:∀ e a w,Q e a w→Q' e a w):∀ (l:List Oper) (a:Act) (w:World),wpList P all Q l a w→wpList P all Q' l a w
 | [],_,_,h=>hQ _ _ _ h
 | o :: rest,a,w,h=>by
   unfold wpList at *
   split
   ·rename_i hw
    rw [if_pos hw] at h
    rcases h with h | ⟨h1,a0,w0,h0⟩
    ·exact .inl (Oper.MN (fun a w hh=>jr hQ rest a w hh) hQ _ h)
    ·exact .inr ⟨h1,a0,w0,hQ _ _ _ h0⟩
   ·rename_i hw
    rw [if_neg hw] at h
    exact jr hQ rest _ _ h
theorem ae.nil {P:Program} {all:Array Oper} {σ:St} {Q:St→Prop} (h:Q σ):ae P all [] σ Q:=
 fun w S _ r=>⟨rfl,σ,S,h,r,kT.refl _ _ _⟩
theorem ae.go {P:Program} {all:Array Oper} {rest:List Oper} {σ:St} {Q:St→Prop} (k:ae P all rest σ Q) {w w':World} {S S':Nat→Prop} {h:Heap} {a':Act}
 (r:eU w' S' σ a') (e:kT w S h w' S' σ.hp):wpList P all (zM (Zd w S h Q)) rest a' w':=
 jr (fun _ _ _ ⟨h1,aJ,Xo,h2,h3,h4⟩=>⟨h1,aJ,Xo,h2,h3,e.trans h4⟩) _ _ _ (k w' S' a' r)
theorem ae.HY {P:Program} {all:Array Oper} {o:Oper} {rest:List Oper} {σ:St} {Q:St→Prop} (hg:o.guard=none)
 (h:∀ w S a,eU w S σ a→∃ v w' S' aJ,(execOp a.eval o).run P w=.ok (.value v) w'∧eU w' S' aJ (a.put o.dst v)∧kT w S σ.hp w' S' aJ.hp∧ae P all rest aJ Q):
 ae P all (o :: rest) σ Q:=by
 intro w S a r
 obtain ⟨v,w',S',aJ,h1,h2,h3,k⟩:=h w S a r
 unfold wpList
 rw [if_pos (by simp [Region.wanted,hg])]
 refine .inl ?_
 show o.upon P a _ _ _
 rw [h1]
 exact k.go h2 h3
theorem ae.op {P:Program} {all:Array Oper} {o:Oper} {rest:List Oper} {σ aJ:St} {Q:St→Prop} (hg:o.guard=none)
 (h:∀ w S a,eU w S σ a→∃ v w' S',(execOp a.eval o).run P w=.ok (.value v) w'∧eU w' S' aJ (a.put o.dst v)∧kT w S σ.hp w' S' aJ.hp)
 (k:ae P all rest aJ Q):ae P all (o :: rest) σ Q:=
 ae.HY hg fun w S a r=>let ⟨v,w',S',h1,h2,h3⟩:=h w S a r;⟨v,w',S',aJ,h1,h2,h3,k⟩
theorem ae.HZ {P:Program} {all:Array Oper} {o:Oper} {rest:List Oper} {σ:St} {Q:St→Prop} (hg:o.guard=none)
 (h:∀ w S a,eU w S σ a→∃ f args,(execOp a.eval o).run P w=.ok (.enter f args) w∧
  Calls P f args w fun e w'=>∃ v S' aJ,e=.returned v∧eU w' S' aJ (a.put o.dst v)∧kT w S σ.hp w' S' aJ.hp∧ae P all rest aJ Q):
 ae P all (o :: rest) σ Q:=by
 intro w S a r
 obtain ⟨f,args,h1,h2⟩:=h w S a r
 unfold wpList
 rw [if_pos (by simp [Region.wanted,hg])]
 refine .inl ?_
 show o.upon P a _ _ _
 rw [h1]
 refine Calls.mono h2 ?_
 rintro e w' ⟨v,S',aJ,rfl,g1,g2,k⟩
 exact k.go g1 g2
theorem ae.act {P:Program} {all:Array Oper} {o:Oper} {rest:List Oper} {σ aJ:St} {Q:St→Prop} (hg:o.guard=none) (hd:o.dst=none)
 (h:∀ w S a,eU w S σ a→∃ w' S',(execOp a.eval o).run P w=.ok .skip w'∧eU w' S' aJ a∧kT w S σ.hp w' S' aJ.hp)
 (k:ae P all rest aJ Q):ae P all (o :: rest) σ Q:=by
 intro w S a r
 obtain ⟨w',S',h1,h2,h3⟩:=h w S a r
 unfold wpList
 rw [if_pos (by simp [Region.wanted,hg])]
 refine .inl ?_
 show o.upon P a _ _ _
 rw [h1]
 show wpList P all _ rest (a.put o.dst undef) w'
 rw [hd]
 exact k.go h2 h3
theorem ae.val {P:Program} {all:Array Oper} {o:Oper} {rest:List Oper} {n:Nat} {tm:List (Nat×AV)} {hp:Heap} {Q:St→Prop} {d:Nat} {av:AV} (hg:o.guard=none) (hd:o.dst=some d) (hn:ai d n=true)
 (h:∀ w S a,eU w S ⟨n,tm,hp⟩ a→∃ v,(execOp a.eval o).run P w=.ok (.value v) w∧At w S av v)
 (k:ae P all rest ⟨n,(d,av) :: tm,hp⟩ Q):ae P all (o :: rest) ⟨n,tm,hp⟩ Q:=by
 refine ae.op hg (aJ:=⟨n,(d,av) :: tm,hp⟩) ?_ k
 intro w S a r
 obtain ⟨v,h1,h2⟩:=h w S a r
 exact ⟨v,w,S,h1,by rw [hd];exact r.put hn h2,kT.refl _ _ _⟩
def QV (P:Program) (o:Oper) (σ:St) (av:AV):Prop:=
 ∀ w S a,eU w S σ a→∃ v,(∀ w',Ext w w'→(execOp a.eval o).run P w'=.ok (.value v) w')∧At w S av v
theorem ae.qv {P:Program} {all:Array Oper} {rest:List Oper} {n:Nat} {tm:List (Nat×AV)} {hp:Heap} {Q:St→Prop} {d:Nat} {av:AV} {op:Op} {ty:TypeId} {pos:String} {af:Array Edge}
 (q:QV P ⟨some d,op,ty,pos,af,none⟩ ⟨n,tm,hp⟩ av) (hn:ai d n=true) (k:ae P all rest ⟨n,(d,av) :: tm,hp⟩ Q):ae P all (⟨some d,op,ty,pos,af,none⟩ :: rest) ⟨n,tm,hp⟩ Q:=
 ae.val rfl rfl hn (fun w S a r=>let ⟨v,h1,h2⟩:=q w S a r;⟨v,h1 w (Ext.refl w),h2⟩) k
structure Xp (σ aJ:St):Prop where
 n:aJ.n=σ.n
 tm:∀ s av,lk aJ.tm s=some av→lk σ.tm s=some av
 hp:aJ.hp.Sublist σ.hp
theorem de.sub {w:World} {S:Nat→Prop} {h h':Heap} (r:de w S h) (hs:h'.Sublist h):de w S h' where
 nodup:=r.nodup.sublist (th hs)
 holds e he:=r.holds e (hs.subset he)
 sep e he:=r.sep e (hs.subset he)
 slt:=r.slt
 gh:=r.gh
theorem eU.less {w:World} {S:Nat→Prop} {σ aJ:St} {a:Act} (r:eU w S σ a) (h:Xp σ aJ):eU w S aJ a where
 size:=r.size.trans h.n.symm
 defers:=r.defers
 tm s av hh:=r.tm s av (h.tm s av hh)
 hp:=r.hp.sub h.hp
theorem Has.sub {h h':Heap} (hs:h'.Sublist h) {n:Nat} (hh:Has h' n):Has h n:=let ⟨e,he,hb⟩:=hh;⟨e,hs.subset he,hb⟩
theorem ae.weaken {P:Program} {all:Array Oper} {l:List Oper} {σ aJ:St} {Q:St→Prop} (h:Xp σ aJ) (k:ae P all l aJ Q):ae P all l σ Q:=
 fun w S _ r=>k.go (r.less h) (kT.less (kT.refl w S σ.hp) fun _ hn=>hn.sub h.hp)
theorem ae.au {P:Program} {all:Array Oper} {d:Nat} {op:Op} {ty:TypeId} {pos:String} {af:Array Edge} {j:Nat} {want b:Bool} {s:Nat} {rest:List Oper} {n:Nat} {tm:List (Nat×AV)} {hp:Heap} {Q:St→Prop}
 (hj:(all[j]?).bind (·.dst)=some s) (hs:lk tm s=some (.bool b)) (hb:b=!want) (hn:ai d n=true)
 (k:ae P all rest ⟨n,(d,.raw undef) :: tm,hp⟩ Q):ae P all (⟨some d,op,ty,pos,af,some (j,want)⟩ :: rest) ⟨n,tm,hp⟩ Q:=by
 intro w S a r
 obtain ⟨v,h1,h2⟩:=r.tm s _ hs
 cases h2
 unfold wpList
 rw [if_neg (by simp [Region.wanted,yielded,hj,h1,hb])]
 exact k.go (r.put hn (.raw undef)) (kT.refl _ _ _)
theorem ae.aV {P:Program} {all:Array Oper} {d:Nat} {op:Op} {ty:TypeId} {pos:String} {af:Array Edge} {j:Nat} {want:Bool} {s:Nat} {rest:List Oper} {n:Nat} {tm:List (Nat×AV)} {hp:Heap} {Q:St→Prop}
 (hj:(all[j]?).bind (·.dst)=some s) (hs:lk tm s=some (.raw undef)) (hn:ai d n=true)
 (k:ae P all rest ⟨n,(d,.raw undef) :: tm,hp⟩ Q):ae P all (⟨some d,op,ty,pos,af,some (j,want)⟩ :: rest) ⟨n,tm,hp⟩ Q:=by
 intro w S a r
 obtain ⟨v,h1,h2⟩:=r.tm s _ hs
 cases h2
 unfold wpList
 rw [if_neg (by simp [Region.wanted,yielded,hj,h1,undef])]
 exact k.go (r.put hn (.raw undef)) (kT.refl _ _ _)
theorem ae.ay {P:Program} {all:Array Oper} {d:Option Nat} {op:Op} {ty:TypeId} {pos:String} {af:Array Edge} {j:Nat} {want b:Bool} {s:Nat} {rest:List Oper} {σ:St} {Q:St→Prop}
 (hj:(all[j]?).bind (·.dst)=some s) (hs:lk σ.tm s=some (.bool b)) (hb:b=want)
 (k:ae P all (⟨d,op,ty,pos,af,none⟩ :: rest) σ Q):ae P all (⟨d,op,ty,pos,af,some (j,want)⟩ :: rest) σ Q:=by
 intro w S a r
 obtain ⟨v,h1,h2⟩:=r.tm s _ hs
 cases h2
 have:=k w S a r
 unfold wpList at this ⊢
 rw [if_pos (by simp [Region.wanted])] at this
 rw [if_pos (by simp [Region.wanted,yielded,hj,h1,hb])]
 exact this
def Ua (P:Program) (c:Code) (σ:St) (Q:Exit→St→Prop):Prop:=
 ∀ w S a,eU w S σ a→c.wp P (UR w S σ.hp Q) a w
theorem Ua.go {P:Program} {c:Code} {σ:St} {Q:Exit→St→Prop} (k:Ua P c σ Q) {w w':World} {S S':Nat→Prop} {h:Heap} {a':Act}
 (r:eU w' S' σ a') (e:kT w S h w' S' σ.hp):c.wp P (UR w S h Q) a' w':=
 wp_mono (k w' S' a' r) (fun _ _ _ ⟨aJ,Xo,h2,h3,h4⟩=>⟨aJ,Xo,h2,h3,e.trans h4⟩)
inductive It where
 | code (c:Code)
 | cH (id:Nat)
 | stop (I:St→Prop)
def TD (P:Program) (R:St→Prop):List It→Exit→St→Prop
 | [],.normal,σ | [],.ret,σ=>R σ
 | [],_,_=>False
 | .cH id :: k,.exit Ub,σ=>match ac Ub id with
   | true=>TD P R k .normal σ
   | false=>TD P R k (.exit Ub) σ
 | .cH _ :: k,e,σ=>TD P R k e σ
 | .stop I :: _,.normal,σ=>I σ
 | .stop _ :: k,e,σ=>TD P R k e σ
 | .code c :: k,.normal,σ=>Ua P c σ (fun e aJ=>TD P R k e aJ)
 | .code _ :: k,e,σ=>TD P R k e σ
def ab (P:Program) (R:St→Prop) (k:List It) (σ:St):Prop:=TD P R k .normal σ
section
variable {P:Program} {R:St→Prop} {k:List It} {σ:St}
theorem ab.nil (h:R σ):ab P R [] σ:=h
theorem ab.cH {id:Nat} (h:ab P R k σ):ab P R (.cH id :: k) σ:=h
theorem ab.stop {I:St→Prop} (h:I σ):ab P R (.stop I :: k) σ:=h
theorem TD.ret:∀ (k:List It),R σ→TD P R k .ret σ
 | [],h=>h
 | .cH _ :: k,h=>TD.ret k h
 | .stop _ :: k,h=>TD.ret k h
 | .code _ :: k,h=>TD.ret k h
theorem ab.ret (h:R σ):ab P R (.code .ret :: k) σ:=
 fun w S _ r=>wp_ret ⟨σ,S,TD.ret k h,r,kT.refl _ _ _⟩
theorem ab.skip (h:ab P R k σ):ab P R (.code .skip :: k) σ:=
 fun w S _ r=>wp_skip ⟨σ,S,h,r,kT.refl _ _ _⟩
def FA (id:Nat):List It→Option (List It)
 | []=>none
 | .cH Ub :: k=>match ac id Ub with
   | true=>some k
   | false=>FA id k
 | _ :: k=>FA id k
theorem TD.exit {id:Nat}:∀ (k k':List It),FA id k=some k'→ab P R k' σ→TD P R k (.exit id) σ
 | [],_,h,_=>by simp [FA] at h
 | .cH Ub :: k,k',h,h'=>by
   simp only [FA] at h
   unfold TD
   split at h
   ·obtain rfl:=aa h;exact h'
   ·exact TD.exit k k' h h'
 | .stop _ :: k,k',h,h'=>TD.exit k k' h h'
 | .code _ :: k,k',h,h'=>TD.exit k k' h h'
theorem ab.exit {id:Nat} {k':List It} (hp:FA id k=some k') (h:ab P R k' σ):ab P R (.code (.exit id) :: k) σ:=
 fun w S _ r=>wp_exit ⟨σ,S,TD.exit k k' hp h,r,kT.refl _ _ _⟩
theorem ab.seq {x y:Code} (h:ab P R (.code x :: .code y :: k) σ):ab P R (.code (.seq x y) :: k) σ:=by
 intro w S a r
 refine wp_seq (wp_mono (h w S a r) ?_)
 rintro e a' w' ⟨aJ,S',h1,h2,h3⟩
 cases e with
 | normal=>exact Ua.go (Q:=fun e aJ=>TD P R k e aJ) h1 h2 h3
 | exit id=>exact ⟨aJ,S',h1,h2,h3⟩
 | goto l=>exact ⟨aJ,S',h1,h2,h3⟩
 | ret=>exact ⟨aJ,S',h1,h2,h3⟩
 | panic c=>exact ⟨aJ,S',h1,h2,h3⟩
 | outgrown=>exact ⟨aJ,S',h1,h2,h3⟩
theorem ab.block {id:Nat} {c:Code} (h:ab P R (.code c :: .cH id :: k) σ):ab P R (.code (.block id c) :: k) σ:=by
 intro w S a r
 refine wp_block (wp_mono (h w S a r) ?_)
 rintro e a' w' ⟨aJ,S',h1,h2,h3⟩
 cases e with
 | normal=>exact ⟨aJ,S',h1,h2,h3⟩
 | exit Ub=>
   simp only [TD] at h1
   by_cases hb:Ub=id
   ·subst hb
    simp only [Nat.beq_refl] at h1
    simp only [Exit.inBlock,if_true]
    exact ⟨aJ,S',h1,h2,h3⟩
   ·have:ac Ub id=false:=sQ hb
    rw [this] at h1
    simp only [Exit.inBlock,hb,if_false]
    exact ⟨aJ,S',h1,h2,h3⟩
 | goto l=>exact ⟨aJ,S',h1,h2,h3⟩
 | ret=>exact ⟨aJ,S',h1,h2,h3⟩
 | panic c=>exact ⟨aJ,S',h1,h2,h3⟩
 | outgrown=>exact ⟨aJ,S',h1,h2,h3⟩
theorem ab.cond {c:Operand} {x y:Code} {b:Bool} (hc:du σ.tm c=some (.bool b)) (h1:b=true→ab P R (.code x :: k) σ) (h2:b=false→ab P R (.code y :: k) σ):
 ab P R (.code (.cond c x y) :: k) σ:=by
 intro w S a r
 have hv:=bl r hc
 generalize hgv:a.eval c=v at hv
 cases hv
 exact wp_cond_split hgv (fun hb=>h1 hb w S a r) (fun hb=>h2 hb w S a r)
theorem ab.Ov {c:Operand} {x y:Code} (hc:du σ.tm c=some (.bool true)) (h1:ab P R (.code x :: k) σ):ab P R (.code (.cond c x y) :: k) σ:=
 ab.cond hc (fun _=>h1) (fun h=>by cases h)
theorem ab.Ow {c:Operand} {x y:Code} (hc:du σ.tm c=some (.bool false)) (h1:ab P R (.code y :: k) σ):ab P R (.code (.cond c x y) :: k) σ:=
 ab.cond hc (fun h=>by cases h) (fun _=>h1)
theorem ab.region {id:Nat} {l:List Oper} (h:ae P l.toArray l σ (ab P R k)):ab P R (.code (.region id l.toArray false) :: k) σ:=by
 intro w S a r
 refine wp_region_lit (jr ?_ _ _ _ (h w S a r))
 rintro e a' w' ⟨rfl,aJ,S',h1,h2,h3⟩
 exact ⟨aJ,S',h1,h2,h3⟩
theorem ab.go {w w':World} {S S':Nat→Prop} {h:Heap} {a':Act} {c:Code} (kk:ab P R (.code c :: k) σ) (r:eU w' S' σ a') (e:kT w S h w' S' σ.hp):
 c.wp P (UR w S h (TD P R k)) a' w':=Ua.go (Q:=fun e aJ=>TD P R k e aJ) kk r e
theorem least (p:Nat→Prop) (n:Nat) (h:p n):∃ m,p m∧∀ i,p i→m≤i:=by
 induction n using Nat.strongRecOn with
 | _ n ih=>
   by_cases hx:∃ i,i < n∧p i
   ·obtain ⟨i,hi,hp⟩:=hx;exact ih i hi hp
   ·exact ⟨n,h,fun i hi=>Nat.le_of_not_lt fun eI=>hx ⟨i,eI,hi⟩⟩
open Classical in
noncomputable def Ay (p:Nat→Prop):Nat:=if h:∃ n,p n then Classical.choose (least p h.choose h.choose_spec) else 0
theorem zv {p:Nat→Prop} {n:Nat} (h:p n):p (Ay p)∧Ay p≤n:=by
 have hx:∃ n,p n:=⟨n,h⟩
 unfold Ay
 rw [dif_pos hx]
 have:=Classical.choose_spec (least p hx.choose hx.choose_spec)
 exact ⟨this.1,this.2 n h⟩
theorem ab.loop {body:Code} (I:Nat→St→Prop) (m:Nat) (h0:I m σ) (hs:∀ m σ,I m σ→ab P R (.code body :: .stop (fun aJ=>∃ m',m' < m∧I m' aJ) :: k) σ):
 ab P R (.code (.loop body) :: k) σ:=by
 intro w S a r
 let p:Act→World→Nat→Prop:=fun a' w' m=>∃ aJ S',I m aJ∧eU w' S' aJ a'∧kT w S σ.hp w' S' aJ.hp
 refine wp_loop (fun a' w'=>∃ m,p a' w' m) (fun a' w'=>Ay (p a' w')) ⟨m,σ,S,h0,r,kT.refl _ _ _⟩ ?_
 rintro a1 w1 ⟨m1,hm1⟩
 obtain ⟨⟨Ar,S1,hI,hr1,RC⟩,_⟩:=zv hm1
 refine wp_mono (ab.go (hs _ Ar hI) hr1 RC) ?_
 rintro e a2 w2 ⟨LM,S2,h2,Uc,LN⟩
 cases e with
 | normal=>
   obtain ⟨m2,eI,hI2⟩:=h2
   have RD:p a2 w2 m2:=⟨LM,S2,hI2,Uc,LN⟩
   exact ⟨⟨m2,RD⟩,Nat.lt_of_le_of_lt (zv RD).2 eI⟩
 | exit id=>exact ⟨LM,S2,h2,Uc,LN⟩
 | goto l=>exact ⟨LM,S2,h2,Uc,LN⟩
 | ret=>exact ⟨LM,S2,h2,Uc,LN⟩
 | panic c=>exact ⟨LM,S2,h2,Uc,LN⟩
 | outgrown=>exact ⟨LM,S2,h2,Uc,LN⟩
end
def aR (P:Program) (f:FuncId) (args:List AV) (h:Heap) (Q:AV→Heap→Prop):Prop:=
 ∀ w S (vs:Array Value),de w S h→args.length=vs.size→oe w S args vs→
   Calls P f vs w fun e w'=>∃ v r h' S',e=.returned v∧Q r h'∧At w' S' r v∧de w' S' h'∧kT w S h w' S' h'
theorem aR.frame {P:Program} {f:FuncId} {args:List AV} {h:Heap} {Q:AV→Heap→Prop} (c:aR P f args h Q) (rest:Heap):
 aR P f args (h++rest) (fun r h'=>∃ h1,h'=h1++rest∧Q r h1):=by
 intro w S vs r hl ha
 refine (c w S vs (r.sub (List.sublist_append_left _ _)) hl ha).mono ?_
 rintro e w' ⟨v,rr,h',S',h1,h2,h3,h4,h5⟩
 exact ⟨v,rr,h'++rest,S',h1,⟨h',rfl,h2⟩,h3,r.frame h5 h4,h5.frame rest⟩
theorem de.perm {w:World} {S:Nat→Prop} {h h':Heap} (r:de w S h) (hp:h.Perm h'):de w S h' where
 nodup:=(List.Perm.flatMap_right _ hp).nodup_iff.1 r.nodup
 holds e he:=r.holds e (hp.mem_iff.2 he)
 sep e he:=r.sep e (hp.mem_iff.2 he)
 slt:=r.slt
 gh:=r.gh
def RE:List AV→Nat→List (Nat×AV)
 | [],_=>[]
 | x :: r,i=>(i,x) :: RE r (i+1)
theorem Ox:∀ (l:List AV) (i s:Nat) (av:AV),lk (RE l i) s=some av→i≤s∧l[s - i]? =some av
 | [],_,_,_,h=>by simp [RE,lk] at h
 | x :: r,i,s,av,h=>by
   simp only [RE,lk] at h
   split at h
   ·rename_i hb
    obtain rfl:i=s:=by simpa using hb
    simpa using h
   ·rename_i hb
    have Aq:i≠s:=Dp hb
    obtain ⟨h1,h2⟩:=Ox r (i+1) s av h
    refine ⟨by omega,?_⟩
    rw [show s - i=(s - (i+1))+1 from by omega]
    simpa using h2
theorem pd {w:World} {S:Nat→Prop} {x y:AV} {u v:Value} (hx:At w S x u) (hy:At w S y v):oe w S [x,y] #[u,v]:=by
 intro i c d hc hd
 match i with
 | 0=>simp at hc hd;subst hc;subst hd;exact hx
 | 1=>simp at hc hd;subst hc;subst hd;exact hy
 | i+2=>simp at hc
theorem MO {w:World} {S:Nat→Prop} {x y z:AV} {u v t:Value} (hx:At w S x u) (hy:At w S y v) (hz:At w S z t):oe w S [x,y,z] #[u,v,t]:=by
 intro i c d hc hd
 match i with
 | 0=>simp at hc hd;subst hc;subst hd;exact hx
 | 1=>simp at hc hd;subst hc;subst hd;exact hy
 | 2=>simp at hc hd;subst hc;subst hd;exact hz
 | i+3=>simp at hc
class a8 (P:Program) (t:TypeId) (i:outParam TypeInfo):Prop where
 h:P.info? t=some i
class aC (P:Program) (t:TypeId) (d:outParam TypeDesc):Prop where
 h:P.underlying t=some d
section inv
variable {w:World} {S:Nat→Prop} {v:Value}
theorem At.eE {k:IntKind} {n:Int} (h:At w S (.int k n) v):v=.int k n:=by cases h;rfl
theorem At.mL {b:Bool} (h:At w S (.bool b) v):v=.bool b:=by cases h;rfl
theorem At.eV {s:List UInt8} (h:At w S (.str s) v):v=.string ⟨s.toArray⟩:=by cases h;rfl
theorem At.RF {u:Value} (h:At w S (.raw u) v):v=u:=by cases h;rfl
theorem At.C5 (h:At w S .nil v):v=.slice none 0 0:=by cases h;rfl
theorem At.pf {cs:List AV} (h:At w S (.agg cs) v):∃ vs,v=.agg vs∧cs.length=vs.size∧oe w S cs vs:=by cases h with | agg _ vs hl h=>exact ⟨vs,rfl,hl,h⟩
theorem At.RG {cs:List AV} (h:At w S (.lM cs) v):∃ vs,v=.tuple vs∧cs.length=vs.size∧oe w S cs vs:=by cases h with | lM _ vs hl h=>exact ⟨vs,rfl,hl,h⟩
theorem At.sR {b:Bk} {o:Nat} (h:At w S (.ptr b o) v):∃ n,b.cH=some n∧v=.pointer (some ⟨n,o,none⟩):=by cases h with | ptr _ _ n hb=>exact ⟨n,hb,rfl⟩
theorem At.vW {sz:Nat} {b:Bk} {i o:Nat} (h:At w S (.tg sz b i o) v):∃ n,b.cH=some n∧v=.pointer (some ⟨n,i * sz+o,none⟩):=by cases h with | tg _ _ _ _ n hb=>exact ⟨n,hb,rfl⟩
theorem At.x4 {fn:Fn} {cs:List AV} (h:At w S (.func fn cs) v):∃ vs,v=.func fn #[] vs∧cs.length=vs.size∧oe w S cs vs:=by cases h with | func _ _ vs hl h=>exact ⟨vs,rfl,hl,h⟩
theorem At.x5 {sz:Nat} {xs:List AV} (h:At w S (.list sz xs) v):∃ (a:Option Addr) (cap:Nat) (vs:List Value),v=.slice a xs.length cap∧(∀ x∈xs,El sz x)∧(flat xs).length=vs.length∧(∀ (i:Nat) c u,(flat xs)[i]? =some c→vs[i]? =some u→At w S c u)∧
 (∀ (i:Nat) u,vs[i]? =some u→∃ ad,a=some ad∧ad.spot=none∧S ad.block∧w.cell? ⟨ad.block,ad.off+i,none⟩=some u)∧xs.length≤cap:=by
 cases h with | list _ _ a cap vs h1 h2 h3 h4 h5=>exact ⟨a,cap,vs,rfl,h1,h2,h3,h4,h5⟩
theorem At.x6 {cs:List AV} (h:At w S (.ch cs) v):∃ (ad:Addr) (vs:List Value),v=.pointer (some ad)∧cs.length=vs.length∧(∀ (i:Nat) c u,cs[i]? =some c→vs[i]? =some u→At w S c u)∧ad.spot=none∧S ad.block∧
 (∀ (i:Nat) u,vs[i]? =some u→w.cell? ⟨ad.block,ad.off+i,none⟩=some u):=by
 cases h with | ch _ ad vs h1 h2 h3 h4 h5=>exact ⟨ad,vs,rfl,h1,h2,h3,h4,h5⟩
theorem At.uz {sz:Nat} {b:Bk} {off len:Nat} (h:At w S (.sl sz b off len) v):∃ a cap,v=.slice a len cap∧((b.cH=none∧off=0∧len=0∧a=none∧cap=0)∨
 (∃ n,b.cH=some n∧a=some ⟨n,off * sz,none⟩∧len≤cap∧off+cap≤b.cap)∨(∃ n ad,b.cH=some n∧a=some ad∧len=0∧cap=0)):=by
 cases h with
 | Ax _ _ hb=>exact ⟨none,0,rfl,.inl ⟨hb,rfl,rfl,rfl,rfl⟩⟩
 | sl _ _ _ _ n cap hb h1 h2=>exact ⟨_,cap,rfl,.inr (.inl ⟨n,hb,rfl,h1,h2⟩)⟩
 | Oq _ _ _ n ad hb=>exact ⟨_,0,rfl,.inr (.inr ⟨n,ad,hb,rfl,rfl,rfl⟩)⟩
end inv
section rules
variable {P:Program} {all:Array Oper} {rest:List Oper} {n:Nat} {tm:List (Nat×AV)} {hp:Heap} {Q:St→Prop} {d:Nat} {ty:TypeId} {pos:String} {af:Array Edge}
theorem aT {x:Operand} {av:AV} (hx:du tm x=some av):QV P ⟨some d,.move x,ty,pos,af,none⟩ ⟨n,tm,hp⟩ (av):=
 (fun w S a r=>⟨a.eval x,fun _ _=>rfl,bl (σ:=⟨n,tm,hp⟩) r hx⟩)
theorem bQ {x:Operand} {av:AV} (hx:du tm x=some av):QV P ⟨some d,.assign x,ty,pos,af,none⟩ ⟨n,tm,hp⟩ (av):=
 (fun w S a r=>⟨a.eval x,fun _ _=>rfl,bl (σ:=⟨n,tm,hp⟩) r hx⟩)
theorem gx {c x y:Operand} {av:AV} (hc:du tm c=some (.bool true)) (hx:du tm x=some av):QV P ⟨some d,.pick c x y,ty,pos,af,none⟩ ⟨n,tm,hp⟩ (av):=
 (fun w S a r=>⟨a.eval x,fun w1 _=>by have h:=(bl (σ:=⟨n,tm,hp⟩) r hc).mL;simp [execOp,h,asBool],bl (σ:=⟨n,tm,hp⟩) r hx⟩)
theorem eA {c x y:Operand} {av:AV} (hc:du tm c=some (.bool false)) (hx:du tm y=some av):QV P ⟨some d,.pick c x y,ty,pos,af,none⟩ ⟨n,tm,hp⟩ (av):=
 (fun w S a r=>⟨a.eval y,fun w1 _=>by have h:=(bl (σ:=⟨n,tm,hp⟩) r hc).mL;simp [execOp,h,asBool],bl (σ:=⟨n,tm,hp⟩) r hx⟩)
theorem xu {op:BinOp} {xt yt:TypeId} {x y:Operand} {k:IntKind} {i j:Int} {av:AV} {v:Value} (hx:du tm x=some (.int k i)) (hy:du tm y=some (.int k j))
 (vJ:∀ w,(binOp op xt (.int k i) (.int k j)).run P w=.ok v w) (qo:∀ w S,At w S av v):QV P ⟨some d,.binOp op xt x y yt,ty,pos,af,none⟩ ⟨n,tm,hp⟩ av:=by
 intro w S a r
 refine ⟨v,fun w' _=>?_,qo w S⟩
 simp [execOp,(bl (σ:=⟨n,tm,hp⟩) r hx).eE,(bl (σ:=⟨n,tm,hp⟩) r hy).eE,eqGuard_at_int,vJ]
def US (i:Int):Prop:=-9223372036854775808≤i∧i≤9223372036854775807
theorem vX {i:Int} (h:US i):IntKind.i64.wrap i=i:=IntWalk.i64_in _ h
theorem br {xt yt:TypeId} {x y:Operand} {k:IntKind} {i j:Int} (hx:du tm x=some (.int k i)) (hy:du tm y=some (.int k j)):QV P ⟨some d,.binOp .add xt x y yt,ty,pos,af,none⟩ ⟨n,tm,hp⟩ (.int k (k.wrap (i+j))):=
 xu hx hy (v:=_) (fun w=>by simp [binOp,Op.intArith]) (fun w S=>.int _ _)
theorem fy {xt yt:TypeId} {x y:Operand} {k:IntKind} {i j:Int} (hx:du tm x=some (.int k i)) (hy:du tm y=some (.int k j)):QV P ⟨some d,.binOp .sub xt x y yt,ty,pos,af,none⟩ ⟨n,tm,hp⟩ (.int k (k.wrap (i - j))):=
 xu hx hy (v:=_) (fun w=>by simp [binOp,Op.intArith]) (fun w S=>.int _ _)
theorem uA {xt yt:TypeId} {x y:Operand} {k:IntKind} {i j:Int} (hx:du tm x=some (.int k i)) (hy:du tm y=some (.int k j)):QV P ⟨some d,.binOp .mul xt x y yt,ty,pos,af,none⟩ ⟨n,tm,hp⟩ (.int k (k.wrap (i * j))):=
 xu hx hy (v:=_) (fun w=>by simp [binOp,Op.intArith]) (fun w S=>.int _ _)
theorem FB {xt yt:TypeId} {x y:Operand} {k:IntKind} {i j:Int} (hx:du tm x=some (.int k i)) (hy:du tm y=some (.int k j)) (h0:j≠0):QV P ⟨some d,.binOp .rem xt x y yt,ty,pos,af,none⟩ ⟨n,tm,hp⟩ (.int k (i.tmod j)):=
 xu hx hy (v:=.int k (i.tmod j)) (fun w=>by simp [binOp,Op.intDiv,h0]) (fun w S=>.int _ _)
theorem bT {xt yt:TypeId} {x y:Operand} {k:IntKind} {i j:Int} (hx:du tm x=some (.int k i)) (hy:du tm y=some (.int k j)):QV P ⟨some d,.binOp .lss xt x y yt,ty,pos,af,none⟩ ⟨n,tm,hp⟩ (.bool (decide (i < j))):=
 xu hx hy (v:=.bool (decide (i < j))) (fun w=>by simp [binOp,Op.intCmp]) (fun w S=>.bool _)
theorem qM {xt yt:TypeId} {x y:Operand} {k:IntKind} {i j:Int} (hx:du tm x=some (.int k i)) (hy:du tm y=some (.int k j)):QV P ⟨some d,.binOp .leq xt x y yt,ty,pos,af,none⟩ ⟨n,tm,hp⟩ (.bool (decide (i≤j))):=
 xu hx hy (v:=.bool (decide (i≤j))) (fun w=>by simp [binOp,Op.intCmp]) (fun w S=>.bool _)
theorem eB {xt yt:TypeId} {x y:Operand} {k:IntKind} {i j:Int} (hx:du tm x=some (.int k i)) (hy:du tm y=some (.int k j)):QV P ⟨some d,.binOp .gtr xt x y yt,ty,pos,af,none⟩ ⟨n,tm,hp⟩ (.bool (decide (j < i))):=
 xu hx hy (v:=.bool (decide (j < i))) (fun w=>by simp [binOp,Op.intCmp]) (fun w S=>.bool _)
theorem nP {xt yt:TypeId} {x y:Operand} {k:IntKind} {i j:Int} (hx:du tm x=some (.int k i)) (hy:du tm y=some (.int k j)):QV P ⟨some d,.binOp .geq xt x y yt,ty,pos,af,none⟩ ⟨n,tm,hp⟩ (.bool (decide (j≤i))):=
 xu hx hy (v:=.bool (decide (j≤i))) (fun w=>by simp [binOp,Op.intCmp]) (fun w S=>.bool _)
theorem dt {xt yt:TypeId} {x y:Operand} {k:IntKind} {i j:Int} (hx:du tm x=some (.int k i)) (hy:du tm y=some (.int k j)):QV P ⟨some d,.binOp .eql xt x y yt,ty,pos,af,none⟩ ⟨n,tm,hp⟩ (.bool (decide (i=j))):=
 xu hx hy (v:=.bool (decide (i=j))) (fun w=>by simp [binOp,Op.intCmp];rfl) (fun w S=>.bool _)
theorem pH {xt yt:TypeId} {x y:Operand} {k:IntKind} {i j:Int} (hx:du tm x=some (.int k i)) (hy:du tm y=some (.int k j)):QV P ⟨some d,.binOp .neq xt x y yt,ty,pos,af,none⟩ ⟨n,tm,hp⟩ (.bool (decide (i≠j))):=
 xu hx hy (v:=.bool (decide (i≠j))) (fun w=>by simp [binOp,Op.intCmp,bne];rfl) (fun w S=>.bool _)
theorem Oy {xt yt:TypeId} {x y:Operand} {s t:List UInt8} (hx:du tm x=some (.str s)) (hy:du tm y=some (.str t)):QV P ⟨some d,.binOp .eql xt x y yt,ty,pos,af,none⟩ ⟨n,tm,hp⟩ (.bool (decide (s=t))):=by
 refine fun w S a r=>⟨.bool (decide (s=t)),fun w1 _=>?_,.bool _⟩
 simp [execOp,(bl (σ:=⟨n,tm,hp⟩) r hx).eV,(bl (σ:=⟨n,tm,hp⟩) r hy).eV,eqGuard_at_string,binOp,Op.stringOp]
 rw [da];simp
theorem Xq {xt yt:TypeId} {x y:Operand} {s t:List UInt8} (hx:du tm x=some (.str s)) (hy:du tm y=some (.str t)):QV P ⟨some d,.binOp .neq xt x y yt,ty,pos,af,none⟩ ⟨n,tm,hp⟩ (.bool (decide (s≠t))):=by
 refine fun w S a r=>⟨.bool (decide (s≠t)),fun w1 _=>?_,.bool _⟩
 simp [execOp,(bl (σ:=⟨n,tm,hp⟩) r hx).eV,(bl (σ:=⟨n,tm,hp⟩) r hy).eV,eqGuard_at_string,binOp,Op.stringOp]
 rw [da];simp
theorem run_equal_bool {P:Program} {t:TypeId} (h:P.underlying t=some .bool) (b c:Bool) (w:World):(Op.equal t (.bool b) (.bool c)).run P w=.ok (b==c) w:=by
 show (Op.equalIn (9999+1) t (.bool b) (.bool c)).run P w=_
 rw [Op.equalIn]
 simp [run_underlying h]
theorem zN {P:Program} {t:TypeId} (h:P.underlying t=some .bool) (b c:Bool) (w:World):(binOp .neq t (.bool b) (.bool c)).run P w=.ok (.bool (b !=c)) w:=by
 rw [show binOp .neq t (.bool b) (.bool c)=(do pure (.bool (!(← Op.equal t (.bool b) (.bool c))))) from rfl]
 simp [run_equal_bool h,bne]
theorem GD (s:List UInt8):(⟨s.toArray⟩:ByteArray).size=s.length:=rfl
theorem cV {xt:TypeId} {x:Operand} {b:Bool} (hx:du tm x=some (.bool b)):QV P ⟨some d,.unOp .not xt x,ty,pos,af,none⟩ ⟨n,tm,hp⟩ (.bool (!b)):=
 (fun w S a r=>⟨.bool (!b),fun w1 _=>by simp [execOp,(bl (σ:=⟨n,tm,hp⟩) r hx).mL,Op.unary],.bool _⟩)
theorem Xr {xt yt:TypeId} {x y:Operand} {b c:Bool} [aC P xt .bool] (hx:du tm x=some (.bool b)) (hy:du tm y=some (.bool c)):QV P ⟨some d,.binOp .neq xt x y yt,ty,pos,af,none⟩ ⟨n,tm,hp⟩ (.bool (b !=c)):=
 (fun w S a r=>⟨.bool (b !=c),fun w1 _=>by simp [execOp,(bl (σ:=⟨n,tm,hp⟩) r hx).mL,(bl (σ:=⟨n,tm,hp⟩) r hy).mL,eqGuard_at_bool,zN (aC.h (P:=P) (t:=xt))],.bool _⟩)
theorem Ko {x:Operand} {t e:TypeId} {sz:Nat} {xs:List AV} [aC P t (.slice e)] (hx:du tm x=some (.list sz xs)):QV P ⟨some d,.call {callee:=.builtin .len,args:=#[x],argTypes:=#[t]},ty,pos,af,none⟩ ⟨n,tm,hp⟩ (.int .i64 (xs.length:Nat)):=
 (fun w S a r=>⟨.int .i64 (xs.length:Nat),fun w1 _=>by
  obtain ⟨ad,cap,vs,h1,_⟩:=(bl (σ:=⟨n,tm,hp⟩) r hx).x5
  simp [execOp,h1,resolve,invoke,builtin,Builtin.len_,run_underlying (aC.h (P:=P) (t:=t)),goInt],.int _ _⟩)
theorem Oz {x:Operand} {t e:TypeId} {sz off len:Nat} {b:Bk} [aC P t (.slice e)] (hx:du tm x=some (.sl sz b off len)):QV P ⟨some d,.call {callee:=.builtin .len,args:=#[x],argTypes:=#[t]},ty,pos,af,none⟩ ⟨n,tm,hp⟩ (.int .i64 (len:Nat)):=
 (fun w S a r=>⟨.int .i64 (len:Nat),fun w1 _=>by
  obtain ⟨ad,cap,h1,_⟩:=(bl (σ:=⟨n,tm,hp⟩) r hx).uz
  simp [execOp,h1,resolve,invoke,builtin,Builtin.len_,run_underlying (aC.h (P:=P) (t:=t)),goInt],.int _ _⟩)
theorem og {x:Operand} {t:TypeId} {s:List UInt8} [aC P t .string] (hx:du tm x=some (.str s)):QV P ⟨some d,.call {callee:=.builtin .len,args:=#[x],argTypes:=#[t]},ty,pos,af,none⟩ ⟨n,tm,hp⟩ (.int .i64 (s.length:Nat)):=
 (fun w S a r=>⟨.int .i64 (s.length:Nat),fun w1 _=>by
  simp [execOp,(bl (σ:=⟨n,tm,hp⟩) r hx).eV,resolve,invoke,builtin,Builtin.len_,run_underlying (aC.h (P:=P) (t:=t)),goInt,GD],.int _ _⟩)
theorem H3 {x y:Operand} {t:TypeId} {s:List UInt8} {k:IntKind} {i:Int} {c:UInt8} [aC P t .string] (hx:du tm x=some (.str s)) (hy:du tm y=some (.int k i)) (h0:0≤i) (hc:s[i.toNat]? =some c):QV P ⟨some d,.index t x y,ty,pos,af,none⟩ ⟨n,tm,hp⟩ (.int .u8 (c.toNat:Nat)):=
 (fun w S a r=>⟨.int .u8 (c.toNat:Nat),fun w1 _=>by
  have wR:(⟨s.toArray⟩:ByteArray)[i.toNat]? =some c:=by
   obtain ⟨hl,he⟩:=ap.1 hc
   rw [getElem?_pos _ _ (by rw [GD];exact hl)]
   simp only [bp]
   rw [← he]
   rfl
  simp [execOp,(bl (σ:=⟨n,tm,hp⟩) r hx).eV,(bl (σ:=⟨n,tm,hp⟩) r hy).eE,Instr.index,asIntOf,run_underlying (aC.h (P:=P) (t:=t)),h0,wR],.int _ _⟩)
theorem jG {x:Operand} {i:Nat} {vs:List AV} {av:AV} (hx:du tm x=some (.lM vs)) (hi:vs[i]? =some av):QV P ⟨some d,.extract x i,ty,pos,af,none⟩ ⟨n,tm,hp⟩ (av):=
 (fun w S a r=>by
  obtain ⟨us,h1,h2,h3⟩:=(bl (σ:=⟨n,tm,hp⟩) r hx).RG
  have eI:i < us.size:=by rw [← h2];exact (ap.1 hi).1
  have hu:us[i]? =some us[i]:=by simp [eI]
  exact ⟨us[i],fun _ _=>by simp [execOp,h1,Instr.extract,hu],h3 i av _ hi hu⟩)
theorem az {x:Operand} {b:Bk} {o:Nat} (hx:du tm x=some (.ptr b o)):QV P ⟨some d,.nilCheck x,ty,pos,af,none⟩ ⟨n,tm,hp⟩ (.ptr b o):=
 (fun w S a r=>by
  have h:=bl (σ:=⟨n,tm,hp⟩) r hx
  obtain ⟨m,h1,h2⟩:=h.sR
  exact ⟨a.eval x,fun _ _=>by simp [execOp,h2],h⟩)
theorem bL {x:Operand} {cs:List AV} (hx:du tm x=some (.ch cs)):QV P ⟨some d,.nilCheck x,ty,pos,af,none⟩ ⟨n,tm,hp⟩ (.ch cs):=
 (fun w S a r=>by
  have h:=bl (σ:=⟨n,tm,hp⟩) r hx
  obtain ⟨ad,vs,h2,_⟩:=h.x6
  exact ⟨a.eval x,fun _ _=>by simp [execOp,h2],h⟩)
theorem ec {x:Operand} {sz:Nat} {b:Bk} {i o:Nat} (hx:du tm x=some (.tg sz b i o)):QV P ⟨some d,.nilCheck x,ty,pos,af,none⟩ ⟨n,tm,hp⟩ (.tg sz b i o):=
 (fun w S a r=>by
  have h:=bl (σ:=⟨n,tm,hp⟩) r hx
  obtain ⟨m,h1,h2⟩:=h.vW
  exact ⟨a.eval x,fun _ _=>by simp [execOp,h2],h⟩)
def B9 (tm:List (Nat×AV)):List Operand→Option (List AV)
 | []=>some []
 | x :: r=>match du tm x,B9 tm r with
   | some a,some l=>some (a :: l)
   | _,_=>none
theorem Kp {w:World} {S:Nat→Prop} {σ:St} {a:Act} (r:eU w S σ a):∀ {xs:List Operand} {l:List AV},B9 σ.tm xs=some l→l.length=xs.length∧∀ (i:Nat) c v,l[i]? =some c→(xs.map a.eval)[i]? =some v→At w S c v
 | [],l,h=>by simp [B9] at h;subst h;exact ⟨rfl,fun i c v hc=>by simp at hc⟩
 | x :: xs,l,h=>by
   simp only [B9] at h
   split at h
   ·rename_i av l' ha hl
    obtain rfl:=aa h
    obtain ⟨h1,h2⟩:=Kp r hl
    refine ⟨by simp [h1],fun i c v hc hv=>?_⟩
    match i with
    | 0=>simp at hc hv;subst hc;subst hv;exact bl r ha
    | i+1=>simp at hc hv;exact h2 i c v hc (by simpa using hv)
   ·cases h
theorem mg {fn:Fn} {vI:List Operand} {l:List AV} (hl:B9 tm vI=some l):QV P ⟨some d,.makeFunc fn #[] vI.toArray,ty,pos,af,none⟩ ⟨n,tm,hp⟩ (.func fn l):=
 (fun w S a r=>by
  obtain ⟨h1,h2⟩:=Kp (σ:=⟨n,tm,hp⟩) r hl
  exact ⟨.func fn #[] (vI.toArray.map a.eval),fun _ _=>by simp [execOp,Instr.makeFunc],.func _ _ _ (by simp [h1]) (fun i c v hc hv=>h2 i c v hc (by simpa using hv))⟩)
end rules
inductive mh:Heap→Bk→Ob→Prop
 | here {b:Bk} {o:Ob} {h:Heap}:mh ((b,o) :: h) b o
 | next {e:Bk×Ob} {b:Bk} {o:Ob} {h:Heap} (k:mh h b o):mh (e :: h) b o
 | skip {l:Heap} {b:Bk} {o:Ob} {h:Heap} (k:mh h b o):mh (l++h) b o
theorem mh.mem {h:Heap} {b:Bk} {o:Ob} (f:mh h b o):(b,o)∈h:=by
 induction f with
 | here=>simp
 | next _ ih=>simp [ih]
 | skip _ ih=>simp [ih]
inductive mF:Heap→Bk→Ob→Bk→Ob→Heap→Prop
 | here {b b':Bk} {o o':Ob} {h:Heap}:mF ((b,o) :: h) b o b' o' ((b',o') :: h)
 | next {e:Bk×Ob} {b b':Bk} {o o':Ob} {h h':Heap} (k:mF h b o b' o' h'):mF (e :: h) b o b' o' (e :: h')
 | skip {l:Heap} {b b':Bk} {o o':Ob} {h h':Heap} (k:mF h b o b' o' h'):mF (l++h) b o b' o' (l++h')
inductive x7:Heap→Bk→Ob→Heap→Prop
 | here {b:Bk} {o:Ob} {h:Heap}:x7 ((b,o) :: h) b o h
 | next {e:Bk×Ob} {b:Bk} {o:Ob} {h h':Heap} (k:x7 h b o h'):x7 (e :: h) b o (e :: h')
 | skip {l:Heap} {b:Bk} {o:Ob} {h h':Heap} (k:x7 h b o h'):x7 (l++h) b o (l++h')
theorem mF.split {h h':Heap} {b b':Bk} {o o':Ob} (u:mF h b o b' o' h'):∃ pre post,h=pre++(b,o) :: post∧h'=pre++(b',o') :: post:=by
 induction u with
 | here=>exact ⟨[],_,rfl,rfl⟩
 | next _ ih=>obtain ⟨p,q,rfl,rfl⟩:=ih;exact ⟨_ :: p,q,rfl,rfl⟩
 | @skip l _ _ _ _ _ _ _ ih=>obtain ⟨p,q,rfl,rfl⟩:=ih;exact ⟨l++p,q,(bz _ _ _).symm,(bz _ _ _).symm⟩
theorem x7.split {h h':Heap} {b:Bk} {o:Ob} (u:x7 h b o h'):∃ pre post,h=pre++(b,o) :: post∧h'=pre++post:=by
 induction u with
 | here=>exact ⟨[],_,rfl,rfl⟩
 | next _ ih=>obtain ⟨p,q,rfl,rfl⟩:=ih;exact ⟨_ :: p,q,rfl,rfl⟩
 | @skip l _ _ _ _ _ ih=>obtain ⟨p,q,rfl,rfl⟩:=ih;exact ⟨l++p,q,(bz _ _ _).symm,(bz _ _ _).symm⟩
theorem mF.qN {h h':Heap} {b b':Bk} {o o':Ob} (u:mF h b o b' o' h'):mh h b o:=by
 induction u with
 | here=>exact .here
 | next _ ih=>exact .next ih
 | skip _ ih=>exact .skip ih
theorem bw {α:Type} {p q:List α} {x y:α}:y∈p++x :: q↔y=x∨y∈p++q:=by
 simp only [a7,bv]
 constructor
 ·rintro (h | h | h)
  ·exact .inr (.inl h)
  ·exact .inl h
  ·exact .inr (.inr h)
 ·rintro (h | h | h)
  ·exact .inr (.inl h)
  ·exact .inl h
  ·exact .inr (.inr h)
def GB (w w':World) (x:Option Nat):Prop:=w.grownBy w' x∧(bU.dr→w.drawn≤w'.drawn)
theorem sS {w w':World} {S:Nat→Prop} {hp cQ:Heap} {b b':Bk} {o o':Ob} (r:de w S hp) (u:mF hp b o b' o' cQ) (cc:GB w w' b.cH) (hf:¬ o.B7) (hf':¬ o'.B7)
 (hh:Holds w' S b' o') (Bx:b'.cH=b.cH∨b'.cH=none∨∃ m,b'.cH=some m∧w.heap.size≤m) (hm:o'.more=[]:=by rfl):
 de w' S cQ∧kT w S hp w' S cQ∧∀ n,S n→S n∧w'.heap[n]? =w.heap[n]?:=by
 obtain ⟨c,hd⟩:=cc
 obtain ⟨p,q,rfl,rfl⟩:=u.split
 have H4:(b,o)∈p++(b,o) :: q:=by simp
 have nS:∀ n,b.cH=some n→¬ S n:=fun n hn hs=>hf ((r.sep _ H4 n (fF hn)).1 hs)
 have mf:∀ n,S n→S n∧w'.heap[n]? =w.heap[n]?:=fun n hs=>⟨hs,c.block n (r.slt n hs) (fun e=>nS n e.symm hs)⟩
 have um:=r.nodup
 rw [b4,bi,bc,bc] at um
 have others:∀ e∈p++q,∀ n,n∈eb e→n < w.heap.size∧b.cH≠some n:=by
  intro e he n hn
  refine ⟨r.lt ⟨e,bw.2 (.inr he),hn⟩,fun hb=>?_⟩
  rcases a7.1 he with h | h
  ·exact um.2.2 n (a6.2 ⟨e,h,hn⟩) n (cb _ (fF hb)) rfl
  ·exact um.2.1.2.2 n (fF hb) n (a6.2 ⟨e,h,hn⟩) rfl
 have Xt:∀ e∈p++q,∀ n,n∈eb e→b'.cH≠some n:=by
  intro e he n hn hb
  obtain ⟨h1,h2⟩:=others e he n hn
  rcases Bx with h | h | ⟨m,h,hm⟩
  ·exact h2 (h▸hb)
  ·rw [h] at hb;cases hb
  ·rw [h] at hb;have:=aa hb;omega
 refine ⟨⟨?_,?_,?_,fun n hs=>cl (r.slt n hs) c.size,fun g o ho=>⟨(r.gh g o ho).1,Aw (mf g (r.gh g o ho).1).2 (r.gh g o ho).2⟩⟩,⟨c.os,c.tape,c.output,c.size,mf,?_,?_,hd⟩,mf⟩
 ·rw [b4,bi,bc,bc]
  have aa1:(eb (b',o')).Nodup:=by
   unfold eb;rw [hm,cz]
   cases b'.cH<;>simp
  refine ⟨um.1,⟨aa1,um.2.1.2.1,fun x hx y hy HO=>?_⟩,fun x hx y hy HO=>?_⟩
  ·subst HO
   obtain ⟨e,he,u5⟩:=a6.1 hy
   exact Xt e (bo _ he) x u5 ((wV hm).1 hx)
  ·subst HO
   rcases a7.1 hy with hy | hy
   ·obtain ⟨e,he,u5⟩:=a6.1 hx
    exact Xt e (cb _ he) x u5 ((wV hm).1 hy)
   ·exact um.2.2 x hx x (bo _ hy) rfl
 ·intro e he
  rcases bw.1 he with rfl | he
  ·exact hh
  ·exact (r.holds e (bw.2 (.inr he))).mono mf (fun n hn=>c.block n (others e he n hn).1 (fun h=>(others e he n hn).2 h.symm))
 ·intro e he n hn
  rcases bw.1 he with rfl | he
  ·replace hn:=(wV hm).1 hn
   have ns:¬ S n:=by
    rcases Bx with h | h | ⟨m,h,hm⟩
    ·exact nS n (h▸hn)
    ·rw [h] at hn;cases hn
    ·intro hs;have:=r.slt n hs;rw [h] at hn;have:=aa hn;omega
   exact ⟨fun hs=>(ns hs).elim,fun h=>(hf' h).elim⟩
  ·exact r.sep e (bw.2 (.inr he)) n hn
 ·intro n hn aa2
  exact ⟨c.block n hn (fun h=>aa2 ⟨(b,o),H4,fF h.symm⟩),id⟩
 ·rintro n ⟨e,he,u5⟩
  rcases bw.1 he with rfl | he
  ·replace u5:=(wV hm).1 u5
   rcases Bx with h | h | ⟨m,h,hm⟩
   ·exact .inl ⟨(b,o),H4,fF (h▸u5)⟩
   ·rw [h] at u5;cases u5
   ·rw [h] at u5;have:=aa u5;exact .inr (by omega)
  ·exact .inl ⟨e,bw.2 (.inr he),u5⟩
theorem pg {w w':World} {S:Nat→Prop} {hp:Heap} {b:Bk} {o:Ob} (r:de w S hp) (e:Ext w w') (hf:¬ o.B7) (hh:Holds w' S b o) (hb:b.cH=none∨∃ m,b.cH=some m∧w.heap.size≤m)(hm:o.more=[]:=by rfl):
 de w' S ((b,o) :: hp)∧kT w S hp w' S ((b,o) :: hp)∧∀ n,S n→S n∧w'.heap[n]? =w.heap[n]?:=by
 have r':=r.ext e
 have mf:∀ n,S n→S n∧w'.heap[n]? =w.heap[n]?:=fun n hs=>⟨hs,e.same n (r.slt n hs)⟩
 have fresh:∀ n,n∈eb (b,o)→w.heap.size≤n:=by
  intro n hn
  replace hn:=(wV hm).1 hn
  rcases hb with h | ⟨m,h,hm⟩
  ·rw [h] at hn;cases hn
  ·rw [h] at hn;have:=aa hn;omega
 refine ⟨⟨?_,?_,?_,r'.slt,r'.gh⟩,⟨e.os,e.tape,e.output,e.size,mf,fun n hn _=>⟨e.same n hn,id⟩,?_,e.drawn⟩,mf⟩
 ·rw [bi,bc]
  refine ⟨?_,r.nodup,fun x hx y hy HO=>?_⟩
  ·unfold eb;rw [hm,cz]
   cases b.cH<;>simp
  ·subst HO
   obtain ⟨z,hz,hzn⟩:=a6.1 hy
   have:=r.lt ⟨z,hz,hzn⟩
   have:=fresh x hx
   omega
 ·intro x hx
  rcases bv.1 hx with rfl | hx
  ·exact hh
  ·exact r'.holds x hx
 ·intro x hx n hn
  rcases bv.1 hx with rfl | hx
  ·refine ⟨fun hs=>?_,fun h=>(hf h).elim⟩
   have:=r.slt n hs
   have:=fresh n hn
   omega
  ·exact r.sep x hx n hn
 ·rintro n ⟨x,hx,Xn⟩
  rcases bv.1 hx with rfl | hx
  ·exact .inr (fresh n Xn)
  ·exact .inl ⟨x,hx,Xn⟩
theorem vY {w:World} {S:Nat→Prop} {av:AV} {v:Value} (h:At w S av v) (h1:∀ c∈av.cells,c.one=true):av.cells.length=v.cells.size∧oe w S av.cells v.cells:=by
 have single:∀ (c:AV) (u:Value),At w S c u→oe w S [c] #[u]:=by
  intro c u hc i c' u' h1 h2
  match i with
  | 0=>simp at h1 h2;subst h1;subst h2;exact hc
  | i+1=>simp at h1
 cases h with
 | agg cs vs hl h=>exact ⟨hl,h⟩
 | raw v=>
   have:v.oneCell'=true:=h1 (.raw v) (by simp [AV.cells])
   have hv:v.cells=#[v]:=by cases v<;>first | rfl | (simp [Value.oneCell'] at this)
   rw [hv]
   exact ⟨rfl,single _ _ (.raw v)⟩
 | LI φ v hm g1 g=>
   have this:v.oneCell'=true:=g1 _ _ _ g
   have hv:v.cells=#[v]:=by cases v<;>first | rfl | (simp [Value.oneCell'] at this)
   rw [hv]
   exact ⟨rfl,single _ _ (.LI φ v hm g1 g)⟩
 | lM cs vs hl h=>exact ⟨rfl,single _ _ (.lM cs vs hl h)⟩
 | int k n=>exact ⟨rfl,single _ _ (.int k n)⟩
 | bool b=>exact ⟨rfl,single _ _ (.bool b)⟩
 | str s=>exact ⟨rfl,single _ _ (.str s)⟩
 | list sz xs a cap vs jc hl h hm hc=>exact ⟨rfl,single _ _ (.list sz xs a cap vs jc hl h hm hc)⟩
 | nil=>exact ⟨rfl,single _ _ .nil⟩
 | ptr b o n hb=>exact ⟨rfl,single _ _ (.ptr b o n hb)⟩
 | Ax sz b hb=>exact ⟨rfl,single _ _ (.Ax sz b hb)⟩
 | sl sz b off len n cap hb g1 g2=>exact ⟨rfl,single _ _ (.sl sz b off len n cap hb g1 g2)⟩
 | Oq sz b off n ad hb=>exact ⟨rfl,single _ _ (.Oq sz b off n ad hb)⟩
 | ch cs ad vs hl h hs hS hm=>exact ⟨rfl,single _ _ (.ch cs ad vs hl h hs hS hm)⟩
 | tg sz b i o n hb=>exact ⟨rfl,single _ _ (.tg sz b i o n hb)⟩
 | bV b n hb=>exact ⟨rfl,single _ _ (.bV b n hb)⟩
 | func fn cs vs hl h=>exact ⟨rfl,single _ _ (.func fn cs vs hl h)⟩
theorem x8 {w:World} {S:Nat→Prop} {cs:List AV} {vs:Array Value} (hl:cs.length=vs.size) (h:oe w S cs vs) (h1:∀ c∈cs,c.one=true):∀ v∈vs.toList,v.oneCell'=true:=by
 intro v hv
 obtain ⟨i,hi,he⟩:=List.mem_iff_getElem.1 hv
 have UT:i < cs.length:=by rw [hl];simpa using hi
 have:=h i cs[i] v (by simp [UT]) (by rw [← he];simp at hi ⊢)
 exact this.Kn (h1 _ (List.getElem_mem UT))
def ke:List AV→Bool
 | []=>true
 | c :: r=>c.one&&ke r
theorem eo {cs:List AV} (h:ke cs=true):∀ c∈cs,c.one=true:=by
 induction cs with
 | nil=>simp
 | cons x r ih=>
   simp only [ke,b5] at h
   intro c hc
   rcases bv.1 hc with rfl | hc
   ·exact h.1
   ·exact ih h.2 c hc
section rules
variable {P:Program} {all:Array Oper} {rest:List Oper} {n:Nat} {tm:List (Nat×AV)} {hp:Heap} {Q:St→Prop} {d:Nat} {ty:TypeId} {pos:String} {af:Array Edge}
theorem LO {w:World} {S:Nat→Prop} {hp:Heap} (r:de w S hp) {cs:List AV} {vs:Array Value} (E:TypeId) (hl:cs.length=vs.size) (h:oe w S cs vs) (h1:∀ c∈cs,c.one=true):
 de (w.alloc (.cells vs E)) S ((⟨some w.heap.size,0⟩,.cells cs) :: hp)∧kT w S hp (w.alloc (.cells vs E)) S ((⟨some w.heap.size,0⟩,.cells cs) :: hp)∧∀ n,S n→S n∧(w.alloc (.cells vs E)).heap[n]? =w.heap[n]?:=by
 have e:=Ext.alloc w (.cells vs E)
 refine pg r e id ⟨h1,w.heap.size,vs,E,rfl,?_,hl.symm,h.mono fun n hn=>⟨hn,e.same n (r.slt n hn)⟩⟩ (.inr ⟨_,rfl,ag _⟩)
 show (w.heap.push _)[w.heap.size]? =_
 simp
theorem Xu {x:Operand} {E:TypeId} {av:AV} (hx:du tm x=some av) (h1:ke av.cells=true) (hn:ai d n=true)
 (kk:∀ b:Bk,ae P all rest ⟨n,(d,.ptr b 0) :: tm,(b,.cells av.cells) :: hp⟩ Q):ae P all (⟨some d,.box E x,ty,pos,af,none⟩ :: rest) ⟨n,tm,hp⟩ Q:=by
 refine ae.HY rfl fun w S a r=>?_
 have hv:=bl (σ:=⟨n,tm,hp⟩) r hx
 obtain ⟨hl,qo⟩:=vY hv (eo h1)
 obtain ⟨g1,g2,g3⟩:=LO r.hp E hl qo (eo h1)
 refine ⟨.pointer (some ⟨w.heap.size,0,none⟩),w.alloc (.cells (a.eval x).cells E),S,_,?_,(r.heap g3 g1).put hn (.ptr ⟨some w.heap.size,0⟩ 0 _ rfl),g2,kk ⟨some w.heap.size,0⟩⟩
 simp [execOp,Instr.box,newVar,newRow]
def As:Value→AV
 | .agg cs=>.agg (cs.toList.map T8)
 | v=>T8 v
theorem rl (w:World) (S:Nat→Prop) (z:Value) (h1:∀ c∈(As z).cells,c.one=true):(As z).cells.length=z.cells.size∧oe w S (As z).cells z.cells:=by
 by_cases hz:∃ cs,z=.agg cs
 ·obtain ⟨cs,rfl⟩:=hz
  refine ⟨by simp [As,AV.cells,Value.cells],?_⟩
  intro i c v hc hv
  simp only [As,AV.cells,List.getElem?_map,Array.getElem?_toList] at hc
  simp only [Value.cells] at hv
  rw [hv] at hc
  simp at hc
  subst hc
  exact GC _ _ _
 ·have Kq:As z=T8 z:=by
   cases z<;>first | rfl | (exact (hz ⟨_,rfl⟩).elim)
  rw [Kq] at h1 ⊢
  exact vY (GC w S z) h1
theorem RH {E:TypeId} {i:TypeInfo} {z:Value} [a8 P E i] (hz:i.zero=some z) (h1:ke (As z).cells=true) (hn:ai d n=true)
 (kk:∀ b:Bk,ae P all rest ⟨n,(d,.ptr b 0) :: tm,(b,.cells (As z).cells) :: hp⟩ Q):ae P all (⟨some d,.alloc E,ty,pos,af,none⟩ :: rest) ⟨n,tm,hp⟩ Q:=by
 refine ae.HY rfl fun w S a r=>?_
 obtain ⟨hl,qo⟩:=rl w S z (eo h1)
 obtain ⟨g1,g2,g3⟩:=LO r.hp E hl qo (eo h1)
 refine ⟨.pointer (some ⟨w.heap.size,0,none⟩),w.alloc (.cells z.cells E),S,_,?_,(r.heap g3 g1).put hn (.ptr ⟨some w.heap.size,0⟩ 0 _ rfl),g2,kk ⟨some w.heap.size,0⟩⟩
 have hi:=a8.h (P:=P) (t:=E)
 simp [execOp,Instr.alloc,newVar,newRow,zeroValue,typeInfo,hi,hz]
theorem nA (m o k:Nat):(⟨m,o,none⟩:Addr).add k=⟨m,o+k,none⟩:=Addr.add_lit m o k
theorem x9 {s:TypeId} {fs:Array Field} {j:Nat} {f:Field} {i:TypeInfo} (hs:P.underlying s=some (.struct fs)) (hj:fs[j]? =some f) (hi:P.info? f.type=some i) (h0:i.size≠0) (ad:Addr) (w:World):
 (Instr.fieldAt s (.pointer (some ad)) j).run P w=.ok (.pointer (some (ad.add f.offset))) w:=by
 simp [Instr.fieldAt,run_underlying hs,hj,Instr.sureAddr,fieldPlace,sizeOf,typeInfo,hi,h0]
class nQ (P:Program) (s:TypeId) (j:Nat) (off:outParam Nat):Prop where
 h:∃ fs f i,P.underlying s=some (.struct fs)∧fs[j]? =some f∧P.info? f.type=some i∧(ac i.size 0)=false∧f.offset=off
theorem H5 {x:Operand} {s:TypeId} {j off:Nat} {b:Bk} {o:Nat} [nQ P s j off]
 (hx:du tm x=some (.ptr b o)):QV P ⟨some d,.fieldAddr s x j,ty,pos,af,none⟩ ⟨n,tm,hp⟩ (.ptr b (o+off)):=
 (fun w S a r=>by
  obtain ⟨fs,f,i,hu,hj,hi,h0,rfl⟩:=nQ.h (P:=P) (s:=s) (j:=j)
  obtain ⟨m,h1,h2⟩:=(bl (σ:=⟨n,tm,hp⟩) r hx).sR
  refine ⟨.pointer (some ⟨m,o+f.offset,none⟩),fun w1 _=>?_,.ptr b _ m h1⟩
  have hr:=x9 (P:=P) hu hj hi (Dp h0) ⟨m,o,none⟩ w1
  rw [nA] at hr
  simp [execOp,h2,hr])
theorem GF {x:Operand} {s:TypeId} {j off sz:Nat} {b:Bk} {q o:Nat} [nQ P s j off]
 (hx:du tm x=some (.tg sz b q o)):QV P ⟨some d,.fieldAddr s x j,ty,pos,af,none⟩ ⟨n,tm,hp⟩ (.tg sz b q (o+off)):=
 (fun w S a r=>by
  obtain ⟨fs,f,i,hu,hj,hi,h0,rfl⟩:=nQ.h (P:=P) (s:=s) (j:=j)
  obtain ⟨m,h1,h2⟩:=(bl (σ:=⟨n,tm,hp⟩) r hx).vW
  refine ⟨.pointer (some ⟨m,q * sz+(o+f.offset),none⟩),fun w1 _=>?_,.tg sz b q _ m h1⟩
  have hr:=x9 (P:=P) hu hj hi (Dp h0) ⟨m,q * sz+o,none⟩ w1
  rw [nA,cA] at hr
  simp [execOp,h2,hr])
theorem MP {w:World} {S:Nat→Prop} {cs:List AV} {ad:Addr} {vs:List Value} (k:Nat) (hl:cs.length=vs.length) (h:∀ (i:Nat) c u,cs[i]? =some c→vs[i]? =some u→At w S c u) (hs:ad.spot=none) (hS:S ad.block)
 (hm:∀ (i:Nat) u,vs[i]? =some u→w.cell? ⟨ad.block,ad.off+i,none⟩=some u):At w S (.ch (cs.drop k)) (.pointer (some (ad.add k))):=by
 obtain ⟨bk,of,sp⟩:=ad
 simp only at hs hS hm
 subst hs
 rw [nA]
 refine .ch _ _ (vs.drop k) (by simp [hl]) (fun i c u hc hu=>h (k+i) c u (by simpa using hc) (by simpa using hu)) rfl hS (fun i u hu=>?_)
 have:=hm (k+i) u (by simpa using hu)
 simpa [cA] using this
theorem GG {x:Operand} {s:TypeId} {j off:Nat} {cs:List AV} [nQ P s j off]
 (hx:du tm x=some (.ch cs)):QV P ⟨some d,.fieldAddr s x j,ty,pos,af,none⟩ ⟨n,tm,hp⟩ (.ch (cs.drop off)):=
 (fun w S a r=>by
  obtain ⟨fs,f,i,hu,hj,hi,h0,rfl⟩:=nQ.h (P:=P) (s:=s) (j:=j)
  obtain ⟨ad,vs,h2,h3,h4,h5,h6,h7⟩:=(bl (σ:=⟨n,tm,hp⟩) r hx).x6
  refine ⟨.pointer (some (ad.add f.offset)),fun w1 _=>?_,MP f.offset h3 h4 h5 h6 h7⟩
  have hr:=x9 (P:=P) hu hj hi (Dp h0) ad w1
  simp [execOp,h2,hr])
def TypeDesc.js:TypeDesc→Bool
 | .struct _=>true
 | .array _ _=>true
 | _=>false
theorem qp {t:TypeId} {D:TypeDesc} (ht:P.underlying t=some D) (hD:TypeDesc.js D=false) {ad:Addr} {v:Value} {w:World} (hc:w.cell? ad=some v):(loadVar t ad).run P w=.ok v w:=by
 have:(isAgg t).run P w=.ok false w:=by
  simp only [isAgg,Sem.run_bind,run_underlying ht,Result.andThen_ok]
  cases D<;>first | rfl | (simp [TypeDesc.js] at hD)
 simp [loadVar,this,hc]
theorem jR {t:TypeId} {D:TypeDesc} {i:TypeInfo} (ht:P.underlying t=some D) (hD:TypeDesc.js D=true) (hi:P.info? t=some i) {ad:Addr} {vs:List Value} {w:World} (hl:vs.length=i.size)
 (hc:∀ (j:Nat) v,vs[j]? =some v→w.cell? (ad.add j)=some v):(loadVar t ad).run P w=.ok (.agg vs.toArray) w:=by
 have h1:(isAgg t).run P w=.ok true w:=by
  simp only [isAgg,Sem.run_bind,run_underlying ht,Result.andThen_ok]
  cases D<;>first | rfl | (simp [TypeDesc.js] at hD)
 have h2:=run_loadCells_list (P:=P) w ad vs hc
 rw [hl] at h2
 simp [loadVar,h1,sizeOf,typeInfo,hi,h2]
theorem RI {w:World} {m:Nat} {ob:Obj} (h:w.heap[m]? =some ob):m < w.heap.size:=by
 rcases c7 m w.heap.size with h' | h'
 ·exact h'
 ·simp [c8 h'] at h
theorem Ext.at {w w':World} (e:Ext w w') {m:Nat} {ob:Obj} (h:w.heap[m]? =some ob):w'.heap[m]? =some ob:=by rw [e.same m (RI h)];exact h
theorem Ext.cell {w w':World} (e:Ext w w') {m o:Nat} {v:Value} (h:w.cell? ⟨m,o,none⟩=some v):w'.cell? ⟨m,o,none⟩=some v:=by
 rw [cell_of_heap (e.same m (World.block_lt_of_cell? _ _ h))];exact h
theorem uo {w:World} {S:Nat→Prop} {hp:Heap} (r:de w S hp) {b:Bk} {cs:List AV} (f:mh hp b (.cells cs)):(∀ c∈cs,c.one=true)∧∃ m vs E,b.cH=some m∧w.heap[m]? =some (.cells vs E (0,0))∧vs.size=cs.length∧oe w S cs vs:=
 r.holds _ f.mem
theorem nB {w:World} {m:Nat} {vs:Array Value} {E:TypeId} (h:w.heap[m]? =some (.cells vs E (0,0))) (o:Nat):w.cell? ⟨m,o,none⟩=vs[o]?:=cell_of_row w m o vs E (0,0) h
theorem aM {t:TypeId} {D:TypeDesc} {x:Operand} {b:Bk} {o:Nat} {cs:List AV} {av:AV} [aC P t D] (hD:TypeDesc.js D=false) (hx:du tm x=some (.ptr b o)) (f:mh hp b (.cells cs)) (ho:cs[o]? =some av):QV P ⟨some d,.load t x,ty,pos,af,none⟩ ⟨n,tm,hp⟩ (av):=
 (fun w S a r=>by
  obtain ⟨m,h1,h2⟩:=(bl (σ:=⟨n,tm,hp⟩) r hx).sR
  obtain ⟨_,m',vs,E,g1,g2,g3,g4⟩:=uo r.hp f
  obtain rfl:m'=m:=by rw [g1] at h1;exact aa h1
  have eI:o < vs.size:=by rw [g3];exact (ap.1 ho).1
  have hv:vs[o]? =some vs[o]:=by simp [eI]
  refine ⟨vs[o],fun w1 ex=>?_,g4 o av _ ho hv⟩
  have:=qp (P:=P) (aC.h (P:=P) (t:=t)) hD (w:=w1) (ad:=⟨m',o,none⟩) (v:=vs[o]) (by rw [nB (ex.at g2),hv])
  simp [execOp,h2,Instr.loadAt,Instr.sureAddr,this])
theorem aG {t:TypeId} {D:TypeDesc} {i:TypeInfo} {x:Operand} {b:Bk} {cs:List AV} [aC P t D] [a8 P t i] (hD:TypeDesc.js D=true) (hx:du tm x=some (.ptr b 0)) (f:mh hp b (.cells cs)) (ho:ac cs.length i.size=true):QV P ⟨some d,.load t x,ty,pos,af,none⟩ ⟨n,tm,hp⟩ (.agg cs):=
 (fun w S a r=>by
  obtain ⟨m,h1,h2⟩:=(bl (σ:=⟨n,tm,hp⟩) r hx).sR
  obtain ⟨_,m',vs,E,g1,g2,g3,g4⟩:=uo r.hp f
  obtain rfl:m'=m:=by rw [g1] at h1;exact aa h1
  have hlen:vs.toList.length=i.size:=by simp [g3];exact aw ho
  refine ⟨.agg vs,fun w1 ex=>?_,.agg cs vs g3.symm g4⟩
  have:=jR (P:=P) (aC.h (P:=P) (t:=t)) hD (a8.h (P:=P) (t:=t)) (w:=w1) (ad:=⟨m',0,none⟩) (vs:=vs.toList) hlen (fun j v hv=>by rw [nA,nB (ex.at g2)];simpa using hv)
  simp [execOp,h2,Instr.loadAt,Instr.sureAddr,this])
theorem CF {t:TypeId} {D:TypeDesc} {i:TypeInfo} {x:Operand} {b:Bk} {o:Nat} {cs:List AV} [aC P t D] [a8 P t i] (hD:TypeDesc.js D=true) (hx:du tm x=some (.ptr b o)) (f:mh hp b (.cells cs)) (ho:ce (o+i.size) cs.length=true):QV P ⟨some d,.load t x,ty,pos,af,none⟩ ⟨n,tm,hp⟩ (.agg ((cs.drop o).take i.size)):=
 (fun w S a r=>by
  obtain ⟨m,h1,h2⟩:=(bl (σ:=⟨n,tm,hp⟩) r hx).sR
  obtain ⟨_,m',vs,E,g1,g2,g3,g4⟩:=uo r.hp f
  obtain rfl:m'=m:=by rw [g1] at h1;exact aa h1
  have hle:o+i.size≤cs.length:=cf ho
  have hlen:((vs.toList.drop o).take i.size).length=i.size:=by simp [g3];omega
  refine ⟨.agg ((vs.toList.drop o).take i.size).toArray,fun w1 ex=>?_,.agg _ _ (by simp [g3]) (fun j c v hc hv=>?_)⟩
  ·have:=jR (P:=P) (aC.h (P:=P) (t:=t)) hD (a8.h (P:=P) (t:=t)) (w:=w1) (ad:=⟨m',o,none⟩) (vs:=(vs.toList.drop o).take i.size) hlen (fun j v hv=>by
    rw [nA,nB (ex.at g2)]
    simp only [aH,be] at hv
    split at hv
    ·simpa using hv
    ·cases hv)
   simp [execOp,h2,Instr.loadAt,Instr.sureAddr,this]
  ·simp only [bx,aH,be] at hc hv
   split at hv
   ·rename_i eI;rw [if_pos eI] at hc;exact g4 (o+j) c v hc (by simpa using hv)
   ·cases hv)
theorem aS {t:TypeId} {D:TypeDesc} {x:Operand} {cs:List AV} {av:AV} [aC P t D] (hD:TypeDesc.js D=false) (hx:du tm x=some (.ch cs)) (ho:cs[0]? =some av):QV P ⟨some d,.load t x,ty,pos,af,none⟩ ⟨n,tm,hp⟩ (av):=
 (fun w S a r=>by
  obtain ⟨ad,vs,h2,h3,h4,h5,h6,h7⟩:=(bl (σ:=⟨n,tm,hp⟩) r hx).x6
  have eI:0 < vs.length:=by rw [← h3];exact (ap.1 ho).1
  have hv:vs[0]? =some vs[0]:=by simp [eI]
  refine ⟨vs[0],fun w1 ex=>?_,h4 0 av _ ho hv⟩
  have hc:=ex.cell (h7 0 _ hv)
  have he:(⟨ad.block,ad.off+0,none⟩:Addr)=ad:=by cases ad;simp at h5;simp [h5]
  rw [he] at hc
  have:=qp (P:=P) (aC.h (P:=P) (t:=t)) hD hc
  simp [execOp,h2,Instr.loadAt,Instr.sureAddr,this])
theorem aO {t:TypeId} {D:TypeDesc} {i:TypeInfo} {x:Operand} {cs:List AV} [aC P t D] [a8 P t i] (hD:TypeDesc.js D=true) (hx:du tm x=some (.ch cs)) (ho:ac cs.length i.size=true):QV P ⟨some d,.load t x,ty,pos,af,none⟩ ⟨n,tm,hp⟩ (.agg cs):=
 (fun w S a r=>by
  obtain ⟨ad,vs,h2,h3,h4,h5,h6,h7⟩:=(bl (σ:=⟨n,tm,hp⟩) r hx).x6
  refine ⟨.agg vs.toArray,fun w1 ex=>?_,.agg cs _ (by simp [h3]) (fun j c v hc hv=>h4 j c v hc (by simpa using hv))⟩
  have:=jR (P:=P) (aC.h (P:=P) (t:=t)) hD (a8.h (P:=P) (t:=t)) (w:=w1) (ad:=ad) (vs:=vs) (by rw [← h3];exact aw ho) (fun j v hv=>by
   obtain ⟨bk,of,sp⟩:=ad
   simp only at h5;subst h5
   rw [nA];exact ex.cell (h7 j v hv))
  simp [execOp,h2,Instr.loadAt,Instr.sureAddr,this])
theorem BB {t:TypeId} {D:TypeDesc} {i:TypeInfo} {x:Operand} {cs:List AV} [aC P t D] [a8 P t i] (hD:TypeDesc.js D=true) (hx:du tm x=some (.ch cs)) (ho:ce i.size cs.length=true):QV P ⟨some d,.load t x,ty,pos,af,none⟩ ⟨n,tm,hp⟩ (.agg (cs.take i.size)):=
 (fun w S a r=>by
  obtain ⟨ad,vs,h2,h3,h4,h5,h6,h7⟩:=(bl (σ:=⟨n,tm,hp⟩) r hx).x6
  have hle:i.size≤cs.length:=cf ho
  have tk:∀ {α:Type} (l:List α) (k j:Nat) (y:α),(l.take k)[j]? =some y→l[j]? =some y:=by
   intro α l k j y h
   rw [aH] at h
   split at h
   ·exact h
   ·cases h
  refine ⟨.agg (vs.take i.size).toArray,fun w1 ex=>?_,.agg _ _ (by simp [h3]) (fun j c v hc hv=>h4 j c v (tk _ _ _ _ hc) (tk _ _ _ _ (by simpa using hv)))⟩
  have:=jR (P:=P) (aC.h (P:=P) (t:=t)) hD (a8.h (P:=P) (t:=t)) (w:=w1) (ad:=ad) (vs:=vs.take i.size) (by simp;omega) (fun j v hv=>by
   obtain ⟨bk,of,sp⟩:=ad
   simp only at h5;subst h5
   rw [nA];exact ex.cell (h7 j v (tk _ _ _ _ hv)))
  simp [execOp,h2,Instr.loadAt,Instr.sureAddr,this])
def pJ (cs:List AV) (o:Nat) (new:List AV):List AV:=cs.take o++new++cs.drop (o+new.length)
theorem Dq {w:World} {S:Nat→Prop} {cs new:List AV} {vs tO:Array Value} (o:Nat) (hl:vs.size=cs.length) (h:oe w S cs vs) (FC:new.length=tO.size) (h':oe w S new tO) (ho:o+new.length≤cs.length):
 oe w S (pJ cs o new) (vs.toList.take o++tO.toList++vs.toList.drop (o+tO.toList.length)).toArray:=by
 intro i c v hc hv
 simp only [pJ,bx] at hc hv
 have l1:(cs.take o).length=o:=by simp;omega
 have l2:(vs.toList.take o).length=o:=by simp;omega
 have l3:tO.toList.length=new.length:=by simp [FC]
 rw [bz] at hc hv
 by_cases h1:i < o
 ·rw [bX (by omega)] at hc hv
  rw [aH,if_pos h1] at hc hv
  exact h i c v hc (by simpa using hv)
 ·rw [b9 (by omega)] at hc hv
  rw [l1] at hc
  rw [l2] at hv
  by_cases h2:i - o < new.length
  ·rw [bX (by omega)] at hc hv
   exact h' (i - o) c v hc (by simpa using hv)
  ·rw [b9 (by omega)] at hc hv
   rw [l3] at hv
   rw [be] at hc hv
   rw [show o+new.length+(i - o - new.length)=i from by omega] at hc
   rw [show o+new.length+(i - o - new.length)=i from by omega] at hv
   exact h i c v hc (by simpa using hv)
theorem H6 {t:TypeId} {i:TypeInfo} {x y:Operand} {b:Bk} {o:Nat} {cs:List AV} {av:AV} {cQ:Heap} [a8 P t i] (hx:du tm x=some (.ptr b o)) (hy:du tm y=some av) (h1:ke av.cells=true) (jc:ac av.cells.length i.size=true)
 (u:mF hp b (.cells cs) b (.cells (pJ cs o av.cells)) cQ) (ho:ce (o+av.cells.length) cs.length=true) (kk:ae P all rest ⟨n,tm,cQ⟩ Q):ae P all (⟨none,.store t x y,ty,pos,af,none⟩ :: rest) ⟨n,tm,hp⟩ Q:=by
 refine ae.act rfl rfl (aJ:=⟨n,tm,cQ⟩) (fun w S a r=>?_) kk
 obtain ⟨m,e1,e2⟩:=(bl (σ:=⟨n,tm,hp⟩) r hx).sR
 obtain ⟨g0,m',vs,E,g1,g2,g3,g4⟩:=uo r.hp u.qN
 obtain rfl:m'=m:=by rw [g1] at e1;exact aa e1
 have hv:=bl (σ:=⟨n,tm,hp⟩) r hy
 obtain ⟨hl,qo⟩:=vY hv (eo h1)
 have hle:o+av.cells.length≤cs.length:=cf ho
 have u6:=x8 hl qo (eo h1)
 have Ca:=run_storeCells_at (P:=P) m' o E (a.eval y).cells.toList 0 vs w g2 (by simp;omega) u6
 simp only [ci] at Ca
 have OA:(a.eval y).cells.size=i.size:=by rw [← hl];exact aw jc
 have Xv:=fun (w':World) (ha:oe w' S cs vs) (hb:oe w' S av.cells (a.eval y).cells)=>Dq o g3 ha hl hb hle
 have Ud:(vs.toList.take o++(a.eval y).cells.toList++vs.toList.drop (o+(a.eval y).cells.toList.length)).toArray.size=(pJ cs o av.cells).length:=by
  simp [pJ];omega
 generalize (vs.toList.take o++(a.eval y).cells.toList++vs.toList.drop (o+(a.eval y).cells.toList.length)).toArray=Cb at Ca Xv Ud
 have c:GB w (w.setRow m' Cb) b.cH:=⟨⟨rfl,rfl,rfl,by simp,fun k hk Aq=>setRow_other w m' k _ (fun e=>Aq (by rw [e1,e]))⟩,fun _=>ag _⟩
 have k1:∀ n,S n→S n∧(w.setRow m' Cb).heap[n]? =w.heap[n]?:=by
  intro k hk
  refine ⟨hk,setRow_other w m' k _ (fun e=>?_)⟩
  subst e
  exact (r.hp.sep _ u.qN.mem k (fF e1)).1 hk
 have hh:=sS r.hp u c id id ⟨?_,m',Cb,E,e1,setRow_heap w m' vs _ E _ g2,Ud,Xv _ (g4.mono k1) (qo.mono k1)⟩ (.inl rfl)
 ·refine ⟨w.setRow m' Cb,S,?_,r.heap hh.2.2 hh.1,hh.2.1⟩
  simp [execOp,e2,Instr.storeAt,Instr.sureAddr,storeVar,sizeOf,typeInfo,a8.h (P:=P) (t:=t),OA,Ca]
 ·intro c hc
  simp only [pJ,a7] at hc
  rcases hc with (hc | hc) | hc
  ·exact g0 c (cJ hc)
  ·exact eo h1 c hc
  ·exact g0 c (cm hc)
end rules
def OB (xs:List AV) (i:Int):Option AV:=if 0≤i then xs[i.toNat]? else none
theorem MQ {xs:List AV} {i:Int} {x:AV} (h:OB xs i=some x):0≤i∧i < xs.length∧xs[i.toNat]? =some x:=by
 unfold OB at h
 split at h
 ·rename_i h0
  have:=(ap.1 h).1
  exact ⟨h0,by omega,h⟩
 ·cases h
theorem Cc {P:Program} {t e:TypeId} {i:TypeInfo} (ht:P.underlying t=some (.slice e)) (hi:P.info? e=some i) (ad:Addr) (len cap:Nat) (k:IntKind) (j:Int) (h0:0≤j) (h1:j < len) (w:World):
 (Instr.indexAt t (.slice (some ad) len cap) (.int k j)).run P w=.ok (.pointer (some (ad.add (j.toNat * i.size)))) w:=by
 simp [Instr.indexAt,asIntOf,run_underlying ht,h0,h1,sizeOf,typeInfo,hi]
section rules
variable {P:Program} {all:Array Oper} {rest:List Oper} {n:Nat} {tm:List (Nat×AV)} {hp:Heap} {Q:St→Prop} {d:Nat} {ty:TypeId} {pos:String} {af:Array Edge}
theorem GH {t e:TypeId} {i:TypeInfo} {x y:Operand} {xs:List AV} {k:IntKind} {j:Int} {av:AV} {sz:Nat} [aC P t (.slice e)] [a8 P e i] (hx:du tm x=some (.list sz xs)) (jc:ac i.size sz=true) (hy:du tm y=some (.int k j))
 (hg:OB xs j=some av) (h0:ai 0 sz=true):QV P ⟨some d,.indexAddr t x y,ty,pos,af,none⟩ ⟨n,tm,hp⟩ (.ch av.cells):=
 (fun w S a r=>by
  obtain rfl:i.size=sz:=aw jc
  obtain ⟨g0,g1,g2⟩:=MQ hg
  obtain ⟨oa,cap,vs,e1,e2,e3,e4,e5,e6⟩:=(bl (σ:=⟨n,tm,hp⟩) r hx).x5
  have tI:0 < i.size:=by simpa using h0
  have pM:av∈xs:=b6 g2
  have FD:=cT e2
  have zw:j.toNat < xs.length:=by omega
  have hmul:(j.toNat+1) * i.size≤xs.length * i.size:=bO _ (by omega)
  rw [al,bW] at hmul
  have hb:j.toNat * i.size < vs.length:=by rw [← e3,FD];omega
  obtain ⟨ad,rfl,Ot,hS,_⟩:=e5 (j.toNat * i.size) _ (List.getElem?_eq_getElem hb)
  obtain ⟨bk,of,sp⟩:=ad
  simp only at Ot hS
  subst Ot
  refine ⟨.pointer (some ⟨bk,of+j.toNat * i.size,none⟩),fun w1 _=>?_,.ch _ _ ((vs.drop (j.toNat * i.size)).take i.size) ?_ ?_ rfl hS ?_⟩
  ·have:=Cc (P:=P) (aC.h (P:=P) (t:=t)) (a8.h (P:=P) (t:=e)) ⟨bk,of,none⟩ xs.length cap k j g0 g1 w1
   rw [nA] at this
   simp [execOp,e1,(bl (σ:=⟨n,tm,hp⟩) r hy).eE,this]
  ·rw [(e2 av pM).1];simp;omega
  ·intro q c u hc hu
   have hq:q < i.size:=by rw [← (e2 av pM).1];exact (ap.1 hc).1
   have hf:=pL e2 g2 q hq
   rw [hc] at hf
   rw [aH,if_pos hq,be] at hu
   exact e4 _ c u hf hu
  ·intro q u hu
   rw [aH] at hu
   split at hu
   ·rw [be] at hu
    obtain ⟨ad',h1,h2,h3,h4⟩:=e5 _ u hu
    obtain rfl:=aa h1
    simpa [cA] using h4
   ·cases hu)
theorem Kr {t e:TypeId} {i:TypeInfo} {x y:Operand} {k:IntKind} {j:Int} {sz off len:Nat} {b:Bk} [aC P t (.slice e)] [a8 P e i] (hx:du tm x=some (.sl sz b off len)) (jc:ac i.size sz=true) (hy:du tm y=some (.int k j))
 (h0:0≤j∧j < (len:Int)):QV P ⟨some d,.indexAddr t x y,ty,pos,af,none⟩ ⟨n,tm,hp⟩ (.tg sz b (off+j.toNat) 0):=
 (fun w S a r=>by
  obtain rfl:i.size=sz:=aw jc
  obtain ⟨oa,cap,e1,e2⟩:=(bl (σ:=⟨n,tm,hp⟩) r hx).uz
  rcases e2 with ⟨_,_,hl,_⟩ | ⟨m,hb,rfl,h1,h2⟩ | ⟨m,ad,hb,_,hl,_⟩
  ·omega
  ·refine ⟨.pointer (some ⟨m,(off+j.toNat) * i.size+0,none⟩),fun w1 _=>?_,.tg _ _ _ _ m hb⟩
   have:=Cc (P:=P) (aC.h (P:=P) (t:=t)) (a8.h (P:=P) (t:=e)) ⟨m,off * i.size,none⟩ len cap k j h0.1 h0.2 w1
   rw [nA,← al] at this
   simp [execOp,e1,(bl (σ:=⟨n,tm,hp⟩) r hy).eE,this]
  ·omega)
theorem qO {w:World} {S:Nat→Prop} {hp:Heap} (r:de w S hp) {b:Bk} {sz:Nat} {xs:List AV} (f:mh hp b (.arr sz xs)∨mh hp b (.Bw sz xs)):(∀ x∈xs,El sz x)∧xs.length≤b.cap∧
 ((b.cH=none∧b.cap=0)∨∃ m vs E,b.cH=some m∧w.heap[m]? =some (.cells vs E (0,0))∧vs.size=b.cap * sz∧oe w S (flat xs) vs):=by
 rcases f with f | f<;>exact r.holds _ f.mem
theorem H7 {t:TypeId} {D:TypeDesc} {x:Operand} {b:Bk} {sz q o:Nat} {xs:List AV} {el av:AV} [aC P t D] (hD:TypeDesc.js D=false) (hx:du tm x=some (.tg sz b q o)) (f:mh hp b (.arr sz xs)∨mh hp b (.Bw sz xs))
 (hq:xs[q]? =some el) (ho:el.cells[o]? =some av):QV P ⟨some d,.load t x,ty,pos,af,none⟩ ⟨n,tm,hp⟩ (av):=
 (fun w S a r=>by
  obtain ⟨m,h1,h2⟩:=(bl (σ:=⟨n,tm,hp⟩) r hx).vW
  obtain ⟨g0,g1,⟨g2,_⟩ | ⟨m',vs,E,g2,g3,g4,g5⟩⟩:=qO r.hp f
  ·rw [g2] at h1;cases h1
  ·obtain rfl:m'=m:=by rw [g2] at h1;exact aa h1
   have xv:=g0 el (b6 hq)
   have hos:o < sz:=by rw [← xv.1];exact (ap.1 ho).1
   have hqx:q < xs.length:=(ap.1 hq).1
   have hf:=pL g0 hq o hos
   rw [ho] at hf
   have hmul:(q+1) * sz≤b.cap * sz:=bO _ (by omega)
   rw [al,bW] at hmul
   have eI:q * sz+o < vs.size:=by omega
   have hv:vs[q * sz+o]? =some vs[q * sz+o]:=by simp [eI]
   refine ⟨vs[q * sz+o],fun w1 ex=>?_,g5 _ av _ hf hv⟩
   have:=qp (P:=P) (aC.h (P:=P) (t:=t)) hD (w:=w1) (ad:=⟨m',q * sz+o,none⟩) (v:=vs[q * sz+o]) (by rw [nB (ex.at g3),hv])
   simp [execOp,h2,Instr.loadAt,Instr.sureAddr,this])
theorem CG {t:TypeId} {D:TypeDesc} {i:TypeInfo} {x:Operand} {b:Bk} {sz q:Nat} {xs cs:List AV} [aC P t D] [a8 P t i] (hD:TypeDesc.js D=true) (hx:du tm x=some (.tg sz b q 0)) (f:mh hp b (.arr sz xs)∨mh hp b (.Bw sz xs)) (jc:ac i.size sz=true)
 (hq:xs[q]? =some (.agg cs)):QV P ⟨some d,.load t x,ty,pos,af,none⟩ ⟨n,tm,hp⟩ (.agg cs):=
 (fun w S a r=>by
  obtain ⟨m,h1,h2⟩:=(bl (σ:=⟨n,tm,hp⟩) r hx).vW
  obtain ⟨g0,g1,⟨g2,_⟩ | ⟨m',vs,E,g2,g3,g4,g5⟩⟩:=qO r.hp f
  ·rw [g2] at h1;cases h1
  ·obtain rfl:m'=m:=by rw [g2] at h1;exact aa h1
   have xv:=g0 (.agg cs) (b6 hq)
   have zy:cs.length=sz:=xv.1
   have hi:i.size=sz:=aw jc
   have hqx:q < xs.length:=(ap.1 hq).1
   have hmul:(q+1) * sz≤b.cap * sz:=bO _ (by omega)
   rw [al,bW] at hmul
   have hlen:((vs.toList.drop (q * sz)).take sz).length=i.size:=by simp;omega
   refine ⟨.agg ((vs.toList.drop (q * sz)).take sz).toArray,fun w1 ex=>?_,.agg _ _ (by simp;omega) (fun j c v hc hv=>?_)⟩
   ·have:=jR (P:=P) (aC.h (P:=P) (t:=t)) hD (a8.h (P:=P) (t:=t)) (w:=w1) (ad:=⟨m',q * sz+0,none⟩) (vs:=(vs.toList.drop (q * sz)).take sz) hlen (fun j v hv=>by
     rw [nA,nB (ex.at g3)]
     simp only [aH,be] at hv
     split at hv
     ·simpa using hv
     ·cases hv)
    simp only [ci] at this
    simp [execOp,h2,Instr.loadAt,Instr.sureAddr,this]
   ·simp only [bx,aH,be] at hv
    split at hv
    ·rename_i eI
     have hf:=pL g0 hq j eI
     rw [show (AV.agg cs).cells=cs from rfl,hc] at hf
     exact g5 _ c v hf (by simpa using hv)
    ·cases hv)
theorem H8 (off:Nat):∀ (l:List Value) (j:Nat) (cs:Array Value),off+j+l.length≤cs.size→
 (l.zipIdx j).foldl (fun (cs:Array Value) (p:Value×Nat)=>cs.setIfInBounds (off+p.2) p.1) cs=(cs.toList.take (off+j)++l++cs.toList.drop (off+j+l.length)).toArray
 | [],j,cs,h=>by simp
 | v :: l,j,cs,h=>by
   simp only [cy] at h
   rw [List.zipIdx_cons,List.foldl_cons,H8 off l (j+1) _ (by simp;omega)]
   have eI:off+j < cs.size:=by omega
   apply Array.ext'
   simp only [Array.toList_setIfInBounds]
   rw [show off+(j+1)=(off+j)+1 from by omega]
   rw [List.take_add_one,List.take_set_of_le (ag _),List.drop_set_of_lt (by omega)]
   simp [eI,bz]
   rw [show off+j+1+l.length=off+j+(l.length+1) from by omega]
theorem FE {place:Nat→Option (Nat×Nat)} {cells:Array Value} {i off size:Nat} {v:Value} {rest:List (Nat×Value)} (hp:place i=some (off,size)) (hs:v.cells.size=size) (ho:off+size≤cells.size):
 Instr.fill place cells ((i,v) :: rest)=Instr.fill place (cells.toList.take off++v.cells.toList++cells.toList.drop (off+v.cells.toList.length)).toArray rest:=by
 rw [Instr.fill,hp]
 simp only
 rw [if_neg (by simp [hs];omega)]
 congr 1
 have:=H8 off v.cells.toList 0 cells (by simp [hs];omega)
 simp only [ci] at this
 rw [← this,← Array.toList_zipIdx,Array.foldl_toList]
def FF (pl:List (Nat×Nat)):List AV→List (Nat×AV)→Option (List AV)
 | cells,[]=>some cells
 | cells,(i,v) :: rest=>match pl[i]? with
   | none=>none
   | some (off,size)=>match ac v.cells.length size&&ce (off+v.cells.length) cells.length&&ke v.cells with
     | true=>FF pl (pJ cells off v.cells) rest
     | false=>none
def WE (tm:List (Nat×AV)):List (Nat×Operand)→Option (List (Nat×AV))
 | []=>some []
 | (i,x) :: r=>match du tm x,WE tm r with
   | some a,some l=>some ((i,a) :: l)
   | _,_=>none
theorem FG {w:World} {S:Nat→Prop} {σ:St} {a:Act} (r:eU w S σ a) (pl:List (Nat×Nat)):∀ (parts:List (Nat×Operand)) (l:List (Nat×AV)) (cells zO:List AV) (vs:Array Value),WE σ.tm parts=some l→FF pl cells l=some zO→
 cells.length=vs.size→oe w S cells vs→(∀ c∈cells,c.one=true)→∃ Cb,Instr.fill (pl.toArray[·]?) vs (parts.map fun p=>(p.1,a.eval p.2))=some Cb∧zO.length=Cb.size∧oe w S zO Cb∧∀ c∈zO,c.one=true
 | [],l,cells,zO,vs,h1,h2,h3,h4,h5=>by
   simp only [WE,bp] at h1
   subst h1
   simp only [FF,bp] at h2
   subst h2
   exact ⟨vs,rfl,h3,h4,h5⟩
 | (i,x) :: parts,l,cells,zO,vs,h1,h2,h3,h4,h5=>by
   simp only [WE] at h1
   split at h1
   ·rename_i av l' ha hl
    obtain rfl:=aa h1
    simp only [FF] at h2
    split at h2
    ·cases h2
    ·rename_i off size UU
     split at h2
     ·rename_i hc
      simp only [b5] at hc
      obtain ⟨⟨c1,c2⟩,c3⟩:=hc
      have c1:=aw c1
      have c2:=cf c2
      obtain ⟨hl1,UW⟩:=vY (bl r ha) (eo c3)
      have Ot:=Dq off h3.symm h4 hl1 UW c2
      obtain ⟨Cb,g1,g2,g3,g4⟩:=FG r pl parts l' (pJ cells off av.cells) zO _ hl h2 (by simp [pJ];omega) Ot (by
       intro c hc
       simp only [pJ,a7] at hc
       rcases hc with (hc | hc) | hc
       ·exact h5 c (cJ hc)
       ·exact eo c3 c hc
       ·exact h5 c (cm hc))
      refine ⟨Cb,?_,g2,g3,g4⟩
      rw [db,FE (off:=off) (size:=size) (by simpa using UU) (by rw [← hl1];exact c1) (by omega)]
      exact g1
     ·cases h2
   ·cases h1
def placesOf (P:Program):List Field→Option (List (Nat×Nat))
 | []=>some []
 | f :: r=>match P.info? f.type,placesOf P r with
   | some i,some l=>some ((f.offset,i.size) :: l)
   | _,_=>none
theorem run_places {P:Program}:∀ (fs:List Field) (pl:List (Nat×Nat)) (w:World),placesOf P fs=some pl→(fs.mapM (fun f=>do pure (f.offset,← sizeOf f.type)):Sem (List (Nat×Nat))).run P w=.ok pl w
 | [],pl,w,h=>by simp [placesOf] at h;subst h;simp
 | f :: fs,pl,w,h=>by
   simp only [placesOf] at h
   split at h
   ·rename_i i l hi hl
    obtain rfl:=aa h
    have ih:=run_places fs l w hl
    simp only [List.mapM_cons,Sem.run_bind,sizeOf,typeInfo,hi,run_program,Result.andThen_ok,Sem.run_pure] at ih ⊢
    rw [ih]
    simp
   ·cases h
class lJ (P:Program) (t:TypeId) (pl:outParam (List (Nat×Nat))):Prop where
 h:∃ fs,P.underlying t=some (.struct fs)∧placesOf P fs.toList=some pl
theorem RJ {t:TypeId} {i:TypeInfo} {z:Value} {parts:List (Nat×Operand)} {l:List (Nat×AV)} {cs:List AV} {pl:List (Nat×Nat)} [a8 P t i] [lJ P t pl] (hz:i.zero=some z) (hl:WE tm parts=some l) (h1:ke (As z).cells=true)
 (hc:FF pl (As z).cells l=some cs):QV P ⟨some d,.build t parts.toArray,ty,pos,af,none⟩ ⟨n,tm,hp⟩ (.agg cs):=
 (fun w S a r=>by
  obtain ⟨z1,z2⟩:=rl w S z (eo h1)
  obtain ⟨vs,g1,g2,g3,g4⟩:=FG (σ:=⟨n,tm,hp⟩) r pl parts l _ _ _ hl hc z1 z2 (eo h1)
  refine ⟨.agg vs,fun w1 _=>?_,.agg _ _ g2 g3⟩
  obtain ⟨fs,hu,UU⟩:=lJ.h (P:=P) (t:=t)
  have Ze:=run_places fs.toList pl w1 UU
  have Xw:(fs.mapM (fun f=>do pure (f.offset,← sizeOf f.type)):Sem (Array (Nat×Nat))).run P w1=.ok pl.toArray w1:=by
   have:(fs.mapM (fun f=>do pure (f.offset,← sizeOf f.type)):Sem (Array (Nat×Nat)))=Functor.map List.toArray (fs.toList.mapM (fun f=>do pure (f.offset,← sizeOf f.type))):=by
    rw [← List.mapM_toArray]
   rw [this,Sem.run_map,Ze]
   rfl
  simp only [execOp,Instr.build,Sem.run_bind,zeroValue,typeInfo,run_program,Result.andThen_ok,a8.h (P:=P) (t:=t),hz,Sem.run_pure,run_underlying hu,Xw]
  have:((parts.toArray.map fun p=>(p.1,a.eval p.2))).toList=parts.map fun p=>(p.1,a.eval p.2):=by simp
  simp only [this,g1,Sem.run_pure,Result.andThen_ok])
end rules
def RL (sz:Nat) (x:AV):Bool:=ac x.cells.length sz&&ke x.cells
def Az (sz:Nat):List AV→Bool
 | []=>true
 | x :: r=>RL sz x&&Az sz r
theorem ya {sz:Nat} {x:AV} (h:RL sz x=true):El sz x:=by
 simp only [RL,b5] at h
 exact ⟨aw h.1,eo h.2⟩
theorem qA {sz:Nat}:∀ {xs:List AV},Az sz xs=true→∀ x∈xs,El sz x
 | [],_,x,hx=>by simp at hx
 | y :: r,h,x,hx=>by
   simp only [Az,b5] at h
   rcases bv.1 hx with rfl | hx
   ·exact ya h.1
   ·exact qA h.2 x hx
def Oe (tm:List (Nat×AV)):List (Nat×Operand)→Nat→Option (List AV)
 | [],_=>some []
 | (i,x) :: r,k=>match ac i k,du tm x,Oe tm r (k+1) with
   | true,some a,some l=>some (a :: l)
   | _,_,_=>none
theorem yb {w:World} {S:Nat→Prop} {cs ds:List AV} {us vs:List Value} (hl:cs.length=us.length) (h1:oe w S cs us.toArray) (h2:oe w S ds vs.toArray):oe w S (cs++ds) (us++vs).toArray:=by
 intro i c v hc hv
 simp only [bx] at hv
 by_cases hi:i < cs.length
 ·rw [bX hi] at hc
  rw [bX (by omega)] at hv
  exact h1 i c v hc (by simpa using hv)
 ·rw [b9 (by omega)] at hc
  rw [b9 (by omega),← hl] at hv
  exact h2 _ c v hc (by simpa using hv)
theorem Dr {w:World} {S:Nat→Prop} {σ:St} {a:Act} (r:eU w S σ a) (size:Nat):∀ (parts:List (Nat×Operand)) (k:Nat) (xs:List AV) (cells:Array Value),Oe σ.tm parts k=some xs→(∀ x∈xs,El size x)→cells.size=(k+parts.length) * size→
 ∃ vs:List Value,Instr.fill (fun i=>some (i * size,size)) cells (parts.map fun p=>(p.1,a.eval p.2))=some (cells.toList.take (k * size)++vs).toArray∧vs.length=xs.length * size∧xs.length=parts.length∧oe w S (flat xs) vs.toArray
 | [],k,xs,cells,h1,h2,h3=>by
   simp only [Oe,bp] at h1
   subst h1
   refine ⟨[],?_,by simp,rfl,fun i c v hc=>by simp [flat] at hc⟩
   simp only [cn,ci] at h3
   simp only [Instr.fill,List.map_nil,← h3,bp,cz]
   rw [dg (by simp)]
 | (i,x) :: parts,k,xs,cells,h1,h2,h3=>by
   simp only [Oe] at h1
   split at h1
   ·rename_i av l hi ha hl
    obtain rfl:i=k:=aw hi
    obtain rfl:=aa h1
    have xv:=h2 av (by simp)
    obtain ⟨c1,c2⟩:=vY (bl r ha) xv.2
    simp only [cy] at h3
    have jc:(a.eval x).cells.size=size:=by rw [← c1];exact xv.1
    have e1:(i+(parts.length+1)) * size=i * size+size+parts.length * size:=by rw [al,al,bW];omega
    have hle:i * size+size≤cells.size:=by rw [h3,e1];omega
    obtain ⟨vs,g1,g2,g3,g4⟩:=Dr r size parts (i+1) l (cells.toList.take (i * size)++(a.eval x).cells.toList++cells.toList.drop (i * size+(a.eval x).cells.toList.length)).toArray hl (fun y hy=>h2 y (by simp [hy])) (by
     simp [jc];rw [show i+1+parts.length=i+(parts.length+1) from by omega,e1];omega)
    refine ⟨(a.eval x).cells.toList++vs,?_,?_,by simp [g3],?_⟩
    ·rw [db,FE (off:=i * size) (size:=size) rfl jc hle,g1]
     congr 2
     have l1:(cells.toList.take (i * size)).length=i * size:=by simp;omega
     have l2:(a.eval x).cells.toList.length=size:=by simp [jc]
     rw [← bz]
     congr 1
     rw [show (i+1) * size=(cells.toList.take (i * size)++(a.eval x).cells.toList).length from by rw [b8,l1,l2,al,bW]]
     exact List.take_left
    ·simp [g2,jc,al];omega
    ·rw [kI]
     exact yb (by simpa using c1) (by simpa using c2) g4
   ·cases h1
section rules
variable {P:Program} {all:Array Oper} {rest:List Oper} {n:Nat} {tm:List (Nat×AV)} {hp:Heap} {Q:St→Prop} {d:Nat} {ty:TypeId} {pos:String} {af:Array Edge}
theorem oS {P:Program} (w:World) (E:TypeId) (vs:Array Value):(newRow E vs).run P w=.ok ⟨w.heap.size,0,none⟩ (w.alloc (.cells vs E)):=by simp [newRow]
theorem AA {t e:TypeId} {i:TypeInfo} {z:Value} {len:Nat} {parts:List (Nat×Operand)} {xs:List AV} [aC P t (.slice e)] [a8 P e i] (hz:i.zero=some z) (hl:Oe tm parts 0=some xs) (hlen:ac parts.length len=true) (xv:Az i.size xs=true)
 (OC:ce (len * i.size) 16777216=true) (hn:ai d n=true) (kk:∀ b:Bk,ae P all rest ⟨n,(d,.sl i.size b 0 len) :: tm,(b,.arr i.size xs) :: hp⟩ Q):ae P all (⟨some d,.buildSlice t len parts.toArray,ty,pos,af,none⟩ :: rest) ⟨n,tm,hp⟩ Q:=by
 refine ae.HY rfl fun w S a r=>?_
 obtain rfl:parts.length=len:=aw hlen
 have OC:=cf OC
 obtain ⟨zz,RM⟩:∃ zz:Array Value,zz=if parts.length * i.size=0 then #[] else z.cells:=⟨_,rfl⟩
 obtain ⟨vs,g1,g2,g3,g4⟩:=Dr (σ:=⟨n,tm,hp⟩) r i.size parts 0 xs ((Array.range (parts.length * i.size)).map (zz[· % zz.size]!)) hl (qA xv) (by simp)
 simp only [dk,List.take_zero,List.nil_append] at g1
 have e0:=Ext.alloc w (.cells vs.toArray e)
 have hh:Holds (w.alloc (.cells vs.toArray e)) S ⟨some w.heap.size,parts.length⟩ (.arr i.size xs):=by
  refine ⟨qA xv,by simp [g3],.inr ⟨w.heap.size,vs.toArray,e,rfl,?_,by simp [g2,g3],g4.mono fun m hm=>⟨hm,e0.same m (r.hp.slt m hm)⟩⟩⟩
  show (w.heap.push _)[w.heap.size]? =_
  simp
 obtain ⟨k1,k2,k3⟩:=pg r.hp e0 id hh (.inr ⟨_,rfl,ag _⟩)
 refine ⟨.slice (some ⟨w.heap.size,0,none⟩) parts.length parts.length,w.alloc (.cells vs.toArray e),S,_,?_,(r.heap k3 k1).put hn ?_,k2,kk ⟨some w.heap.size,parts.length⟩⟩
 ·have hm:((parts.toArray.map fun p=>(p.1,a.eval p.2))).toList=parts.map fun p=>(p.1,a.eval p.2):=by simp
  simp only [execOp,Instr.buildSlice,Sem.run_bind,run_underlying (aC.h (P:=P) (t:=t)),Result.andThen_ok,sizeOf,typeInfo,run_program,a8.h (P:=P) (t:=e),Sem.run_pure]
  rw [if_neg (by omega)]
  by_cases h0:parts.length * i.size=0
  ·rw [if_pos h0] at RM ⊢
   subst RM
   simp only [Sem.run_bind,Result.andThen_ok,Sem.run_pure,hm,g1,oS]
  ·rw [if_neg h0] at RM ⊢
   subst RM
   simp only [Sem.run_bind,Result.andThen_ok,Sem.run_pure,zeroValue,typeInfo,run_program,a8.h (P:=P) (t:=e),hz,hm,g1,oS]
 ·have:=At.sl (w:=w.alloc (.cells vs.toArray e)) (S:=S) i.size ⟨some w.heap.size,parts.length⟩ 0 parts.length w.heap.size parts.length rfl (ag _) (by simp)
  simpa using this
def RN (w:World) (S:Nat→Prop) (sz:Nat) (ys:List AV) (v:Value):Prop:=
 (∀ y∈ys,El sz y)∧∃ (a:Option Addr) (c:Nat) (tO:List Value),v=.slice a ys.length c∧tO.length=ys.length * sz∧oe w S (flat ys) tO.toArray∧∀ (i:Nat) u,tO[i]? =some u→∃ ad,a=some ad∧w.cell? (ad.add i)=some u
inductive Src (hp:Heap) (sz:Nat):AV→List AV→Prop
 | nil:Src hp sz .nil []
 | list (ys:List AV):Src hp sz (.list sz ys) ys
 | whole (b:Bk) (len:Nat) (xs:List AV) (f:mh hp b (.arr sz xs)∨mh hp b (.Bw sz xs)) (h:len=xs.length):Src hp sz (.sl sz b 0 len) xs
 | part (b:Bk) (off len:Nat) (xs:List AV) (f:mh hp b (.arr sz xs)∨mh hp b (.Bw sz xs)) (h:off+len≤xs.length):Src hp sz (.sl sz b off len) ((xs.drop off).take len)
theorem vZ {sz:Nat}:∀ (xs:List AV) (k:Nat),(∀ x∈xs,El sz x)→flat (xs.drop k)=(flat xs).drop (k * sz)
 | xs,0,_=>by simp
 | [],k+1,_=>by simp [flat]
 | x :: xs,k+1,h=>by
   rw [List.drop_succ_cons,vZ xs k (fun y hy=>h y (by simp [hy])),kI,al,bW,dl (k * sz),← List.drop_drop]
   rw [List.drop_left' ((h x (by simp)).1)]
theorem wa {sz:Nat}:∀ (xs:List AV) (k:Nat),(∀ x∈xs,El sz x)→flat (xs.take k)=(flat xs).take (k * sz)
 | xs,0,_=>by simp [flat]
 | [],k+1,_=>by simp [flat]
 | x :: xs,k+1,h=>by
   rw [List.take_succ_cons,kI,wa xs k (fun y hy=>h y (by simp [hy])),kI,al,bW,dl (k * sz)]
   have hx:=(h x (by simp)).1
   rw [List.take_append,dg (l:=x.cells) (by omega),hx,Nat.add_sub_cancel_left]
theorem FH {w:World} {S:Nat→Prop} {hp:Heap} (r:de w S hp) {b:Bk} {sz off len:Nat} {xs:List AV} {v:Value} (f:mh hp b (.arr sz xs)∨mh hp b (.Bw sz xs)) (hle:off+len≤xs.length) (h:At w S (.sl sz b off len) v):
 RN w S sz ((xs.drop off).take len) v:=by
 obtain ⟨g0,g1,g2⟩:=qO r f
 have lK:∀ y∈(xs.drop off).take len,El sz y:=fun y hy=>g0 y (cm (cJ hy))
 have hlen:((xs.drop off).take len).length=len:=by simp;omega
 obtain ⟨oa,cap,e1,e2⟩:=h.uz
 refine ⟨lK,?_⟩
 rw [hlen,e1]
 rcases e2 with ⟨_,_,hl,ha,hc⟩ | ⟨m,hb,ha,h1,h2⟩ | ⟨m,ad,hb,ha,hl,hc⟩
 ·subst hl
  exact ⟨oa,cap,[],rfl,by simp,fun i c v hc hv=>by simp at hv,fun i u hu=>by simp at hu⟩
 ·rcases g2 with ⟨g2,_⟩ | ⟨m',vs,E,g2,g3,g4,g5⟩
  ·rw [g2] at hb;cases hb
  ·obtain rfl:m'=m:=by rw [g2] at hb;exact aa hb
   subst ha
   have C6:(off+len) * sz≤b.cap * sz:=bO _ (by omega)
   rw [al] at C6
   refine ⟨_,cap,(vs.toList.drop (off * sz)).take (len * sz),rfl,by simp;omega,?_,?_⟩
   ·rw [wa _ _ (fun y hy=>g0 y (cm hy)),vZ _ _ g0]
    intro i c v hc hv
    simp only [bx,aH,be] at hc hv
    split at hv
    ·rename_i eI
     rw [if_pos eI] at hc
     exact g5 _ c v hc (by simpa using hv)
    ·cases hv
   ·intro i u hu
    refine ⟨_,rfl,?_⟩
    rw [nA,nB g3]
    simp only [aH,be] at hu
    split at hu
    ·simpa using hu
    ·cases hu
 ·subst hl
  exact ⟨oa,cap,[],rfl,by simp,fun i c v hc hv=>by simp at hv,fun i u hu=>by simp at hu⟩
theorem Src.at {w:World} {S:Nat→Prop} {hp:Heap} {sz:Nat} {av:AV} {ys:List AV} {v:Value} (s:Src hp sz av ys) (r:de w S hp) (h:At w S av v):RN w S sz ys v:=by
 cases s with
 | nil=>exact ⟨by simp,none,0,[],h.C5,by simp,fun i c v hc hv=>by simp at hv,fun i u hu=>by simp at hu⟩
 | list ys=>
   obtain ⟨a,cap,vs,e1,e2,e3,e4,e5,e6⟩:=h.x5
   refine ⟨e2,a,cap,vs,e1,by rw [← e3,cT e2],fun i c v hc hv=>e4 i c v hc (by simpa using hv),fun i u hu=>?_⟩
   obtain ⟨ad,h1,h2,h3,h4⟩:=e5 i u hu
   refine ⟨ad,h1,?_⟩
   obtain ⟨bk,of,sp⟩:=ad
   simp only at h2;subst h2
   rw [nA];exact h4
 | whole b len xs f hl=>
   subst hl
   have:=FH r (off:=0) (len:=ys.length) f (by omega) h
   simpa using this
 | part b off len xs f hle=>exact FH r f hle h
theorem CH {P:Program} {t e:TypeId} {i:TypeInfo} (ht:P.underlying t=some (.slice e)) (hi:P.info? e=some i) (ob a:Option Addr) (Ds Ks c:Nat) (h:Ds≤Ks) (w:World):
 (Builtin.append_ #[t,t] ty #[.slice ob Ds Ks,.slice a 0 c]).run P w=.ok (.slice ob Ds Ks) w:=by
 cases a<;>cases ob<;>simp [Builtin.append_,run_underlying ht,sizeOf,typeInfo,hi,Builtin.lenOf,h,Builtin.firstCells,loadCells,loadCellsFrom,storeCells]
theorem E3 {P:Program} {t e E:TypeId} {i:TypeInfo} {w:World} (ht:P.underlying t=some (.slice e)) (hi:P.info? e=some i) (g Ds Ks:Nat) (cur:Array Value) (hg:w.heap[g]? =some (.cells cur E (0,0)))
 (a:Addr) (m c:Nat) (news:List Value) (hl:news.length=m * i.size) (Xx:∀ (j:Nat) u,news[j]? =some u→w.cell? (a.add j)=some u) (h1:∀ u∈news,u.oneCell'=true)
 (xw:Ds+m≤Ks) (UX:Ds * i.size+news.length≤cur.size):
 (Builtin.append_ #[t,t] ty #[.slice (some ⟨g,0,none⟩) Ds Ks,.slice (some a) m c]).run P w=
  .ok (.slice (some ⟨g,0,none⟩) (Ds+m) Ks) (w.setRow g (cur.toList.take (Ds * i.size)++news++cur.toList.drop (Ds * i.size+news.length)).toArray):=by
 have hf:=run_firstCells_some (P:=P) w i.size m a m c news hl Xx
 have Ca:=run_storeCells_at P g (Ds * i.size) E news 0 cur w hg (by simpa using UX) h1
 simp only [ci] at Ca
 simp [Builtin.append_,run_underlying ht,sizeOf,typeInfo,hi,Builtin.lenOf,xw,hf,Addr.add_lit,Ca]
theorem Dt {w:World} {S:Nat→Prop} {hp:Heap} {t e:TypeId} {i:TypeInfo} {z:Value} {b:Bk} {xs ys:List AV} {v1 v2:Value} (r:de w S hp) (ht:P.underlying t=some (.slice e)) (hi:P.info? e=some i) (hz:i.zero=some z) (Du:z.cells.size=i.size) (h0:0 < i.size)
 (f:mh hp b (.arr i.size xs)) (Zf:At w S (.sl i.size b 0 xs.length) v1) (hs:RN w S i.size ys v2) (hb:(xs.length+ys.length) * i.bytes≤140737488355328) (Zg:xs.length+ys.length≤9223372036854775807):
 ∃ v' w' b',(Builtin.append_ #[t,t] ty #[v1,v2]).run P w=.ok v' w'∧At w' S (.sl i.size b' 0 (xs.length+ys.length)) v'∧GB w w' b.cH∧Holds w' S b' (.arr i.size (xs++ys))∧
   (b'.cH=b.cH∨b'.cH=none∨∃ m,b'.cH=some m∧w.heap.size≤m):=by
 obtain ⟨k0,a,c,tO,rfl,k1,k2,k3⟩:=hs
 have hold:=r.holds _ f.mem
 obtain ⟨g0,g1,g2⟩:=qO r (.inl f)
 obtain ⟨oa,cap,rfl,e2⟩:=Zf.uz
 by_cases hy:ys=[]
 ·subst hy
  have hle:xs.length≤cap:=by
   rcases e2 with ⟨_,_,hl,_,_⟩ | ⟨m,Bx,ha,h1,h2⟩ | ⟨m,ad,Bx,ha,hl,hc⟩<;>omega
  refine ⟨_,w,b,CH ht hi oa a xs.length cap c hle w,by simpa using Zf,⟨⟨rfl,rfl,rfl,ag _,fun _ _ _=>rfl⟩,fun _=>ag _⟩,by simpa using hold,.inl rfl⟩
 ·have hm:0 < ys.length:=List.length_pos_iff.2 hy
  have GJ:0 < tO.length:=by rw [k1];exact Nat.mul_pos hm h0
  obtain ⟨ad,rfl,_⟩:=k3 0 tO[0] (by simp [GJ])
  have Zh:∀ (j:Nat) u,tO[j]? =some u→w.cell? (ad.add j)=some u:=fun j u hu=>by
   obtain ⟨ad',h1,h2⟩:=k3 j u hu
   obtain rfl:=aa h1
   exact h2
  have u6:∀ u∈tO,u.oneCell'=true:=x8 (cs:=flat ys) (vs:=tO.toArray) (by simp [k1,cT k0]) k2 (Ou k0)
  have tP:∀ x∈xs++ys,El i.size x:=fun x hx=>by rcases a7.1 hx with h | h;exact g0 x h;exact k0 x h
  have grown:∀ (old:Nat) (CI:List Value) (wr:Option Nat),CI.length=xs.length * i.size→oe w S (flat xs) CI.toArray→
   At (w.drew.alloc (.cells (CI.toArray++tO.toArray++Builtin.zeroCells z.cells (grownCap w (xs.length+ys.length) old e - (xs.length+ys.length))) e)) S (.sl i.size ⟨some w.heap.size,grownCap w (xs.length+ys.length) old e⟩ 0 (xs.length+ys.length))
    (.slice (some ⟨w.heap.size,0,none⟩) (xs.length+ys.length) (grownCap w (xs.length+ys.length) old e))∧
   GB w (w.drew.alloc (.cells (CI.toArray++tO.toArray++Builtin.zeroCells z.cells (grownCap w (xs.length+ys.length) old e - (xs.length+ys.length))) e)) wr∧
   Holds (w.drew.alloc (.cells (CI.toArray++tO.toArray++Builtin.zeroCells z.cells (grownCap w (xs.length+ys.length) old e - (xs.length+ys.length))) e)) S ⟨some w.heap.size,grownCap w (xs.length+ys.length) old e⟩ (.arr i.size (xs++ys)):=by
   intro old CI wr ho1 ho2
   have Ue:=grownCap_ge w (xs.length+ys.length) old e
   have ex:Ext w (w.drew.alloc (.cells (CI.toArray++tO.toArray++Builtin.zeroCells z.cells (grownCap w (xs.length+ys.length) old e - (xs.length+ys.length))) e)):=(Ext.LK w _ (Nat.le_succ _)).trans (Ext.alloc w.drew _)
   generalize grownCap w (xs.length+ys.length) old e=cp at *
   refine ⟨?_,⟨⟨ex.os,ex.tape,ex.output,ex.size,fun k hk _=>ex.same k hk⟩,ex.drawn⟩,tP,by simpa using Ue,.inr ⟨w.heap.size,CI.toArray++tO.toArray++Builtin.zeroCells z.cells (cp - (xs.length+ys.length)),e,rfl,?_,?_,?_⟩⟩
   ·have:=At.sl (w:=w.drew.alloc (.cells (CI.toArray++tO.toArray++Builtin.zeroCells z.cells (cp - (xs.length+ys.length))) e)) (S:=S) i.size ⟨some w.heap.size,cp⟩ 0 (xs.length+ys.length) w.heap.size cp rfl Ue (by simp)
    simpa using this
   ·show (w.heap.push _)[w.heap.size]? =_
    simp
   ·simp only [Array.size_append,List.size_toArray,size_zeroCells,Du,ho1,k1]
    rw [← al,← al]
    congr 1
    omega
   ·rw [qL]
    have h2:oe w S (flat xs++flat ys) (CI++tO).toArray:=yb (by rw [cT g0,ho1]) ho2 k2
    intro j c' u hc hu
    have hj:j < (CI++tO).length:=by
     have:=(ap.1 hc).1
     simp only [b8,cT g0,cT k0] at this
     simp only [b8,ho1,k1]
     exact this
    have hu':(CI++tO).toArray[j]? =some u:=by
     rw [Array.getElem?_append_left (by simpa using hj)] at hu
     simpa using hu
    exact (h2 j c' u hc hu').mono fun m hm'=>⟨hm',ex.same m (r.slt m hm')⟩
  rcases e2 with ⟨hbn,_,hl,rfl,rfl⟩ | ⟨m,RO,rfl,h1,h2⟩ | ⟨m,ad',RO,rfl,hl,rfl⟩
  ·have hx:xs=[]:=dn hl
   subst hx
   have hr:=run_append_nil (P:=P) (ty:=ty) w t e i z ht hi hz ad ys.length c tO k1 Zh hm (by simp at Zg;omega) (by simp only [cn,ck] at hb;omega)
   obtain ⟨q1,q2,q3⟩:=grown 0 [] b.cH (by simp) (fun j c' u hc=>by simp [flat] at hc)
   simp only [cn,ck,Array.empty_append] at q1 q2 q3 ⊢
   exact ⟨_,_,_,hr,q1,q2,q3,.inr (.inr ⟨_,rfl,ag _⟩)⟩
  ·rcases g2 with ⟨g2,_⟩ | ⟨m',vs,E,g2,g3,g4,g5⟩
   ·rw [g2] at RO;cases RO
   ·obtain rfl:m'=m:=by rw [g2] at RO;exact aa RO
    simp only [dk,ck] at *
    by_cases xw:xs.length+ys.length≤cap
    ·have hmul:(xs.length+ys.length) * i.size≤b.cap * i.size:=bO _ (by omega)
     have UX:xs.length * i.size+tO.length≤vs.size:=by rw [k1,← al,g4];exact hmul
     have hr:=E3 (P:=P) (ty:=ty) ht hi m' xs.length cap vs g3 ad ys.length c tO k1 Zh u6 xw UX
     have nS:¬ S m':=fun hs=>(r.sep _ f.mem m' (fF RO)).1 hs
     have ex:∀ k,S k→S k∧(w.setRow m' (vs.toList.take (xs.length * i.size)++tO++vs.toList.drop (xs.length * i.size+tO.length)).toArray).heap[k]? =w.heap[k]?:=fun k hk=>⟨hk,setRow_other w m' k _ (fun e=>nS (e▸hk))⟩
     refine ⟨_,_,b,hr,?_,⟨⟨rfl,rfl,rfl,by simp,fun k _ hk=>setRow_other w m' k _ (fun e=>hk (by rw [RO,e]))⟩,fun _=>ag _⟩,⟨tP,by simp;omega,.inr ⟨m',(vs.toList.take (xs.length * i.size)++tO++vs.toList.drop (xs.length * i.size+tO.length)).toArray,E,RO,setRow_heap w m' vs _ E _ g3,?_,?_⟩⟩,.inl rfl⟩
     ·have:=At.sl (w:=w.setRow m' (vs.toList.take (xs.length * i.size)++tO++vs.toList.drop (xs.length * i.size+tO.length)).toArray) (S:=S) i.size b 0 (xs.length+ys.length) m' cap RO xw (by omega)
      simpa using this
     ·simp;omega
     ·rw [qL]
      have hA:oe w S (flat xs++flat ys) (vs.toList.take (xs.length * i.size)++tO).toArray:=yb (by simp [cT g0];omega) (fun j c' u hc hu=>by
       simp only [bx,aH] at hu
       split at hu
       ·exact g5 j c' u hc (by simpa using hu)
       ·cases hu) k2
      intro j c' u hc hu
      have hj:j < (vs.toList.take (xs.length * i.size)++tO).length:=by
       have:=(ap.1 hc).1
       simp only [b8,cT g0,cT k0] at this
       simp;omega
      simp only [bx] at hu
      rw [bX hj] at hu
      exact (hA j c' u hc (by simpa using hu)).mono ex
    ·have hr:=run_append_grow (P:=P) (ty:=ty) w t e i z ht hi hz ⟨m',0,none⟩ xs.length cap (vs.toList.take (xs.length * i.size)) (by
      have:=bO i.size g1
      simp;omega) (fun j u hu=>by
       rw [nA,ck,nB g3]
       rw [aH] at hu
       split at hu
       ·simpa using hu
       ·cases hu) ad ys.length c tO k1 Zh (by omega) (by omega) (growslice_fits (by omega) hb)
     obtain ⟨q1,q2,q3⟩:=grown cap (vs.toList.take (xs.length * i.size)) b.cH (by
      have:=bO i.size g1
      simp;omega) (fun j c' u hc hu=>by
       simp only [bx,aH] at hu
       split at hu
       ·exact g5 j c' u hc (by simpa using hu)
       ·cases hu)
     exact ⟨_,_,_,hr,q1,q2,q3,.inr (.inr ⟨_,rfl,ag _⟩)⟩
  ·have hx:xs=[]:=dn hl
   subst hx
   have hr:=run_append_grow (P:=P) (ty:=ty) w t e i z ht hi hz ad' 0 0 [] (by simp) (fun j u hu=>by simp at hu) ad ys.length c tO k1 Zh (by omega) (by simp at Zg;omega) (growslice_fits (by omega) (by simpa using hb))
   obtain ⟨q1,q2,q3⟩:=grown 0 [] b.cH (by simp) (fun j c' u hc=>by simp [flat] at hc)
   simp only [cn,ck] at q1 q2 q3 hr ⊢
   exact ⟨_,_,_,hr,q1,q2,q3,.inr (.inr ⟨_,rfl,ag _⟩)⟩
theorem OD {t e:TypeId} {i:TypeInfo} {z:Value} {x y:Operand} {src:AV} {b:Bk} {len sz:Nat} {xs ys:List AV} {cQ:Bk→Heap} [aC P t (.slice e)] [a8 P e i] (hx:du tm x=some (.sl sz b 0 len)) (hy:du tm y=some src) (hz:i.zero=some z)
 (Du:ac z.cells.size i.size=true) (jc:ac i.size sz=true) (h0:ai 0 sz=true) (hn:ai d n=true) (hs:Src hp sz src ys) (u:∀ b',mF hp b (.arr sz xs) b' (.arr sz (xs++ys)) (cQ b')) (hlen:len=xs.length)
 (hb:(xs.length+ys.length) * i.bytes≤140737488355328) (Zg:xs.length+ys.length≤9223372036854775807)
 (kk:∀ b':Bk,ae P all rest ⟨n,(d,.sl sz b' 0 (len+ys.length)) :: tm,cQ b'⟩ Q):ae P all (⟨some d,.call {callee:=.builtin .append,args:=#[x,y],argTypes:=#[t,t]},ty,pos,af,none⟩ :: rest) ⟨n,tm,hp⟩ Q:=by
 refine ae.HY rfl fun w S a r=>?_
 subst hlen
 obtain rfl:i.size=sz:=aw jc
 obtain ⟨v',w',b',g1,g2,g3,g4,g5⟩:=Dt (P:=P) (ty:=ty) r.hp (aC.h (P:=P) (t:=t)) (a8.h (P:=P) (t:=e)) hz (aw Du) (by simpa using h0) (u b).qN (bl (σ:=⟨n,tm,hp⟩) r hx) (hs.at r.hp (bl (σ:=⟨n,tm,hp⟩) r hy)) hb Zg
 obtain ⟨k1,k2,k3⟩:=sS r.hp (u b') g3 id id g4 g5
 refine ⟨v',w',S,_,?_,(r.heap k3 k1).put hn g2,k2,kk b'⟩
 simp [execOp,resolve,invoke,builtin,g1]
end rules
def aj (σ:St) (T:St→Prop):Prop:=∀ w S a,eU w S σ a→∃ aJ S',T aJ∧eU w S' aJ a∧kT w S σ.hp w S' aJ.hp
theorem aj.here {σ:St} {T:St→Prop} (h:T σ):aj σ T:=fun w S a r=>⟨σ,S,h,r,kT.refl _ _ _⟩
theorem aj.step {σ Ar:St} {T:St→Prop} (h:aj σ (· =Ar)) (k:aj Ar T):aj σ T:=by
 intro w S a r
 obtain ⟨aJ,S',rfl,r',e⟩:=h w S a r
 obtain ⟨LM,S2,h2,r2,e2⟩:=k w S' a r'
 exact ⟨LM,S2,h2,r2,e.trans e2⟩
theorem aj.mono {σ:St} {T T':St→Prop} (h:aj σ T) (ht:∀ σ,T σ→T' σ):aj σ T':=fun w S a r=>
 let ⟨aJ,S',h1,h2,h3⟩:=h w S a r
 ⟨aJ,S',ht _ h1,h2,h3⟩
def FI (tm:List (Nat×AV)):List (Nat×AV)→Prop
 | []=>True
 | (s,av) :: r=>lk tm s=some av∧FI tm r
theorem FI.lk {tm:List (Nat×AV)}:∀ {sb:List (Nat×AV)},FI tm sb→∀ s av,Eng.lk sb s=some av→Eng.lk tm s=some av
 | [],_,s,av,h=>by simp [Eng.lk] at h
 | (k,v) :: r,h,s,av,hh=>by
   simp only [Eng.lk] at hh
   split at hh
   ·rename_i hb
    obtain rfl:k=s:=by simpa using hb
    obtain rfl:=aa hh
    exact h.1
   ·exact FI.lk h.2 s av hh
theorem aj.arr {n s:Nat} {tm:List (Nat×AV)} {hp:Heap} {T:St→Prop} (sz:Nat) (hs:lk tm s=some .nil) (k:∀ b,aj ⟨n,(s,.sl sz b 0 0) :: tm,(b,.arr sz []) :: hp⟩ T):aj ⟨n,tm,hp⟩ T:=by
 refine aj.step (Ar:=⟨n,(s,.sl sz ⟨none,0⟩ 0 0) :: tm,(⟨none,0⟩,.arr sz []) :: hp⟩) (fun w S a r=>?_) (k ⟨none,0⟩)
 obtain ⟨g1,g2,g3⟩:=pg (b:=⟨none,0⟩) (o:=.arr sz []) r.hp (Ext.refl w) id ⟨by simp,by simp,.inl ⟨rfl,rfl⟩⟩ (.inl rfl)
 refine ⟨_,S,rfl,⟨r.size,r.defers,fun t av h=>?_,g1⟩,g2⟩
 simp only [lk] at h
 split at h
 ·rename_i hb
  obtain rfl:s=t:=by simpa using hb
  obtain rfl:=aa h
  obtain ⟨v,h1,h2⟩:=r.tm s _ hs
  cases h2
  exact ⟨_,h1,.Ax sz _ rfl⟩
 ·exact r.tm t av h
theorem aj.freeze {n sz:Nat} {tm:List (Nat×AV)} {hp cQ:Heap} {T:St→Prop} {b:Bk} {xs:List AV} (u:mF hp b (.arr sz xs) b (.Bw sz xs) cQ) (k:aj ⟨n,tm,cQ⟩ T):aj ⟨n,tm,hp⟩ T:=by
 refine aj.step (Ar:=⟨n,tm,cQ⟩) (fun w S a r=>?_) k
 have lK:=u.qN.mem
 have H4:∀ m,b.cH=some m→m < w.heap.size:=fun m hm=>r.hp.lt ⟨_,lK,fF hm⟩
 let S':Nat→Prop:=fun m=>S m∨b.cH=some m
 have mono:∀ m,S m→S' m∧w.heap[m]? =w.heap[m]?:=fun m hm=>⟨.inl hm,rfl⟩
 obtain ⟨p,q,rfl,rfl⟩:=u.split
 have um:=r.hp.nodup
 have uB:de w S' (p++(b,.Bw sz xs) :: q):=by
  refine ⟨?_,?_,?_,?_,fun g o ho=>⟨.inl (r.hp.gh g o ho).1,(r.hp.gh g o ho).2⟩⟩
  ·simpa [b4,bi,eb,Ob.more] using um
  ·intro e he
   rcases bw.1 he with rfl | he
   ·exact Holds.mono (o:=.Bw sz xs) mono (fun _ _=>rfl) (show Holds w S b (.arr sz xs) from r.hp.holds (b,.arr sz xs) lK)
   ·exact (r.hp.holds e (bw.2 (.inr he))).mono mono (fun _ _=>rfl)
  ·intro e he m hm
   rcases bw.1 he with rfl | he
   ·exact ⟨fun _=>trivial,fun _=>.inr ((wV rfl).1 hm)⟩
   ·rw [← r.hp.sep e (bw.2 (.inr he)) m hm]
    refine ⟨fun hs=>hs.elim id fun hb=>?_,.inl⟩
    exfalso
    rw [b4,bi,bc,bc] at um
    rcases a7.1 he with h | h
    ·exact um.2.2 m (a6.2 ⟨e,h,hm⟩) m (cb _ (fF hb)) rfl
    ·exact um.2.1.2.2 m (fF hb) m (a6.2 ⟨e,h,hm⟩) rfl
  ·intro m hm
   rcases hm with h | h
   ·exact r.hp.slt m h
   ·exact H4 m h
 refine ⟨_,S',rfl,r.heap mono uB,rfl,rfl,rfl,ag _,mono,fun m hm hh=>⟨rfl,fun hs=>hs.elim id fun hb=>(hh ⟨_,lK,fF hb⟩).elim⟩,fun m hm=>.inl ?_,fun _=>ag _⟩
 obtain ⟨e,he,hb⟩:=hm
 rcases bw.1 he with rfl | he
 ·exact ⟨_,lK,hb⟩
 ·exact ⟨e,bw.2 (.inr he),hb⟩
inductive Co (hp:Heap):AV→AV→Prop
 | refl (a:AV):Co hp a a
 | nil (sz:Nat):Co hp .nil (.list sz [])
 | Bw (sz:Nat) (b:Bk) (len:Nat) (xs:List AV) (f:mh hp b (.Bw sz xs)) (h:len=xs.length):Co hp (.sl sz b 0 len) (.list sz xs)
 | part (sz:Nat) (b:Bk) (off len:Nat) (xs:List AV) (f:mh hp b (.Bw sz xs)) (h:off+len≤xs.length):Co hp (.sl sz b off len) (.list sz ((xs.drop off).take len))
theorem rm {w:World} {S:Nat→Prop} {sz:Nat} {ys:List AV} {v:Value} (h:RN w S sz ys v) (hS:∀ ad len cap,v=.slice (some ad) len cap→0 < len→ad.spot=none∧S ad.block) (hc:∀ ob len cap,v=.slice ob len cap→len≤cap):At w S (.list sz ys) v:=by
 obtain ⟨h0,a,c,tO,rfl,h1,h2,h3⟩:=h
 refine .list sz ys a c tO h0 (by rw [cT h0,h1]) (fun i c v hc hv=>h2 i c v hc (by simpa using hv)) (fun i v hv=>?_) (hc _ _ _ rfl)
 obtain ⟨ad,rfl,h4⟩:=h3 i v hv
 have eI:i < tO.length:=(ap.1 hv).1
 have tI:0 < ys.length:=by
  rcases Nat.eq_zero_or_pos ys.length with h | h
  ·rw [h1,h] at eI;simp at eI
  ·exact h
 obtain ⟨g1,g2⟩:=hS ad _ _ rfl tI
 refine ⟨ad,rfl,g1,g2,?_⟩
 obtain ⟨bk,of,sp⟩:=ad
 simp only at g1;subst g1
 rw [nA] at h4;exact h4
theorem ti {w:World} {S:Nat→Prop} {sz off len:Nat} {b:Bk} {v:Value} (h:At w S (.sl sz b off len) v):(∀ ad l c,v=.slice (some ad) l c→0 < l→ad.spot=none∧b.cH=some ad.block)∧∀ ob l c,v=.slice ob l c→l≤c:=by
 obtain ⟨oa,cap,rfl,e2⟩:=h.uz
 rcases e2 with ⟨_,_,hl,rfl,rfl⟩ | ⟨m,hb,rfl,h1,h2⟩ | ⟨m,ad,hb,rfl,hl,rfl⟩
 ·exact ⟨(fun ad l c h=>by cases h),(fun ob l c h=>by cases h;omega)⟩
 ·exact ⟨(fun ad l c h _=>by cases h;exact ⟨rfl,hb⟩),(fun ob l c h=>by cases h;omega)⟩
 ·exact ⟨(fun ad l c h FC=>by cases h;omega),(fun ob l c h=>by cases h;omega)⟩
theorem Co.at {w:World} {S:Nat→Prop} {hp:Heap} {a a':AV} {v:Value} (c:Co hp a a') (r:de w S hp) (h:At w S a v):At w S a' v:=by
 cases c with
 | refl=>exact h
 | nil sz=>rw [h.C5];exact .list sz [] none 0 [] (by simp) rfl (fun i c v hc=>by simp [flat] at hc) (fun i v hv=>by simp at hv) (by simp)
 | Bw sz b len xs f hl=>
   have hs:=(Src.whole (hp:=hp) (sz:=sz) b len xs (.inr f) hl).at r h
   exact rm hs (fun ad l c hv hp=>let ⟨g1,g2⟩:=(ti h).1 ad l c hv hp;⟨g1,(r.sep _ f.mem _ (fF g2)).2 trivial⟩) (ti h).2
 | part sz b off len xs f hl=>
   have hs:=(Src.part (hp:=hp) (sz:=sz) b off len xs (.inr f) hl).at r h
   exact rm hs (fun ad l c hv hp=>let ⟨g1,g2⟩:=(ti h).1 ad l c hv hp;⟨g1,(r.sep _ f.mem _ (fF g2)).2 trivial⟩) (ti h).2
theorem aj.co {n s:Nat} {tm:List (Nat×AV)} {hp:Heap} {T:St→Prop} {av iI:AV} (hs:lk tm s=some av) (c:Co hp av iI) (k:aj ⟨n,(s,iI) :: tm,hp⟩ T):aj ⟨n,tm,hp⟩ T:=by
 refine aj.step (Ar:=⟨n,(s,iI) :: tm,hp⟩) (fun w S a r=>⟨_,S,rfl,⟨r.size,r.defers,fun t av h=>?_,r.hp⟩,kT.refl _ _ _⟩) k
 simp only [lk] at h
 split at h
 ·rename_i hb
  obtain rfl:s=t:=by simpa using hb
  obtain rfl:=aa h
  obtain ⟨v,h1,h2⟩:=r.tm s _ hs
  exact ⟨v,h1,c.at r.hp h2⟩
 ·exact r.tm t av h
section
variable {P:Program} {R:St→Prop} {k:List It} {σ:St}
theorem ab.ghost {c:Code} (h:aj σ (ab P R (.code c :: k))):ab P R (.code c :: k) σ:=by
 intro w S a r
 obtain ⟨aJ,S',h1,h2,h3⟩:=h w S a r
 exact ab.go h1 h2 h3
theorem ae.ghost {all:Array Oper} {l:List Oper} {Q:St→Prop} (h:aj σ (fun aJ=>ae P all l aJ Q)):ae P all l σ Q:=by
 intro w S a r
 obtain ⟨aJ,S',h1,h2,h3⟩:=h w S a r
 exact h1.go h2 h3
theorem ab.Uf {body:Code} (I:Nat→St→Prop) (m:Nat) (h0:aj σ (I m)) (hs:∀ m σ,I m σ→ab P R (.code body :: .stop (fun aJ=>∃ m',m' < m∧aj aJ (I m')) :: k) σ):
 ab P R (.code (.loop body) :: k) σ:=by
 refine ab.loop (fun m σ=>aj σ (I m)) m h0 (fun m σ hI=>?_)
 exact ab.ghost (hI.mono fun aJ h=>hs m aJ h)
end
class bN (P:Program) (f:FuncId):Prop where
 h:∃ fn,P.funcs[f]? =some fn∧(fn.name=="runtime.NumGoroutine")=false∧fn.body.isNone=false
theorem tY {P:Program} (f:FuncId) [bN P f] (args:Array Value) (w:World):(callFunc f args).run P w=.ok (.enter f args) w:=by
 obtain ⟨fn,h1,h2,h3⟩:=bN.h (P:=P) (f:=f)
 have OE:¬ (fn.name="runtime.NumGoroutine"):=by simpa using h2
 have Zi:¬ (fn.body=none):=fun h=>by simp [h] at h3
 simp [callFunc,h1,OE,Zi]
inductive By (hp:Heap):List AV→List AV→Prop
 | nil:By hp [] []
 | cons {a a':AV} {l l':List AV} (c:Co hp a a') (k:By hp l l'):By hp (a :: l) (a' :: l')
theorem By.at {w:World} {S:Nat→Prop} {hp:Heap} (r:de w S hp):∀ {l l':List AV},By hp l l'→∀ {vs:List Value},l.length=vs.length→oe w S l vs.toArray→l'.length=vs.length∧oe w S l' vs.toArray
 | [],_,.nil,vs,hl,h=>⟨hl,h⟩
 | a :: l,_,.cons (a':=a') (l':=l') c k,vs,hl,h=>by
   match vs,hl with
   | v :: vs,hl=>
     obtain ⟨g1,g2⟩:=By.at r k (vs:=vs) (by simpa using hl) (fun i c u hc hu=>h (i+1) c u (by simpa using hc) (by simpa using hu))
     refine ⟨by simpa using g1,fun i c u hc hu=>?_⟩
     match i with
     | 0=>
       simp at hc hu
       subst hc
       subst hu
       exact Co.at ‹Co hp a a'› r (h 0 a v (by simp) (by simp))
     | i+1=>exact g2 i c u (by simpa using hc) (by simpa using hu)
section rules
variable {P:Program} {all:Array Oper} {rest:List Oper} {n:Nat} {tm:List (Nat×AV)} {hp:Heap} {Q:St→Prop} {d:Nat} {ty:TypeId} {pos:String} {af:Array Edge}
theorem tj {w:World} {S:Nat→Prop} {σ:St} {a:Act} (r:eU w S σ a) {xs:List Operand} {l:List AV} (h:B9 σ.tm xs=some l):l.length=(xs.map a.eval).length∧oe w S l (xs.map a.eval).toArray:=by
 obtain ⟨h1,h2⟩:=Kp r h
 exact ⟨by simp [h1],fun i c v hc hv=>h2 i c v hc (by simpa using hv)⟩
theorem oh {f:FuncId} {args:List Operand} {ts:Array TypeId} {dd:Option Nat} [bN P f] (a:Act) (w:World):
 (execOp a.eval ⟨dd,.call {callee:=.value (.func f),args:=args.toArray,argTypes:=ts},ty,pos,af,none⟩).run P w=.ok (.enter f (args.map a.eval).toArray) w:=by
 simp [execOp,resolve,Act.eval,Deferred.ofValue,invoke,tY]
theorem yc {f:FuncId} {x:Operand} {args:List Operand} {ts:Array TypeId} {dd:Option Nat} {vI:Array Value} [bN P f] (a:Act) (w:World) (hx:a.eval x=.func (.func f) #[] vI):
 (execOp a.eval ⟨dd,.call {callee:=.value x,args:=args.toArray,argTypes:=ts},ty,pos,af,none⟩).run P w=.ok (.enter f ((args.map a.eval)++vI.toList).toArray) w:=by
 simp [execOp,resolve,hx,Deferred.ofValue,invoke,tY]
theorem OF {f:FuncId} {args:List Operand} {ts:Array TypeId} {l l':List AV} {h0 hr:Heap} {Qc:AV→Heap→Prop} [bN P f] (hl:B9 tm args=some l) (c:aR P f l' h0 Qc) (co:By hp l l') (hs:hp.Perm (h0++hr)) (hn:ai d n=true)
 (kk:∀ r h',Qc r h'→ae P all rest ⟨n,(d,r) :: tm,h'++hr⟩ Q):ae P all (⟨some d,.call {callee:=.value (.func f),args:=args.toArray,argTypes:=ts},ty,pos,af,none⟩ :: rest) ⟨n,tm,hp⟩ Q:=by
 refine ae.HZ rfl fun w S a r=>⟨f,_,oh a w,?_⟩
 obtain ⟨g1,g2⟩:=tj (σ:=⟨n,tm,hp⟩) r hl
 obtain ⟨g3,g4⟩:=By.at r.hp co g1 g2
 have rp:=r.hp.perm hs
 refine (c.frame hr w S _ rp (by simpa using g3) g4).mono ?_
 rintro e w' ⟨v,rr,h',S',rfl,⟨h1,rfl,hq⟩,h3,h4,h5⟩
 have Xy:=h5.mf
 have ev:kT w S hp w' S' (h1++hr):={h5 with
  other:=fun m hm hh=>h5.other m hm (fun ⟨x,hx,hb⟩=>hh ⟨x,hs.mem_iff.2 hx,hb⟩)
  new:=fun m hm=>(h5.new m hm).imp (fun ⟨x,hx,hb⟩=>⟨x,hs.mem_iff.2 hx,hb⟩) id}
 exact ⟨v,S',⟨n,(d,rr) :: tm,h1++hr⟩,rfl,(r.heap Xy h4).put hn h3,ev,kk rr h1 hq⟩
theorem LP {f:FuncId} {args:List Operand} {ts:Array TypeId} {l l':List AV} {Qc:AV→Heap→Prop} [bN P f] (hl:B9 tm args=some l) (c:aR P f l' [] Qc) (co:By hp l l') (hn:ai d n=true)
 (kk:∀ r h',Qc r h'→ae P all rest ⟨n,(d,r) :: tm,h'++hp⟩ Q):ae P all (⟨some d,.call {callee:=.value (.func f),args:=args.toArray,argTypes:=ts},ty,pos,af,none⟩ :: rest) ⟨n,tm,hp⟩ Q:=
 OF hl c co (List.Perm.refl _) hn kk
theorem x7.perm {h h':Heap} {b:Bk} {o:Ob} (u:x7 h b o h'):h.Perm ([(b,o)]++h'):=by
 obtain ⟨p,q,rfl,rfl⟩:=u.split
 exact List.perm_middle
theorem RP {f:FuncId} {x:Operand} {args:List Operand} {ts:Array TypeId} {vI l l':List AV} {h0 hr:Heap} {Qc:AV→Heap→Prop} [bN P f] (hx:du tm x=some (.func (.func f) vI)) (hl:B9 tm args=some l) (c:aR P f l' h0 Qc) (co:By hp (l++vI) l') (hs:hp.Perm (h0++hr)) (hn:ai d n=true)
 (kk:∀ r h',Qc r h'→ae P all rest ⟨n,(d,r) :: tm,h'++hr⟩ Q):ae P all (⟨some d,.call {callee:=.value x,args:=args.toArray,argTypes:=ts},ty,pos,af,none⟩ :: rest) ⟨n,tm,hp⟩ Q:=by
 refine ae.HZ rfl fun w S a r=>?_
 obtain ⟨cv,e1,e2,e3⟩:=(bl (σ:=⟨n,tm,hp⟩) r hx).x4
 refine ⟨f,_,yc a w e1,?_⟩
 obtain ⟨g1,g2⟩:=tj (σ:=⟨n,tm,hp⟩) r hl
 obtain ⟨g3,g4⟩:=By.at r.hp co (vs:=args.map a.eval++cv.toList) (by simp [g1,e2]) (yb g1 g2 (by simpa using e3))
 have rp:=r.hp.perm hs
 refine (c.frame hr w S _ rp (by simpa using g3) g4).mono ?_
 rintro e w' ⟨v,rr,h',S',rfl,⟨h1,rfl,hq⟩,h3,h4,h5⟩
 have ev:kT w S hp w' S' (h1++hr):={h5 with
  other:=fun m hm hh=>h5.other m hm (fun ⟨x,hx,hb⟩=>hh ⟨x,hs.mem_iff.2 hx,hb⟩)
  new:=fun m hm=>(h5.new m hm).imp (fun ⟨x,hx,hb⟩=>⟨x,hs.mem_iff.2 hx,hb⟩) id}
 exact ⟨v,S',⟨n,(d,rr) :: tm,h1++hr⟩,rfl,(r.heap h5.mf h4).put hn h3,ev,kk rr h1 hq⟩
def AV.GK:AV→Bool
 | .int _ _ | .bool _ | .str _ | .nil | .raw _=>true
 | _=>false
def H9:List AV→Bool
 | []=>true
 | c :: r=>c.GK&&H9 r
def AV.UY:AV→Bool
 | .agg cs=>H9 cs
 | v=>v.GK
def RQ:List AV→Bool
 | []=>true
 | c :: r=>c.UY&&RQ r
def AV.Xz:AV→Bool
 | .agg cs=>H9 cs
 | .lM cs=>RQ cs
 | v=>v.GK
theorem yd {w w':World} {S S':Nat→Prop} {av:AV} {v:Value} (h:At w S av v) (hn:av.GK=true):At w' S' av v:=by
 cases h<;>first | (simp [AV.GK] at hn;done) | constructor
theorem ye:∀ {cs:List AV},H9 cs=true→∀ c∈cs,c.GK=true
 | [],_,c,hc=>by simp at hc
 | x :: r,h,c,hc=>by
   simp only [H9,b5] at h
   rcases bv.1 hc with rfl | hc
   ·exact h.1
   ·exact ye h.2 c hc
theorem Ia:∀ {cs:List AV},RQ cs=true→∀ c∈cs,c.UY=true
 | [],_,c,hc=>by simp at hc
 | x :: r,h,c,hc=>by
   simp only [RQ,b5] at h
   rcases bv.1 hc with rfl | hc
   ·exact h.1
   ·exact Ia h.2 c hc
theorem RR {w w':World} {S S':Nat→Prop} {av:AV} {v:Value} (h:At w S av v) (hn:av.UY=true):At w' S' av v:=by
 cases av with
 | agg cs=>
   cases h with
   | agg _ vs hl h=>exact .agg cs vs hl fun i c u hc hu=>yd (h i c u hc hu) (ye hn c (b6 hc))
 | _=>exact yd h hn
theorem OG {w w':World} {S S':Nat→Prop} {av:AV} {v:Value} (h:At w S av v) (hn:av.Xz=true):At w' S' av v:=by
 cases h with
 | agg cs vs hl h=>exact .agg cs vs hl fun i c u hc hu=>yd (h i c u hc hu) (ye hn c (b6 hc))
 | lM cs vs hl h=>exact .lM cs vs hl fun i c u hc hu=>RR (h i c u hc hu) (Ia hn c (b6 hc))
 | int k n=>exact .int k n
 | bool b=>exact .bool b
 | str s=>exact .str s
 | nil=>exact .nil
 | raw v=>exact .raw v
 | _=>simp [AV.Xz,AV.GK] at hn
inductive lD (hp:Heap):AV→AV→Prop
 | co {a a':AV} (c:Co hp a a'):lD hp a a'
 | arr (sz:Nat) (b:Bk) (len:Nat) (xs:List AV) (f:mh hp b (.arr sz xs)) (h:len=xs.length):lD hp (.sl sz b 0 len) (.list sz xs)
 | part (sz:Nat) (b:Bk) (off len:Nat) (xs:List AV) (f:mh hp b (.arr sz xs)) (h:off+len≤xs.length):lD hp (.sl sz b off len) (.list sz ((xs.drop off).take len))
 | box (b:Bk) (cs lA:List AV) (f:mh hp b (.cells cs)) (hl:lA.length=cs.length) (h:∀ (i:Nat) c c',cs[i]? =some c→lA[i]? =some c'→lD hp c c'):lD hp (.ptr b 0) (.ch lA)
 | func (fn:Fn) (cs lA:List AV) (hl:lA.length=cs.length) (h:∀ (i:Nat) c c',cs[i]? =some c→lA[i]? =some c'→lD hp c c'):lD hp (.func fn cs) (.func fn lA)
 | agg (cs lA:List AV) (hl:lA.length=cs.length) (h:∀ (i:Nat) c c',cs[i]? =some c→lA[i]? =some c'→lD hp c c'):lD hp (.agg cs) (.agg lA)
 | LI {a a':AV} (h:∀ (w:World) (S:Nat→Prop) v,de w S hp→At w S a v→At w (fun m=>S m∨Has hp m) a' v):lD hp a a'
inductive u7 (hp:Heap):List AV→List AV→Prop
 | nil:u7 hp [] []
 | cons {a a':AV} {l l':List AV} (c:lD hp a a') (k:u7 hp l l'):u7 hp (a :: l) (a' :: l')
def SB (S:Nat→Prop) (hp:Heap):Nat→Prop:=fun m=>S m∨Has hp m
theorem u7.each {hp:Heap}:∀ {l l':List AV},u7 hp l l'→l'.length=l.length∧∀ (i:Nat) c c',l[i]? =some c→l'[i]? =some c'→lD hp c c'
 | [],_,.nil=>⟨rfl,fun i c c' h=>by simp at h⟩
 | _ :: _,_,.cons c k=>by
   obtain ⟨g1,g2⟩:=u7.each k
   refine ⟨by simp [g1],fun i c1 c2 h1 h2=>?_⟩
   match i with
   | 0=>simp at h1 h2;subst h1;subst h2;assumption
   | i+1=>exact g2 i c1 c2 (by simpa using h1) (by simpa using h2)
theorem lD.xG {hp:Heap} (b:Bk) (cs lA:List AV) (f:mh hp b (.cells cs)) (k:u7 hp cs lA):lD hp (.ptr b 0) (.ch lA):=.box b cs lA f k.each.1 k.each.2
theorem lD.AB {hp:Heap} (fn:Fn) (cs lA:List AV) (k:u7 hp cs lA):lD hp (.func fn cs) (.func fn lA):=.func fn cs lA k.each.1 k.each.2
theorem lD.at {w:World} {S:Nat→Prop} {hp:Heap} {a a':AV} {v:Value} (c:lD hp a a') (r:de w S hp) (h:At w S a v):At w (SB S hp) a' v:=by
 have mono:∀ m,S m→SB S hp m∧w.heap[m]? =w.heap[m]?:=fun m hm=>⟨.inl hm,rfl⟩
 induction c generalizing v with
 | box b cs lA f hl _ ih=>
   cases h with
   | ptr _ _ n hb=>
     obtain ⟨h1,n',vs,E,Bx,hh,hs,ha⟩:=r.holds _ f.mem
     obtain rfl:=aa (hb.symm.trans Bx)
     refine .ch lA ⟨n,0,none⟩ vs.toList (by simp [hl,hs]) (fun i c v hc hv=>?_) rfl (.inr ⟨_,f.mem,fF hb⟩) (fun i v hv=>?_)
     ·have hi:i < cs.length:=by rw [← hl];exact (ap.1 hc).1
      exact ih i cs[i] c (by simp [hi]) hc (ha i _ _ (by simp [hi]) (by simpa using hv))
     ·rw [nB hh];simpa using hv
 | func fn cs lA hl _ ih=>
   cases h with
   | func _ _ vs UW h2=>
     refine .func fn lA vs (by rw [hl,UW]) (fun i c v hc hv=>?_)
     have hi:i < cs.length:=by rw [← hl];exact (ap.1 hc).1
     exact ih i cs[i] c (by simp [hi]) hc (h2 i _ _ (by simp [hi]) hv)
 | agg cs lA hl _ ih=>
   cases h with
   | agg _ vs h1 h2=>
     refine .agg lA vs (by rw [hl,h1]) (fun i c v hc hv=>?_)
     have hi:i < cs.length:=by rw [← hl];exact (ap.1 hc).1
     exact ih i cs[i] c (by simp [hi]) hc (h2 i _ _ (by simp [hi]) hv)
 | co c=>exact (c.at r h).mono mono
 | LI q=>exact q w S v r h
 | arr sz b len xs f hl=>
   obtain ⟨h0,a,c,tO,e1,h1,h2,h3⟩:=(Src.whole (hp:=hp) (sz:=sz) b len xs (.inl f) hl).at r h
   exact rm ⟨h0,a,c,tO,e1,h1,h2.mono mono,h3⟩ (fun ad l c hv hp=>let ⟨g1,g2⟩:=(ti h).1 ad l c hv hp;⟨g1,.inr ⟨_,f.mem,fF g2⟩⟩) (ti h).2
 | part sz b off len xs f hl=>
   obtain ⟨h0,a,c,tO,e1,h1,h2,h3⟩:=(Src.part (hp:=hp) (sz:=sz) b off len xs (.inl f) hl).at r h
   exact rm ⟨h0,a,c,tO,e1,h1,h2.mono mono,h3⟩ (fun ad l c hv hp=>let ⟨g1,g2⟩:=(ti h).1 ad l c hv hp;⟨g1,.inr ⟨_,f.mem,fF g2⟩⟩) (ti h).2
theorem u7.at {w:World} {S:Nat→Prop} {hp:Heap} (r:de w S hp):∀ {l l':List AV},u7 hp l l'→∀ {vs:List Value},l.length=vs.length→oe w S l vs.toArray→l'.length=vs.length∧oe w (SB S hp) l' vs.toArray
 | [],_,.nil,vs,hl,h=>⟨hl,fun i c v hc=>by simp at hc⟩
 | a :: l,_,.cons (a':=a') (l':=l') c k,vs,hl,h=>by
   match vs,hl with
   | v :: vs,hl=>
     obtain ⟨g1,g2⟩:=u7.at r k (vs:=vs) (by simpa using hl) (fun i c u hc hu=>h (i+1) c u (by simpa using hc) (by simpa using hu))
     refine ⟨by simpa using g1,fun i c u hc hu=>?_⟩
     match i with
     | 0=>
       simp at hc hu
       subst hc
       subst hu
       exact lD.at ‹lD hp a a'› r (h 0 a v (by simp) (by simp))
     | i+1=>exact g2 i c u (by simpa using hc) (by simpa using hu)
theorem kT.FJ {w w':World} {S S':Nat→Prop} {h':Heap} (e:kT w S [] w' S' h'):Ext w w':=
 ⟨e.os,e.tape,e.output,e.size,fun m hm=>(e.other m hm (fun ⟨x,hx,_⟩=>by simp at hx)).1,e.drawn⟩
theorem uC {w:World} {S:Nat→Prop} (h:∀ n,S n→n < w.heap.size) (hg:∀ g o,bU.Xk g=some o→S g∧o (w.heap[g]?)):de w S []:=⟨by simp,by simp,by simp,h,hg⟩
theorem RT {f:FuncId} {args:List Operand} {ts:Array TypeId} {l l':List AV} {Qc:AV→Heap→Prop} [bN P f] (hl:B9 tm args=some l) (c:aR P f l' [] Qc) (co:u7 hp l l') (hn:ai d n=true)
 (kk:∀ r h',Qc r h'→r.Xz=true∧ae P all rest ⟨n,(d,r) :: tm,hp⟩ Q):ae P all (⟨some d,.call {callee:=.value (.func f),args:=args.toArray,argTypes:=ts},ty,pos,af,none⟩ :: rest) ⟨n,tm,hp⟩ Q:=by
 refine ae.HZ rfl fun w S a r=>⟨f,_,oh a w,?_⟩
 obtain ⟨g1,g2⟩:=tj (σ:=⟨n,tm,hp⟩) r hl
 obtain ⟨g3,g4⟩:=u7.at r.hp co g1 g2
 refine (c w (SB S hp) _ (uC (fun m hm=>hm.elim (r.hp.slt m) fun h=>r.hp.lt h) (fun g o ho=>⟨.inl (r.hp.gh g o ho).1,(r.hp.gh g o ho).2⟩)) (by simpa using g3) g4).mono ?_
 rintro e w' ⟨v,rr,h',S',rfl,hq,h3,h4,h5⟩
 obtain ⟨k1,k2⟩:=kk rr h' hq
 have ex:=h5.FJ
 exact ⟨v,S,⟨n,(d,rr) :: tm,hp⟩,rfl,(r.ext ex).put hn (OG h3 k1),kT.ext r.hp.slt ex,k2⟩
def AQ (P:Program) (all:Array Oper) (l:List Oper) (σ:St) (Q:St→Prop):Prop:=
 ∀ w S a,eU w S σ a→wpQuiet P all (Ext w) (fun a'=>∃ sb,Q ⟨σ.n,sb,σ.hp⟩∧eU w S ⟨σ.n,sb,σ.hp⟩ a') l a
end rules
section
variable {P:Program} {R:St→Prop} {k:List It} {σ:St}
theorem ab.UZ {c:Operand} {x y:Code} {p:Prop} [Decidable p] (hc:du σ.tm c=some (.bool (decide p))) (h1:p→ab P R (.code x :: k) σ) (h2:¬ p→ab P R (.code y :: k) σ):ab P R (.code (.cond c x y) :: k) σ:=
 ab.cond hc (fun h=>h1 (of_decide_eq_true h)) (fun h=>h2 (of_decide_eq_false h))
end
theorem eU.lit {w:World} {S:Nat→Prop} {n:Nat} {tm:List (Nat×AV)} {hp:Heap} {a:Act} {s:Nat} {b c:Bool} (r:eU w S ⟨n,tm,hp⟩ a) (hs:lk tm s=some (.bool b)) (hb:b=c):eU w S ⟨n,(s,.bool c) :: tm,hp⟩ a:=by
 subst hb
 refine ⟨r.size,r.defers,fun t av h=>?_,r.hp⟩
 simp only [lk] at h
 split at h
 ·rename_i hb
  obtain rfl:s=t:=by simpa using hb
  obtain rfl:=aa h
  exact r.tm s _ hs
 ·exact r.tm t av h
section rules
variable {P:Program} {all:Array Oper} {rest:List Oper} {n:Nat} {tm:List (Nat×AV)} {hp:Heap} {Q:St→Prop} {d:Nat} {ty:TypeId} {pos:String} {af:Array Edge} {op:Op} {j s:Nat}
theorem ae.lit {l:List Oper} {b c:Bool} (hs:lk tm s=some (.bool b)) (hb:b=c) (k:ae P all l ⟨n,(s,.bool c) :: tm,hp⟩ Q):ae P all l ⟨n,tm,hp⟩ Q:=
 fun w S a r=>k w S a (r.lit hs hb)
theorem ae.guard {want b:Bool} (hj:(all[j]?).bind (·.dst)=some s) (hs:lk tm s=some (.bool b)) (hn:ai d n=true) (h1:b=want→ae P all (⟨some d,op,ty,pos,af,none⟩ :: rest) ⟨n,(s,.bool want) :: tm,hp⟩ Q)
 (h2:b=!want→ae P all rest ⟨n,(d,.raw undef) :: (s,.bool (!want)) :: tm,hp⟩ Q):ae P all (⟨some d,op,ty,pos,af,some (j,want)⟩ :: rest) ⟨n,tm,hp⟩ Q:=by
 by_cases hb:b=want
 ·exact ae.lit hs hb (ae.ay hj (by simp [lk]) rfl (h1 hb))
 ·have Bx:b=!want:=by cases b<;>cases want<;>simp_all
  exact ae.lit hs Bx (ae.au hj (b:=!want) (by simp [lk]) rfl hn (h2 Bx))
theorem ae.dJ {p:Prop} [Decidable p] (hj:(all[j]?).bind (·.dst)=some s) (hs:lk tm s=some (.bool (decide p))) (hn:ai d n=true) (h1:p→ae P all (⟨some d,op,ty,pos,af,none⟩ :: rest) ⟨n,(s,.bool true) :: tm,hp⟩ Q)
 (h2:¬ p→ae P all rest ⟨n,(d,.raw undef) :: (s,.bool false) :: tm,hp⟩ Q):ae P all (⟨some d,op,ty,pos,af,some (j,true)⟩ :: rest) ⟨n,tm,hp⟩ Q:=
 ae.guard hj hs hn (fun h=>h1 (of_decide_eq_true h)) (fun h=>h2 (of_decide_eq_false h))
theorem ae.dA {p:Prop} [Decidable p] (hj:(all[j]?).bind (·.dst)=some s) (hs:lk tm s=some (.bool (decide p))) (hn:ai d n=true) (h1:¬ p→ae P all (⟨some d,op,ty,pos,af,none⟩ :: rest) ⟨n,(s,.bool false) :: tm,hp⟩ Q)
 (h2:p→ae P all rest ⟨n,(d,.raw undef) :: (s,.bool true) :: tm,hp⟩ Q):ae P all (⟨some d,op,ty,pos,af,some (j,false)⟩ :: rest) ⟨n,tm,hp⟩ Q:=
 ae.guard hj hs hn (fun h=>h1 (of_decide_eq_false h)) (fun h=>h2 (of_decide_eq_true h))
theorem C7 {xt:TypeId} {x:Operand} {p:Prop} [Decidable p] (hx:du tm x=some (.bool (decide p))):QV P ⟨some d,.unOp .not xt x,ty,pos,af,none⟩ ⟨n,tm,hp⟩ (.bool (decide (¬ p))):=by
 have h:(!decide p)=decide (¬ p):=by by_cases h:p<;>simp [h]
 rw [← h]
 exact cV hx
end rules
end Go.Eng
