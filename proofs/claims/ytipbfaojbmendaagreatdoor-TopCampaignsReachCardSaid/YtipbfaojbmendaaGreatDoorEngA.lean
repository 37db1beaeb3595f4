/- The engine: abstract values, the symbolic heap, one rule for each operation. No program in sight. -/
import Derived.WalkKit
import Derived.Deep.Quiet
import Derived.Lib.FrozenHead
open Array renaming getElem?_eq_none→cU
open Bool renaming and_eq_true→bW,eq_iff_iff→c7
open List renaming getElem?_eq_some_iff→ap,getElem?_take→aL,mem_flatMap→a6,mem_append→a7,nodup_append→a8,getElem?_drop→be,flatMap_cons→bi,mem_append_right→bo,mem_cons→bu,getElem?_toArray→bv,append_assoc→bx,getElem?_append_left→bP,flatMap_append→bU,mem_of_getElem?→bX,length_append→b4,getElem?_append_right→b5,mem_append_left→b6,mem_of_mem_drop→ce,length_nil→cf,length_cons→ci,append_nil→cl,mem_of_mem_take→cy,Sublist.refl→cz,mem_filterMap→cA,map_cons→c8,take_of_length_le→dg,eq_nil_of_length_eq_zero→dn
open Nat renaming beq→ac,le_refl→ag,blt→ai,add_mul→al,eq_of_beq_eq_true→aw,mul_le_mul_right→bz,one_mul→bG,le_trans→b3,ble→b7,le_of_ble_eq_true→b8,add_zero→b9,zero_add→ca,lt_of_lt_of_le→cb,add_assoc→cn,lt_or_ge→cH,zero_mul→dk,add_comm→dl
open Option renaming some.inj→aa,some.injEq→bp
set_option linter.unusedSectionVars false
namespace Go.Eng
open Go
class ck where
 U7:Nat→Option (Option Obj→Prop)
 dr:Prop
theorem BR {a b:Option Obj} {p:Option Obj→Prop} (e:a=b) (h:p b):p a:=e▸h
variable [ck]
@[reducible] def nB [G:ck]:ck:=⟨G.U7,True⟩
structure Bk where
 dp:Option Nat
 cap:Nat
inductive AV where
 | int (k:IntKind) (n:Int)
 | bool (b:Bool)
 | str (s:List UInt8)
 | agg (cs:List AV)
 | ma (vs:List AV)
 | list (sz:Nat) (xs:List AV)
 | nil
 | ptr (b:Bk) (o:Nat)
 | sl (sz:Nat) (b:Bk) (off len:Nat)
 | cw (cs:List AV)
 | sh (sz:Nat) (b:Bk) (i o:Nat)
 | func (fn:Fn) (zI:List AV)
 | bO (b:Bk)
 | raw (v:Value)
 | JF (φ:World→(Nat→Prop)→Value→Prop)
def AV.cells:AV→List AV
 | .agg cs=>cs
 | x=>[x]
def AV.one:AV→Bool
 | .agg _=>false
 | .ma _=>false
 | .raw v=>v.oneCell'
 | _=>true
def El (sz:Nat) (x:AV):Prop:=x.cells.length=sz∧∀ c∈x.cells,c.one=true
def flat (xs:List AV):List AV:=xs.flatMap AV.cells
inductive At (w:World) (S:Nat→Prop):AV→Value→Prop
 | int (k:IntKind) (n:Int):At w S (.int k n) (.int k n)
 | bool (b:Bool):At w S (.bool b) (.bool b)
 | str (s:List UInt8):At w S (.str s) (.string ⟨s.toArray⟩)
 | agg (cs:List AV) (vs:Array Value) (hl:cs.length=vs.size) (h:∀ (i:Nat) c v,cs[i]? =some c→vs[i]? =some v→At w S c v):At w S (.agg cs) (.agg vs)
 | ma (cs:List AV) (vs:Array Value) (hl:cs.length=vs.size) (h:∀ (i:Nat) c v,cs[i]? =some c→vs[i]? =some v→At w S c v):At w S (.ma cs) (.tuple vs)
 | list (sz:Nat) (xs:List AV) (a:Option Addr) (cap:Nat) (vs:List Value) (lp:∀ x∈xs,El sz x) (hl:(flat xs).length=vs.length)
  (h:∀ (i:Nat) c v,(flat xs)[i]? =some c→vs[i]? =some v→At w S c v)
  (hm:∀ (i:Nat) v,vs[i]? =some v→∃ ad,a=some ad∧ad.spot=none∧S ad.block∧w.cell? ⟨ad.block,ad.off+i,none⟩=some v)
  (hc:xs.length≤cap):At w S (.list sz xs) (.slice a xs.length cap)
 | nil:At w S .nil (.slice none 0 0)
 | ptr (b:Bk) (o n:Nat) (hb:b.dp=some n):At w S (.ptr b o) (.pointer (some ⟨n,o,none⟩))
 | A7 (sz:Nat) (b:Bk) (hb:b.dp=none):At w S (.sl sz b 0 0) (.slice none 0 0)
 | sl (sz:Nat) (b:Bk) (off len n cap:Nat) (hb:b.dp=some n) (h1:len≤cap) (h2:off+cap≤b.cap):At w S (.sl sz b off len) (.slice (some ⟨n,off * sz,none⟩) len cap)
 | Pq (sz:Nat) (b:Bk) (off n:Nat) (ad:Addr) (hb:b.dp=some n):At w S (.sl sz b off 0) (.slice (some ad) 0 0)
 | cw (cs:List AV) (ad:Addr) (vs:List Value) (hl:cs.length=vs.length) (h:∀ (i:Nat) c v,cs[i]? =some c→vs[i]? =some v→At w S c v)
  (hs:ad.spot=none) (hS:S ad.block) (hm:∀ (i:Nat) v,vs[i]? =some v→w.cell? ⟨ad.block,ad.off+i,none⟩=some v):At w S (.cw cs) (.pointer (some ad))
 | sh (sz:Nat) (b:Bk) (i o n:Nat) (hb:b.dp=some n):At w S (.sh sz b i o) (.pointer (some ⟨n,i * sz+o,none⟩))
 | func (fn:Fn) (cs:List AV) (vs:Array Value) (hl:cs.length=vs.size) (h:∀ (i:Nat) c v,cs[i]? =some c→vs[i]? =some v→At w S c v):At w S (.func fn cs) (.func fn #[] vs)
 | bO (b:Bk) (n:Nat) (hb:b.dp=some n):At w S (.bO b) (.map (some n))
 | raw (v:Value):At w S (.raw v) v
 | JF (φ:World→(Nat→Prop)→Value→Prop) (v:Value) (hm:∀ (w w':World) (S S':Nat→Prop) (v:Value),(∀ n,S n→S' n∧w'.heap[n]? =w.heap[n]?)→φ w S v→φ w' S' v) (h1:∀ (w:World) (S:Nat→Prop) (v:Value),φ w S v→v.oneCell'=true) (h:φ w S v):At w S (.JF φ) v
theorem cell_of_heap {w w':World} {n o:Nat} (h:w'.heap[n]? =w.heap[n]?):w'.cell? ⟨n,o,none⟩=w.cell? ⟨n,o,none⟩:=by
 simp only [World.cell?,h]
theorem At.mono {w w':World} {S S':Nat→Prop} {av:AV} {v:Value} (hs:∀ n,S n→S' n∧w'.heap[n]? =w.heap[n]?) (h:At w S av v):At w' S' av v:=by
 induction h with
 | int k n=>exact .int k n
 | bool b=>exact .bool b
 | str s=>exact .str s
 | agg cs vs hl _ ih=>exact .agg cs vs hl ih
 | ma cs vs hl _ ih=>exact .ma cs vs hl ih
 | list sz xs a cap vs lp hl _ hm hc ih=>
   refine .list sz xs a cap vs lp hl ih (fun i v hv=>?_) hc
   obtain ⟨ad,h1,h2,h3,h4⟩:=hm i v hv
   exact ⟨ad,h1,h2,(hs _ h3).1,by rw [cell_of_heap (hs _ h3).2];exact h4⟩
 | nil=>exact .nil
 | ptr b o n hb=>exact .ptr b o n hb
 | A7 sz b hb=>exact .A7 sz b hb
 | sl sz b off len n cap hb h1 h2=>exact .sl sz b off len n cap hb h1 h2
 | Pq sz b off n ad hb=>exact .Pq sz b off n ad hb
 | cw cs ad vs hl _ Mc hS hm ih=>
   exact .cw cs ad vs hl ih Mc (hs _ hS).1 (fun i v hv=>by rw [cell_of_heap (hs _ hS).2];exact hm i v hv)
 | sh sz b i o n hb=>exact .sh sz b i o n hb
 | func fn cs vs hl _ ih=>exact .func fn cs vs hl ih
 | bO b n hb=>exact .bO b n hb
 | raw v=>exact .raw v
 | JF φ v hm h1 h=>exact .JF φ v hm h1 (hm _ _ _ _ _ hs h)
structure oY where
 k:AV
 v:AV
 born:Nat
def oY.kv (e:oY):AV×AV:=(e.k,e.v)
inductive PO where
 | cells (cs:List AV)
 | arr (sz:Nat) (xs:List AV)
inductive Ob where
 | cells (cs:List AV)
 | arr (sz:Nat) (xs:List AV)
 | yD (sz:Nat) (xs:List AV)
 | mp (es:List (AV×AV))
 | U8 (L:List oY) (c:Nat)
 | EN (es:List (AV×AV)) (q:Nat) (k:AV)
 | U9 (bm:Bk) (c:Nat) (seen:List Nat)
 | cC (es:List (Bk×PO))
 | UE (T E:TypeId) (row:Option Nat) (bs:List UInt8)
 | Va (s:List UInt8) (pos:Nat)
 | Vb (xs:List Int)
abbrev Heap:=List (Bk×Ob)
def PO.ob:PO→Ob
 | .cells cs=>.cells cs
 | .arr sz xs=>.arr sz xs
def Ob.more:Ob→List Nat
 | .cC es=>es.filterMap (·.1.dp)
 | .UE _ _ row _=>row.toList
 | _=>[]
def eb (e:Bk×Ob):List Nat:=e.1.dp.toList++e.2.more
theorem gO {b:Bk} {o:Ob} {n:Nat} (h:b.dp=some n):n∈eb (b,o):=by simp [eb,h]
theorem vZ {b:Bk} {o:Ob} {n:Nat} (hm:o.more=[]):n∈eb (b,o)↔b.dp=some n:=by simp [eb,hm]
def pY (w:World) (S:Nat→Prop) (cs:List AV) (vs:Array Value):Prop:=∀ (i:Nat) c v,cs[i]? =some c→vs[i]? =some v→At w S c v
theorem pY.mono {w w':World} {S S':Nat→Prop} {cs:List AV} {vs:Array Value} (hs:∀ n,S n→S' n∧w'.heap[n]? =w.heap[n]?) (h:pY w S cs vs):pY w' S' cs vs:=
 fun i c v hc hv=>(h i c v hc hv).mono hs
def tX (w:World) (S:Nat→Prop) (b:Bk) (L:List oY) (c:Nat):Prop:=
 ∃ n dC,b.dp=some n∧w.heap[n]? =some (.map dC c)∧dC.size=L.length∧(∀ (i:Nat) e m,L[i]? =some e→dC[i]? =some m→m.born=e.born∧At w S e.k m.key∧At w S e.v m.val)∧
   (∀ e∈L,e.born < c)∧(L.map (·.born)).Nodup∧(L.map (·.k)).Nodup
theorem tX.mono {w w':World} {S S':Nat→Prop} {b:Bk} {L:List oY} {c:Nat} (hs:∀ n,S n→S' n∧w'.heap[n]? =w.heap[n]?) (hb:∀ n,b.dp=some n→w'.heap[n]? =w.heap[n]?) (h:tX w S b L c):tX w' S' b L c:=by
 obtain ⟨n,dC,g1,g2,g3,g4,g5⟩:=h
 exact ⟨n,dC,g1,by rw [hb n g1];exact g2,g3,fun i e m he hm=>⟨(g4 i e m he hm).1,(g4 i e m he hm).2.1.mono hs,(g4 i e m he hm).2.2.mono hs⟩,g5⟩
def pc (w:World) (S:Nat→Prop) (b:Bk):PO→Prop
 | .cells cs=>(∀ c∈cs,c.one=true)∧∃ n vs E,b.dp=some n∧w.heap[n]? =some (.cells vs E (0,0))∧vs.size=cs.length∧pY w S cs vs
 | .arr sz xs=>(∀ x∈xs,El sz x)∧xs.length≤b.cap∧
  ((b.dp=none∧b.cap=0)∨∃ n vs E,b.dp=some n∧w.heap[n]? =some (.cells vs E (0,0))∧vs.size=b.cap * sz∧pY w S (flat xs) vs)
def Holds (w:World) (S:Nat→Prop) (b:Bk):Ob→Prop
 | .cells cs=>(∀ c∈cs,c.one=true)∧∃ n vs E,b.dp=some n∧w.heap[n]? =some (.cells vs E (0,0))∧vs.size=cs.length∧pY w S cs vs
 | .arr sz xs | .yD sz xs=>(∀ x∈xs,El sz x)∧xs.length≤b.cap∧
  ((b.dp=none∧b.cap=0)∨∃ n vs E,b.dp=some n∧w.heap[n]? =some (.cells vs E (0,0))∧vs.size=b.cap * sz∧pY w S (flat xs) vs)
 | .mp es=>∃ L c,(L.map oY.kv).Perm es∧tX w S b L c
 | .U8 L c=>tX w S b L c
 | .EN es q k=>∃ L c,(L.map oY.kv).Perm es∧tX w S b L c∧((∃ e∈L,e.k=k∧e.born=q)∨((∀ e∈L,e.k≠k)∧q=c))
 | .U9 bm c seen=>∃ n nm,b.dp=some n∧bm.dp=some nm∧w.heap[n]? =some (.mapIter (some nm) c seen.toArray c)
 | .cC es=>b.dp=none∧∀ e∈es,pc w S e.1 e.2
 | .UE T E row bs=>∃ n p v,b.dp=some n∧w.heap[n]? =some (.cells #[p,v] T (0,0))∧(p=.pointer none∨p=.pointer (some ⟨n,0,none⟩))∧w.ownsRowF 0 E 1 v bs.length (Lib.byteCells bs)∧v.ownBlock=row
 | .Va s pos=>∃ n,b.dp=some n∧w.heap[n]? =some (.stringIter ⟨s.toArray⟩ pos)
 | .Vb xs=>∃ n vs E,b.dp=some n∧w.heap[n]? =some (.cells vs E (vs.size,vs.size+1))∧vs.size=b.cap∧xs.length≤b.cap∧∀ (i:Nat) z,xs[i]? =some z→vs[i]? =some (.int .u8 z)
theorem pc.ob {w:World} {S:Nat→Prop} {b:Bk} {o:PO}:pc w S b o↔Holds w S b o.ob:=by cases o<;>exact Iff.rfl
theorem tz {α β:Type} {f:α→List β} {l l':List α} (h:l.Sublist l'):(l.flatMap f).Sublist (l'.flatMap f):=by
 induction h with
 | slnil=>exact cz _
 | cons a _ ih=>rw [bi];exact ih.trans (List.sublist_append_right _ _)
 | cons_cons a _ ih=>rw [bi,bi];exact List.Sublist.append (cz _) ih
def Ob.Ao:Ob→Prop
 | .yD _ _=>True
 | _=>False
def Has (h:Heap) (n:Nat):Prop:=∃ e∈h,n∈eb e
structure cY (w:World) (S:Nat→Prop) (h:Heap):Prop where
 nodup:(h.flatMap eb).Nodup
 holds:∀ e∈h,Holds w S e.1 e.2
 sep:∀ e∈h,∀ n,n∈eb e→(S n↔e.2.Ao)
 slt:∀ n,S n→n < w.heap.size
 ib:∀ g o,ck.U7 g=some o→S g∧o (w.heap[g]?)
structure lr (w:World) (S:Nat→Prop) (h:Heap) (w':World) (S':Nat→Prop) (h':Heap):Prop where
 os:w'.os=w.os
 tape:w'.tape=w.tape
 output:w'.output=w.output
 size:w.heap.size≤w'.heap.size
 lz:∀ n,S n→S' n∧w'.heap[n]? =w.heap[n]?
 other:∀ n,n < w.heap.size→¬ Has h n→w'.heap[n]? =w.heap[n]?∧(S' n→S n)
 new:∀ n,Has h' n→Has h n∨w.heap.size≤n
 drawn:ck.dr→w.drawn≤w'.drawn
theorem lr.refl (w:World) (S:Nat→Prop) (h:Heap):lr w S h w S h:=
 ⟨rfl,rfl,rfl,ag _,fun _ hs=>⟨hs,rfl⟩,fun _ _ _=>⟨rfl,id⟩,fun _ hn=>.inl hn,fun _=>ag _⟩
theorem lr.trans {w w1 w2:World} {S S1 S2:Nat→Prop} {h h1 h2:Heap} (a:lr w S h w1 S1 h1) (b:lr w1 S1 h1 w2 S2 h2):lr w S h w2 S2 h2 where
 os:=b.os.trans a.os
 tape:=b.tape.trans a.tape
 output:=b.output.trans a.output
 size:=b3 a.size b.size
 lz n hs:=⟨(b.lz n (a.lz n hs).1).1,(b.lz n (a.lz n hs).1).2.trans (a.lz n hs).2⟩
 other n hn hh:=by
  have Gb:¬ Has h1 n:=fun hc=>by
   rcases a.new n hc with h | h
   ·exact hh h
   ·omega
  obtain ⟨e1,s1⟩:=a.other n hn hh
  obtain ⟨e2,s2⟩:=b.other n (cb hn a.size) Gb
  exact ⟨e2.trans e1,fun hs=>s1 (s2 hs)⟩
 new n hn:=by
  rcases b.new n hn with h | h
  ·exact a.new n h
  ·exact .inr (b3 a.size h)
 drawn:=fun h=>b3 (a.drawn h) (b.drawn h)
theorem lr.less {w w':World} {S S':Nat→Prop} {h h' h2:Heap} (a:lr w S h w' S' h') (hl:∀ n,Has h2 n→Has h' n):lr w S h w' S' h2:=
 {a with new:=fun n hn=>a.new n (hl n hn)}
theorem pc.mono {w w':World} {S S':Nat→Prop} {b:Bk} {o:PO} (hs:∀ n,S n→S' n∧w'.heap[n]? =w.heap[n]?) (hb:∀ n,b.dp=some n→w'.heap[n]? =w.heap[n]?)
 (h:pc w S b o):pc w' S' b o:=by
 cases o with
 | cells cs=>
   obtain ⟨h0,n,vs,E,h1,h2,h3,h4⟩:=h
   exact ⟨h0,n,vs,E,h1,by rw [hb n h1];exact h2,h3,h4.mono hs⟩
 | arr sz xs=>
   obtain ⟨h1,h2,h3⟩:=h
   refine ⟨h1,h2,h3.imp id ?_⟩
   rintro ⟨n,vs,E,g1,g2,g3,g4⟩
   exact ⟨n,vs,E,g1,by rw [hb n g1];exact g2,g3,g4.mono hs⟩
theorem Dk {w w':World} {base:Nat} {e:TypeId} {size:Nat} {v:Value} {n:Nat} {xs:List Value} (h:w.ownsRowF base e size v n xs) (hk:∀ k,v.ownBlock=some k→w'.heap[k]? =w.heap[k]?):w'.ownsRowF base e size v n xs:=by
 refine ⟨h.1,?_⟩
 rcases h.2 with hn | ⟨g,cap,cur,fz,rfl,hb,hgg,rest⟩
 ·exact .inl hn
 ·exact .inr ⟨g,cap,cur,fz,rfl,hb,by rw [hk g rfl];exact hgg,rest⟩
theorem Holds.mono {w w':World} {S S':Nat→Prop} {b:Bk} {o:Ob} (hs:∀ n,S n→S' n∧w'.heap[n]? =w.heap[n]?) (hb:∀ n,n∈eb (b,o)→w'.heap[n]? =w.heap[n]?)
 (h:Holds w S b o):Holds w' S' b o:=by
 have Bu:∀ n,b.dp=some n→w'.heap[n]? =w.heap[n]?:=fun n hn=>hb n (gO hn)
 cases o with
 | cells cs=>
   obtain ⟨h0,n,vs,E,h1,h2,h3,h4⟩:=h
   exact ⟨h0,n,vs,E,h1,by rw [Bu n h1];exact h2,h3,h4.mono hs⟩
 | arr sz xs=>
   obtain ⟨h1,h2,h3⟩:=h
   refine ⟨h1,h2,h3.imp id ?_⟩
   rintro ⟨n,vs,E,g1,g2,g3,g4⟩
   exact ⟨n,vs,E,g1,by rw [Bu n g1];exact g2,g3,g4.mono hs⟩
 | yD sz xs=>
   obtain ⟨h1,h2,h3⟩:=h
   refine ⟨h1,h2,h3.imp id ?_⟩
   rintro ⟨n,vs,E,g1,g2,g3,g4⟩
   exact ⟨n,vs,E,g1,by rw [Bu n g1];exact g2,g3,g4.mono hs⟩
 | mp es=>
   obtain ⟨L,c,hp,h⟩:=h
   exact ⟨L,c,hp,h.mono hs Bu⟩
 | U8 L c=>exact tX.mono hs Bu h
 | EN es q k=>
   obtain ⟨L,c,hp,h,hq⟩:=h
   exact ⟨L,c,hp,h.mono hs Bu,hq⟩
 | U9 bm c seen=>
   obtain ⟨n,nm,g1,g2,g3⟩:=h
   exact ⟨n,nm,g1,g2,by rw [Bu n g1];exact g3⟩
 | Va s pos=>
   obtain ⟨n,g1,g3⟩:=h
   exact ⟨n,g1,by rw [Bu n g1];exact g3⟩
 | Vb xs=>
   obtain ⟨n,vs,E,g1,g3,g4⟩:=h
   exact ⟨n,vs,E,g1,by rw [Bu n g1];exact g3,g4⟩
 | cC es=>
   obtain ⟨h1,h2⟩:=h
   exact ⟨h1,fun e he=>(h2 e he).mono hs (fun n hn=>hb n (by
    unfold eb Ob.more
    exact bo _ (cA.2 ⟨e,he,hn⟩)))⟩
 | UE T E row bs=>
   obtain ⟨n,p,v,g1,g2,g3,g4,g5⟩:=h
   exact ⟨n,p,v,g1,by rw [Bu n g1];exact g2,g3,Dk g4 (fun k hk=>hb k (by
    rw [g5] at hk
    unfold eb Ob.more
    exact bo _ (by simp [hk]))),g5⟩
theorem vx {w:World} {n:Nat} {o:Obj} (h:w.heap[n]? =some o):n < w.heap.size:=by
 rcases cH n w.heap.size with h' | h'
 ·exact h'
 ·simp [cU h'] at h
theorem pc.lt {w:World} {S:Nat→Prop} {b:Bk} {o:PO} (h:pc w S b o) {n:Nat} (hn:b.dp=some n):n < w.heap.size:=by
 cases o with
 | cells cs=>
   obtain ⟨_,m,vs,E,h1,h2,_⟩:=h
   obtain rfl:m=n:=by rw [h1] at hn;exact aa hn
   exact vx h2
 | arr sz xs=>
   obtain ⟨_,_,⟨h3,_⟩ | ⟨m,vs,E,h1,h2,_⟩⟩:=h
   ·rw [h3] at hn;cases hn
   ·obtain rfl:m=n:=by rw [h1] at hn;exact aa hn
    exact vx h2
theorem Holds.lt {w:World} {S:Nat→Prop} {b:Bk} {o:Ob} (h:Holds w S b o) {n:Nat} (hnn:n∈eb (b,o)):n < w.heap.size:=by
 by_cases hb:b.dp=some n
 ·have hn:=hb
  cases o with
  | cells cs=>
    obtain ⟨_,m,vs,E,h1,h2,_⟩:=h
    obtain rfl:m=n:=by rw [h1] at hn;exact aa hn
    exact vx h2
  | arr sz xs=>
    obtain ⟨_,_,⟨h3,_⟩ | ⟨m,vs,E,h1,h2,_⟩⟩:=h
    ·rw [h3] at hn;cases hn
    ·obtain rfl:m=n:=by rw [h1] at hn;exact aa hn
     exact vx h2
  | yD sz xs=>
    obtain ⟨_,_,⟨h3,_⟩ | ⟨m,vs,E,h1,h2,_⟩⟩:=h
    ·rw [h3] at hn;cases hn
    ·obtain rfl:m=n:=by rw [h1] at hn;exact aa hn
     exact vx h2
  | mp es=>
    obtain ⟨_,_,_,m,dC,h1,h2,_⟩:=h
    obtain rfl:m=n:=by rw [h1] at hn;exact aa hn
    exact vx h2
  | U8 L c=>
    obtain ⟨m,dC,h1,h2,_⟩:=h
    obtain rfl:m=n:=by rw [h1] at hn;exact aa hn
    exact vx h2
  | EN es q k=>
    obtain ⟨_,_,_,⟨m,dC,h1,h2,_⟩,_⟩:=h
    obtain rfl:m=n:=by rw [h1] at hn;exact aa hn
    exact vx h2
  | U9 bm c seen=>
    obtain ⟨m,nm,h1,_,h2⟩:=h
    obtain rfl:m=n:=by rw [h1] at hn;exact aa hn
    exact vx h2
  | Va s pos=>
    obtain ⟨m,h1,h2⟩:=h
    obtain rfl:m=n:=by rw [h1] at hn;exact aa hn
    exact vx h2
  | Vb xs=>
    obtain ⟨m,vs,E,h1,h2,_⟩:=h
    obtain rfl:m=n:=by rw [h1] at hn;exact aa hn
    exact vx h2
  | cC es=>
    obtain ⟨h1,_⟩:=h
    rw [h1] at hn;cases hn
  | UE T E row bs=>
    obtain ⟨m,p,v,h1,h2,_⟩:=h
    obtain rfl:m=n:=by rw [h1] at hn;exact aa hn
    exact vx h2
 ·have hm:n∈o.more:=by
   unfold eb at hnn
   rcases a7.1 hnn with h | h
   ·exact absurd (by simpa using h) hb
   ·exact h
  cases o with
  | cC es=>
    obtain ⟨e,he,tY⟩:=cA.1 hm
    exact (h.2 e he).lt tY
  | UE T E row bs=>
    obtain ⟨m,p,v,h1,h2,h3,h4,h5⟩:=h
    have hr:row=some n:=by simpa [Ob.more] using hm
    exact (h4.lt n (h5.trans hr)).2
  | cells=>simp [Ob.more] at hm
  | arr=>simp [Ob.more] at hm
  | yD=>simp [Ob.more] at hm
  | mp=>simp [Ob.more] at hm
  | U8=>simp [Ob.more] at hm
  | EN=>simp [Ob.more] at hm
  | U9=>simp [Ob.more] at hm
  | Va=>simp [Ob.more] at hm
  | Vb=>simp [Ob.more] at hm
theorem cY.lt {w:World} {S:Nat→Prop} {h:Heap} (r:cY w S h) {n:Nat} (hn:Has h n):n < w.heap.size:=by
 obtain ⟨e,he,hb⟩:=hn
 exact (r.holds e he).lt hb
theorem At.Ik {w:World} {S:Nat→Prop} {c:AV} {v:Value} (h:At w S c v) (ho:c.one=true):v.oneCell'=true:=by
 cases h<;>first | rfl | (simp [AV.one] at ho;done) | exact ho | (rename_i h1 h;exact h1 _ _ _ h)
theorem jG (x:AV) (xs:List AV):flat (x :: xs)=x.cells++flat xs:=by simp [flat]
theorem Ap (xs ys:List AV):flat (xs++ys)=flat xs++flat ys:=by simp [flat]
theorem dP {sz:Nat}:∀ {xs:List AV},(∀ x∈xs,El sz x)→(flat xs).length=xs.length * sz
 | [],_=>by simp [flat]
 | x :: xs,h=>by
   rw [jG,b4,(h x (by simp)).1,dP (fun y hy=>h y (by simp [hy])),ci,al]
   omega
theorem Md {sz:Nat} {xs:List AV} (h:∀ x∈xs,El sz x):∀ c∈flat xs,c.one=true:=by
 intro c hc
 obtain ⟨x,hx,Yf⟩:=a6.1 hc
 exact (h x hx).2 c Yf
theorem oe {sz:Nat}:∀ {xs:List AV} {i:Nat} {x:AV},(∀ x∈xs,El sz x)→xs[i]? =some x→∀ j,j < sz→(flat xs)[i * sz+j]? =x.cells[j]?
 | [],i,x,_,h,_,_=>by simp at h
 | y :: xs,0,x,hs,h,j,hj=>by
   simp at h;subst h
   rw [jG,bP (by rw [(hs y (by simp)).1];omega)]
   simp
 | y :: xs,i+1,x,hs,h,j,hj=>by
   simp at h
   rw [jG,b5 (by rw [(hs y (by simp)).1,al];omega),(hs y (by simp)).1]
   rw [show (i+1) * sz+j - sz=i * sz+j from by rw [al];omega]
   exact oe (fun z hz=>hs z (by simp [hz])) h j hj
structure Ext (w w':World):Prop where
 os:w'.os=w.os
 tape:w'.tape=w.tape
 output:w'.output=w.output
 size:w.heap.size≤w'.heap.size
 same:∀ n,n < w.heap.size→w'.heap[n]? =w.heap[n]?
 drawn:ck.dr→w.drawn≤w'.drawn
theorem Ext.refl (w:World):Ext w w:=⟨rfl,rfl,rfl,ag _,fun _ _=>rfl,fun _=>ag _⟩
theorem Ext.trans {a b c:World} (h:Ext a b) (k:Ext b c):Ext a c:=
 ⟨k.os.trans h.os,k.tape.trans h.tape,k.output.trans h.output,b3 h.size k.size,fun n hn=>(k.same n (cb hn h.size)).trans (h.same n hn),fun q=>b3 (h.drawn q) (k.drawn q)⟩
theorem Ext.alloc (w:World) (o:Obj):Ext w (w.alloc o):=
 ⟨rfl,rfl,rfl,by simp,fun n hn=>by show (w.heap.push o)[n]? =_;rw [Array.getElem?_push,if_neg (by omega)],fun _=>ag _⟩
theorem Ext.Me (w:World) (k:Nat) (h:w.drawn≤k):Ext w {w with drawn:=k}:=⟨rfl,rfl,rfl,ag _,fun _ _=>rfl,fun _=>h⟩
theorem cY.ext {w w':World} {S:Nat→Prop} {h:Heap} (r:cY w S h) (e:Ext w w'):cY w' S h where
 nodup:=r.nodup
 holds x hx:=(r.holds x hx).mono (fun n hn=>⟨hn,e.same n (r.slt n hn)⟩) (fun n hn=>e.same n (r.lt ⟨x,hx,hn⟩))
 sep:=r.sep
 slt n hn:=cb (r.slt n hn) e.size
 ib g o ho:=⟨(r.ib g o ho).1,BR (e.same g (r.slt g (r.ib g o ho).1)) (r.ib g o ho).2⟩
theorem lr.ext {w w':World} {S:Nat→Prop} {h:Heap} (r:∀ n,S n→n < w.heap.size) (e:Ext w w'):lr w S h w' S h:=
 ⟨e.os,e.tape,e.output,e.size,fun n hn=>⟨hn,e.same n (r n hn)⟩,fun n hn _=>⟨e.same n hn,id⟩,fun _ hn=>.inl hn,e.drawn⟩
theorem cY.frame {w w':World} {S S':Nat→Prop} {h h1 rest:Heap} (r:cY w S (h++rest)) (e:lr w S h w' S' h1) (r1:cY w' S' h1):cY w' S' (h1++rest):=by
 have ew:∀ x∈rest,∀ n,n∈eb x→n < w.heap.size∧¬ Has h n:=by
  intro x hx n hn
  refine ⟨r.lt ⟨x,bo _ hx,hn⟩,fun ⟨y,hy,Yg⟩=>?_⟩
  have:=r.nodup
  rw [bU,a8] at this
  exact this.2.2 n (a6.2 ⟨y,hy,Yg⟩) n (a6.2 ⟨x,hx,hn⟩) rfl
 refine ⟨?_,?_,?_,r1.slt,r1.ib⟩
 ·have:=r.nodup
  rw [bU,a8] at this ⊢
  refine ⟨r1.nodup,this.2.1,fun n hn m hm hnm=>?_⟩
  subst hnm
  obtain ⟨y,hy,Yg⟩:=a6.1 hn
  obtain ⟨x,hx,Vc⟩:=a6.1 hm
  rcases e.new n ⟨y,hy,Yg⟩ with hh | hh
  ·exact (ew x hx n Vc).2 hh
  ·have:=(ew x hx n Vc).1;omega
 ·intro x hx
  rcases a7.1 hx with hx | hx
  ·exact r1.holds x hx
  ·exact (r.holds x (bo _ hx)).mono e.lz (fun n hn=>(e.other n (ew x hx n hn).1 (ew x hx n hn).2).1)
 ·intro x hx n hn
  rcases a7.1 hx with hx | hx
  ·exact r1.sep x hx n hn
  ·rw [← r.sep x (bo _ hx) n hn]
   exact ⟨(e.other n (ew x hx n hn).1 (ew x hx n hn).2).2,fun hs=>(e.lz n hs).1⟩
theorem lr.frame {w w':World} {S S':Nat→Prop} {h h1:Heap} (rest:Heap) (e:lr w S h w' S' h1):lr w S (h++rest) w' S' (h1++rest) where
 os:=e.os
 tape:=e.tape
 output:=e.output
 size:=e.size
 drawn:=e.drawn
 lz:=e.lz
 other n hn hh:=e.other n hn (fun ⟨x,hx,hb⟩=>hh ⟨x,b6 _ hx,hb⟩)
 new n hn:=by
  obtain ⟨x,hx,hb⟩:=hn
  rcases a7.1 hx with hx | hx
  ·rcases e.new n ⟨x,hx,hb⟩ with ⟨y,hy,hyb⟩ | h
   ·exact .inl ⟨y,b6 _ hy,hyb⟩
   ·exact .inr h
  ·exact .inl ⟨x,bo _ hx,hb⟩
end Go.Eng
set_option linter.unusedVariables false
namespace Go.Eng
open Go
variable [ck]
theorem BS {a b:Nat} (h:ac a b=false):a≠b:=fun e=>by subst e;simp at h
theorem qI {a b:Nat} (h:a≠b):ac a b=false:=by
 cases hb:ac a b with
 | false=>rfl
 | true=>exact absurd (aw hb) h
def lk:List (Nat×AV)→Nat→Option AV
 | [],_=>none
 | (k,v) :: r,s=>match ac k s with
   | true=>some v
   | false=>lk r s
structure St where
 n:Nat
 tm:List (Nat×AV)
 hp:Heap
structure ey (w:World) (S:Nat→Prop) (σ:St) (a:Act):Prop where
 size:a.tmps.size=σ.n
 defers:a.defers=[]
 tm:∀ s av,lk σ.tm s=some av→∃ v,a.tmps[s]? =some v∧At w S av v
 hp:cY w S σ.hp
def RA:Value→AV
 | .int k n=>.int k n
 | .bool b=>.bool b
 | .string s=>.str s.data.toList
 | .slice none 0 0=>.nil
 | v=>.raw v
theorem EO (w:World) (S:Nat→Prop) (v:Value):At w S (RA v) v:=by
 unfold RA
 split
 ·exact .int _ _
 ·exact .bool _
 ·rename_i s
  have h:=At.str (w:=w) (S:=S) s.data.toList
  simpa using h
 ·exact .nil
 ·exact .raw _
def JG:List UInt8→Option (List UInt8)
 | []=>some []
 | x :: r=>match JG r with
   | some l=>some (x :: l)
   | none=>none
theorem Gc:∀ (l:List UInt8),JG l=some l
 | []=>rfl
 | x :: r=>by simp [JG,Gc r]
def Sr:Value→Option AV
 | .int k n=>some (.int k n)
 | .bool b=>some (.bool b)
 | .string s=>match JG s.data.toList with
   | some l=>some (.str l)
   | none=>none
 | .slice none 0 0=>some .nil
 | v=>some (.raw v)
theorem Pr (v:Value):Sr v=some (RA v):=by
 unfold Sr RA
 split<;>simp [Gc]
def dh (tm:List (Nat×AV)):Operand→Option AV
 | .tmp t=>lk tm t
 | .const v=>Sr v
 | .func f=>some (.func (.func f) [])
 | .global g=>some (.raw (.pointer (some ⟨g,0,none⟩)))
theorem bt {w:World} {S:Nat→Prop} {σ:St} {a:Act} {x:Operand} {av:AV} (r:ey w S σ a) (h:dh σ.tm x=some av):At w S av (a.eval x):=by
 cases x with
 | tmp t=>
   obtain ⟨v,h1,h2⟩:=r.tm t av h
   simp [Act.eval,h1,h2]
 | const v=>simp only [dh,Pr,bp] at h;subst h;exact EO _ _ _
 | global g=>simp only [dh,bp] at h;subst h;exact .raw _
 | func f=>simp only [dh,bp] at h;subst h;exact .func _ _ _ rfl (fun i c v hc=>by simp at hc)
theorem ey.put {w:World} {S:Nat→Prop} {n:Nat} {tm:List (Nat×AV)} {hp:Heap} {a:Act} {d:Nat} {av:AV} {v:Value} (r:ey w S ⟨n,tm,hp⟩ a) (hd:ai d n=true) (hv:At w S av v):
 ey w S ⟨n,(d,av) :: tm,hp⟩ (a.put (some d) v) where
 size:=by simp [Act.put,r.size]
 defers:=r.defers
 hp:=r.hp
 tm s rf h:=by
  have RB:d < a.tmps.size:=by rw [r.size];simpa using hd
  simp only [lk] at h
  split at h
  ·rename_i hb
   obtain rfl:d=s:=by simpa using hb
   obtain rfl:=aa h
   exact ⟨v,by simp [Act.put,RB],hv⟩
  ·rename_i hb
   have Aq:d≠s:=BS hb
   obtain ⟨u,h1,h2⟩:=r.tm s rf h
   exact ⟨u,by simp [Act.put,Aq,h1],h2⟩
theorem ey.ext {w w':World} {S:Nat→Prop} {σ:St} {a:Act} (r:ey w S σ a) (e:Ext w w'):ey w' S σ a where
 size:=r.size
 defers:=r.defers
 hp:=r.hp.ext e
 tm s av h:=let ⟨v,h1,h2⟩:=r.tm s av h;⟨v,h1,h2.mono fun n hn=>⟨hn,e.same n (r.hp.slt n hn)⟩⟩
theorem ey.heap {w w':World} {S S':Nat→Prop} {n:Nat} {tm:List (Nat×AV)} {hp dE:Heap} {a:Act} (r:ey w S ⟨n,tm,hp⟩ a) (hs:∀ n,S n→S' n∧w'.heap[n]? =w.heap[n]?) (h:cY w' S' dE):
 ey w' S' ⟨n,tm,dE⟩ a where
 size:=r.size
 defers:=r.defers
 hp:=h
 tm s av h:=let ⟨v,h1,h2⟩:=r.tm s av h;⟨v,h1,h2.mono hs⟩
def Xh (w:World) (S:Nat→Prop) (h:Heap) (Q:St→Prop) (a':Act) (w':World):Prop:=
 ∃ aS S',Q aS∧ey w' S' aS a'∧lr w S h w' S' aS.hp
def Ss (w:World) (S:Nat→Prop) (h:Heap) (Q:Exit→St→Prop) (e:Exit) (a':Act) (w':World):Prop:=
 ∃ aS S',Q e aS∧ey w' S' aS a'∧lr w S h w' S' aS.hp
def x3 (K:Act→World→Prop):Exit→Act→World→Prop:=fun e a w=>e=.normal∧K a w
def ae (P:Program) (all:Array Oper) (l:List Oper) (σ:St) (Q:St→Prop):Prop:=
 ∀ w S a,ey w S σ a→wpList P all (x3 (Xh w S σ.hp Q)) l a w
theorem Oper.KP {P:Program} {o:Oper} {a:Act} {K K':Act→World→Prop} {Q Q':Exit→Act→World→Prop} (hK:∀ a w,K a w→K' a w) (hQ:∀ e a w,Q e a w→Q' e a w):
 ∀ r,o.upon P a K Q r→o.upon P a K' Q' r:=by
 intro r h
 unfold Oper.upon at *
 split at h
 ·exact hK _ _ h
 ·exact hK _ _ h
 ·exact hK _ _ h
 ·refine Calls.mono h ?_
  intro e w' he
  cases e with
  | returned v=>exact hK _ _ he
  | panicked c=>exact hQ _ _ _ he
  | outgrown=>obtain ⟨a0,w0,h0⟩:=he;exact ⟨a0,w0,hQ _ _ _ h0⟩
 ·exact Rows.mono h fun v w' hv=>hK _ _ hv
 ·exact hQ _ _ _ h
 ·exact h.elim
theorem iG {P:Program} {all:Array Oper} {Q Q':Exit→Act→World→Prop} (hQ:∀ e a w,Q e a w→Q' e a w):∀ (l:List Oper) (a:Act) (w:World),wpList P all Q l a w→wpList P all Q' l a w
 | [],_,_,h=>hQ _ _ _ h
 | o :: rest,a,w,h=>by
   unfold wpList at *
   split
   ·rename_i hw
    rw [if_pos hw] at h
    rcases h with h | ⟨h1,a0,w0,h0⟩
    ·exact .inl (Oper.KP (fun a w hh=>iG hQ rest a w hh) hQ _ h)
    ·exact .inr ⟨h1,a0,w0,hQ _ _ _ h0⟩
   ·rename_i hw
    rw [if_neg hw] at h
    exact iG hQ rest _ _ h
theorem ae.nil {P:Program} {all:Array Oper} {σ:St} {Q:St→Prop} (h:Q σ):ae P all [] σ Q:=
 fun w S _ r=>⟨rfl,σ,S,h,r,lr.refl _ _ _⟩
theorem ae.go {P:Program} {all:Array Oper} {rest:List Oper} {σ:St} {Q:St→Prop} (k:ae P all rest σ Q) {w w':World} {S S':Nat→Prop} {h:Heap} {a':Act}
 (r:ey w' S' σ a') (e:lr w S h w' S' σ.hp):wpList P all (x3 (Xh w S h Q)) rest a' w':=
 iG (fun _ _ _ ⟨h1,aS,Vd,h2,h3,h4⟩=>⟨h1,aS,Vd,h2,h3,e.trans h4⟩) _ _ _ (k w' S' a' r)
theorem ae.O1 {P:Program} {all:Array Oper} {o:Oper} {rest:List Oper} {σ:St} {Q:St→Prop} (hg:o.guard=none)
 (h:∀ w S a,ey w S σ a→∃ v w' S' aS,(execOp a.eval o).run P w=.ok (.value v) w'∧ey w' S' aS (a.put o.dst v)∧lr w S σ.hp w' S' aS.hp∧ae P all rest aS Q):
 ae P all (o :: rest) σ Q:=by
 intro w S a r
 obtain ⟨v,w',S',aS,h1,h2,h3,k⟩:=h w S a r
 unfold wpList
 rw [if_pos (by simp [Region.wanted,hg])]
 refine .inl ?_
 show o.upon P a _ _ _
 rw [h1]
 exact k.go h2 h3
theorem ae.op {P:Program} {all:Array Oper} {o:Oper} {rest:List Oper} {σ aS:St} {Q:St→Prop} (hg:o.guard=none)
 (h:∀ w S a,ey w S σ a→∃ v w' S',(execOp a.eval o).run P w=.ok (.value v) w'∧ey w' S' aS (a.put o.dst v)∧lr w S σ.hp w' S' aS.hp)
 (k:ae P all rest aS Q):ae P all (o :: rest) σ Q:=
 ae.O1 hg fun w S a r=>let ⟨v,w',S',h1,h2,h3⟩:=h w S a r;⟨v,w',S',aS,h1,h2,h3,k⟩
theorem ae.Gd {P:Program} {all:Array Oper} {o:Oper} {rest:List Oper} {σ:St} {Q:St→Prop} (hg:o.guard=none)
 (h:∀ w S a,ey w S σ a→∃ f args,(execOp a.eval o).run P w=.ok (.enter f args) w∧
  Calls P f args w fun e w'=>∃ v S' aS,e=.returned v∧ey w' S' aS (a.put o.dst v)∧lr w S σ.hp w' S' aS.hp∧ae P all rest aS Q):
 ae P all (o :: rest) σ Q:=by
 intro w S a r
 obtain ⟨f,args,h1,h2⟩:=h w S a r
 unfold wpList
 rw [if_pos (by simp [Region.wanted,hg])]
 refine .inl ?_
 show o.upon P a _ _ _
 rw [h1]
 refine Calls.mono h2 ?_
 rintro e w' ⟨v,S',aS,rfl,g1,g2,k⟩
 exact k.go g1 g2
theorem ae.act {P:Program} {all:Array Oper} {o:Oper} {rest:List Oper} {σ aS:St} {Q:St→Prop} (hg:o.guard=none) (hd:o.dst=none)
 (h:∀ w S a,ey w S σ a→∃ w' S',(execOp a.eval o).run P w=.ok .skip w'∧ey w' S' aS a∧lr w S σ.hp w' S' aS.hp)
 (k:ae P all rest aS Q):ae P all (o :: rest) σ Q:=by
 intro w S a r
 obtain ⟨w',S',h1,h2,h3⟩:=h w S a r
 unfold wpList
 rw [if_pos (by simp [Region.wanted,hg])]
 refine .inl ?_
 show o.upon P a _ _ _
 rw [h1]
 show wpList P all _ rest (a.put o.dst undef) w'
 rw [hd]
 exact k.go h2 h3
theorem ae.val {P:Program} {all:Array Oper} {o:Oper} {rest:List Oper} {n:Nat} {tm:List (Nat×AV)} {hp:Heap} {Q:St→Prop} {d:Nat} {av:AV} (hg:o.guard=none) (hd:o.dst=some d) (hn:ai d n=true)
 (h:∀ w S a,ey w S ⟨n,tm,hp⟩ a→∃ v,(execOp a.eval o).run P w=.ok (.value v) w∧At w S av v)
 (k:ae P all rest ⟨n,(d,av) :: tm,hp⟩ Q):ae P all (o :: rest) ⟨n,tm,hp⟩ Q:=by
 refine ae.op hg (aS:=⟨n,(d,av) :: tm,hp⟩) ?_ k
 intro w S a r
 obtain ⟨v,h1,h2⟩:=h w S a r
 exact ⟨v,w,S,h1,by rw [hd];exact r.put hn h2,lr.refl _ _ _⟩
def QV (P:Program) (o:Oper) (σ:St) (av:AV):Prop:=
 ∀ w S a,ey w S σ a→∃ v,(∀ w',Ext w w'→(execOp a.eval o).run P w'=.ok (.value v) w')∧At w S av v
theorem ae.qv {P:Program} {all:Array Oper} {rest:List Oper} {n:Nat} {tm:List (Nat×AV)} {hp:Heap} {Q:St→Prop} {d:Nat} {av:AV} {op:Op} {ty:TypeId} {pos:String} {af:Array Edge}
 (q:QV P ⟨some d,op,ty,pos,af,none⟩ ⟨n,tm,hp⟩ av) (hn:ai d n=true) (k:ae P all rest ⟨n,(d,av) :: tm,hp⟩ Q):ae P all (⟨some d,op,ty,pos,af,none⟩ :: rest) ⟨n,tm,hp⟩ Q:=
 ae.val rfl rfl hn (fun w S a r=>let ⟨v,h1,h2⟩:=q w S a r;⟨v,h1 w (Ext.refl w),h2⟩) k
structure Ve (σ aS:St):Prop where
 n:aS.n=σ.n
 tm:∀ s av,lk aS.tm s=some av→lk σ.tm s=some av
 hp:aS.hp.Sublist σ.hp
theorem cY.sub {w:World} {S:Nat→Prop} {h h':Heap} (r:cY w S h) (hs:h'.Sublist h):cY w S h' where
 nodup:=r.nodup.sublist (tz hs)
 holds e he:=r.holds e (hs.subset he)
 sep e he:=r.sep e (hs.subset he)
 slt:=r.slt
 ib:=r.ib
theorem ey.less {w:World} {S:Nat→Prop} {σ aS:St} {a:Act} (r:ey w S σ a) (h:Ve σ aS):ey w S aS a where
 size:=r.size.trans h.n.symm
 defers:=r.defers
 tm s av hh:=r.tm s av (h.tm s av hh)
 hp:=r.hp.sub h.hp
theorem Has.sub {h h':Heap} (hs:h'.Sublist h) {n:Nat} (hh:Has h' n):Has h n:=let ⟨e,he,hb⟩:=hh;⟨e,hs.subset he,hb⟩
theorem ae.weaken {P:Program} {all:Array Oper} {l:List Oper} {σ aS:St} {Q:St→Prop} (h:Ve σ aS) (k:ae P all l aS Q):ae P all l σ Q:=
 fun w S _ r=>k.go (r.less h) (lr.less (lr.refl w S σ.hp) fun _ hn=>hn.sub h.hp)
theorem ae.az {P:Program} {all:Array Oper} {d:Nat} {op:Op} {ty:TypeId} {pos:String} {af:Array Edge} {j:Nat} {want b:Bool} {s:Nat} {rest:List Oper} {n:Nat} {tm:List (Nat×AV)} {hp:Heap} {Q:St→Prop}
 (hj:(all[j]?).bind (·.dst)=some s) (hs:lk tm s=some (.bool b)) (hb:b=!want) (hn:ai d n=true)
 (k:ae P all rest ⟨n,(d,.raw undef) :: tm,hp⟩ Q):ae P all (⟨some d,op,ty,pos,af,some (j,want)⟩ :: rest) ⟨n,tm,hp⟩ Q:=by
 intro w S a r
 obtain ⟨v,h1,h2⟩:=r.tm s _ hs
 cases h2
 unfold wpList
 rw [if_neg (by simp [Region.wanted,yielded,hj,h1,hb])]
 exact k.go (r.put hn (.raw undef)) (lr.refl _ _ _)
theorem ae.aV {P:Program} {all:Array Oper} {d:Nat} {op:Op} {ty:TypeId} {pos:String} {af:Array Edge} {j:Nat} {want:Bool} {s:Nat} {rest:List Oper} {n:Nat} {tm:List (Nat×AV)} {hp:Heap} {Q:St→Prop}
 (hj:(all[j]?).bind (·.dst)=some s) (hs:lk tm s=some (.raw undef)) (hn:ai d n=true)
 (k:ae P all rest ⟨n,(d,.raw undef) :: tm,hp⟩ Q):ae P all (⟨some d,op,ty,pos,af,some (j,want)⟩ :: rest) ⟨n,tm,hp⟩ Q:=by
 intro w S a r
 obtain ⟨v,h1,h2⟩:=r.tm s _ hs
 cases h2
 unfold wpList
 rw [if_neg (by simp [Region.wanted,yielded,hj,h1,undef])]
 exact k.go (r.put hn (.raw undef)) (lr.refl _ _ _)
theorem ae.aD {P:Program} {all:Array Oper} {d:Option Nat} {op:Op} {ty:TypeId} {pos:String} {af:Array Edge} {j:Nat} {want b:Bool} {s:Nat} {rest:List Oper} {σ:St} {Q:St→Prop}
 (hj:(all[j]?).bind (·.dst)=some s) (hs:lk σ.tm s=some (.bool b)) (hb:b=want)
 (k:ae P all (⟨d,op,ty,pos,af,none⟩ :: rest) σ Q):ae P all (⟨d,op,ty,pos,af,some (j,want)⟩ :: rest) σ Q:=by
 intro w S a r
 obtain ⟨v,h1,h2⟩:=r.tm s _ hs
 cases h2
 have:=k w S a r
 unfold wpList at this ⊢
 rw [if_pos (by simp [Region.wanted])] at this
 rw [if_pos (by simp [Region.wanted,yielded,hj,h1,hb])]
 exact this
def RC (P:Program) (c:Code) (σ:St) (Q:Exit→St→Prop):Prop:=
 ∀ w S a,ey w S σ a→c.wp P (Ss w S σ.hp Q) a w
theorem RC.go {P:Program} {c:Code} {σ:St} {Q:Exit→St→Prop} (k:RC P c σ Q) {w w':World} {S S':Nat→Prop} {h:Heap} {a':Act}
 (r:ey w' S' σ a') (e:lr w S h w' S' σ.hp):c.wp P (Ss w S h Q) a' w':=
 wp_mono (k w' S' a' r) (fun _ _ _ ⟨aS,Vd,h2,h3,h4⟩=>⟨aS,Vd,h2,h3,e.trans h4⟩)
inductive It where
 | code (c:Code)
 | dp (id:Nat)
 | stop (I:St→Prop)
def TD (P:Program) (R:St→Prop):List It→Exit→St→Prop
 | [],.normal,σ | [],.ret,σ=>R σ
 | [],_,_=>False
 | .dp id :: k,.exit RD,σ=>match ac RD id with
   | true=>TD P R k .normal σ
   | false=>TD P R k (.exit RD) σ
 | .dp _ :: k,e,σ=>TD P R k e σ
 | .stop I :: _,.normal,σ=>I σ
 | .stop _ :: k,e,σ=>TD P R k e σ
 | .code c :: k,.normal,σ=>RC P c σ (fun e aS=>TD P R k e aS)
 | .code _ :: k,e,σ=>TD P R k e σ
def ab (P:Program) (R:St→Prop) (k:List It) (σ:St):Prop:=TD P R k .normal σ
section
variable {P:Program} {R:St→Prop} {k:List It} {σ:St}
theorem ab.nil (h:R σ):ab P R [] σ:=h
theorem ab.dp {id:Nat} (h:ab P R k σ):ab P R (.dp id :: k) σ:=h
theorem ab.stop {I:St→Prop} (h:I σ):ab P R (.stop I :: k) σ:=h
theorem TD.ret:∀ (k:List It),R σ→TD P R k .ret σ
 | [],h=>h
 | .dp _ :: k,h=>TD.ret k h
 | .stop _ :: k,h=>TD.ret k h
 | .code _ :: k,h=>TD.ret k h
theorem ab.ret (h:R σ):ab P R (.code .ret :: k) σ:=
 fun w S _ r=>wp_ret ⟨σ,S,TD.ret k h,r,lr.refl _ _ _⟩
theorem ab.skip (h:ab P R k σ):ab P R (.code .skip :: k) σ:=
 fun w S _ r=>wp_skip ⟨σ,S,h,r,lr.refl _ _ _⟩
def DM (id:Nat):List It→Option (List It)
 | []=>none
 | .dp RD :: k=>match ac id RD with
   | true=>some k
   | false=>DM id k
 | _ :: k=>DM id k
theorem TD.exit {id:Nat}:∀ (k k':List It),DM id k=some k'→ab P R k' σ→TD P R k (.exit id) σ
 | [],_,h,_=>by simp [DM] at h
 | .dp RD :: k,k',h,h'=>by
   simp only [DM] at h
   unfold TD
   split at h
   ·obtain rfl:=aa h;exact h'
   ·exact TD.exit k k' h h'
 | .stop _ :: k,k',h,h'=>TD.exit k k' h h'
 | .code _ :: k,k',h,h'=>TD.exit k k' h h'
theorem ab.exit {id:Nat} {k':List It} (hp:DM id k=some k') (h:ab P R k' σ):ab P R (.code (.exit id) :: k) σ:=
 fun w S _ r=>wp_exit ⟨σ,S,TD.exit k k' hp h,r,lr.refl _ _ _⟩
theorem ab.seq {x y:Code} (h:ab P R (.code x :: .code y :: k) σ):ab P R (.code (.seq x y) :: k) σ:=by
 intro w S a r
 refine wp_seq (wp_mono (h w S a r) ?_)
 rintro e a' w' ⟨aS,S',h1,h2,h3⟩
 cases e with
 | normal=>exact RC.go (Q:=fun e aS=>TD P R k e aS) h1 h2 h3
 | exit id=>exact ⟨aS,S',h1,h2,h3⟩
 | goto l=>exact ⟨aS,S',h1,h2,h3⟩
 | ret=>exact ⟨aS,S',h1,h2,h3⟩
 | panic c=>exact ⟨aS,S',h1,h2,h3⟩
 | outgrown=>exact ⟨aS,S',h1,h2,h3⟩
theorem ab.block {id:Nat} {c:Code} (h:ab P R (.code c :: .dp id :: k) σ):ab P R (.code (.block id c) :: k) σ:=by
 intro w S a r
 refine wp_block (wp_mono (h w S a r) ?_)
 rintro e a' w' ⟨aS,S',h1,h2,h3⟩
 cases e with
 | normal=>exact ⟨aS,S',h1,h2,h3⟩
 | exit RD=>
   simp only [TD] at h1
   by_cases hb:RD=id
   ·subst hb
    simp only [Nat.beq_refl] at h1
    simp only [Exit.inBlock,if_true]
    exact ⟨aS,S',h1,h2,h3⟩
   ·have:ac RD id=false:=qI hb
    rw [this] at h1
    simp only [Exit.inBlock,hb,if_false]
    exact ⟨aS,S',h1,h2,h3⟩
 | goto l=>exact ⟨aS,S',h1,h2,h3⟩
 | ret=>exact ⟨aS,S',h1,h2,h3⟩
 | panic c=>exact ⟨aS,S',h1,h2,h3⟩
 | outgrown=>exact ⟨aS,S',h1,h2,h3⟩
theorem ab.cond {c:Operand} {x y:Code} {b:Bool} (hc:dh σ.tm c=some (.bool b)) (h1:b=true→ab P R (.code x :: k) σ) (h2:b=false→ab P R (.code y :: k) σ):
 ab P R (.code (.cond c x y) :: k) σ:=by
 intro w S a r
 have hv:=bt r hc
 generalize hgv:a.eval c=v at hv
 cases hv
 exact wp_cond_split hgv (fun hb=>h1 hb w S a r) (fun hb=>h2 hb w S a r)
theorem ab.Su {c:Operand} {x y:Code} (hc:dh σ.tm c=some (.bool true)) (h1:ab P R (.code x :: k) σ):ab P R (.code (.cond c x y) :: k) σ:=
 ab.cond hc (fun _=>h1) (fun h=>by cases h)
theorem ab.Sv {c:Operand} {x y:Code} (hc:dh σ.tm c=some (.bool false)) (h1:ab P R (.code y :: k) σ):ab P R (.code (.cond c x y) :: k) σ:=
 ab.cond hc (fun h=>by cases h) (fun _=>h1)
theorem ab.region {id:Nat} {l:List Oper} (h:ae P l.toArray l σ (ab P R k)):ab P R (.code (.region id l.toArray false) :: k) σ:=by
 intro w S a r
 refine wp_region_lit (iG ?_ _ _ _ (h w S a r))
 rintro e a' w' ⟨rfl,aS,S',h1,h2,h3⟩
 exact ⟨aS,S',h1,h2,h3⟩
theorem ab.go {w w':World} {S S':Nat→Prop} {h:Heap} {a':Act} {c:Code} (kk:ab P R (.code c :: k) σ) (r:ey w' S' σ a') (e:lr w S h w' S' σ.hp):
 c.wp P (Ss w S h (TD P R k)) a' w':=RC.go (Q:=fun e aS=>TD P R k e aS) kk r e
theorem least (p:Nat→Prop) (n:Nat) (h:p n):∃ m,p m∧∀ i,p i→m≤i:=by
 induction n using Nat.strongRecOn with
 | _ n ih=>
   by_cases hx:∃ i,i < n∧p i
   ·obtain ⟨i,hi,hp⟩:=hx;exact ih i hi hp
   ·exact ⟨n,h,fun i hi=>Nat.le_of_not_lt fun ew=>hx ⟨i,ew,hi⟩⟩
open Classical in
noncomputable def yE (p:Nat→Prop):Nat:=if h:∃ n,p n then Classical.choose (least p h.choose h.choose_spec) else 0
theorem xJ {p:Nat→Prop} {n:Nat} (h:p n):p (yE p)∧yE p≤n:=by
 have hx:∃ n,p n:=⟨n,h⟩
 unfold yE
 rw [dif_pos hx]
 have:=Classical.choose_spec (least p hx.choose hx.choose_spec)
 exact ⟨this.1,this.2 n h⟩
theorem ab.loop {body:Code} (I:Nat→St→Prop) (m:Nat) (h0:I m σ) (hs:∀ m σ,I m σ→ab P R (.code body :: .stop (fun aS=>∃ m',m' < m∧I m' aS) :: k) σ):
 ab P R (.code (.loop body) :: k) σ:=by
 intro w S a r
 let p:Act→World→Nat→Prop:=fun a' w' m=>∃ aS S',I m aS∧ey w' S' aS a'∧lr w S σ.hp w' S' aS.hp
 refine wp_loop (fun a' w'=>∃ m,p a' w' m) (fun a' w'=>yE (p a' w')) ⟨m,σ,S,h0,r,lr.refl _ _ _⟩ ?_
 rintro a1 w1 ⟨m1,hm1⟩
 obtain ⟨⟨Df,S1,hI,hr1,Vf⟩,_⟩:=xJ hm1
 refine wp_mono (ab.go (hs _ Df hI) hr1 Vf) ?_
 rintro e a2 w2 ⟨JH,S2,h2,RE,LZ⟩
 cases e with
 | normal=>
   obtain ⟨m2,ew,hI2⟩:=h2
   have Ps:p a2 w2 m2:=⟨JH,S2,hI2,RE,LZ⟩
   exact ⟨⟨m2,Ps⟩,Nat.lt_of_le_of_lt (xJ Ps).2 ew⟩
 | exit id=>exact ⟨JH,S2,h2,RE,LZ⟩
 | goto l=>exact ⟨JH,S2,h2,RE,LZ⟩
 | ret=>exact ⟨JH,S2,h2,RE,LZ⟩
 | panic c=>exact ⟨JH,S2,h2,RE,LZ⟩
 | outgrown=>exact ⟨JH,S2,h2,RE,LZ⟩
end
def aY (P:Program) (f:FuncId) (args:List AV) (h:Heap) (Q:AV→Heap→Prop):Prop:=
 ∀ w S (vs:Array Value),cY w S h→args.length=vs.size→pY w S args vs→
   Calls P f vs w fun e w'=>∃ v r h' S',e=.returned v∧Q r h'∧At w' S' r v∧cY w' S' h'∧lr w S h w' S' h'
theorem aY.frame {P:Program} {f:FuncId} {args:List AV} {h:Heap} {Q:AV→Heap→Prop} (c:aY P f args h Q) (rest:Heap):
 aY P f args (h++rest) (fun r h'=>∃ h1,h'=h1++rest∧Q r h1):=by
 intro w S vs r hl ha
 refine (c w S vs (r.sub (List.sublist_append_left _ _)) hl ha).mono ?_
 rintro e w' ⟨v,rr,h',S',h1,h2,h3,h4,h5⟩
 exact ⟨v,rr,h'++rest,S',h1,⟨h',rfl,h2⟩,h3,r.frame h5 h4,h5.frame rest⟩
theorem cY.perm {w:World} {S:Nat→Prop} {h h':Heap} (r:cY w S h) (hp:h.Perm h'):cY w S h' where
 nodup:=(List.Perm.flatMap_right _ hp).nodup_iff.1 r.nodup
 holds e he:=r.holds e (hp.mem_iff.2 he)
 sep e he:=r.sep e (hp.mem_iff.2 he)
 slt:=r.slt
 ib:=r.ib
def Pt:List AV→Nat→List (Nat×AV)
 | [],_=>[]
 | x :: r,i=>(i,x) :: Pt r (i+1)
theorem Mf:∀ (l:List AV) (i s:Nat) (av:AV),lk (Pt l i) s=some av→i≤s∧l[s - i]? =some av
 | [],_,_,_,h=>by simp [Pt,lk] at h
 | x :: r,i,s,av,h=>by
   simp only [Pt,lk] at h
   split at h
   ·rename_i hb
    obtain rfl:i=s:=by simpa using hb
    simpa using h
   ·rename_i hb
    have Aq:i≠s:=BS hb
    obtain ⟨h1,h2⟩:=Mf r (i+1) s av h
    refine ⟨by omega,?_⟩
    rw [show s - i=(s - (i+1))+1 from by omega]
    simpa using h2
theorem qJ {w:World} {S:Nat→Prop} {x y:AV} {u v:Value} (hx:At w S x u) (hy:At w S y v):pY w S [x,y] #[u,v]:=by
 intro i c d hc hd
 match i with
 | 0=>simp at hc hd;subst hc;subst hd;exact hx
 | 1=>simp at hc hd;subst hc;subst hd;exact hy
 | i+2=>simp at hc
class aZ (P:Program) (t:TypeId) (i:outParam TypeInfo):Prop where
 h:P.info? t=some i
class aF (P:Program) (t:TypeId) (d:outParam TypeDesc):Prop where
 h:P.underlying t=some d
section inv
variable {w:World} {S:Nat→Prop} {v:Value}
theorem At.ez {k:IntKind} {n:Int} (h:At w S (.int k n) v):v=.int k n:=by cases h;rfl
theorem At.lA {b:Bool} (h:At w S (.bool b) v):v=.bool b:=by cases h;rfl
theorem At.gV {s:List UInt8} (h:At w S (.str s) v):v=.string ⟨s.toArray⟩:=by cases h;rfl
theorem At.Pv {u:Value} (h:At w S (.raw u) v):v=u:=by cases h;rfl
theorem At.EP (h:At w S .nil v):v=.slice none 0 0:=by cases h;rfl
theorem At.qK {cs:List AV} (h:At w S (.agg cs) v):∃ vs,v=.agg vs∧cs.length=vs.size∧pY w S cs vs:=by cases h with | agg _ vs hl h=>exact ⟨vs,rfl,hl,h⟩
theorem At.Pw {cs:List AV} (h:At w S (.ma cs) v):∃ vs,v=.tuple vs∧cs.length=vs.size∧pY w S cs vs:=by cases h with | ma _ vs hl h=>exact ⟨vs,rfl,hl,h⟩
theorem At.tA {b:Bk} {o:Nat} (h:At w S (.ptr b o) v):∃ n,b.dp=some n∧v=.pointer (some ⟨n,o,none⟩):=by cases h with | ptr _ _ n hb=>exact ⟨n,hb,rfl⟩
theorem At.wa {sz:Nat} {b:Bk} {i o:Nat} (h:At w S (.sh sz b i o) v):∃ n,b.dp=some n∧v=.pointer (some ⟨n,i * sz+o,none⟩):=by cases h with | sh _ _ _ _ n hb=>exact ⟨n,hb,rfl⟩
theorem At.BT {fn:Fn} {cs:List AV} (h:At w S (.func fn cs) v):∃ vs,v=.func fn #[] vs∧cs.length=vs.size∧pY w S cs vs:=by cases h with | func _ _ vs hl h=>exact ⟨vs,rfl,hl,h⟩
theorem At.wb {sz:Nat} {xs:List AV} (h:At w S (.list sz xs) v):∃ (a:Option Addr) (cap:Nat) (vs:List Value),v=.slice a xs.length cap∧(∀ x∈xs,El sz x)∧(flat xs).length=vs.length∧(∀ (i:Nat) c u,(flat xs)[i]? =some c→vs[i]? =some u→At w S c u)∧
 (∀ (i:Nat) u,vs[i]? =some u→∃ ad,a=some ad∧ad.spot=none∧S ad.block∧w.cell? ⟨ad.block,ad.off+i,none⟩=some u)∧xs.length≤cap:=by
 cases h with | list _ _ a cap vs h1 h2 h3 h4 h5=>exact ⟨a,cap,vs,rfl,h1,h2,h3,h4,h5⟩
theorem At.wc {cs:List AV} (h:At w S (.cw cs) v):∃ (ad:Addr) (vs:List Value),v=.pointer (some ad)∧cs.length=vs.length∧(∀ (i:Nat) c u,cs[i]? =some c→vs[i]? =some u→At w S c u)∧ad.spot=none∧S ad.block∧
 (∀ (i:Nat) u,vs[i]? =some u→w.cell? ⟨ad.block,ad.off+i,none⟩=some u):=by
 cases h with | cw _ ad vs h1 h2 h3 h4 h5=>exact ⟨ad,vs,rfl,h1,h2,h3,h4,h5⟩
theorem At.x4 {sz:Nat} {b:Bk} {off len:Nat} (h:At w S (.sl sz b off len) v):∃ a cap,v=.slice a len cap∧((b.dp=none∧off=0∧len=0∧a=none∧cap=0)∨
 (∃ n,b.dp=some n∧a=some ⟨n,off * sz,none⟩∧len≤cap∧off+cap≤b.cap)∨(∃ n ad,b.dp=some n∧a=some ad∧len=0∧cap=0)):=by
 cases h with
 | A7 _ _ hb=>exact ⟨none,0,rfl,.inl ⟨hb,rfl,rfl,rfl,rfl⟩⟩
 | sl _ _ _ _ n cap hb h1 h2=>exact ⟨_,cap,rfl,.inr (.inl ⟨n,hb,rfl,h1,h2⟩)⟩
 | Pq _ _ _ n ad hb=>exact ⟨_,0,rfl,.inr (.inr ⟨n,ad,hb,rfl,rfl,rfl⟩)⟩
end inv
section rules
variable {P:Program} {all:Array Oper} {rest:List Oper} {n:Nat} {tm:List (Nat×AV)} {hp:Heap} {Q:St→Prop} {d:Nat} {ty:TypeId} {pos:String} {af:Array Edge}
theorem aX {x:Operand} {av:AV} (hx:dh tm x=some av):QV P ⟨some d,.move x,ty,pos,af,none⟩ ⟨n,tm,hp⟩ (av):=
 (fun w S a r=>⟨a.eval x,fun _ _=>rfl,bt (σ:=⟨n,tm,hp⟩) r hx⟩)
theorem bT {x:Operand} {av:AV} (hx:dh tm x=some av):QV P ⟨some d,.assign x,ty,pos,af,none⟩ ⟨n,tm,hp⟩ (av):=
 (fun w S a r=>⟨a.eval x,fun _ _=>rfl,bt (σ:=⟨n,tm,hp⟩) r hx⟩)
theorem gr {c x y:Operand} {av:AV} (hc:dh tm c=some (.bool true)) (hx:dh tm x=some av):QV P ⟨some d,.pick c x y,ty,pos,af,none⟩ ⟨n,tm,hp⟩ (av):=
 (fun w S a r=>⟨a.eval x,fun w1 _=>by have h:=(bt (σ:=⟨n,tm,hp⟩) r hc).lA;simp [execOp,h,asBool],bt (σ:=⟨n,tm,hp⟩) r hx⟩)
theorem eQ {c x y:Operand} {av:AV} (hc:dh tm c=some (.bool false)) (hx:dh tm y=some av):QV P ⟨some d,.pick c x y,ty,pos,af,none⟩ ⟨n,tm,hp⟩ (av):=
 (fun w S a r=>⟨a.eval y,fun w1 _=>by have h:=(bt (σ:=⟨n,tm,hp⟩) r hc).lA;simp [execOp,h,asBool],bt (σ:=⟨n,tm,hp⟩) r hx⟩)
theorem tB {op:BinOp} {xt yt:TypeId} {x y:Operand} {k:IntKind} {i j:Int} {av:AV} {v:Value} (hx:dh tm x=some (.int k i)) (hy:dh tm y=some (.int k j))
 (u3:∀ w,(binOp op xt (.int k i) (.int k j)).run P w=.ok v w) (pX:∀ w S,At w S av v):QV P ⟨some d,.binOp op xt x y yt,ty,pos,af,none⟩ ⟨n,tm,hp⟩ av:=by
 intro w S a r
 refine ⟨v,fun w' _=>?_,pX w S⟩
 simp [execOp,(bt (σ:=⟨n,tm,hp⟩) r hx).ez,(bt (σ:=⟨n,tm,hp⟩) r hy).ez,eqGuard_at_int,u3]
def Sw (i:Int):Prop:=-9223372036854775808≤i∧i≤9223372036854775807
theorem uw {i:Int} (h:Sw i):IntKind.i64.wrap i=i:=IntWalk.i64_in _ h
theorem bQ {xt yt:TypeId} {x y:Operand} {k:IntKind} {i j:Int} (hx:dh tm x=some (.int k i)) (hy:dh tm y=some (.int k j)):QV P ⟨some d,.binOp .add xt x y yt,ty,pos,af,none⟩ ⟨n,tm,hp⟩ (.int k (k.wrap (i+j))):=
 tB hx hy (v:=_) (fun w=>by simp [binOp,Op.intArith]) (fun w S=>.int _ _)
theorem iY {xt yt:TypeId} {x y:Operand} {k:IntKind} {i j:Int} (hx:dh tm x=some (.int k i)) (hy:dh tm y=some (.int k j)):QV P ⟨some d,.binOp .sub xt x y yt,ty,pos,af,none⟩ ⟨n,tm,hp⟩ (.int k (k.wrap (i - j))):=
 tB hx hy (v:=_) (fun w=>by simp [binOp,Op.intArith]) (fun w S=>.int _ _)
theorem u4 {xt yt:TypeId} {x y:Operand} {k:IntKind} {i j:Int} (hx:dh tm x=some (.int k i)) (hy:dh tm y=some (.int k j)):QV P ⟨some d,.binOp .mul xt x y yt,ty,pos,af,none⟩ ⟨n,tm,hp⟩ (.int k (k.wrap (i * j))):=
 tB hx hy (v:=_) (fun w=>by simp [binOp,Op.intArith]) (fun w S=>.int _ _)
theorem DN {xt yt:TypeId} {x y:Operand} {k:IntKind} {i j:Int} (hx:dh tm x=some (.int k i)) (hy:dh tm y=some (.int k j)) (h0:j≠0):QV P ⟨some d,.binOp .rem xt x y yt,ty,pos,af,none⟩ ⟨n,tm,hp⟩ (.int k (i.tmod j)):=
 tB hx hy (v:=.int k (i.tmod j)) (fun w=>by simp [binOp,Op.intDiv,h0]) (fun w S=>.int _ _)
theorem cJ {xt yt:TypeId} {x y:Operand} {k:IntKind} {i j:Int} (hx:dh tm x=some (.int k i)) (hy:dh tm y=some (.int k j)):QV P ⟨some d,.binOp .lss xt x y yt,ty,pos,af,none⟩ ⟨n,tm,hp⟩ (.bool (decide (i < j))):=
 tB hx hy (v:=.bool (decide (i < j))) (fun w=>by simp [binOp,Op.intCmp]) (fun w S=>.bool _)
theorem sM {xt yt:TypeId} {x y:Operand} {k:IntKind} {i j:Int} (hx:dh tm x=some (.int k i)) (hy:dh tm y=some (.int k j)):QV P ⟨some d,.binOp .leq xt x y yt,ty,pos,af,none⟩ ⟨n,tm,hp⟩ (.bool (decide (i≤j))):=
 tB hx hy (v:=.bool (decide (i≤j))) (fun w=>by simp [binOp,Op.intCmp]) (fun w S=>.bool _)
theorem jj {xt yt:TypeId} {x y:Operand} {k:IntKind} {i j:Int} (hx:dh tm x=some (.int k i)) (hy:dh tm y=some (.int k j)):QV P ⟨some d,.binOp .gtr xt x y yt,ty,pos,af,none⟩ ⟨n,tm,hp⟩ (.bool (decide (j < i))):=
 tB hx hy (v:=.bool (decide (j < i))) (fun w=>by simp [binOp,Op.intCmp]) (fun w S=>.bool _)
theorem ri {xt yt:TypeId} {x y:Operand} {k:IntKind} {i j:Int} (hx:dh tm x=some (.int k i)) (hy:dh tm y=some (.int k j)):QV P ⟨some d,.binOp .geq xt x y yt,ty,pos,af,none⟩ ⟨n,tm,hp⟩ (.bool (decide (j≤i))):=
 tB hx hy (v:=.bool (decide (j≤i))) (fun w=>by simp [binOp,Op.intCmp]) (fun w S=>.bool _)
theorem fY {xt yt:TypeId} {x y:Operand} {k:IntKind} {i j:Int} (hx:dh tm x=some (.int k i)) (hy:dh tm y=some (.int k j)):QV P ⟨some d,.binOp .eql xt x y yt,ty,pos,af,none⟩ ⟨n,tm,hp⟩ (.bool (decide (i=j))):=
 tB hx hy (v:=.bool (decide (i=j))) (fun w=>by simp [binOp,Op.intCmp];rfl) (fun w S=>.bool _)
theorem kr {xt yt:TypeId} {x y:Operand} {k:IntKind} {i j:Int} (hx:dh tm x=some (.int k i)) (hy:dh tm y=some (.int k j)):QV P ⟨some d,.binOp .neq xt x y yt,ty,pos,af,none⟩ ⟨n,tm,hp⟩ (.bool (decide (i≠j))):=
 tB hx hy (v:=.bool (decide (i≠j))) (fun w=>by simp [binOp,Op.intCmp,bne];rfl) (fun w S=>.bool _)
theorem Ge {xt yt:TypeId} {x y:Operand} {s t:List UInt8} (hx:dh tm x=some (.str s)) (hy:dh tm y=some (.str t)):QV P ⟨some d,.binOp .eql xt x y yt,ty,pos,af,none⟩ ⟨n,tm,hp⟩ (.bool (decide (s=t))):=by
 refine fun w S a r=>⟨.bool (decide (s=t)),fun w1 _=>?_,.bool _⟩
 simp [execOp,(bt (σ:=⟨n,tm,hp⟩) r hx).gV,(bt (σ:=⟨n,tm,hp⟩) r hy).gV,eqGuard_at_string,binOp,Op.stringOp]
 rw [c7];simp
theorem RF {xt yt:TypeId} {x y:Operand} {s t:List UInt8} (hx:dh tm x=some (.str s)) (hy:dh tm y=some (.str t)):QV P ⟨some d,.binOp .neq xt x y yt,ty,pos,af,none⟩ ⟨n,tm,hp⟩ (.bool (decide (s≠t))):=by
 refine fun w S a r=>⟨.bool (decide (s≠t)),fun w1 _=>?_,.bool _⟩
 simp [execOp,(bt (σ:=⟨n,tm,hp⟩) r hx).gV,(bt (σ:=⟨n,tm,hp⟩) r hy).gV,eqGuard_at_string,binOp,Op.stringOp]
 rw [c7];simp
theorem run_equal_bool {P:Program} {t:TypeId} (h:P.underlying t=some .bool) (b c:Bool) (w:World):(Op.equal t (.bool b) (.bool c)).run P w=.ok (b==c) w:=by
 show (Op.equalIn (9999+1) t (.bool b) (.bool c)).run P w=_
 rw [Op.equalIn]
 simp [run_underlying h]
theorem x5 {P:Program} {t:TypeId} (h:P.underlying t=some .bool) (b c:Bool) (w:World):(binOp .neq t (.bool b) (.bool c)).run P w=.ok (.bool (b !=c)) w:=by
 rw [show binOp .neq t (.bool b) (.bool c)=(do pure (.bool (!(← Op.equal t (.bool b) (.bool c))))) from rfl]
 simp [run_equal_bool h,bne]
theorem JI (s:List UInt8):(⟨s.toArray⟩:ByteArray).size=s.length:=rfl
theorem dc {xt:TypeId} {x:Operand} {b:Bool} (hx:dh tm x=some (.bool b)):QV P ⟨some d,.unOp .not xt x,ty,pos,af,none⟩ ⟨n,tm,hp⟩ (.bool (!b)):=
 (fun w S a r=>⟨.bool (!b),fun w1 _=>by simp [execOp,(bt (σ:=⟨n,tm,hp⟩) r hx).lA,Op.unary],.bool _⟩)
theorem Vg {xt yt:TypeId} {x y:Operand} {b c:Bool} [aF P xt .bool] (hx:dh tm x=some (.bool b)) (hy:dh tm y=some (.bool c)):QV P ⟨some d,.binOp .neq xt x y yt,ty,pos,af,none⟩ ⟨n,tm,hp⟩ (.bool (b !=c)):=
 (fun w S a r=>⟨.bool (b !=c),fun w1 _=>by simp [execOp,(bt (σ:=⟨n,tm,hp⟩) r hx).lA,(bt (σ:=⟨n,tm,hp⟩) r hy).lA,eqGuard_at_bool,x5 (aF.h (P:=P) (t:=xt))],.bool _⟩)
theorem Il {x:Operand} {t e:TypeId} {sz:Nat} {xs:List AV} [aF P t (.slice e)] (hx:dh tm x=some (.list sz xs)):QV P ⟨some d,.call {callee:=.builtin .len,args:=#[x],argTypes:=#[t]},ty,pos,af,none⟩ ⟨n,tm,hp⟩ (.int .i64 (xs.length:Nat)):=
 (fun w S a r=>⟨.int .i64 (xs.length:Nat),fun w1 _=>by
  obtain ⟨ad,cap,vs,h1,_⟩:=(bt (σ:=⟨n,tm,hp⟩) r hx).wb
  simp [execOp,h1,resolve,invoke,builtin,Builtin.len_,run_underlying (aF.h (P:=P) (t:=t)),goInt],.int _ _⟩)
theorem Mg {x:Operand} {t e:TypeId} {sz off len:Nat} {b:Bk} [aF P t (.slice e)] (hx:dh tm x=some (.sl sz b off len)):QV P ⟨some d,.call {callee:=.builtin .len,args:=#[x],argTypes:=#[t]},ty,pos,af,none⟩ ⟨n,tm,hp⟩ (.int .i64 (len:Nat)):=
 (fun w S a r=>⟨.int .i64 (len:Nat),fun w1 _=>by
  obtain ⟨ad,cap,h1,_⟩:=(bt (σ:=⟨n,tm,hp⟩) r hx).x4
  simp [execOp,h1,resolve,invoke,builtin,Builtin.len_,run_underlying (aF.h (P:=P) (t:=t)),goInt],.int _ _⟩)
theorem oS {x:Operand} {t:TypeId} {s:List UInt8} [aF P t .string] (hx:dh tm x=some (.str s)):QV P ⟨some d,.call {callee:=.builtin .len,args:=#[x],argTypes:=#[t]},ty,pos,af,none⟩ ⟨n,tm,hp⟩ (.int .i64 (s.length:Nat)):=
 (fun w S a r=>⟨.int .i64 (s.length:Nat),fun w1 _=>by
  simp [execOp,(bt (σ:=⟨n,tm,hp⟩) r hx).gV,resolve,invoke,builtin,Builtin.len_,run_underlying (aF.h (P:=P) (t:=t)),goInt,JI],.int _ _⟩)
theorem Gf {x y:Operand} {t:TypeId} {s:List UInt8} {k:IntKind} {i:Int} {c:UInt8} [aF P t .string] (hx:dh tm x=some (.str s)) (hy:dh tm y=some (.int k i)) (h0:0≤i) (hc:s[i.toNat]? =some c):QV P ⟨some d,.index t x y,ty,pos,af,none⟩ ⟨n,tm,hp⟩ (.int .u8 (c.toNat:Nat)):=
 (fun w S a r=>⟨.int .u8 (c.toNat:Nat),fun w1 _=>by
  have uZ:(⟨s.toArray⟩:ByteArray)[i.toNat]? =some c:=by
   obtain ⟨hl,he⟩:=ap.1 hc
   rw [getElem?_pos _ _ (by rw [JI];exact hl)]
   simp only [bp]
   rw [← he]
   rfl
  simp [execOp,(bt (σ:=⟨n,tm,hp⟩) r hx).gV,(bt (σ:=⟨n,tm,hp⟩) r hy).ez,Instr.index,asIntOf,run_underlying (aF.h (P:=P) (t:=t)),h0,uZ],.int _ _⟩)
theorem jH {x:Operand} {i:Nat} {vs:List AV} {av:AV} (hx:dh tm x=some (.ma vs)) (hi:vs[i]? =some av):QV P ⟨some d,.extract x i,ty,pos,af,none⟩ ⟨n,tm,hp⟩ (av):=
 (fun w S a r=>by
  obtain ⟨us,h1,h2,h3⟩:=(bt (σ:=⟨n,tm,hp⟩) r hx).Pw
  have ew:i < us.size:=by rw [← h2];exact (ap.1 hi).1
  have hu:us[i]? =some us[i]:=by simp [ew]
  exact ⟨us[i],fun _ _=>by simp [execOp,h1,Instr.extract,hu],h3 i av _ hi hu⟩)
theorem ay {x:Operand} {b:Bk} {o:Nat} (hx:dh tm x=some (.ptr b o)):QV P ⟨some d,.nilCheck x,ty,pos,af,none⟩ ⟨n,tm,hp⟩ (.ptr b o):=
 (fun w S a r=>by
  have h:=bt (σ:=⟨n,tm,hp⟩) r hx
  obtain ⟨m,h1,h2⟩:=h.tA
  exact ⟨a.eval x,fun _ _=>by simp [execOp,h2],h⟩)
theorem bC {x:Operand} {cs:List AV} (hx:dh tm x=some (.cw cs)):QV P ⟨some d,.nilCheck x,ty,pos,af,none⟩ ⟨n,tm,hp⟩ (.cw cs):=
 (fun w S a r=>by
  have h:=bt (σ:=⟨n,tm,hp⟩) r hx
  obtain ⟨ad,vs,h2,_⟩:=h.wc
  exact ⟨a.eval x,fun _ _=>by simp [execOp,h2],h⟩)
def A8 (tm:List (Nat×AV)):List Operand→Option (List AV)
 | []=>some []
 | x :: r=>match dh tm x,A8 tm r with
   | some a,some l=>some (a :: l)
   | _,_=>none
theorem Im {w:World} {S:Nat→Prop} {σ:St} {a:Act} (r:ey w S σ a):∀ {xs:List Operand} {l:List AV},A8 σ.tm xs=some l→l.length=xs.length∧∀ (i:Nat) c v,l[i]? =some c→(xs.map a.eval)[i]? =some v→At w S c v
 | [],l,h=>by simp [A8] at h;subst h;exact ⟨rfl,fun i c v hc=>by simp at hc⟩
 | x :: xs,l,h=>by
   simp only [A8] at h
   split at h
   ·rename_i av l' ha hl
    obtain rfl:=aa h
    obtain ⟨h1,h2⟩:=Im r hl
    refine ⟨by simp [h1],fun i c v hc hv=>?_⟩
    match i with
    | 0=>simp at hc hv;subst hc;subst hv;exact bt r ha
    | i+1=>simp at hc hv;exact h2 i c v hc (by simpa using hv)
   ·cases h
theorem sN {fn:Fn} {zI:List Operand} {l:List AV} (hl:A8 tm zI=some l):QV P ⟨some d,.makeFunc fn #[] zI.toArray,ty,pos,af,none⟩ ⟨n,tm,hp⟩ (.func fn l):=
 (fun w S a r=>by
  obtain ⟨h1,h2⟩:=Im (σ:=⟨n,tm,hp⟩) r hl
  exact ⟨.func fn #[] (zI.toArray.map a.eval),fun _ _=>by simp [execOp,Instr.makeFunc],.func _ _ _ (by simp [h1]) (fun i c v hc hv=>h2 i c v hc (by simpa using hv))⟩)
end rules
inductive mb:Heap→Bk→Ob→Prop
 | here {b:Bk} {o:Ob} {h:Heap}:mb ((b,o) :: h) b o
 | next {e:Bk×Ob} {b:Bk} {o:Ob} {h:Heap} (k:mb h b o):mb (e :: h) b o
 | skip {l:Heap} {b:Bk} {o:Ob} {h:Heap} (k:mb h b o):mb (l++h) b o
theorem mb.mem {h:Heap} {b:Bk} {o:Ob} (f:mb h b o):(b,o)∈h:=by
 induction f with
 | here=>simp
 | next _ ih=>simp [ih]
 | skip _ ih=>simp [ih]
inductive nC:Heap→Bk→Ob→Bk→Ob→Heap→Prop
 | here {b b':Bk} {o o':Ob} {h:Heap}:nC ((b,o) :: h) b o b' o' ((b',o') :: h)
 | next {e:Bk×Ob} {b b':Bk} {o o':Ob} {h h':Heap} (k:nC h b o b' o' h'):nC (e :: h) b o b' o' (e :: h')
 | skip {l:Heap} {b b':Bk} {o o':Ob} {h h':Heap} (k:nC h b o b' o' h'):nC (l++h) b o b' o' (l++h')
inductive xA:Heap→Bk→Ob→Heap→Prop
 | here {b:Bk} {o:Ob} {h:Heap}:xA ((b,o) :: h) b o h
 | next {e:Bk×Ob} {b:Bk} {o:Ob} {h h':Heap} (k:xA h b o h'):xA (e :: h) b o (e :: h')
 | skip {l:Heap} {b:Bk} {o:Ob} {h h':Heap} (k:xA h b o h'):xA (l++h) b o (l++h')
theorem nC.split {h h':Heap} {b b':Bk} {o o':Ob} (u:nC h b o b' o' h'):∃ pre post,h=pre++(b,o) :: post∧h'=pre++(b',o') :: post:=by
 induction u with
 | here=>exact ⟨[],_,rfl,rfl⟩
 | next _ ih=>obtain ⟨p,q,rfl,rfl⟩:=ih;exact ⟨_ :: p,q,rfl,rfl⟩
 | @skip l _ _ _ _ _ _ _ ih=>obtain ⟨p,q,rfl,rfl⟩:=ih;exact ⟨l++p,q,(bx _ _ _).symm,(bx _ _ _).symm⟩
theorem xA.split {h h':Heap} {b:Bk} {o:Ob} (u:xA h b o h'):∃ pre post,h=pre++(b,o) :: post∧h'=pre++post:=by
 induction u with
 | here=>exact ⟨[],_,rfl,rfl⟩
 | next _ ih=>obtain ⟨p,q,rfl,rfl⟩:=ih;exact ⟨_ :: p,q,rfl,rfl⟩
 | @skip l _ _ _ _ _ ih=>obtain ⟨p,q,rfl,rfl⟩:=ih;exact ⟨l++p,q,(bx _ _ _).symm,(bx _ _ _).symm⟩
theorem nC.sF {h h':Heap} {b b':Bk} {o o':Ob} (u:nC h b o b' o' h'):mb h b o:=by
 induction u with
 | here=>exact .here
 | next _ ih=>exact .next ih
 | skip _ ih=>exact .skip ih
theorem bN {α:Type} {p q:List α} {x y:α}:y∈p++x :: q↔y=x∨y∈p++q:=by
 simp only [a7,bu]
 constructor
 ·rintro (h | h | h)
  ·exact .inr (.inl h)
  ·exact .inl h
  ·exact .inr (.inr h)
 ·rintro (h | h | h)
  ·exact .inr (.inl h)
  ·exact .inl h
  ·exact .inr (.inr h)
def GB (w w':World) (x:Option Nat):Prop:=w.grownBy w' x∧(ck.dr→w.drawn≤w'.drawn)
theorem xf {w w':World} {S:Nat→Prop} {hp dE:Heap} {b b':Bk} {o o':Ob} (r:cY w S hp) (u:nC hp b o b' o' dE) (cc:GB w w' b.dp) (hf:¬ o.Ao) (Yh:¬ o'.Ao)
 (hh:Holds w' S b' o') (Ar:b'.dp=b.dp∨b'.dp=none∨∃ m,b'.dp=some m∧w.heap.size≤m) (hm:o'.more=[]:=by rfl):
 cY w' S dE∧lr w S hp w' S dE∧∀ n,S n→S n∧w'.heap[n]? =w.heap[n]?:=by
 obtain ⟨c,hd⟩:=cc
 obtain ⟨p,q,rfl,rfl⟩:=u.split
 have Io:(b,o)∈p++(b,o) :: q:=by simp
 have nS:∀ n,b.dp=some n→¬ S n:=fun n hn hs=>hf ((r.sep _ Io n (gO hn)).1 hs)
 have lz:∀ n,S n→S n∧w'.heap[n]? =w.heap[n]?:=fun n hs=>⟨hs,c.block n (r.slt n hs) (fun e=>nS n e.symm hs)⟩
 have vy:=r.nodup
 rw [bU,bi,a8,a8] at vy
 have others:∀ e∈p++q,∀ n,n∈eb e→n < w.heap.size∧b.dp≠some n:=by
  intro e he n hn
  refine ⟨r.lt ⟨e,bN.2 (.inr he),hn⟩,fun hb=>?_⟩
  rcases a7.1 he with h | h
  ·exact vy.2.2 n (a6.2 ⟨e,h,hn⟩) n (b6 _ (gO hb)) rfl
  ·exact vy.2.1.2.2 n (gO hb) n (a6.2 ⟨e,h,hn⟩) rfl
 have Vh:∀ e∈p++q,∀ n,n∈eb e→b'.dp≠some n:=by
  intro e he n hn hb
  obtain ⟨h1,h2⟩:=others e he n hn
  rcases Ar with h | h | ⟨m,h,hm⟩
  ·exact h2 (h▸hb)
  ·rw [h] at hb;cases hb
  ·rw [h] at hb;have:=aa hb;omega
 refine ⟨⟨?_,?_,?_,fun n hs=>cb (r.slt n hs) c.size,fun g o ho=>⟨(r.ib g o ho).1,BR (lz g (r.ib g o ho).1).2 (r.ib g o ho).2⟩⟩,⟨c.os,c.tape,c.output,c.size,lz,?_,?_,hd⟩,lz⟩
 ·rw [bU,bi,a8,a8]
  have Yi:(eb (b',o')).Nodup:=by
   unfold eb;rw [hm,cl]
   cases b'.dp<;>simp
  refine ⟨vy.1,⟨Yi,vy.2.1.2.1,fun x hx y hy Ip=>?_⟩,fun x hx y hy Ip=>?_⟩
  ·subst Ip
   obtain ⟨e,he,tY⟩:=a6.1 hy
   exact Vh e (bo _ he) x tY ((vZ hm).1 hx)
  ·subst Ip
   rcases a7.1 hy with hy | hy
   ·obtain ⟨e,he,tY⟩:=a6.1 hx
    exact Vh e (b6 _ he) x tY ((vZ hm).1 hy)
   ·exact vy.2.2 x hx x (bo _ hy) rfl
 ·intro e he
  rcases bN.1 he with rfl | he
  ·exact hh
  ·exact (r.holds e (bN.2 (.inr he))).mono lz (fun n hn=>c.block n (others e he n hn).1 (fun h=>(others e he n hn).2 h.symm))
 ·intro e he n hn
  rcases bN.1 he with rfl | he
  ·replace hn:=(vZ hm).1 hn
   have ns:¬ S n:=by
    rcases Ar with h | h | ⟨m,h,hm⟩
    ·exact nS n (h▸hn)
    ·rw [h] at hn;cases hn
    ·intro hs;have:=r.slt n hs;rw [h] at hn;have:=aa hn;omega
   exact ⟨fun hs=>(ns hs).elim,fun h=>(Yh h).elim⟩
  ·exact r.sep e (bN.2 (.inr he)) n hn
 ·intro n hn Yj
  exact ⟨c.block n hn (fun h=>Yj ⟨(b,o),Io,gO h.symm⟩),id⟩
 ·rintro n ⟨e,he,tY⟩
  rcases bN.1 he with rfl | he
  ·replace tY:=(vZ hm).1 tY
   rcases Ar with h | h | ⟨m,h,hm⟩
   ·exact .inl ⟨(b,o),Io,gO (h▸tY)⟩
   ·rw [h] at tY;cases tY
   ·rw [h] at tY;have:=aa tY;exact .inr (by omega)
  ·exact .inl ⟨e,bN.2 (.inr he),tY⟩
theorem qL {w w':World} {S:Nat→Prop} {hp:Heap} {b:Bk} {o:Ob} (r:cY w S hp) (e:Ext w w') (hf:¬ o.Ao) (hh:Holds w' S b o) (hb:b.dp=none∨∃ m,b.dp=some m∧w.heap.size≤m)(hm:o.more=[]:=by rfl):
 cY w' S ((b,o) :: hp)∧lr w S hp w' S ((b,o) :: hp)∧∀ n,S n→S n∧w'.heap[n]? =w.heap[n]?:=by
 have r':=r.ext e
 have lz:∀ n,S n→S n∧w'.heap[n]? =w.heap[n]?:=fun n hs=>⟨hs,e.same n (r.slt n hs)⟩
 have fresh:∀ n,n∈eb (b,o)→w.heap.size≤n:=by
  intro n hn
  replace hn:=(vZ hm).1 hn
  rcases hb with h | ⟨m,h,hm⟩
  ·rw [h] at hn;cases hn
  ·rw [h] at hn;have:=aa hn;omega
 refine ⟨⟨?_,?_,?_,r'.slt,r'.ib⟩,⟨e.os,e.tape,e.output,e.size,lz,fun n hn _=>⟨e.same n hn,id⟩,?_,e.drawn⟩,lz⟩
 ·rw [bi,a8]
  refine ⟨?_,r.nodup,fun x hx y hy Ip=>?_⟩
  ·unfold eb;rw [hm,cl]
   cases b.dp<;>simp
  ·subst Ip
   obtain ⟨z,hz,hzn⟩:=a6.1 hy
   have:=r.lt ⟨z,hz,hzn⟩
   have:=fresh x hx
   omega
 ·intro x hx
  rcases bu.1 hx with rfl | hx
  ·exact hh
  ·exact r'.holds x hx
 ·intro x hx n hn
  rcases bu.1 hx with rfl | hx
  ·refine ⟨fun hs=>?_,fun h=>(hf h).elim⟩
   have:=r.slt n hs
   have:=fresh n hn
   omega
  ·exact r.sep x hx n hn
 ·rintro n ⟨x,hx,Vc⟩
  rcases bu.1 hx with rfl | hx
  ·exact .inr (fresh n Vc)
  ·exact .inl ⟨x,hx,Vc⟩
theorem ux {w:World} {S:Nat→Prop} {av:AV} {v:Value} (h:At w S av v) (h1:∀ c∈av.cells,c.one=true):av.cells.length=v.cells.size∧pY w S av.cells v.cells:=by
 have single:∀ (c:AV) (u:Value),At w S c u→pY w S [c] #[u]:=by
  intro c u hc i c' u' h1 h2
  match i with
  | 0=>simp at h1 h2;subst h1;subst h2;exact hc
  | i+1=>simp at h1
 cases h with
 | agg cs vs hl h=>exact ⟨hl,h⟩
 | raw v=>
   have:v.oneCell'=true:=h1 (.raw v) (by simp [AV.cells])
   have hv:v.cells=#[v]:=by cases v<;>first | rfl | (simp [Value.oneCell'] at this)
   rw [hv]
   exact ⟨rfl,single _ _ (.raw v)⟩
 | JF φ v hm g1 g=>
   have this:v.oneCell'=true:=g1 _ _ _ g
   have hv:v.cells=#[v]:=by cases v<;>first | rfl | (simp [Value.oneCell'] at this)
   rw [hv]
   exact ⟨rfl,single _ _ (.JF φ v hm g1 g)⟩
 | ma cs vs hl h=>exact ⟨rfl,single _ _ (.ma cs vs hl h)⟩
 | int k n=>exact ⟨rfl,single _ _ (.int k n)⟩
 | bool b=>exact ⟨rfl,single _ _ (.bool b)⟩
 | str s=>exact ⟨rfl,single _ _ (.str s)⟩
 | list sz xs a cap vs lp hl h hm hc=>exact ⟨rfl,single _ _ (.list sz xs a cap vs lp hl h hm hc)⟩
 | nil=>exact ⟨rfl,single _ _ .nil⟩
 | ptr b o n hb=>exact ⟨rfl,single _ _ (.ptr b o n hb)⟩
 | A7 sz b hb=>exact ⟨rfl,single _ _ (.A7 sz b hb)⟩
 | sl sz b off len n cap hb g1 g2=>exact ⟨rfl,single _ _ (.sl sz b off len n cap hb g1 g2)⟩
 | Pq sz b off n ad hb=>exact ⟨rfl,single _ _ (.Pq sz b off n ad hb)⟩
 | cw cs ad vs hl h hs hS hm=>exact ⟨rfl,single _ _ (.cw cs ad vs hl h hs hS hm)⟩
 | sh sz b i o n hb=>exact ⟨rfl,single _ _ (.sh sz b i o n hb)⟩
 | bO b n hb=>exact ⟨rfl,single _ _ (.bO b n hb)⟩
 | func fn cs vs hl h=>exact ⟨rfl,single _ _ (.func fn cs vs hl h)⟩
theorem BU {w:World} {S:Nat→Prop} {cs:List AV} {vs:Array Value} (hl:cs.length=vs.size) (h:pY w S cs vs) (h1:∀ c∈cs,c.one=true):∀ v∈vs.toList,v.oneCell'=true:=by
 intro v hv
 obtain ⟨i,hi,he⟩:=List.mem_iff_getElem.1 hv
 have Sx:i < cs.length:=by rw [hl];simpa using hi
 have:=h i cs[i] v (by simp [Sx]) (by rw [← he];simp at hi ⊢)
 exact this.Ik (h1 _ (List.getElem_mem Sx))
def jq:List AV→Bool
 | []=>true
 | c :: r=>c.one&&jq r
theorem dQ {cs:List AV} (h:jq cs=true):∀ c∈cs,c.one=true:=by
 induction cs with
 | nil=>simp
 | cons x r ih=>
   simp only [jq,bW] at h
   intro c hc
   rcases bu.1 hc with rfl | hc
   ·exact h.1
   ·exact ih h.2 c hc
section rules
variable {P:Program} {all:Array Oper} {rest:List Oper} {n:Nat} {tm:List (Nat×AV)} {hp:Heap} {Q:St→Prop} {d:Nat} {ty:TypeId} {pos:String} {af:Array Edge}
theorem JJ {w:World} {S:Nat→Prop} {hp:Heap} (r:cY w S hp) {cs:List AV} {vs:Array Value} (E:TypeId) (hl:cs.length=vs.size) (h:pY w S cs vs) (h1:∀ c∈cs,c.one=true):
 cY (w.alloc (.cells vs E)) S ((⟨some w.heap.size,0⟩,.cells cs) :: hp)∧lr w S hp (w.alloc (.cells vs E)) S ((⟨some w.heap.size,0⟩,.cells cs) :: hp)∧∀ n,S n→S n∧(w.alloc (.cells vs E)).heap[n]? =w.heap[n]?:=by
 have e:=Ext.alloc w (.cells vs E)
 refine qL r e id ⟨h1,w.heap.size,vs,E,rfl,?_,hl.symm,h.mono fun n hn=>⟨hn,e.same n (r.slt n hn)⟩⟩ (.inr ⟨_,rfl,ag _⟩)
 show (w.heap.push _)[w.heap.size]? =_
 simp
theorem Vi {x:Operand} {E:TypeId} {av:AV} (hx:dh tm x=some av) (h1:jq av.cells=true) (hn:ai d n=true)
 (kk:∀ b:Bk,ae P all rest ⟨n,(d,.ptr b 0) :: tm,(b,.cells av.cells) :: hp⟩ Q):ae P all (⟨some d,.box E x,ty,pos,af,none⟩ :: rest) ⟨n,tm,hp⟩ Q:=by
 refine ae.O1 rfl fun w S a r=>?_
 have hv:=bt (σ:=⟨n,tm,hp⟩) r hx
 obtain ⟨hl,pX⟩:=ux hv (dQ h1)
 obtain ⟨g1,g2,g3⟩:=JJ r.hp E hl pX (dQ h1)
 refine ⟨.pointer (some ⟨w.heap.size,0,none⟩),w.alloc (.cells (a.eval x).cells E),S,_,?_,(r.heap g3 g1).put hn (.ptr ⟨some w.heap.size,0⟩ 0 _ rfl),g2,kk ⟨some w.heap.size,0⟩⟩
 simp [execOp,Instr.box,newVar,newRow]
def zE:Value→AV
 | .agg cs=>.agg (cs.toList.map RA)
 | v=>RA v
theorem si (w:World) (S:Nat→Prop) (z:Value) (h1:∀ c∈(zE z).cells,c.one=true):(zE z).cells.length=z.cells.size∧pY w S (zE z).cells z.cells:=by
 by_cases hz:∃ cs,z=.agg cs
 ·obtain ⟨cs,rfl⟩:=hz
  refine ⟨by simp [zE,AV.cells,Value.cells],?_⟩
  intro i c v hc hv
  simp only [zE,AV.cells,List.getElem?_map,Array.getElem?_toList] at hc
  simp only [Value.cells] at hv
  rw [hv] at hc
  simp at hc
  subst hc
  exact EO _ _ _
 ·have Yk:zE z=RA z:=by
   cases z<;>first | rfl | (exact (hz ⟨_,rfl⟩).elim)
  rw [Yk] at h1 ⊢
  exact ux (EO w S z) h1
theorem Px {E:TypeId} {i:TypeInfo} {z:Value} [aZ P E i] (hz:i.zero=some z) (h1:jq (zE z).cells=true) (hn:ai d n=true)
 (kk:∀ b:Bk,ae P all rest ⟨n,(d,.ptr b 0) :: tm,(b,.cells (zE z).cells) :: hp⟩ Q):ae P all (⟨some d,.alloc E,ty,pos,af,none⟩ :: rest) ⟨n,tm,hp⟩ Q:=by
 refine ae.O1 rfl fun w S a r=>?_
 obtain ⟨hl,pX⟩:=si w S z (dQ h1)
 obtain ⟨g1,g2,g3⟩:=JJ r.hp E hl pX (dQ h1)
 refine ⟨.pointer (some ⟨w.heap.size,0,none⟩),w.alloc (.cells z.cells E),S,_,?_,(r.heap g3 g1).put hn (.ptr ⟨some w.heap.size,0⟩ 0 _ rfl),g2,kk ⟨some w.heap.size,0⟩⟩
 have hi:=aZ.h (P:=P) (t:=E)
 simp [execOp,Instr.alloc,newVar,newRow,zeroValue,typeInfo,hi,hz]
theorem mN (m o k:Nat):(⟨m,o,none⟩:Addr).add k=⟨m,o+k,none⟩:=Addr.add_lit m o k
theorem we {s:TypeId} {fs:Array Field} {j:Nat} {f:Field} {i:TypeInfo} (hs:P.underlying s=some (.struct fs)) (hj:fs[j]? =some f) (hi:P.info? f.type=some i) (h0:i.size≠0) (ad:Addr) (w:World):
 (Instr.fieldAt s (.pointer (some ad)) j).run P w=.ok (.pointer (some (ad.add f.offset))) w:=by
 simp [Instr.fieldAt,run_underlying hs,hj,Instr.sureAddr,fieldPlace,sizeOf,typeInfo,hi,h0]
class l0 (P:Program) (s:TypeId) (j:Nat) (off:outParam Nat):Prop where
 h:∃ fs f i,P.underlying s=some (.struct fs)∧fs[j]? =some f∧P.info? f.type=some i∧(ac i.size 0)=false∧f.offset=off
theorem Gg {x:Operand} {s:TypeId} {j off:Nat} {b:Bk} {o:Nat} [l0 P s j off]
 (hx:dh tm x=some (.ptr b o)):QV P ⟨some d,.fieldAddr s x j,ty,pos,af,none⟩ ⟨n,tm,hp⟩ (.ptr b (o+off)):=
 (fun w S a r=>by
  obtain ⟨fs,f,i,hu,hj,hi,h0,rfl⟩:=l0.h (P:=P) (s:=s) (j:=j)
  obtain ⟨m,h1,h2⟩:=(bt (σ:=⟨n,tm,hp⟩) r hx).tA
  refine ⟨.pointer (some ⟨m,o+f.offset,none⟩),fun w1 _=>?_,.ptr b _ m h1⟩
  have hr:=we (P:=P) hu hj hi (BS h0) ⟨m,o,none⟩ w1
  rw [mN] at hr
  simp [execOp,h2,hr])
theorem ER {x:Operand} {s:TypeId} {j off sz:Nat} {b:Bk} {q o:Nat} [l0 P s j off]
 (hx:dh tm x=some (.sh sz b q o)):QV P ⟨some d,.fieldAddr s x j,ty,pos,af,none⟩ ⟨n,tm,hp⟩ (.sh sz b q (o+off)):=
 (fun w S a r=>by
  obtain ⟨fs,f,i,hu,hj,hi,h0,rfl⟩:=l0.h (P:=P) (s:=s) (j:=j)
  obtain ⟨m,h1,h2⟩:=(bt (σ:=⟨n,tm,hp⟩) r hx).wa
  refine ⟨.pointer (some ⟨m,q * sz+(o+f.offset),none⟩),fun w1 _=>?_,.sh sz b q _ m h1⟩
  have hr:=we (P:=P) hu hj hi (BS h0) ⟨m,q * sz+o,none⟩ w1
  rw [mN,cn] at hr
  simp [execOp,h2,hr])
theorem KQ {w:World} {S:Nat→Prop} {cs:List AV} {ad:Addr} {vs:List Value} (k:Nat) (hl:cs.length=vs.length) (h:∀ (i:Nat) c u,cs[i]? =some c→vs[i]? =some u→At w S c u) (hs:ad.spot=none) (hS:S ad.block)
 (hm:∀ (i:Nat) u,vs[i]? =some u→w.cell? ⟨ad.block,ad.off+i,none⟩=some u):At w S (.cw (cs.drop k)) (.pointer (some (ad.add k))):=by
 obtain ⟨bk,of,sp⟩:=ad
 simp only at hs hS hm
 subst hs
 rw [mN]
 refine .cw _ _ (vs.drop k) (by simp [hl]) (fun i c u hc hu=>h (k+i) c u (by simpa using hc) (by simpa using hu)) rfl hS (fun i u hu=>?_)
 have:=hm (k+i) u (by simpa using hu)
 simpa [cn] using this
theorem ES {x:Operand} {s:TypeId} {j off:Nat} {cs:List AV} [l0 P s j off]
 (hx:dh tm x=some (.cw cs)):QV P ⟨some d,.fieldAddr s x j,ty,pos,af,none⟩ ⟨n,tm,hp⟩ (.cw (cs.drop off)):=
 (fun w S a r=>by
  obtain ⟨fs,f,i,hu,hj,hi,h0,rfl⟩:=l0.h (P:=P) (s:=s) (j:=j)
  obtain ⟨ad,vs,h2,h3,h4,h5,h6,h7⟩:=(bt (σ:=⟨n,tm,hp⟩) r hx).wc
  refine ⟨.pointer (some (ad.add f.offset)),fun w1 _=>?_,KQ f.offset h3 h4 h5 h6 h7⟩
  have hr:=we (P:=P) hu hj hi (BS h0) ad w1
  simp [execOp,h2,hr])
def TypeDesc.jN:TypeDesc→Bool
 | .struct _=>true
 | .array _ _=>true
 | _=>false
theorem oE {t:TypeId} {D:TypeDesc} (ht:P.underlying t=some D) (hD:TypeDesc.jN D=false) {ad:Addr} {v:Value} {w:World} (hc:w.cell? ad=some v):(loadVar t ad).run P w=.ok v w:=by
 have:(isAgg t).run P w=.ok false w:=by
  simp only [isAgg,Sem.run_bind,run_underlying ht,Result.andThen_ok]
  cases D<;>first | rfl | (simp [TypeDesc.jN] at hD)
 simp [loadVar,this,hc]
theorem iZ {t:TypeId} {D:TypeDesc} {i:TypeInfo} (ht:P.underlying t=some D) (hD:TypeDesc.jN D=true) (hi:P.info? t=some i) {ad:Addr} {vs:List Value} {w:World} (hl:vs.length=i.size)
 (hc:∀ (j:Nat) v,vs[j]? =some v→w.cell? (ad.add j)=some v):(loadVar t ad).run P w=.ok (.agg vs.toArray) w:=by
 have h1:(isAgg t).run P w=.ok true w:=by
  simp only [isAgg,Sem.run_bind,run_underlying ht,Result.andThen_ok]
  cases D<;>first | rfl | (simp [TypeDesc.jN] at hD)
 have h2:=run_loadCells_list (P:=P) w ad vs hc
 rw [hl] at h2
 simp [loadVar,h1,sizeOf,typeInfo,hi,h2]
theorem Py {w:World} {m:Nat} {ob:Obj} (h:w.heap[m]? =some ob):m < w.heap.size:=by
 rcases cH m w.heap.size with h' | h'
 ·exact h'
 ·simp [cU h'] at h
theorem Ext.at {w w':World} (e:Ext w w') {m:Nat} {ob:Obj} (h:w.heap[m]? =some ob):w'.heap[m]? =some ob:=by rw [e.same m (Py h)];exact h
theorem Ext.cell {w w':World} (e:Ext w w') {m o:Nat} {v:Value} (h:w.cell? ⟨m,o,none⟩=some v):w'.cell? ⟨m,o,none⟩=some v:=by
 rw [cell_of_heap (e.same m (World.block_lt_of_cell? _ _ h))];exact h
theorem sG {w:World} {S:Nat→Prop} {hp:Heap} (r:cY w S hp) {b:Bk} {cs:List AV} (f:mb hp b (.cells cs)):(∀ c∈cs,c.one=true)∧∃ m vs E,b.dp=some m∧w.heap[m]? =some (.cells vs E (0,0))∧vs.size=cs.length∧pY w S cs vs:=
 r.holds _ f.mem
theorem mR {w:World} {m:Nat} {vs:Array Value} {E:TypeId} (h:w.heap[m]? =some (.cells vs E (0,0))) (o:Nat):w.cell? ⟨m,o,none⟩=vs[o]?:=cell_of_row w m o vs E (0,0) h
theorem aJ {t:TypeId} {D:TypeDesc} {x:Operand} {b:Bk} {o:Nat} {cs:List AV} {av:AV} [aF P t D] (hD:TypeDesc.jN D=false) (hx:dh tm x=some (.ptr b o)) (f:mb hp b (.cells cs)) (ho:cs[o]? =some av):QV P ⟨some d,.load t x,ty,pos,af,none⟩ ⟨n,tm,hp⟩ (av):=
 (fun w S a r=>by
  obtain ⟨m,h1,h2⟩:=(bt (σ:=⟨n,tm,hp⟩) r hx).tA
  obtain ⟨_,m',vs,E,g1,g2,g3,g4⟩:=sG r.hp f
  obtain rfl:m'=m:=by rw [g1] at h1;exact aa h1
  have ew:o < vs.size:=by rw [g3];exact (ap.1 ho).1
  have hv:vs[o]? =some vs[o]:=by simp [ew]
  refine ⟨vs[o],fun w1 ex=>?_,g4 o av _ ho hv⟩
  have:=oE (P:=P) (aF.h (P:=P) (t:=t)) hD (w:=w1) (ad:=⟨m',o,none⟩) (v:=vs[o]) (by rw [mR (ex.at g2),hv])
  simp [execOp,h2,Instr.loadAt,Instr.sureAddr,this])
theorem aH {t:TypeId} {D:TypeDesc} {i:TypeInfo} {x:Operand} {b:Bk} {cs:List AV} [aF P t D] [aZ P t i] (hD:TypeDesc.jN D=true) (hx:dh tm x=some (.ptr b 0)) (f:mb hp b (.cells cs)) (ho:ac cs.length i.size=true):QV P ⟨some d,.load t x,ty,pos,af,none⟩ ⟨n,tm,hp⟩ (.agg cs):=
 (fun w S a r=>by
  obtain ⟨m,h1,h2⟩:=(bt (σ:=⟨n,tm,hp⟩) r hx).tA
  obtain ⟨_,m',vs,E,g1,g2,g3,g4⟩:=sG r.hp f
  obtain rfl:m'=m:=by rw [g1] at h1;exact aa h1
  have hlen:vs.toList.length=i.size:=by simp [g3];exact aw ho
  refine ⟨.agg vs,fun w1 ex=>?_,.agg cs vs g3.symm g4⟩
  have:=iZ (P:=P) (aF.h (P:=P) (t:=t)) hD (aZ.h (P:=P) (t:=t)) (w:=w1) (ad:=⟨m',0,none⟩) (vs:=vs.toList) hlen (fun j v hv=>by rw [mN,mR (ex.at g2)];simpa using hv)
  simp [execOp,h2,Instr.loadAt,Instr.sureAddr,this])
theorem A9 {t:TypeId} {D:TypeDesc} {i:TypeInfo} {x:Operand} {b:Bk} {o:Nat} {cs:List AV} [aF P t D] [aZ P t i] (hD:TypeDesc.jN D=true) (hx:dh tm x=some (.ptr b o)) (f:mb hp b (.cells cs)) (ho:b7 (o+i.size) cs.length=true):QV P ⟨some d,.load t x,ty,pos,af,none⟩ ⟨n,tm,hp⟩ (.agg ((cs.drop o).take i.size)):=
 (fun w S a r=>by
  obtain ⟨m,h1,h2⟩:=(bt (σ:=⟨n,tm,hp⟩) r hx).tA
  obtain ⟨_,m',vs,E,g1,g2,g3,g4⟩:=sG r.hp f
  obtain rfl:m'=m:=by rw [g1] at h1;exact aa h1
  have hle:o+i.size≤cs.length:=b8 ho
  have hlen:((vs.toList.drop o).take i.size).length=i.size:=by simp [g3];omega
  refine ⟨.agg ((vs.toList.drop o).take i.size).toArray,fun w1 ex=>?_,.agg _ _ (by simp [g3]) (fun j c v hc hv=>?_)⟩
  ·have:=iZ (P:=P) (aF.h (P:=P) (t:=t)) hD (aZ.h (P:=P) (t:=t)) (w:=w1) (ad:=⟨m',o,none⟩) (vs:=(vs.toList.drop o).take i.size) hlen (fun j v hv=>by
    rw [mN,mR (ex.at g2)]
    simp only [aL,be] at hv
    split at hv
    ·simpa using hv
    ·cases hv)
   simp [execOp,h2,Instr.loadAt,Instr.sureAddr,this]
  ·simp only [bv,aL,be] at hc hv
   split at hv
   ·rename_i ew;rw [if_pos ew] at hc;exact g4 (o+j) c v hc (by simpa using hv)
   ·cases hv)
theorem aR {t:TypeId} {D:TypeDesc} {x:Operand} {cs:List AV} {av:AV} [aF P t D] (hD:TypeDesc.jN D=false) (hx:dh tm x=some (.cw cs)) (ho:cs[0]? =some av):QV P ⟨some d,.load t x,ty,pos,af,none⟩ ⟨n,tm,hp⟩ (av):=
 (fun w S a r=>by
  obtain ⟨ad,vs,h2,h3,h4,h5,h6,h7⟩:=(bt (σ:=⟨n,tm,hp⟩) r hx).wc
  have ew:0 < vs.length:=by rw [← h3];exact (ap.1 ho).1
  have hv:vs[0]? =some vs[0]:=by simp [ew]
  refine ⟨vs[0],fun w1 ex=>?_,h4 0 av _ ho hv⟩
  have hc:=ex.cell (h7 0 _ hv)
  have he:(⟨ad.block,ad.off+0,none⟩:Addr)=ad:=by cases ad;simp at h5;simp [h5]
  rw [he] at hc
  have:=oE (P:=P) (aF.h (P:=P) (t:=t)) hD hc
  simp [execOp,h2,Instr.loadAt,Instr.sureAddr,this])
theorem bw {t:TypeId} {D:TypeDesc} {i:TypeInfo} {x:Operand} {cs:List AV} [aF P t D] [aZ P t i] (hD:TypeDesc.jN D=true) (hx:dh tm x=some (.cw cs)) (ho:ac cs.length i.size=true):QV P ⟨some d,.load t x,ty,pos,af,none⟩ ⟨n,tm,hp⟩ (.agg cs):=
 (fun w S a r=>by
  obtain ⟨ad,vs,h2,h3,h4,h5,h6,h7⟩:=(bt (σ:=⟨n,tm,hp⟩) r hx).wc
  refine ⟨.agg vs.toArray,fun w1 ex=>?_,.agg cs _ (by simp [h3]) (fun j c v hc hv=>h4 j c v hc (by simpa using hv))⟩
  have:=iZ (P:=P) (aF.h (P:=P) (t:=t)) hD (aZ.h (P:=P) (t:=t)) (w:=w1) (ad:=ad) (vs:=vs) (by rw [← h3];exact aw ho) (fun j v hv=>by
   obtain ⟨bk,of,sp⟩:=ad
   simp only at h5;subst h5
   rw [mN];exact ex.cell (h7 j v hv))
  simp [execOp,h2,Instr.loadAt,Instr.sureAddr,this])
theorem zJ {t:TypeId} {D:TypeDesc} {i:TypeInfo} {x:Operand} {cs:List AV} [aF P t D] [aZ P t i] (hD:TypeDesc.jN D=true) (hx:dh tm x=some (.cw cs)) (ho:b7 i.size cs.length=true):QV P ⟨some d,.load t x,ty,pos,af,none⟩ ⟨n,tm,hp⟩ (.agg (cs.take i.size)):=
 (fun w S a r=>by
  obtain ⟨ad,vs,h2,h3,h4,h5,h6,h7⟩:=(bt (σ:=⟨n,tm,hp⟩) r hx).wc
  have hle:i.size≤cs.length:=b8 ho
  have tk:∀ {α:Type} (l:List α) (k j:Nat) (y:α),(l.take k)[j]? =some y→l[j]? =some y:=by
   intro α l k j y h
   rw [aL] at h
   split at h
   ·exact h
   ·cases h
  refine ⟨.agg (vs.take i.size).toArray,fun w1 ex=>?_,.agg _ _ (by simp [h3]) (fun j c v hc hv=>h4 j c v (tk _ _ _ _ hc) (tk _ _ _ _ (by simpa using hv)))⟩
  have:=iZ (P:=P) (aF.h (P:=P) (t:=t)) hD (aZ.h (P:=P) (t:=t)) (w:=w1) (ad:=ad) (vs:=vs.take i.size) (by simp;omega) (fun j v hv=>by
   obtain ⟨bk,of,sp⟩:=ad
   simp only at h5;subst h5
   rw [mN];exact ex.cell (h7 j v (tk _ _ _ _ hv)))
  simp [execOp,h2,Instr.loadAt,Instr.sureAddr,this])
def nX (cs:List AV) (o:Nat) (new:List AV):List AV:=cs.take o++new++cs.drop (o+new.length)
theorem BV {w:World} {S:Nat→Prop} {cs new:List AV} {vs r6:Array Value} (o:Nat) (hl:vs.size=cs.length) (h:pY w S cs vs) (JK:new.length=r6.size) (h':pY w S new r6) (ho:o+new.length≤cs.length):
 pY w S (nX cs o new) (vs.toList.take o++r6.toList++vs.toList.drop (o+r6.toList.length)).toArray:=by
 intro i c v hc hv
 simp only [nX,bv] at hc hv
 have l1:(cs.take o).length=o:=by simp;omega
 have l2:(vs.toList.take o).length=o:=by simp;omega
 have l3:r6.toList.length=new.length:=by simp [JK]
 rw [bx] at hc hv
 by_cases h1:i < o
 ·rw [bP (by omega)] at hc hv
  rw [aL,if_pos h1] at hc hv
  exact h i c v hc (by simpa using hv)
 ·rw [b5 (by omega)] at hc hv
  rw [l1] at hc
  rw [l2] at hv
  by_cases h2:i - o < new.length
  ·rw [bP (by omega)] at hc hv
   exact h' (i - o) c v hc (by simpa using hv)
  ·rw [b5 (by omega)] at hc hv
   rw [l3] at hv
   rw [be] at hc hv
   rw [show o+new.length+(i - o - new.length)=i from by omega] at hc
   rw [show o+new.length+(i - o - new.length)=i from by omega] at hv
   exact h i c v hc (by simpa using hv)
theorem Gh {t:TypeId} {i:TypeInfo} {x y:Operand} {b:Bk} {o:Nat} {cs:List AV} {av:AV} {dE:Heap} [aZ P t i] (hx:dh tm x=some (.ptr b o)) (hy:dh tm y=some av) (h1:jq av.cells=true) (lp:ac av.cells.length i.size=true)
 (u:nC hp b (.cells cs) b (.cells (nX cs o av.cells)) dE) (ho:b7 (o+av.cells.length) cs.length=true) (kk:ae P all rest ⟨n,tm,dE⟩ Q):ae P all (⟨none,.store t x y,ty,pos,af,none⟩ :: rest) ⟨n,tm,hp⟩ Q:=by
 refine ae.act rfl rfl (aS:=⟨n,tm,dE⟩) (fun w S a r=>?_) kk
 obtain ⟨m,e1,e2⟩:=(bt (σ:=⟨n,tm,hp⟩) r hx).tA
 obtain ⟨g0,m',vs,E,g1,g2,g3,g4⟩:=sG r.hp u.sF
 obtain rfl:m'=m:=by rw [g1] at e1;exact aa e1
 have hv:=bt (σ:=⟨n,tm,hp⟩) r hy
 obtain ⟨hl,pX⟩:=ux hv (dQ h1)
 have hle:o+av.cells.length≤cs.length:=b8 ho
 have vJ:=BU hl pX (dQ h1)
 have Dl:=run_storeCells_at (P:=P) m' o E (a.eval y).cells.toList 0 vs w g2 (by simp;omega) vJ
 simp only [b9] at Dl
 have Mh:(a.eval y).cells.size=i.size:=by rw [← hl];exact aw lp
 have Vj:=fun (w':World) (ha:pY w' S cs vs) (hb:pY w' S av.cells (a.eval y).cells)=>BV o g3 ha hl hb hle
 have RG:(vs.toList.take o++(a.eval y).cells.toList++vs.toList.drop (o+(a.eval y).cells.toList.length)).toArray.size=(nX cs o av.cells).length:=by
  simp [nX];omega
 generalize (vs.toList.take o++(a.eval y).cells.toList++vs.toList.drop (o+(a.eval y).cells.toList.length)).toArray=H5 at Dl Vj RG
 have c:GB w (w.setRow m' H5) b.dp:=⟨⟨rfl,rfl,rfl,by simp,fun k hk Aq=>setRow_other w m' k _ (fun e=>Aq (by rw [e1,e]))⟩,fun _=>ag _⟩
 have k1:∀ n,S n→S n∧(w.setRow m' H5).heap[n]? =w.heap[n]?:=by
  intro k hk
  refine ⟨hk,setRow_other w m' k _ (fun e=>?_)⟩
  subst e
  exact (r.hp.sep _ u.sF.mem k (gO e1)).1 hk
 have hh:=xf r.hp u c id id ⟨?_,m',H5,E,e1,setRow_heap w m' vs _ E _ g2,RG,Vj _ (g4.mono k1) (pX.mono k1)⟩ (.inl rfl)
 ·refine ⟨w.setRow m' H5,S,?_,r.heap hh.2.2 hh.1,hh.2.1⟩
  simp [execOp,e2,Instr.storeAt,Instr.sureAddr,storeVar,sizeOf,typeInfo,aZ.h (P:=P) (t:=t),Mh,Dl]
 ·intro c hc
  simp only [nX,a7] at hc
  rcases hc with (hc | hc) | hc
  ·exact g0 c (cy hc)
  ·exact dQ h1 c hc
  ·exact g0 c (ce hc)
end rules
def Mi (xs:List AV) (i:Int):Option AV:=if 0≤i then xs[i.toNat]? else none
theorem KR {xs:List AV} {i:Int} {x:AV} (h:Mi xs i=some x):0≤i∧i < xs.length∧xs[i.toNat]? =some x:=by
 unfold Mi at h
 split at h
 ·rename_i h0
  have:=(ap.1 h).1
  exact ⟨h0,by omega,h⟩
 ·cases h
theorem As {P:Program} {t e:TypeId} {i:TypeInfo} (ht:P.underlying t=some (.slice e)) (hi:P.info? e=some i) (ad:Addr) (len cap:Nat) (k:IntKind) (j:Int) (h0:0≤j) (h1:j < len) (w:World):
 (Instr.indexAt t (.slice (some ad) len cap) (.int k j)).run P w=.ok (.pointer (some (ad.add (j.toNat * i.size)))) w:=by
 simp [Instr.indexAt,asIntOf,run_underlying ht,h0,h1,sizeOf,typeInfo,hi]
section rules
variable {P:Program} {all:Array Oper} {rest:List Oper} {n:Nat} {tm:List (Nat×AV)} {hp:Heap} {Q:St→Prop} {d:Nat} {ty:TypeId} {pos:String} {af:Array Edge}
theorem ET {t e:TypeId} {i:TypeInfo} {x y:Operand} {xs:List AV} {k:IntKind} {j:Int} {av:AV} {sz:Nat} [aF P t (.slice e)] [aZ P e i] (hx:dh tm x=some (.list sz xs)) (lp:ac i.size sz=true) (hy:dh tm y=some (.int k j))
 (hg:Mi xs j=some av) (h0:ai 0 sz=true):QV P ⟨some d,.indexAddr t x y,ty,pos,af,none⟩ ⟨n,tm,hp⟩ (.cw av.cells):=
 (fun w S a r=>by
  obtain rfl:i.size=sz:=aw lp
  obtain ⟨g0,g1,g2⟩:=KR hg
  obtain ⟨oa,cap,vs,e1,e2,e3,e4,e5,e6⟩:=(bt (σ:=⟨n,tm,hp⟩) r hx).wb
  have Ba:0 < i.size:=by simpa using h0
  have pa:av∈xs:=bX g2
  have DO:=dP e2
  have zK:j.toNat < xs.length:=by omega
  have hmul:(j.toNat+1) * i.size≤xs.length * i.size:=bz _ (by omega)
  rw [al,bG] at hmul
  have hb:j.toNat * i.size < vs.length:=by rw [← e3,DO];omega
  obtain ⟨ad,rfl,Mc,hS,_⟩:=e5 (j.toNat * i.size) _ (List.getElem?_eq_getElem hb)
  obtain ⟨bk,of,sp⟩:=ad
  simp only at Mc hS
  subst Mc
  refine ⟨.pointer (some ⟨bk,of+j.toNat * i.size,none⟩),fun w1 _=>?_,.cw _ _ ((vs.drop (j.toNat * i.size)).take i.size) ?_ ?_ rfl hS ?_⟩
  ·have:=As (P:=P) (aF.h (P:=P) (t:=t)) (aZ.h (P:=P) (t:=e)) ⟨bk,of,none⟩ xs.length cap k j g0 g1 w1
   rw [mN] at this
   simp [execOp,e1,(bt (σ:=⟨n,tm,hp⟩) r hy).ez,this]
  ·rw [(e2 av pa).1];simp;omega
  ·intro q c u hc hu
   have hq:q < i.size:=by rw [← (e2 av pa).1];exact (ap.1 hc).1
   have hf:=oe e2 g2 q hq
   rw [hc] at hf
   rw [aL,if_pos hq,be] at hu
   exact e4 _ c u hf hu
  ·intro q u hu
   rw [aL] at hu
   split at hu
   ·rw [be] at hu
    obtain ⟨Yl,h1,h2,h3,h4⟩:=e5 _ u hu
    obtain rfl:=aa h1
    simpa [cn] using h4
   ·cases hu)
theorem Iq {t e:TypeId} {i:TypeInfo} {x y:Operand} {k:IntKind} {j:Int} {sz off len:Nat} {b:Bk} [aF P t (.slice e)] [aZ P e i] (hx:dh tm x=some (.sl sz b off len)) (lp:ac i.size sz=true) (hy:dh tm y=some (.int k j))
 (h0:0≤j∧j < (len:Int)):QV P ⟨some d,.indexAddr t x y,ty,pos,af,none⟩ ⟨n,tm,hp⟩ (.sh sz b (off+j.toNat) 0):=
 (fun w S a r=>by
  obtain rfl:i.size=sz:=aw lp
  obtain ⟨oa,cap,e1,e2⟩:=(bt (σ:=⟨n,tm,hp⟩) r hx).x4
  rcases e2 with ⟨_,_,hl,_⟩ | ⟨m,hb,rfl,h1,h2⟩ | ⟨m,ad,hb,_,hl,_⟩
  ·omega
  ·refine ⟨.pointer (some ⟨m,(off+j.toNat) * i.size+0,none⟩),fun w1 _=>?_,.sh _ _ _ _ m hb⟩
   have:=As (P:=P) (aF.h (P:=P) (t:=t)) (aZ.h (P:=P) (t:=e)) ⟨m,off * i.size,none⟩ len cap k j h0.1 h0.2 w1
   rw [mN,← al] at this
   simp [execOp,e1,(bt (σ:=⟨n,tm,hp⟩) r hy).ez,this]
  ·omega)
theorem sH {w:World} {S:Nat→Prop} {hp:Heap} (r:cY w S hp) {b:Bk} {sz:Nat} {xs:List AV} (f:mb hp b (.arr sz xs)∨mb hp b (.yD sz xs)):(∀ x∈xs,El sz x)∧xs.length≤b.cap∧
 ((b.dp=none∧b.cap=0)∨∃ m vs E,b.dp=some m∧w.heap[m]? =some (.cells vs E (0,0))∧vs.size=b.cap * sz∧pY w S (flat xs) vs):=by
 rcases f with f | f<;>exact r.holds _ f.mem
theorem Gi {t:TypeId} {D:TypeDesc} {x:Operand} {b:Bk} {sz q o:Nat} {xs:List AV} {el av:AV} [aF P t D] (hD:TypeDesc.jN D=false) (hx:dh tm x=some (.sh sz b q o)) (f:mb hp b (.arr sz xs)∨mb hp b (.yD sz xs))
 (hq:xs[q]? =some el) (ho:el.cells[o]? =some av):QV P ⟨some d,.load t x,ty,pos,af,none⟩ ⟨n,tm,hp⟩ (av):=
 (fun w S a r=>by
  obtain ⟨m,h1,h2⟩:=(bt (σ:=⟨n,tm,hp⟩) r hx).wa
  obtain ⟨g0,g1,⟨g2,_⟩ | ⟨m',vs,E,g2,g3,g4,g5⟩⟩:=sH r.hp f
  ·rw [g2] at h1;cases h1
  ·obtain rfl:m'=m:=by rw [g2] at h1;exact aa h1
   have zF:=g0 el (bX hq)
   have hos:o < sz:=by rw [← zF.1];exact (ap.1 ho).1
   have Ym:q < xs.length:=(ap.1 hq).1
   have hf:=oe g0 hq o hos
   rw [ho] at hf
   have hmul:(q+1) * sz≤b.cap * sz:=bz _ (by omega)
   rw [al,bG] at hmul
   have ew:q * sz+o < vs.size:=by omega
   have hv:vs[q * sz+o]? =some vs[q * sz+o]:=by simp [ew]
   refine ⟨vs[q * sz+o],fun w1 ex=>?_,g5 _ av _ hf hv⟩
   have:=oE (P:=P) (aF.h (P:=P) (t:=t)) hD (w:=w1) (ad:=⟨m',q * sz+o,none⟩) (v:=vs[q * sz+o]) (by rw [mR (ex.at g3),hv])
   simp [execOp,h2,Instr.loadAt,Instr.sureAddr,this])
theorem Bb {t:TypeId} {D:TypeDesc} {i:TypeInfo} {x:Operand} {b:Bk} {sz q:Nat} {xs cs:List AV} [aF P t D] [aZ P t i] (hD:TypeDesc.jN D=true) (hx:dh tm x=some (.sh sz b q 0)) (f:mb hp b (.arr sz xs)∨mb hp b (.yD sz xs)) (lp:ac i.size sz=true)
 (hq:xs[q]? =some (.agg cs)):QV P ⟨some d,.load t x,ty,pos,af,none⟩ ⟨n,tm,hp⟩ (.agg cs):=
 (fun w S a r=>by
  obtain ⟨m,h1,h2⟩:=(bt (σ:=⟨n,tm,hp⟩) r hx).wa
  obtain ⟨g0,g1,⟨g2,_⟩ | ⟨m',vs,E,g2,g3,g4,g5⟩⟩:=sH r.hp f
  ·rw [g2] at h1;cases h1
  ·obtain rfl:m'=m:=by rw [g2] at h1;exact aa h1
   have zF:=g0 (.agg cs) (bX hq)
   have yF:cs.length=sz:=zF.1
   have hi:i.size=sz:=aw lp
   have Ym:q < xs.length:=(ap.1 hq).1
   have hmul:(q+1) * sz≤b.cap * sz:=bz _ (by omega)
   rw [al,bG] at hmul
   have hlen:((vs.toList.drop (q * sz)).take sz).length=i.size:=by simp;omega
   refine ⟨.agg ((vs.toList.drop (q * sz)).take sz).toArray,fun w1 ex=>?_,.agg _ _ (by simp;omega) (fun j c v hc hv=>?_)⟩
   ·have:=iZ (P:=P) (aF.h (P:=P) (t:=t)) hD (aZ.h (P:=P) (t:=t)) (w:=w1) (ad:=⟨m',q * sz+0,none⟩) (vs:=(vs.toList.drop (q * sz)).take sz) hlen (fun j v hv=>by
     rw [mN,mR (ex.at g3)]
     simp only [aL,be] at hv
     split at hv
     ·simpa using hv
     ·cases hv)
    simp only [b9] at this
    simp [execOp,h2,Instr.loadAt,Instr.sureAddr,this]
   ·simp only [bv,aL,be] at hv
    split at hv
    ·rename_i ew
     have hf:=oe g0 hq j ew
     rw [show (AV.agg cs).cells=cs from rfl,hc] at hf
     exact g5 _ c v hf (by simpa using hv)
    ·cases hv)
theorem Gj (off:Nat):∀ (l:List Value) (j:Nat) (cs:Array Value),off+j+l.length≤cs.size→
 (l.zipIdx j).foldl (fun (cs:Array Value) (p:Value×Nat)=>cs.setIfInBounds (off+p.2) p.1) cs=(cs.toList.take (off+j)++l++cs.toList.drop (off+j+l.length)).toArray
 | [],j,cs,h=>by simp
 | v :: l,j,cs,h=>by
   simp only [ci] at h
   rw [List.zipIdx_cons,List.foldl_cons,Gj off l (j+1) _ (by simp;omega)]
   have ew:off+j < cs.size:=by omega
   apply Array.ext'
   simp only [Array.toList_setIfInBounds]
   rw [show off+(j+1)=(off+j)+1 from by omega]
   rw [List.take_add_one,List.take_set_of_le (ag _),List.drop_set_of_lt (by omega)]
   simp [ew,bx]
   rw [show off+j+1+l.length=off+j+(l.length+1) from by omega]
theorem DP {place:Nat→Option (Nat×Nat)} {cells:Array Value} {i off size:Nat} {v:Value} {rest:List (Nat×Value)} (hp:place i=some (off,size)) (hs:v.cells.size=size) (ho:off+size≤cells.size):
 Instr.fill place cells ((i,v) :: rest)=Instr.fill place (cells.toList.take off++v.cells.toList++cells.toList.drop (off+v.cells.toList.length)).toArray rest:=by
 rw [Instr.fill,hp]
 simp only
 rw [if_neg (by simp [hs];omega)]
 congr 1
 have:=Gj off v.cells.toList 0 cells (by simp [hs];omega)
 simp only [b9] at this
 rw [← this,← Array.toList_zipIdx,Array.foldl_toList]
def DQ (pl:List (Nat×Nat)):List AV→List (Nat×AV)→Option (List AV)
 | cells,[]=>some cells
 | cells,(i,v) :: rest=>match pl[i]? with
   | none=>none
   | some (off,size)=>match ac v.cells.length size&&b7 (off+v.cells.length) cells.length&&jq v.cells with
     | true=>DQ pl (nX cells off v.cells) rest
     | false=>none
def UF (tm:List (Nat×AV)):List (Nat×Operand)→Option (List (Nat×AV))
 | []=>some []
 | (i,x) :: r=>match dh tm x,UF tm r with
   | some a,some l=>some ((i,a) :: l)
   | _,_=>none
theorem DR {w:World} {S:Nat→Prop} {σ:St} {a:Act} (r:ey w S σ a) (pl:List (Nat×Nat)):∀ (parts:List (Nat×Operand)) (l:List (Nat×AV)) (cells x6:List AV) (vs:Array Value),UF σ.tm parts=some l→DQ pl cells l=some x6→
 cells.length=vs.size→pY w S cells vs→(∀ c∈cells,c.one=true)→∃ H5,Instr.fill (pl.toArray[·]?) vs (parts.map fun p=>(p.1,a.eval p.2))=some H5∧x6.length=H5.size∧pY w S x6 H5∧∀ c∈x6,c.one=true
 | [],l,cells,x6,vs,h1,h2,h3,h4,h5=>by
   simp only [UF,bp] at h1
   subst h1
   simp only [DQ,bp] at h2
   subst h2
   exact ⟨vs,rfl,h3,h4,h5⟩
 | (i,x) :: parts,l,cells,x6,vs,h1,h2,h3,h4,h5=>by
   simp only [UF] at h1
   split at h1
   ·rename_i av l' ha hl
    obtain rfl:=aa h1
    simp only [DQ] at h2
    split at h2
    ·cases h2
    ·rename_i off size Sy
     split at h2
     ·rename_i hc
      simp only [bW] at hc
      obtain ⟨⟨c1,c2⟩,c3⟩:=hc
      have c1:=aw c1
      have c2:=b8 c2
      obtain ⟨hl1,Sz⟩:=ux (bt r ha) (dQ c3)
      have Mc:=BV off h3.symm h4 hl1 Sz c2
      obtain ⟨H5,g1,g2,g3,g4⟩:=DR r pl parts l' (nX cells off av.cells) x6 _ hl h2 (by simp [nX];omega) Mc (by
       intro c hc
       simp only [nX,a7] at hc
       rcases hc with (hc | hc) | hc
       ·exact h5 c (cy hc)
       ·exact dQ c3 c hc
       ·exact h5 c (ce hc))
      refine ⟨H5,?_,g2,g3,g4⟩
      rw [c8,DP (off:=off) (size:=size) (by simpa using Sy) (by rw [← hl1];exact c1) (by omega)]
      exact g1
     ·cases h2
   ·cases h1
def placesOf (P:Program):List Field→Option (List (Nat×Nat))
 | []=>some []
 | f :: r=>match P.info? f.type,placesOf P r with
   | some i,some l=>some ((f.offset,i.size) :: l)
   | _,_=>none
theorem run_places {P:Program}:∀ (fs:List Field) (pl:List (Nat×Nat)) (w:World),placesOf P fs=some pl→(fs.mapM (fun f=>do pure (f.offset,← sizeOf f.type)):Sem (List (Nat×Nat))).run P w=.ok pl w
 | [],pl,w,h=>by simp [placesOf] at h;subst h;simp
 | f :: fs,pl,w,h=>by
   simp only [placesOf] at h
   split at h
   ·rename_i i l hi hl
    obtain rfl:=aa h
    have ih:=run_places fs l w hl
    simp only [List.mapM_cons,Sem.run_bind,sizeOf,typeInfo,hi,run_program,Result.andThen_ok,Sem.run_pure] at ih ⊢
    rw [ih]
    simp
   ·cases h
class jO (P:Program) (t:TypeId) (pl:outParam (List (Nat×Nat))):Prop where
 h:∃ fs,P.underlying t=some (.struct fs)∧placesOf P fs.toList=some pl
theorem Pz {t:TypeId} {i:TypeInfo} {z:Value} {parts:List (Nat×Operand)} {l:List (Nat×AV)} {cs:List AV} {pl:List (Nat×Nat)} [aZ P t i] [jO P t pl] (hz:i.zero=some z) (hl:UF tm parts=some l) (h1:jq (zE z).cells=true)
 (hc:DQ pl (zE z).cells l=some cs):QV P ⟨some d,.build t parts.toArray,ty,pos,af,none⟩ ⟨n,tm,hp⟩ (.agg cs):=
 (fun w S a r=>by
  obtain ⟨z1,z2⟩:=si w S z (dQ h1)
  obtain ⟨vs,g1,g2,g3,g4⟩:=DR (σ:=⟨n,tm,hp⟩) r pl parts l _ _ _ hl hc z1 z2 (dQ h1)
  refine ⟨.agg vs,fun w1 _=>?_,.agg _ _ g2 g3⟩
  obtain ⟨fs,hu,Sy⟩:=jO.h (P:=P) (t:=t)
  have Xi:=run_places fs.toList pl w1 Sy
  have PA:(fs.mapM (fun f=>do pure (f.offset,← sizeOf f.type)):Sem (Array (Nat×Nat))).run P w1=.ok pl.toArray w1:=by
   have:(fs.mapM (fun f=>do pure (f.offset,← sizeOf f.type)):Sem (Array (Nat×Nat)))=Functor.map List.toArray (fs.toList.mapM (fun f=>do pure (f.offset,← sizeOf f.type))):=by
    rw [← List.mapM_toArray]
   rw [this,Sem.run_map,Xi]
   rfl
  simp only [execOp,Instr.build,Sem.run_bind,zeroValue,typeInfo,run_program,Result.andThen_ok,aZ.h (P:=P) (t:=t),hz,Sem.run_pure,run_underlying hu,PA]
  have:((parts.toArray.map fun p=>(p.1,a.eval p.2))).toList=parts.map fun p=>(p.1,a.eval p.2):=by simp
  simp only [this,g1,Sem.run_pure,Result.andThen_ok])
end rules
def Vk (sz:Nat) (x:AV):Bool:=ac x.cells.length sz&&jq x.cells
def Au (sz:Nat):List AV→Bool
 | []=>true
 | x :: r=>Vk sz x&&Au sz r
theorem BW {sz:Nat} {x:AV} (h:Vk sz x=true):El sz x:=by
 simp only [Vk,bW] at h
 exact ⟨aw h.1,dQ h.2⟩
theorem oJ {sz:Nat}:∀ {xs:List AV},Au sz xs=true→∀ x∈xs,El sz x
 | [],_,x,hx=>by simp at hx
 | y :: r,h,x,hx=>by
   simp only [Au,bW] at h
   rcases bu.1 hx with rfl | hx
   ·exact BW h.1
   ·exact oJ h.2 x hx
def Mj (tm:List (Nat×AV)):List (Nat×Operand)→Nat→Option (List AV)
 | [],_=>some []
 | (i,x) :: r,k=>match ac i k,dh tm x,Mj tm r (k+1) with
   | true,some a,some l=>some (a :: l)
   | _,_,_=>none
theorem yG {w:World} {S:Nat→Prop} {cs ds:List AV} {us vs:List Value} (hl:cs.length=us.length) (h1:pY w S cs us.toArray) (h2:pY w S ds vs.toArray):pY w S (cs++ds) (us++vs).toArray:=by
 intro i c v hc hv
 simp only [bv] at hv
 by_cases hi:i < cs.length
 ·rw [bP hi] at hc
  rw [bP (by omega)] at hv
  exact h1 i c v hc (by simpa using hv)
 ·rw [b5 (by omega)] at hc
  rw [b5 (by omega),← hl] at hv
  exact h2 _ c v hc (by simpa using hv)
theorem BX {w:World} {S:Nat→Prop} {σ:St} {a:Act} (r:ey w S σ a) (size:Nat):∀ (parts:List (Nat×Operand)) (k:Nat) (xs:List AV) (cells:Array Value),Mj σ.tm parts k=some xs→(∀ x∈xs,El size x)→cells.size=(k+parts.length) * size→
 ∃ vs:List Value,Instr.fill (fun i=>some (i * size,size)) cells (parts.map fun p=>(p.1,a.eval p.2))=some (cells.toList.take (k * size)++vs).toArray∧vs.length=xs.length * size∧xs.length=parts.length∧pY w S (flat xs) vs.toArray
 | [],k,xs,cells,h1,h2,h3=>by
   simp only [Mj,bp] at h1
   subst h1
   refine ⟨[],?_,by simp,rfl,fun i c v hc=>by simp [flat] at hc⟩
   simp only [cf,b9] at h3
   simp only [Instr.fill,List.map_nil,← h3,bp,cl]
   rw [dg (by simp)]
 | (i,x) :: parts,k,xs,cells,h1,h2,h3=>by
   simp only [Mj] at h1
   split at h1
   ·rename_i av l hi ha hl
    obtain rfl:i=k:=aw hi
    obtain rfl:=aa h1
    have zF:=h2 av (by simp)
    obtain ⟨c1,c2⟩:=ux (bt r ha) zF.2
    simp only [ci] at h3
    have lp:(a.eval x).cells.size=size:=by rw [← c1];exact zF.1
    have e1:(i+(parts.length+1)) * size=i * size+size+parts.length * size:=by rw [al,al,bG];omega
    have hle:i * size+size≤cells.size:=by rw [h3,e1];omega
    obtain ⟨vs,g1,g2,g3,g4⟩:=BX r size parts (i+1) l (cells.toList.take (i * size)++(a.eval x).cells.toList++cells.toList.drop (i * size+(a.eval x).cells.toList.length)).toArray hl (fun y hy=>h2 y (by simp [hy])) (by
     simp [lp];rw [show i+1+parts.length=i+(parts.length+1) from by omega,e1];omega)
    refine ⟨(a.eval x).cells.toList++vs,?_,?_,by simp [g3],?_⟩
    ·rw [c8,DP (off:=i * size) (size:=size) rfl lp hle,g1]
     congr 2
     have l1:(cells.toList.take (i * size)).length=i * size:=by simp;omega
     have l2:(a.eval x).cells.toList.length=size:=by simp [lp]
     rw [← bx]
     congr 1
     rw [show (i+1) * size=(cells.toList.take (i * size)++(a.eval x).cells.toList).length from by rw [b4,l1,l2,al,bG]]
     exact List.take_left
    ·simp [g2,lp,al];omega
    ·rw [jG]
     exact yG (by simpa using c1) (by simpa using c2) g4
   ·cases h1
section rules
variable {P:Program} {all:Array Oper} {rest:List Oper} {n:Nat} {tm:List (Nat×AV)} {hp:Heap} {Q:St→Prop} {d:Nat} {ty:TypeId} {pos:String} {af:Array Edge}
theorem mZ {P:Program} (w:World) (E:TypeId) (vs:Array Value):(newRow E vs).run P w=.ok ⟨w.heap.size,0,none⟩ (w.alloc (.cells vs E)):=by simp [newRow]
theorem EU {t e:TypeId} {i:TypeInfo} {z:Value} {len:Nat} {parts:List (Nat×Operand)} {xs:List AV} [aF P t (.slice e)] [aZ P e i] (hz:i.zero=some z) (hl:Mj tm parts 0=some xs) (hlen:ac parts.length len=true) (zF:Au i.size xs=true)
 (PB:b7 (len * i.size) 16777216=true) (hn:ai d n=true) (kk:∀ b:Bk,ae P all rest ⟨n,(d,.sl i.size b 0 len) :: tm,(b,.arr i.size xs) :: hp⟩ Q):ae P all (⟨some d,.buildSlice t len parts.toArray,ty,pos,af,none⟩ :: rest) ⟨n,tm,hp⟩ Q:=by
 refine ae.O1 rfl fun w S a r=>?_
 obtain rfl:parts.length=len:=aw hlen
 have PB:=b8 PB
 obtain ⟨zz,PC⟩:∃ zz:Array Value,zz=if parts.length * i.size=0 then #[] else z.cells:=⟨_,rfl⟩
 obtain ⟨vs,g1,g2,g3,g4⟩:=BX (σ:=⟨n,tm,hp⟩) r i.size parts 0 xs ((Array.range (parts.length * i.size)).map (zz[· % zz.size]!)) hl (oJ zF) (by simp)
 simp only [dk,List.take_zero,List.nil_append] at g1
 have e0:=Ext.alloc w (.cells vs.toArray e)
 have hh:Holds (w.alloc (.cells vs.toArray e)) S ⟨some w.heap.size,parts.length⟩ (.arr i.size xs):=by
  refine ⟨oJ zF,by simp [g3],.inr ⟨w.heap.size,vs.toArray,e,rfl,?_,by simp [g2,g3],g4.mono fun m hm=>⟨hm,e0.same m (r.hp.slt m hm)⟩⟩⟩
  show (w.heap.push _)[w.heap.size]? =_
  simp
 obtain ⟨k1,k2,k3⟩:=qL r.hp e0 id hh (.inr ⟨_,rfl,ag _⟩)
 refine ⟨.slice (some ⟨w.heap.size,0,none⟩) parts.length parts.length,w.alloc (.cells vs.toArray e),S,_,?_,(r.heap k3 k1).put hn ?_,k2,kk ⟨some w.heap.size,parts.length⟩⟩
 ·have hm:((parts.toArray.map fun p=>(p.1,a.eval p.2))).toList=parts.map fun p=>(p.1,a.eval p.2):=by simp
  simp only [execOp,Instr.buildSlice,Sem.run_bind,run_underlying (aF.h (P:=P) (t:=t)),Result.andThen_ok,sizeOf,typeInfo,run_program,aZ.h (P:=P) (t:=e),Sem.run_pure]
  rw [if_neg (by omega)]
  by_cases h0:parts.length * i.size=0
  ·rw [if_pos h0] at PC ⊢
   subst PC
   simp only [Sem.run_bind,Result.andThen_ok,Sem.run_pure,hm,g1,mZ]
  ·rw [if_neg h0] at PC ⊢
   subst PC
   simp only [Sem.run_bind,Result.andThen_ok,Sem.run_pure,zeroValue,typeInfo,run_program,aZ.h (P:=P) (t:=e),hz,hm,g1,mZ]
 ·have:=At.sl (w:=w.alloc (.cells vs.toArray e)) (S:=S) i.size ⟨some w.heap.size,parts.length⟩ 0 parts.length w.heap.size parts.length rfl (ag _) (by simp)
  simpa using this
def PE (w:World) (S:Nat→Prop) (sz:Nat) (ys:List AV) (v:Value):Prop:=
 (∀ y∈ys,El sz y)∧∃ (a:Option Addr) (c:Nat) (r6:List Value),v=.slice a ys.length c∧r6.length=ys.length * sz∧pY w S (flat ys) r6.toArray∧∀ (i:Nat) u,r6[i]? =some u→∃ ad,a=some ad∧w.cell? (ad.add i)=some u
inductive Src (hp:Heap) (sz:Nat):AV→List AV→Prop
 | nil:Src hp sz .nil []
 | list (ys:List AV):Src hp sz (.list sz ys) ys
 | whole (b:Bk) (len:Nat) (xs:List AV) (f:mb hp b (.arr sz xs)∨mb hp b (.yD sz xs)) (h:len=xs.length):Src hp sz (.sl sz b 0 len) xs
 | part (b:Bk) (off len:Nat) (xs:List AV) (f:mb hp b (.arr sz xs)∨mb hp b (.yD sz xs)) (h:off+len≤xs.length):Src hp sz (.sl sz b off len) ((xs.drop off).take len)
theorem zL {sz:Nat}:∀ (xs:List AV) (k:Nat),(∀ x∈xs,El sz x)→flat (xs.drop k)=(flat xs).drop (k * sz)
 | xs,0,_=>by simp
 | [],k+1,_=>by simp [flat]
 | x :: xs,k+1,h=>by
   rw [List.drop_succ_cons,zL xs k (fun y hy=>h y (by simp [hy])),jG,al,bG,dl (k * sz),← List.drop_drop]
   rw [List.drop_left' ((h x (by simp)).1)]
theorem zM {sz:Nat}:∀ (xs:List AV) (k:Nat),(∀ x∈xs,El sz x)→flat (xs.take k)=(flat xs).take (k * sz)
 | xs,0,_=>by simp [flat]
 | [],k+1,_=>by simp [flat]
 | x :: xs,k+1,h=>by
   rw [List.take_succ_cons,jG,zM xs k (fun y hy=>h y (by simp [hy])),jG,al,bG,dl (k * sz)]
   have hx:=(h x (by simp)).1
   rw [List.take_append,dg (l:=x.cells) (by omega),hx,Nat.add_sub_cancel_left]
theorem DS {w:World} {S:Nat→Prop} {hp:Heap} (r:cY w S hp) {b:Bk} {sz off len:Nat} {xs:List AV} {v:Value} (f:mb hp b (.arr sz xs)∨mb hp b (.yD sz xs)) (hle:off+len≤xs.length) (h:At w S (.sl sz b off len) v):
 PE w S sz ((xs.drop off).take len) v:=by
 obtain ⟨g0,g1,g2⟩:=sH r f
 have og:∀ y∈(xs.drop off).take len,El sz y:=fun y hy=>g0 y (ce (cy hy))
 have hlen:((xs.drop off).take len).length=len:=by simp;omega
 obtain ⟨oa,cap,e1,e2⟩:=h.x4
 refine ⟨og,?_⟩
 rw [hlen,e1]
 rcases e2 with ⟨_,_,hl,ha,hc⟩ | ⟨m,hb,ha,h1,h2⟩ | ⟨m,ad,hb,ha,hl,hc⟩
 ·subst hl
  exact ⟨oa,cap,[],rfl,by simp,fun i c v hc hv=>by simp at hv,fun i u hu=>by simp at hu⟩
 ·rcases g2 with ⟨g2,_⟩ | ⟨m',vs,E,g2,g3,g4,g5⟩
  ·rw [g2] at hb;cases hb
  ·obtain rfl:m'=m:=by rw [g2] at hb;exact aa hb
   subst ha
   have Bv:(off+len) * sz≤b.cap * sz:=bz _ (by omega)
   rw [al] at Bv
   refine ⟨_,cap,(vs.toList.drop (off * sz)).take (len * sz),rfl,by simp;omega,?_,?_⟩
   ·rw [zM _ _ (fun y hy=>g0 y (ce hy)),zL _ _ g0]
    intro i c v hc hv
    simp only [bv,aL,be] at hc hv
    split at hv
    ·rename_i ew
     rw [if_pos ew] at hc
     exact g5 _ c v hc (by simpa using hv)
    ·cases hv
   ·intro i u hu
    refine ⟨_,rfl,?_⟩
    rw [mN,mR g3]
    simp only [aL,be] at hu
    split at hu
    ·simpa using hu
    ·cases hu
 ·subst hl
  exact ⟨oa,cap,[],rfl,by simp,fun i c v hc hv=>by simp at hv,fun i u hu=>by simp at hu⟩
theorem Src.at {w:World} {S:Nat→Prop} {hp:Heap} {sz:Nat} {av:AV} {ys:List AV} {v:Value} (s:Src hp sz av ys) (r:cY w S hp) (h:At w S av v):PE w S sz ys v:=by
 cases s with
 | nil=>exact ⟨by simp,none,0,[],h.EP,by simp,fun i c v hc hv=>by simp at hv,fun i u hu=>by simp at hu⟩
 | list ys=>
   obtain ⟨a,cap,vs,e1,e2,e3,e4,e5,e6⟩:=h.wb
   refine ⟨e2,a,cap,vs,e1,by rw [← e3,dP e2],fun i c v hc hv=>e4 i c v hc (by simpa using hv),fun i u hu=>?_⟩
   obtain ⟨ad,h1,h2,h3,h4⟩:=e5 i u hu
   refine ⟨ad,h1,?_⟩
   obtain ⟨bk,of,sp⟩:=ad
   simp only at h2;subst h2
   rw [mN];exact h4
 | whole b len xs f hl=>
   subst hl
   have:=DS r (off:=0) (len:=ys.length) f (by omega) h
   simpa using this
 | part b off len xs f hle=>exact DS r f hle h
theorem Bc {P:Program} {t e:TypeId} {i:TypeInfo} (ht:P.underlying t=some (.slice e)) (hi:P.info? e=some i) (ob a:Option Addr) (BY Ir c:Nat) (h:BY≤Ir) (w:World):
 (Builtin.append_ #[t,t] ty #[.slice ob BY Ir,.slice a 0 c]).run P w=.ok (.slice ob BY Ir) w:=by
 cases a<;>cases ob<;>simp [Builtin.append_,run_underlying ht,sizeOf,typeInfo,hi,Builtin.lenOf,h,Builtin.firstCells,loadCells,loadCellsFrom,storeCells]
theorem Dm {P:Program} {t e E:TypeId} {i:TypeInfo} {w:World} (ht:P.underlying t=some (.slice e)) (hi:P.info? e=some i) (g BY Ir:Nat) (cur:Array Value) (hg:w.heap[g]? =some (.cells cur E (0,0)))
 (a:Addr) (m c:Nat) (news:List Value) (hl:news.length=m * i.size) (Vl:∀ (j:Nat) u,news[j]? =some u→w.cell? (a.add j)=some u) (h1:∀ u∈news,u.oneCell'=true)
 (xK:BY+m≤Ir) (SC:BY * i.size+news.length≤cur.size):
 (Builtin.append_ #[t,t] ty #[.slice (some ⟨g,0,none⟩) BY Ir,.slice (some a) m c]).run P w=
  .ok (.slice (some ⟨g,0,none⟩) (BY+m) Ir) (w.setRow g (cur.toList.take (BY * i.size)++news++cur.toList.drop (BY * i.size+news.length)).toArray):=by
 have hf:=run_firstCells_some (P:=P) w i.size m a m c news hl Vl
 have Dl:=run_storeCells_at P g (BY * i.size) E news 0 cur w hg (by simpa using SC) h1
 simp only [b9] at Dl
 simp [Builtin.append_,run_underlying ht,sizeOf,typeInfo,hi,Builtin.lenOf,xK,hf,Addr.add_lit,Dl]
theorem BZ {w:World} {S:Nat→Prop} {hp:Heap} {t e:TypeId} {i:TypeInfo} {z:Value} {b:Bk} {xs ys:List AV} {v1 v2:Value} (r:cY w S hp) (ht:P.underlying t=some (.slice e)) (hi:P.info? e=some i) (hz:i.zero=some z) (Is:z.cells.size=i.size) (h0:0 < i.size)
 (f:mb hp b (.arr i.size xs)) (Xj:At w S (.sl i.size b 0 xs.length) v1) (hs:PE w S i.size ys v2) (hb:(xs.length+ys.length) * i.bytes≤140737488355328) (Xk:xs.length+ys.length≤9223372036854775807):
 ∃ v' w' b',(Builtin.append_ #[t,t] ty #[v1,v2]).run P w=.ok v' w'∧At w' S (.sl i.size b' 0 (xs.length+ys.length)) v'∧GB w w' b.dp∧Holds w' S b' (.arr i.size (xs++ys))∧
   (b'.dp=b.dp∨b'.dp=none∨∃ m,b'.dp=some m∧w.heap.size≤m):=by
 obtain ⟨k0,a,c,r6,rfl,k1,k2,k3⟩:=hs
 have hold:=r.holds _ f.mem
 obtain ⟨g0,g1,g2⟩:=sH r (.inl f)
 obtain ⟨oa,cap,rfl,e2⟩:=Xj.x4
 by_cases hy:ys=[]
 ·subst hy
  have hle:xs.length≤cap:=by
   rcases e2 with ⟨_,_,hl,_,_⟩ | ⟨m,Ar,ha,h1,h2⟩ | ⟨m,ad,Ar,ha,hl,hc⟩<;>omega
  refine ⟨_,w,b,Bc ht hi oa a xs.length cap c hle w,by simpa using Xj,⟨⟨rfl,rfl,rfl,ag _,fun _ _ _=>rfl⟩,fun _=>ag _⟩,by simpa using hold,.inl rfl⟩
 ·have hm:0 < ys.length:=List.length_pos_iff.2 hy
  have O2:0 < r6.length:=by rw [k1];exact Nat.mul_pos hm h0
  obtain ⟨ad,rfl,_⟩:=k3 0 r6[0] (by simp [O2])
  have Xl:∀ (j:Nat) u,r6[j]? =some u→w.cell? (ad.add j)=some u:=fun j u hu=>by
   obtain ⟨Yl,h1,h2⟩:=k3 j u hu
   obtain rfl:=aa h1
   exact h2
  have vJ:∀ u∈r6,u.oneCell'=true:=BU (cs:=flat ys) (vs:=r6.toArray) (by simp [k1,dP k0]) k2 (Md k0)
  have r7:∀ x∈xs++ys,El i.size x:=fun x hx=>by rcases a7.1 hx with h | h;exact g0 x h;exact k0 x h
  have grown:∀ (old:Nat) (Bd:List Value) (wr:Option Nat),Bd.length=xs.length * i.size→pY w S (flat xs) Bd.toArray→
   At (w.drew.alloc (.cells (Bd.toArray++r6.toArray++Builtin.zeroCells z.cells (grownCap w (xs.length+ys.length) old e - (xs.length+ys.length))) e)) S (.sl i.size ⟨some w.heap.size,grownCap w (xs.length+ys.length) old e⟩ 0 (xs.length+ys.length))
    (.slice (some ⟨w.heap.size,0,none⟩) (xs.length+ys.length) (grownCap w (xs.length+ys.length) old e))∧
   GB w (w.drew.alloc (.cells (Bd.toArray++r6.toArray++Builtin.zeroCells z.cells (grownCap w (xs.length+ys.length) old e - (xs.length+ys.length))) e)) wr∧
   Holds (w.drew.alloc (.cells (Bd.toArray++r6.toArray++Builtin.zeroCells z.cells (grownCap w (xs.length+ys.length) old e - (xs.length+ys.length))) e)) S ⟨some w.heap.size,grownCap w (xs.length+ys.length) old e⟩ (.arr i.size (xs++ys)):=by
   intro old Bd wr Yn ho2
   have SD:=grownCap_ge w (xs.length+ys.length) old e
   have ex:Ext w (w.drew.alloc (.cells (Bd.toArray++r6.toArray++Builtin.zeroCells z.cells (grownCap w (xs.length+ys.length) old e - (xs.length+ys.length))) e)):=(Ext.Me w _ (Nat.le_succ _)).trans (Ext.alloc w.drew _)
   generalize grownCap w (xs.length+ys.length) old e=cp at *
   refine ⟨?_,⟨⟨ex.os,ex.tape,ex.output,ex.size,fun k hk _=>ex.same k hk⟩,ex.drawn⟩,r7,by simpa using SD,.inr ⟨w.heap.size,Bd.toArray++r6.toArray++Builtin.zeroCells z.cells (cp - (xs.length+ys.length)),e,rfl,?_,?_,?_⟩⟩
   ·have:=At.sl (w:=w.drew.alloc (.cells (Bd.toArray++r6.toArray++Builtin.zeroCells z.cells (cp - (xs.length+ys.length))) e)) (S:=S) i.size ⟨some w.heap.size,cp⟩ 0 (xs.length+ys.length) w.heap.size cp rfl SD (by simp)
    simpa using this
   ·show (w.heap.push _)[w.heap.size]? =_
    simp
   ·simp only [Array.size_append,List.size_toArray,size_zeroCells,Is,Yn,k1]
    rw [← al,← al]
    congr 1
    omega
   ·rw [Ap]
    have h2:pY w S (flat xs++flat ys) (Bd++r6).toArray:=yG (by rw [dP g0,Yn]) ho2 k2
    intro j c' u hc hu
    have hj:j < (Bd++r6).length:=by
     have:=(ap.1 hc).1
     simp only [b4,dP g0,dP k0] at this
     simp only [b4,Yn,k1]
     exact this
    have hu':(Bd++r6).toArray[j]? =some u:=by
     rw [Array.getElem?_append_left (by simpa using hj)] at hu
     simpa using hu
    exact (h2 j c' u hc hu').mono fun m hm'=>⟨hm',ex.same m (r.slt m hm')⟩
  rcases e2 with ⟨hbn,_,hl,rfl,rfl⟩ | ⟨m,PF,rfl,h1,h2⟩ | ⟨m,Yl,PF,rfl,hl,rfl⟩
  ·have hx:xs=[]:=dn hl
   subst hx
   have hr:=run_append_nil (P:=P) (ty:=ty) w t e i z ht hi hz ad ys.length c r6 k1 Xl hm (by simp at Xk;omega) (by simp only [cf,ca] at hb;omega)
   obtain ⟨q1,q2,q3⟩:=grown 0 [] b.dp (by simp) (fun j c' u hc=>by simp [flat] at hc)
   simp only [cf,ca,Array.empty_append] at q1 q2 q3 ⊢
   exact ⟨_,_,_,hr,q1,q2,q3,.inr (.inr ⟨_,rfl,ag _⟩)⟩
  ·rcases g2 with ⟨g2,_⟩ | ⟨m',vs,E,g2,g3,g4,g5⟩
   ·rw [g2] at PF;cases PF
   ·obtain rfl:m'=m:=by rw [g2] at PF;exact aa PF
    simp only [dk,ca] at *
    by_cases xK:xs.length+ys.length≤cap
    ·have hmul:(xs.length+ys.length) * i.size≤b.cap * i.size:=bz _ (by omega)
     have SC:xs.length * i.size+r6.length≤vs.size:=by rw [k1,← al,g4];exact hmul
     have hr:=Dm (P:=P) (ty:=ty) ht hi m' xs.length cap vs g3 ad ys.length c r6 k1 Xl vJ xK SC
     have nS:¬ S m':=fun hs=>(r.sep _ f.mem m' (gO PF)).1 hs
     have ex:∀ k,S k→S k∧(w.setRow m' (vs.toList.take (xs.length * i.size)++r6++vs.toList.drop (xs.length * i.size+r6.length)).toArray).heap[k]? =w.heap[k]?:=fun k hk=>⟨hk,setRow_other w m' k _ (fun e=>nS (e▸hk))⟩
     refine ⟨_,_,b,hr,?_,⟨⟨rfl,rfl,rfl,by simp,fun k _ hk=>setRow_other w m' k _ (fun e=>hk (by rw [PF,e]))⟩,fun _=>ag _⟩,⟨r7,by simp;omega,.inr ⟨m',(vs.toList.take (xs.length * i.size)++r6++vs.toList.drop (xs.length * i.size+r6.length)).toArray,E,PF,setRow_heap w m' vs _ E _ g3,?_,?_⟩⟩,.inl rfl⟩
     ·have:=At.sl (w:=w.setRow m' (vs.toList.take (xs.length * i.size)++r6++vs.toList.drop (xs.length * i.size+r6.length)).toArray) (S:=S) i.size b 0 (xs.length+ys.length) m' cap PF xK (by omega)
      simpa using this
     ·simp;omega
     ·rw [Ap]
      have hA:pY w S (flat xs++flat ys) (vs.toList.take (xs.length * i.size)++r6).toArray:=yG (by simp [dP g0];omega) (fun j c' u hc hu=>by
       simp only [bv,aL] at hu
       split at hu
       ·exact g5 j c' u hc (by simpa using hu)
       ·cases hu) k2
      intro j c' u hc hu
      have hj:j < (vs.toList.take (xs.length * i.size)++r6).length:=by
       have:=(ap.1 hc).1
       simp only [b4,dP g0,dP k0] at this
       simp;omega
      simp only [bv] at hu
      rw [bP hj] at hu
      exact (hA j c' u hc (by simpa using hu)).mono ex
    ·have hr:=run_append_grow (P:=P) (ty:=ty) w t e i z ht hi hz ⟨m',0,none⟩ xs.length cap (vs.toList.take (xs.length * i.size)) (by
      have:=bz i.size g1
      simp;omega) (fun j u hu=>by
       rw [mN,ca,mR g3]
       rw [aL] at hu
       split at hu
       ·simpa using hu
       ·cases hu) ad ys.length c r6 k1 Xl (by omega) (by omega) (growslice_fits (by omega) hb)
     obtain ⟨q1,q2,q3⟩:=grown cap (vs.toList.take (xs.length * i.size)) b.dp (by
      have:=bz i.size g1
      simp;omega) (fun j c' u hc hu=>by
       simp only [bv,aL] at hu
       split at hu
       ·exact g5 j c' u hc (by simpa using hu)
       ·cases hu)
     exact ⟨_,_,_,hr,q1,q2,q3,.inr (.inr ⟨_,rfl,ag _⟩)⟩
  ·have hx:xs=[]:=dn hl
   subst hx
   have hr:=run_append_grow (P:=P) (ty:=ty) w t e i z ht hi hz Yl 0 0 [] (by simp) (fun j u hu=>by simp at hu) ad ys.length c r6 k1 Xl (by omega) (by simp at Xk;omega) (growslice_fits (by omega) (by simpa using hb))
   obtain ⟨q1,q2,q3⟩:=grown 0 [] b.dp (by simp) (fun j c' u hc=>by simp [flat] at hc)
   simp only [cf,ca] at q1 q2 q3 hr ⊢
   exact ⟨_,_,_,hr,q1,q2,q3,.inr (.inr ⟨_,rfl,ag _⟩)⟩
theorem Ml {t e:TypeId} {i:TypeInfo} {z:Value} {x y:Operand} {src:AV} {b:Bk} {len sz:Nat} {xs ys:List AV} {dE:Bk→Heap} [aF P t (.slice e)] [aZ P e i] (hx:dh tm x=some (.sl sz b 0 len)) (hy:dh tm y=some src) (hz:i.zero=some z)
 (Is:ac z.cells.size i.size=true) (lp:ac i.size sz=true) (h0:ai 0 sz=true) (hn:ai d n=true) (hs:Src hp sz src ys) (u:∀ b',nC hp b (.arr sz xs) b' (.arr sz (xs++ys)) (dE b')) (hlen:len=xs.length)
 (hb:(xs.length+ys.length) * i.bytes≤140737488355328) (Xk:xs.length+ys.length≤9223372036854775807)
 (kk:∀ b':Bk,ae P all rest ⟨n,(d,.sl sz b' 0 (len+ys.length)) :: tm,dE b'⟩ Q):ae P all (⟨some d,.call {callee:=.builtin .append,args:=#[x,y],argTypes:=#[t,t]},ty,pos,af,none⟩ :: rest) ⟨n,tm,hp⟩ Q:=by
 refine ae.O1 rfl fun w S a r=>?_
 subst hlen
 obtain rfl:i.size=sz:=aw lp
 obtain ⟨v',w',b',g1,g2,g3,g4,g5⟩:=BZ (P:=P) (ty:=ty) r.hp (aF.h (P:=P) (t:=t)) (aZ.h (P:=P) (t:=e)) hz (aw Is) (by simpa using h0) (u b).sF (bt (σ:=⟨n,tm,hp⟩) r hx) (hs.at r.hp (bt (σ:=⟨n,tm,hp⟩) r hy)) hb Xk
 obtain ⟨k1,k2,k3⟩:=xf r.hp (u b') g3 id id g4 g5
 refine ⟨v',w',S,_,?_,(r.heap k3 k1).put hn g2,k2,kk b'⟩
 simp [execOp,resolve,invoke,builtin,g1]
end rules
def aq (σ:St) (T:St→Prop):Prop:=∀ w S a,ey w S σ a→∃ aS S',T aS∧ey w S' aS a∧lr w S σ.hp w S' aS.hp
theorem aq.here {σ:St} {T:St→Prop} (h:T σ):aq σ T:=fun w S a r=>⟨σ,S,h,r,lr.refl _ _ _⟩
theorem aq.step {σ Df:St} {T:St→Prop} (h:aq σ (· =Df)) (k:aq Df T):aq σ T:=by
 intro w S a r
 obtain ⟨aS,S',rfl,r',e⟩:=h w S a r
 obtain ⟨JH,S2,h2,r2,e2⟩:=k w S' a r'
 exact ⟨JH,S2,h2,r2,e.trans e2⟩
theorem aq.mono {σ:St} {T T':St→Prop} (h:aq σ T) (ht:∀ σ,T σ→T' σ):aq σ T':=fun w S a r=>
 let ⟨aS,S',h1,h2,h3⟩:=h w S a r
 ⟨aS,S',ht _ h1,h2,h3⟩
def DT (tm:List (Nat×AV)):List (Nat×AV)→Prop
 | []=>True
 | (s,av) :: r=>lk tm s=some av∧DT tm r
theorem DT.lk {tm:List (Nat×AV)}:∀ {pZ:List (Nat×AV)},DT tm pZ→∀ s av,Eng.lk pZ s=some av→Eng.lk tm s=some av
 | [],_,s,av,h=>by simp [Eng.lk] at h
 | (k,v) :: r,h,s,av,hh=>by
   simp only [Eng.lk] at hh
   split at hh
   ·rename_i hb
    obtain rfl:k=s:=by simpa using hb
    obtain rfl:=aa hh
    exact h.1
   ·exact DT.lk h.2 s av hh
theorem aq.arr {n s:Nat} {tm:List (Nat×AV)} {hp:Heap} {T:St→Prop} (sz:Nat) (hs:lk tm s=some .nil) (k:∀ b,aq ⟨n,(s,.sl sz b 0 0) :: tm,(b,.arr sz []) :: hp⟩ T):aq ⟨n,tm,hp⟩ T:=by
 refine aq.step (Df:=⟨n,(s,.sl sz ⟨none,0⟩ 0 0) :: tm,(⟨none,0⟩,.arr sz []) :: hp⟩) (fun w S a r=>?_) (k ⟨none,0⟩)
 obtain ⟨g1,g2,g3⟩:=qL (b:=⟨none,0⟩) (o:=.arr sz []) r.hp (Ext.refl w) id ⟨by simp,by simp,.inl ⟨rfl,rfl⟩⟩ (.inl rfl)
 refine ⟨_,S,rfl,⟨r.size,r.defers,fun t av h=>?_,g1⟩,g2⟩
 simp only [lk] at h
 split at h
 ·rename_i hb
  obtain rfl:s=t:=by simpa using hb
  obtain rfl:=aa h
  obtain ⟨v,h1,h2⟩:=r.tm s _ hs
  cases h2
  exact ⟨_,h1,.A7 sz _ rfl⟩
 ·exact r.tm t av h
theorem aq.freeze {n sz:Nat} {tm:List (Nat×AV)} {hp dE:Heap} {T:St→Prop} {b:Bk} {xs:List AV} (u:nC hp b (.arr sz xs) b (.yD sz xs) dE) (k:aq ⟨n,tm,dE⟩ T):aq ⟨n,tm,hp⟩ T:=by
 refine aq.step (Df:=⟨n,tm,dE⟩) (fun w S a r=>?_) k
 have og:=u.sF.mem
 have Io:∀ m,b.dp=some m→m < w.heap.size:=fun m hm=>r.hp.lt ⟨_,og,gO hm⟩
 let S':Nat→Prop:=fun m=>S m∨b.dp=some m
 have mono:∀ m,S m→S' m∧w.heap[m]? =w.heap[m]?:=fun m hm=>⟨.inl hm,rfl⟩
 obtain ⟨p,q,rfl,rfl⟩:=u.split
 have vy:=r.hp.nodup
 have u5:cY w S' (p++(b,.yD sz xs) :: q):=by
  refine ⟨?_,?_,?_,?_,fun g o ho=>⟨.inl (r.hp.ib g o ho).1,(r.hp.ib g o ho).2⟩⟩
  ·simpa [bU,bi,eb,Ob.more] using vy
  ·intro e he
   rcases bN.1 he with rfl | he
   ·exact Holds.mono (o:=.yD sz xs) mono (fun _ _=>rfl) (show Holds w S b (.arr sz xs) from r.hp.holds (b,.arr sz xs) og)
   ·exact (r.hp.holds e (bN.2 (.inr he))).mono mono (fun _ _=>rfl)
  ·intro e he m hm
   rcases bN.1 he with rfl | he
   ·exact ⟨fun _=>trivial,fun _=>.inr ((vZ rfl).1 hm)⟩
   ·rw [← r.hp.sep e (bN.2 (.inr he)) m hm]
    refine ⟨fun hs=>hs.elim id fun hb=>?_,.inl⟩
    exfalso
    rw [bU,bi,a8,a8] at vy
    rcases a7.1 he with h | h
    ·exact vy.2.2 m (a6.2 ⟨e,h,hm⟩) m (b6 _ (gO hb)) rfl
    ·exact vy.2.1.2.2 m (gO hb) m (a6.2 ⟨e,h,hm⟩) rfl
  ·intro m hm
   rcases hm with h | h
   ·exact r.hp.slt m h
   ·exact Io m h
 refine ⟨_,S',rfl,r.heap mono u5,rfl,rfl,rfl,ag _,mono,fun m hm hh=>⟨rfl,fun hs=>hs.elim id fun hb=>(hh ⟨_,og,gO hb⟩).elim⟩,fun m hm=>.inl ?_,fun _=>ag _⟩
 obtain ⟨e,he,hb⟩:=hm
 rcases bN.1 he with rfl | he
 ·exact ⟨_,og,hb⟩
 ·exact ⟨e,bN.2 (.inr he),hb⟩
inductive Co (hp:Heap):AV→AV→Prop
 | refl (a:AV):Co hp a a
 | nil (sz:Nat):Co hp .nil (.list sz [])
 | yD (sz:Nat) (b:Bk) (len:Nat) (xs:List AV) (f:mb hp b (.yD sz xs)) (h:len=xs.length):Co hp (.sl sz b 0 len) (.list sz xs)
 | part (sz:Nat) (b:Bk) (off len:Nat) (xs:List AV) (f:mb hp b (.yD sz xs)) (h:off+len≤xs.length):Co hp (.sl sz b off len) (.list sz ((xs.drop off).take len))
theorem pd {w:World} {S:Nat→Prop} {sz:Nat} {ys:List AV} {v:Value} (h:PE w S sz ys v) (hS:∀ ad len cap,v=.slice (some ad) len cap→0 < len→ad.spot=none∧S ad.block) (hc:∀ ob len cap,v=.slice ob len cap→len≤cap):At w S (.list sz ys) v:=by
 obtain ⟨h0,a,c,r6,rfl,h1,h2,h3⟩:=h
 refine .list sz ys a c r6 h0 (by rw [dP h0,h1]) (fun i c v hc hv=>h2 i c v hc (by simpa using hv)) (fun i v hv=>?_) (hc _ _ _ rfl)
 obtain ⟨ad,rfl,h4⟩:=h3 i v hv
 have ew:i < r6.length:=(ap.1 hv).1
 have Ba:0 < ys.length:=by
  rcases Nat.eq_zero_or_pos ys.length with h | h
  ·rw [h1,h] at ew;simp at ew
  ·exact h
 obtain ⟨g1,g2⟩:=hS ad _ _ rfl Ba
 refine ⟨ad,rfl,g1,g2,?_⟩
 obtain ⟨bk,of,sp⟩:=ad
 simp only at g1;subst g1
 rw [mN] at h4;exact h4
theorem rj {w:World} {S:Nat→Prop} {sz off len:Nat} {b:Bk} {v:Value} (h:At w S (.sl sz b off len) v):(∀ ad l c,v=.slice (some ad) l c→0 < l→ad.spot=none∧b.dp=some ad.block)∧∀ ob l c,v=.slice ob l c→l≤c:=by
 obtain ⟨oa,cap,rfl,e2⟩:=h.x4
 rcases e2 with ⟨_,_,hl,rfl,rfl⟩ | ⟨m,hb,rfl,h1,h2⟩ | ⟨m,ad,hb,rfl,hl,rfl⟩
 ·exact ⟨(fun ad l c h=>by cases h),(fun ob l c h=>by cases h;omega)⟩
 ·exact ⟨(fun ad l c h _=>by cases h;exact ⟨rfl,hb⟩),(fun ob l c h=>by cases h;omega)⟩
 ·exact ⟨(fun ad l c h JK=>by cases h;omega),(fun ob l c h=>by cases h;omega)⟩
theorem Co.at {w:World} {S:Nat→Prop} {hp:Heap} {a a':AV} {v:Value} (c:Co hp a a') (r:cY w S hp) (h:At w S a v):At w S a' v:=by
 cases c with
 | refl=>exact h
 | nil sz=>rw [h.EP];exact .list sz [] none 0 [] (by simp) rfl (fun i c v hc=>by simp [flat] at hc) (fun i v hv=>by simp at hv) (by simp)
 | yD sz b len xs f hl=>
   have hs:=(Src.whole (hp:=hp) (sz:=sz) b len xs (.inr f) hl).at r h
   exact pd hs (fun ad l c hv hp=>let ⟨g1,g2⟩:=(rj h).1 ad l c hv hp;⟨g1,(r.sep _ f.mem _ (gO g2)).2 trivial⟩) (rj h).2
 | part sz b off len xs f hl=>
   have hs:=(Src.part (hp:=hp) (sz:=sz) b off len xs (.inr f) hl).at r h
   exact pd hs (fun ad l c hv hp=>let ⟨g1,g2⟩:=(rj h).1 ad l c hv hp;⟨g1,(r.sep _ f.mem _ (gO g2)).2 trivial⟩) (rj h).2
theorem aq.co {n s:Nat} {tm:List (Nat×AV)} {hp:Heap} {T:St→Prop} {av rf:AV} (hs:lk tm s=some av) (c:Co hp av rf) (k:aq ⟨n,(s,rf) :: tm,hp⟩ T):aq ⟨n,tm,hp⟩ T:=by
 refine aq.step (Df:=⟨n,(s,rf) :: tm,hp⟩) (fun w S a r=>⟨_,S,rfl,⟨r.size,r.defers,fun t av h=>?_,r.hp⟩,lr.refl _ _ _⟩) k
 simp only [lk] at h
 split at h
 ·rename_i hb
  obtain rfl:s=t:=by simpa using hb
  obtain rfl:=aa h
  obtain ⟨v,h1,h2⟩:=r.tm s _ hs
  exact ⟨v,h1,c.at r.hp h2⟩
 ·exact r.tm t av h
section
variable {P:Program} {R:St→Prop} {k:List It} {σ:St}
theorem ab.ghost {c:Code} (h:aq σ (ab P R (.code c :: k))):ab P R (.code c :: k) σ:=by
 intro w S a r
 obtain ⟨aS,S',h1,h2,h3⟩:=h w S a r
 exact ab.go h1 h2 h3
theorem ae.ghost {all:Array Oper} {l:List Oper} {Q:St→Prop} (h:aq σ (fun aS=>ae P all l aS Q)):ae P all l σ Q:=by
 intro w S a r
 obtain ⟨aS,S',h1,h2,h3⟩:=h w S a r
 exact h1.go h2 h3
theorem ab.Vm {body:Code} (I:Nat→St→Prop) (m:Nat) (h0:aq σ (I m)) (hs:∀ m σ,I m σ→ab P R (.code body :: .stop (fun aS=>∃ m',m' < m∧aq aS (I m')) :: k) σ):
 ab P R (.code (.loop body) :: k) σ:=by
 refine ab.loop (fun m σ=>aq σ (I m)) m h0 (fun m σ hI=>?_)
 exact ab.ghost (hI.mono fun aS h=>hs m aS h)
end
class cq (P:Program) (f:FuncId):Prop where
 h:∃ fn,P.funcs[f]? =some fn∧(fn.name=="runtime.NumGoroutine")=false∧fn.body.isNone=false
theorem sj {P:Program} (f:FuncId) [cq P f] (args:Array Value) (w:World):(callFunc f args).run P w=.ok (.enter f args) w:=by
 obtain ⟨fn,h1,h2,h3⟩:=cq.h (P:=P) (f:=f)
 have Mm:¬ (fn.name="runtime.NumGoroutine"):=by simpa using h2
 have Xm:¬ (fn.body=none):=fun h=>by simp [h] at h3
 simp [callFunc,h1,Mm,Xm]
inductive Av (hp:Heap):List AV→List AV→Prop
 | nil:Av hp [] []
 | cons {a a':AV} {l l':List AV} (c:Co hp a a') (k:Av hp l l'):Av hp (a :: l) (a' :: l')
theorem Av.at {w:World} {S:Nat→Prop} {hp:Heap} (r:cY w S hp):∀ {l l':List AV},Av hp l l'→∀ {vs:List Value},l.length=vs.length→pY w S l vs.toArray→l'.length=vs.length∧pY w S l' vs.toArray
 | [],_,.nil,vs,hl,h=>⟨hl,h⟩
 | a :: l,_,.cons (a':=a') (l':=l') c k,vs,hl,h=>by
   match vs,hl with
   | v :: vs,hl=>
     obtain ⟨g1,g2⟩:=Av.at r k (vs:=vs) (by simpa using hl) (fun i c u hc hu=>h (i+1) c u (by simpa using hc) (by simpa using hu))
     refine ⟨by simpa using g1,fun i c u hc hu=>?_⟩
     match i with
     | 0=>
       simp at hc hu
       subst hc
       subst hu
       exact Co.at ‹Co hp a a'› r (h 0 a v (by simp) (by simp))
     | i+1=>exact g2 i c u (by simpa using hc) (by simpa using hu)
section rules
variable {P:Program} {all:Array Oper} {rest:List Oper} {n:Nat} {tm:List (Nat×AV)} {hp:Heap} {Q:St→Prop} {d:Nat} {ty:TypeId} {pos:String} {af:Array Edge}
theorem sO {w:World} {S:Nat→Prop} {σ:St} {a:Act} (r:ey w S σ a) {xs:List Operand} {l:List AV} (h:A8 σ.tm xs=some l):l.length=(xs.map a.eval).length∧pY w S l (xs.map a.eval).toArray:=by
 obtain ⟨h1,h2⟩:=Im r h
 exact ⟨by simp [h1],fun i c v hc hv=>h2 i c v hc (by simpa using hv)⟩
theorem mH {f:FuncId} {args:List Operand} {ts:Array TypeId} {dd:Option Nat} [cq P f] (a:Act) (w:World):
 (execOp a.eval ⟨dd,.call {callee:=.value (.func f),args:=args.toArray,argTypes:=ts},ty,pos,af,none⟩).run P w=.ok (.enter f (args.map a.eval).toArray) w:=by
 simp [execOp,resolve,Act.eval,Deferred.ofValue,invoke,sj]
theorem B0 {f:FuncId} {x:Operand} {args:List Operand} {ts:Array TypeId} {dd:Option Nat} {zI:Array Value} [cq P f] (a:Act) (w:World) (hx:a.eval x=.func (.func f) #[] zI):
 (execOp a.eval ⟨dd,.call {callee:=.value x,args:=args.toArray,argTypes:=ts},ty,pos,af,none⟩).run P w=.ok (.enter f ((args.map a.eval)++zI.toList).toArray) w:=by
 simp [execOp,resolve,hx,Deferred.ofValue,invoke,sj]
theorem Mn {f:FuncId} {args:List Operand} {ts:Array TypeId} {l l':List AV} {h0 hr:Heap} {Qc:AV→Heap→Prop} [cq P f] (hl:A8 tm args=some l) (c:aY P f l' h0 Qc) (co:Av hp l l') (hs:hp.Perm (h0++hr)) (hn:ai d n=true)
 (kk:∀ r h',Qc r h'→ae P all rest ⟨n,(d,r) :: tm,h'++hr⟩ Q):ae P all (⟨some d,.call {callee:=.value (.func f),args:=args.toArray,argTypes:=ts},ty,pos,af,none⟩ :: rest) ⟨n,tm,hp⟩ Q:=by
 refine ae.Gd rfl fun w S a r=>⟨f,_,mH a w,?_⟩
 obtain ⟨g1,g2⟩:=sO (σ:=⟨n,tm,hp⟩) r hl
 obtain ⟨g3,g4⟩:=Av.at r.hp co g1 g2
 have rp:=r.hp.perm hs
 refine (c.frame hr w S _ rp (by simpa using g3) g4).mono ?_
 rintro e w' ⟨v,rr,h',S',rfl,⟨h1,rfl,hq⟩,h3,h4,h5⟩
 have Vn:=h5.lz
 have ev:lr w S hp w' S' (h1++hr):={h5 with
  other:=fun m hm hh=>h5.other m hm (fun ⟨x,hx,hb⟩=>hh ⟨x,hs.mem_iff.2 hx,hb⟩)
  new:=fun m hm=>(h5.new m hm).imp (fun ⟨x,hx,hb⟩=>⟨x,hs.mem_iff.2 hx,hb⟩) id}
 exact ⟨v,S',⟨n,(d,rr) :: tm,h1++hr⟩,rfl,(r.heap Vn h4).put hn h3,ev,kk rr h1 hq⟩
theorem JL {f:FuncId} {args:List Operand} {ts:Array TypeId} {l l':List AV} {Qc:AV→Heap→Prop} [cq P f] (hl:A8 tm args=some l) (c:aY P f l' [] Qc) (co:Av hp l l') (hn:ai d n=true)
 (kk:∀ r h',Qc r h'→ae P all rest ⟨n,(d,r) :: tm,h'++hp⟩ Q):ae P all (⟨some d,.call {callee:=.value (.func f),args:=args.toArray,argTypes:=ts},ty,pos,af,none⟩ :: rest) ⟨n,tm,hp⟩ Q:=
 Mn hl c co (List.Perm.refl _) hn kk
theorem xA.perm {h h':Heap} {b:Bk} {o:Ob} (u:xA h b o h'):h.Perm ([(b,o)]++h'):=by
 obtain ⟨p,q,rfl,rfl⟩:=u.split
 exact List.perm_middle
theorem PG {f:FuncId} {x:Operand} {args:List Operand} {ts:Array TypeId} {zI l l':List AV} {h0 hr:Heap} {Qc:AV→Heap→Prop} [cq P f] (hx:dh tm x=some (.func (.func f) zI)) (hl:A8 tm args=some l) (c:aY P f l' h0 Qc) (co:Av hp (l++zI) l') (hs:hp.Perm (h0++hr)) (hn:ai d n=true)
 (kk:∀ r h',Qc r h'→ae P all rest ⟨n,(d,r) :: tm,h'++hr⟩ Q):ae P all (⟨some d,.call {callee:=.value x,args:=args.toArray,argTypes:=ts},ty,pos,af,none⟩ :: rest) ⟨n,tm,hp⟩ Q:=by
 refine ae.Gd rfl fun w S a r=>?_
 obtain ⟨cv,e1,e2,e3⟩:=(bt (σ:=⟨n,tm,hp⟩) r hx).BT
 refine ⟨f,_,B0 a w e1,?_⟩
 obtain ⟨g1,g2⟩:=sO (σ:=⟨n,tm,hp⟩) r hl
 obtain ⟨g3,g4⟩:=Av.at r.hp co (vs:=args.map a.eval++cv.toList) (by simp [g1,e2]) (yG g1 g2 (by simpa using e3))
 have rp:=r.hp.perm hs
 refine (c.frame hr w S _ rp (by simpa using g3) g4).mono ?_
 rintro e w' ⟨v,rr,h',S',rfl,⟨h1,rfl,hq⟩,h3,h4,h5⟩
 have ev:lr w S hp w' S' (h1++hr):={h5 with
  other:=fun m hm hh=>h5.other m hm (fun ⟨x,hx,hb⟩=>hh ⟨x,hs.mem_iff.2 hx,hb⟩)
  new:=fun m hm=>(h5.new m hm).imp (fun ⟨x,hx,hb⟩=>⟨x,hs.mem_iff.2 hx,hb⟩) id}
 exact ⟨v,S',⟨n,(d,rr) :: tm,h1++hr⟩,rfl,(r.heap h5.lz h4).put hn h3,ev,kk rr h1 hq⟩
def AV.EV:AV→Bool
 | .int _ _ | .bool _ | .str _ | .nil | .raw _=>true
 | _=>false
def Gk:List AV→Bool
 | []=>true
 | c :: r=>c.EV&&Gk r
def AV.SE:AV→Bool
 | .agg cs=>Gk cs
 | v=>v.EV
def PH:List AV→Bool
 | []=>true
 | c :: r=>c.SE&&PH r
def AV.Vo:AV→Bool
 | .agg cs=>Gk cs
 | .ma cs=>PH cs
 | v=>v.EV
theorem wg {w w':World} {S S':Nat→Prop} {av:AV} {v:Value} (h:At w S av v) (hn:av.EV=true):At w' S' av v:=by
 cases h<;>first | (simp [AV.EV] at hn;done) | constructor
theorem wh:∀ {cs:List AV},Gk cs=true→∀ c∈cs,c.EV=true
 | [],_,c,hc=>by simp at hc
 | x :: r,h,c,hc=>by
   simp only [Gk,bW] at h
   rcases bu.1 hc with rfl | hc
   ·exact h.1
   ·exact wh h.2 c hc
theorem Gl:∀ {cs:List AV},PH cs=true→∀ c∈cs,c.SE=true
 | [],_,c,hc=>by simp at hc
 | x :: r,h,c,hc=>by
   simp only [PH,bW] at h
   rcases bu.1 hc with rfl | hc
   ·exact h.1
   ·exact Gl h.2 c hc
theorem PI {w w':World} {S S':Nat→Prop} {av:AV} {v:Value} (h:At w S av v) (hn:av.SE=true):At w' S' av v:=by
 cases av with
 | agg cs=>
   cases h with
   | agg _ vs hl h=>exact .agg cs vs hl fun i c u hc hu=>wg (h i c u hc hu) (wh hn c (bX hc))
 | _=>exact wg h hn
theorem Mo {w w':World} {S S':Nat→Prop} {av:AV} {v:Value} (h:At w S av v) (hn:av.Vo=true):At w' S' av v:=by
 cases h with
 | agg cs vs hl h=>exact .agg cs vs hl fun i c u hc hu=>wg (h i c u hc hu) (wh hn c (bX hc))
 | ma cs vs hl h=>exact .ma cs vs hl fun i c u hc hu=>PI (h i c u hc hu) (Gl hn c (bX hc))
 | int k n=>exact .int k n
 | bool b=>exact .bool b
 | str s=>exact .str s
 | nil=>exact .nil
 | raw v=>exact .raw v
 | _=>simp [AV.Vo,AV.EV] at hn
inductive ku (hp:Heap):AV→AV→Prop
 | co {a a':AV} (c:Co hp a a'):ku hp a a'
 | arr (sz:Nat) (b:Bk) (len:Nat) (xs:List AV) (f:mb hp b (.arr sz xs)) (h:len=xs.length):ku hp (.sl sz b 0 len) (.list sz xs)
 | part (sz:Nat) (b:Bk) (off len:Nat) (xs:List AV) (f:mb hp b (.arr sz xs)) (h:off+len≤xs.length):ku hp (.sl sz b off len) (.list sz ((xs.drop off).take len))
 | box (b:Bk) (cs jP:List AV) (f:mb hp b (.cells cs)) (hl:jP.length=cs.length) (h:∀ (i:Nat) c c',cs[i]? =some c→jP[i]? =some c'→ku hp c c'):ku hp (.ptr b 0) (.cw jP)
 | func (fn:Fn) (cs jP:List AV) (hl:jP.length=cs.length) (h:∀ (i:Nat) c c',cs[i]? =some c→jP[i]? =some c'→ku hp c c'):ku hp (.func fn cs) (.func fn jP)
 | agg (cs jP:List AV) (hl:jP.length=cs.length) (h:∀ (i:Nat) c c',cs[i]? =some c→jP[i]? =some c'→ku hp c c'):ku hp (.agg cs) (.agg jP)
 | JF {a a':AV} (h:∀ (w:World) (S:Nat→Prop) v,cY w S hp→At w S a v→At w (fun m=>S m∨Has hp m) a' v):ku hp a a'
inductive sP (hp:Heap):List AV→List AV→Prop
 | nil:sP hp [] []
 | cons {a a':AV} {l l':List AV} (c:ku hp a a') (k:sP hp l l'):sP hp (a :: l) (a' :: l')
def SB (S:Nat→Prop) (hp:Heap):Nat→Prop:=fun m=>S m∨Has hp m
theorem sP.each {hp:Heap}:∀ {l l':List AV},sP hp l l'→l'.length=l.length∧∀ (i:Nat) c c',l[i]? =some c→l'[i]? =some c'→ku hp c c'
 | [],_,.nil=>⟨rfl,fun i c c' h=>by simp at h⟩
 | _ :: _,_,.cons c k=>by
   obtain ⟨g1,g2⟩:=sP.each k
   refine ⟨by simp [g1],fun i c1 c2 h1 h2=>?_⟩
   match i with
   | 0=>simp at h1 h2;subst h1;subst h2;assumption
   | i+1=>exact g2 i c1 c2 (by simpa using h1) (by simpa using h2)
theorem ku.xB {hp:Heap} (b:Bk) (cs jP:List AV) (f:mb hp b (.cells cs)) (k:sP hp cs jP):ku hp (.ptr b 0) (.cw jP):=.box b cs jP f k.each.1 k.each.2
theorem ku.KS {hp:Heap} {cs jP:List AV} (k:sP hp cs jP):ku hp (.agg cs) (.agg jP):=.agg cs jP k.each.1 k.each.2
theorem ku.Gm {hp:Heap} (fn:Fn) (cs jP:List AV) (k:sP hp cs jP):ku hp (.func fn cs) (.func fn jP):=.func fn cs jP k.each.1 k.each.2
theorem ku.at {w:World} {S:Nat→Prop} {hp:Heap} {a a':AV} {v:Value} (c:ku hp a a') (r:cY w S hp) (h:At w S a v):At w (SB S hp) a' v:=by
 have mono:∀ m,S m→SB S hp m∧w.heap[m]? =w.heap[m]?:=fun m hm=>⟨.inl hm,rfl⟩
 induction c generalizing v with
 | box b cs jP f hl _ ih=>
   cases h with
   | ptr _ _ n hb=>
     obtain ⟨h1,n',vs,E,Ar,hh,hs,ha⟩:=r.holds _ f.mem
     obtain rfl:=aa (hb.symm.trans Ar)
     refine .cw jP ⟨n,0,none⟩ vs.toList (by simp [hl,hs]) (fun i c v hc hv=>?_) rfl (.inr ⟨_,f.mem,gO hb⟩) (fun i v hv=>?_)
     ·have hi:i < cs.length:=by rw [← hl];exact (ap.1 hc).1
      exact ih i cs[i] c (by simp [hi]) hc (ha i _ _ (by simp [hi]) (by simpa using hv))
     ·rw [mR hh];simpa using hv
 | func fn cs jP hl _ ih=>
   cases h with
   | func _ _ vs Sz h2=>
     refine .func fn jP vs (by rw [hl,Sz]) (fun i c v hc hv=>?_)
     have hi:i < cs.length:=by rw [← hl];exact (ap.1 hc).1
     exact ih i cs[i] c (by simp [hi]) hc (h2 i _ _ (by simp [hi]) hv)
 | agg cs jP hl _ ih=>
   cases h with
   | agg _ vs h1 h2=>
     refine .agg jP vs (by rw [hl,h1]) (fun i c v hc hv=>?_)
     have hi:i < cs.length:=by rw [← hl];exact (ap.1 hc).1
     exact ih i cs[i] c (by simp [hi]) hc (h2 i _ _ (by simp [hi]) hv)
 | co c=>exact (c.at r h).mono mono
 | JF q=>exact q w S v r h
 | arr sz b len xs f hl=>
   obtain ⟨h0,a,c,r6,e1,h1,h2,h3⟩:=(Src.whole (hp:=hp) (sz:=sz) b len xs (.inl f) hl).at r h
   exact pd ⟨h0,a,c,r6,e1,h1,h2.mono mono,h3⟩ (fun ad l c hv hp=>let ⟨g1,g2⟩:=(rj h).1 ad l c hv hp;⟨g1,.inr ⟨_,f.mem,gO g2⟩⟩) (rj h).2
 | part sz b off len xs f hl=>
   obtain ⟨h0,a,c,r6,e1,h1,h2,h3⟩:=(Src.part (hp:=hp) (sz:=sz) b off len xs (.inl f) hl).at r h
   exact pd ⟨h0,a,c,r6,e1,h1,h2.mono mono,h3⟩ (fun ad l c hv hp=>let ⟨g1,g2⟩:=(rj h).1 ad l c hv hp;⟨g1,.inr ⟨_,f.mem,gO g2⟩⟩) (rj h).2
theorem sP.at {w:World} {S:Nat→Prop} {hp:Heap} (r:cY w S hp):∀ {l l':List AV},sP hp l l'→∀ {vs:List Value},l.length=vs.length→pY w S l vs.toArray→l'.length=vs.length∧pY w (SB S hp) l' vs.toArray
 | [],_,.nil,vs,hl,h=>⟨hl,fun i c v hc=>by simp at hc⟩
 | a :: l,_,.cons (a':=a') (l':=l') c k,vs,hl,h=>by
   match vs,hl with
   | v :: vs,hl=>
     obtain ⟨g1,g2⟩:=sP.at r k (vs:=vs) (by simpa using hl) (fun i c u hc hu=>h (i+1) c u (by simpa using hc) (by simpa using hu))
     refine ⟨by simpa using g1,fun i c u hc hu=>?_⟩
     match i with
     | 0=>
       simp at hc hu
       subst hc
       subst hu
       exact ku.at ‹ku hp a a'› r (h 0 a v (by simp) (by simp))
     | i+1=>exact g2 i c u (by simpa using hc) (by simpa using hu)
theorem lr.Gn {w w':World} {S S':Nat→Prop} {h':Heap} (e:lr w S [] w' S' h'):Ext w w':=
 ⟨e.os,e.tape,e.output,e.size,fun m hm=>(e.other m hm (fun ⟨x,hx,_⟩=>by simp at hx)).1,e.drawn⟩
theorem uy {w:World} {S:Nat→Prop} (h:∀ n,S n→n < w.heap.size) (hg:∀ g o,ck.U7 g=some o→S g∧o (w.heap[g]?)):cY w S []:=⟨by simp,by simp,by simp,h,hg⟩
theorem PJ {f:FuncId} {args:List Operand} {ts:Array TypeId} {l l':List AV} {Qc:AV→Heap→Prop} [cq P f] (hl:A8 tm args=some l) (c:aY P f l' [] Qc) (co:sP hp l l') (hn:ai d n=true)
 (kk:∀ r h',Qc r h'→r.Vo=true∧ae P all rest ⟨n,(d,r) :: tm,hp⟩ Q):ae P all (⟨some d,.call {callee:=.value (.func f),args:=args.toArray,argTypes:=ts},ty,pos,af,none⟩ :: rest) ⟨n,tm,hp⟩ Q:=by
 refine ae.Gd rfl fun w S a r=>⟨f,_,mH a w,?_⟩
 obtain ⟨g1,g2⟩:=sO (σ:=⟨n,tm,hp⟩) r hl
 obtain ⟨g3,g4⟩:=sP.at r.hp co g1 g2
 refine (c w (SB S hp) _ (uy (fun m hm=>hm.elim (r.hp.slt m) fun h=>r.hp.lt h) (fun g o ho=>⟨.inl (r.hp.ib g o ho).1,(r.hp.ib g o ho).2⟩)) (by simpa using g3) g4).mono ?_
 rintro e w' ⟨v,rr,h',S',rfl,hq,h3,h4,h5⟩
 obtain ⟨k1,k2⟩:=kk rr h' hq
 have ex:=h5.Gn
 exact ⟨v,S,⟨n,(d,rr) :: tm,hp⟩,rfl,(r.ext ex).put hn (Mo h3 k1),lr.ext r.hp.slt ex,k2⟩
def AQ (P:Program) (all:Array Oper) (l:List Oper) (σ:St) (Q:St→Prop):Prop:=
 ∀ w S a,ey w S σ a→wpQuiet P all (Ext w) (fun a'=>∃ pZ,Q ⟨σ.n,pZ,σ.hp⟩∧ey w S ⟨σ.n,pZ,σ.hp⟩ a') l a
end rules
section
variable {P:Program} {R:St→Prop} {k:List It} {σ:St}
theorem ab.SF {c:Operand} {x y:Code} {p:Prop} [Decidable p] (hc:dh σ.tm c=some (.bool (decide p))) (h1:p→ab P R (.code x :: k) σ) (h2:¬ p→ab P R (.code y :: k) σ):ab P R (.code (.cond c x y) :: k) σ:=
 ab.cond hc (fun h=>h1 (of_decide_eq_true h)) (fun h=>h2 (of_decide_eq_false h))
end
theorem ey.lit {w:World} {S:Nat→Prop} {n:Nat} {tm:List (Nat×AV)} {hp:Heap} {a:Act} {s:Nat} {b c:Bool} (r:ey w S ⟨n,tm,hp⟩ a) (hs:lk tm s=some (.bool b)) (hb:b=c):ey w S ⟨n,(s,.bool c) :: tm,hp⟩ a:=by
 subst hb
 refine ⟨r.size,r.defers,fun t av h=>?_,r.hp⟩
 simp only [lk] at h
 split at h
 ·rename_i hb
  obtain rfl:s=t:=by simpa using hb
  obtain rfl:=aa h
  exact r.tm s _ hs
 ·exact r.tm t av h
section rules
variable {P:Program} {all:Array Oper} {rest:List Oper} {n:Nat} {tm:List (Nat×AV)} {hp:Heap} {Q:St→Prop} {d:Nat} {ty:TypeId} {pos:String} {af:Array Edge} {op:Op} {j s:Nat}
theorem ae.lit {l:List Oper} {b c:Bool} (hs:lk tm s=some (.bool b)) (hb:b=c) (k:ae P all l ⟨n,(s,.bool c) :: tm,hp⟩ Q):ae P all l ⟨n,tm,hp⟩ Q:=
 fun w S a r=>k w S a (r.lit hs hb)
theorem ae.guard {want b:Bool} (hj:(all[j]?).bind (·.dst)=some s) (hs:lk tm s=some (.bool b)) (hn:ai d n=true) (h1:b=want→ae P all (⟨some d,op,ty,pos,af,none⟩ :: rest) ⟨n,(s,.bool want) :: tm,hp⟩ Q)
 (h2:b=!want→ae P all rest ⟨n,(d,.raw undef) :: (s,.bool (!want)) :: tm,hp⟩ Q):ae P all (⟨some d,op,ty,pos,af,some (j,want)⟩ :: rest) ⟨n,tm,hp⟩ Q:=by
 by_cases hb:b=want
 ·exact ae.lit hs hb (ae.aD hj (by simp [lk]) rfl (h1 hb))
 ·have Ar:b=!want:=by cases b<;>cases want<;>simp_all
  exact ae.lit hs Ar (ae.az hj (b:=!want) (by simp [lk]) rfl hn (h2 Ar))
theorem ae.dq {p:Prop} [Decidable p] (hj:(all[j]?).bind (·.dst)=some s) (hs:lk tm s=some (.bool (decide p))) (hn:ai d n=true) (h1:p→ae P all (⟨some d,op,ty,pos,af,none⟩ :: rest) ⟨n,(s,.bool true) :: tm,hp⟩ Q)
 (h2:¬ p→ae P all rest ⟨n,(d,.raw undef) :: (s,.bool false) :: tm,hp⟩ Q):ae P all (⟨some d,op,ty,pos,af,some (j,true)⟩ :: rest) ⟨n,tm,hp⟩ Q:=
 ae.guard hj hs hn (fun h=>h1 (of_decide_eq_true h)) (fun h=>h2 (of_decide_eq_false h))
theorem ae.ek {p:Prop} [Decidable p] (hj:(all[j]?).bind (·.dst)=some s) (hs:lk tm s=some (.bool (decide p))) (hn:ai d n=true) (h1:¬ p→ae P all (⟨some d,op,ty,pos,af,none⟩ :: rest) ⟨n,(s,.bool false) :: tm,hp⟩ Q)
 (h2:p→ae P all rest ⟨n,(d,.raw undef) :: (s,.bool true) :: tm,hp⟩ Q):ae P all (⟨some d,op,ty,pos,af,some (j,false)⟩ :: rest) ⟨n,tm,hp⟩ Q:=
 ae.guard hj hs hn (fun h=>h1 (of_decide_eq_false h)) (fun h=>h2 (of_decide_eq_true h))
theorem Bw {xt:TypeId} {x:Operand} {p:Prop} [Decidable p] (hx:dh tm x=some (.bool (decide p))):QV P ⟨some d,.unOp .not xt x,ty,pos,af,none⟩ ⟨n,tm,hp⟩ (.bool (decide (¬ p))):=by
 have h:(!decide p)=decide (¬ p):=by by_cases h:p<;>simp [h]
 rw [← h]
 exact dc hx
end rules
end Go.Eng
