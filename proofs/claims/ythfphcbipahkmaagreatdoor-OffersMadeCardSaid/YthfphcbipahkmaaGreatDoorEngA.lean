/- The engine: abstract values, the symbolic heap, one rule for each operation. No program in sight. -/
import Derived.WalkKit
import Derived.Deep.Quiet
import Derived.Lib.FrozenHead
open Array renaming getElem?_eq_none→c7
open Bool renaming and_eq_true→b5,eq_iff_iff→c8
open List renaming getElem?_eq_some_iff→ap,getElem?_take→aI,mem_flatMap→a6,mem_append→a7,nodup_append→a8,getElem?_drop→be,flatMap_cons→bi,mem_append_right→bo,mem_cons→bt,getElem?_toArray→bv,append_assoc→bw,getElem?_append_left→bY,flatMap_append→b4,mem_of_getElem?→b6,length_append→b8,getElem?_append_right→b9,mem_append_left→cb,mem_of_mem_drop→cn,length_nil→cy,length_cons→cz,append_nil→cP,mem_of_mem_take→cS,Sublist.refl→cW,mem_filterMap→cX,map_cons→da,take_of_length_le→dg,eq_nil_of_length_eq_zero→dn
open Nat renaming beq→ac,le_refl→ag,blt→ai,add_mul→al,eq_of_beq_eq_true→aw,mul_le_mul_right→bx,one_mul→bz,le_trans→b7,ble→ce,le_of_ble_eq_true→cf,add_zero→ci,zero_add→cl,lt_of_lt_of_le→cm,add_assoc→cQ,lt_or_ge→c6,zero_mul→dk,add_comm→dl
open Option renaming some.inj→aa,some.injEq→bp
set_option linter.unusedSectionVars false
namespace Go.Eng
open Go
class bN where
 XA:Nat→Option (Option Obj→Prop)
 dr:Prop
theorem A9 {a b:Option Obj} {p:Option Obj→Prop} (e:a=b) (h:p b):p a:=e▸h
variable [bN]
@[reducible] def pM [G:bN]:bN:=⟨G.XA,True⟩
structure Bk where
 cw:Option Nat
 cap:Nat
inductive AV where
 | int (k:IntKind) (n:Int)
 | bool (b:Bool)
 | str (s:List UInt8)
 | agg (cs:List AV)
 | lE (vs:List AV)
 | list (sz:Nat) (xs:List AV)
 | nil
 | ptr (b:Bk) (o:Nat)
 | sl (sz:Nat) (b:Bk) (off len:Nat)
 | ch (cs:List AV)
 | sQ (sz:Nat) (b:Bk) (i o:Nat)
 | func (fn:Fn) (wx:List AV)
 | bV (b:Bk)
 | raw (v:Value)
 | Mf (φ:World→(Nat→Prop)→Value→Prop)
def AV.cells:AV→List AV
 | .agg cs=>cs
 | x=>[x]
def AV.one:AV→Bool
 | .agg _=>false
 | .lE _=>false
 | .raw v=>v.oneCell'
 | _=>true
def El (sz:Nat) (x:AV):Prop:=x.cells.length=sz∧∀ c∈x.cells,c.one=true
def flat (xs:List AV):List AV:=xs.flatMap AV.cells
inductive At (w:World) (S:Nat→Prop):AV→Value→Prop
 | int (k:IntKind) (n:Int):At w S (.int k n) (.int k n)
 | bool (b:Bool):At w S (.bool b) (.bool b)
 | str (s:List UInt8):At w S (.str s) (.string ⟨s.toArray⟩)
 | agg (cs:List AV) (vs:Array Value) (hl:cs.length=vs.size) (h:∀ (i:Nat) c v,cs[i]? =some c→vs[i]? =some v→At w S c v):At w S (.agg cs) (.agg vs)
 | lE (cs:List AV) (vs:Array Value) (hl:cs.length=vs.size) (h:∀ (i:Nat) c v,cs[i]? =some c→vs[i]? =some v→At w S c v):At w S (.lE cs) (.tuple vs)
 | list (sz:Nat) (xs:List AV) (a:Option Addr) (cap:Nat) (vs:List Value) (iV:∀ x∈xs,El sz x) (hl:(flat xs).length=vs.length)
  (h:∀ (i:Nat) c v,(flat xs)[i]? =some c→vs[i]? =some v→At w S c v)
  (hm:∀ (i:Nat) v,vs[i]? =some v→∃ ad,a=some ad∧ad.spot=none∧S ad.block∧w.cell? ⟨ad.block,ad.off+i,none⟩=some v)
  (hc:xs.length≤cap):At w S (.list sz xs) (.slice a xs.length cap)
 | nil:At w S .nil (.slice none 0 0)
 | ptr (b:Bk) (o n:Nat) (hb:b.cw=some n):At w S (.ptr b o) (.pointer (some ⟨n,o,none⟩))
 | Ba (sz:Nat) (b:Bk) (hb:b.cw=none):At w S (.sl sz b 0 0) (.slice none 0 0)
 | sl (sz:Nat) (b:Bk) (off len n cap:Nat) (hb:b.cw=some n) (h1:len≤cap) (h2:off+cap≤b.cap):At w S (.sl sz b off len) (.slice (some ⟨n,off * sz,none⟩) len cap)
 | Pa (sz:Nat) (b:Bk) (off n:Nat) (ad:Addr) (hb:b.cw=some n):At w S (.sl sz b off 0) (.slice (some ad) 0 0)
 | ch (cs:List AV) (ad:Addr) (vs:List Value) (hl:cs.length=vs.length) (h:∀ (i:Nat) c v,cs[i]? =some c→vs[i]? =some v→At w S c v)
  (hs:ad.spot=none) (hS:S ad.block) (hm:∀ (i:Nat) v,vs[i]? =some v→w.cell? ⟨ad.block,ad.off+i,none⟩=some v):At w S (.ch cs) (.pointer (some ad))
 | sQ (sz:Nat) (b:Bk) (i o n:Nat) (hb:b.cw=some n):At w S (.sQ sz b i o) (.pointer (some ⟨n,i * sz+o,none⟩))
 | func (fn:Fn) (cs:List AV) (vs:Array Value) (hl:cs.length=vs.size) (h:∀ (i:Nat) c v,cs[i]? =some c→vs[i]? =some v→At w S c v):At w S (.func fn cs) (.func fn #[] vs)
 | bV (b:Bk) (n:Nat) (hb:b.cw=some n):At w S (.bV b) (.map (some n))
 | raw (v:Value):At w S (.raw v) v
 | Mf (φ:World→(Nat→Prop)→Value→Prop) (v:Value) (hm:∀ (w w':World) (S S':Nat→Prop) (v:Value),(∀ n,S n→S' n∧w'.heap[n]? =w.heap[n]?)→φ w S v→φ w' S' v) (h1:∀ (w:World) (S:Nat→Prop) (v:Value),φ w S v→v.oneCell'=true) (h:φ w S v):At w S (.Mf φ) v
theorem cell_of_heap {w w':World} {n o:Nat} (h:w'.heap[n]? =w.heap[n]?):w'.cell? ⟨n,o,none⟩=w.cell? ⟨n,o,none⟩:=by
 simp only [World.cell?,h]
theorem At.mono {w w':World} {S S':Nat→Prop} {av:AV} {v:Value} (hs:∀ n,S n→S' n∧w'.heap[n]? =w.heap[n]?) (h:At w S av v):At w' S' av v:=by
 induction h with
 | int k n=>exact .int k n
 | bool b=>exact .bool b
 | str s=>exact .str s
 | agg cs vs hl _ ih=>exact .agg cs vs hl ih
 | lE cs vs hl _ ih=>exact .lE cs vs hl ih
 | list sz xs a cap vs iV hl _ hm hc ih=>
   refine .list sz xs a cap vs iV hl ih (fun i v hv=>?_) hc
   obtain ⟨ad,h1,h2,h3,h4⟩:=hm i v hv
   exact ⟨ad,h1,h2,(hs _ h3).1,by rw [cell_of_heap (hs _ h3).2];exact h4⟩
 | nil=>exact .nil
 | ptr b o n hb=>exact .ptr b o n hb
 | Ba sz b hb=>exact .Ba sz b hb
 | sl sz b off len n cap hb h1 h2=>exact .sl sz b off len n cap hb h1 h2
 | Pa sz b off n ad hb=>exact .Pa sz b off n ad hb
 | ch cs ad vs hl _ Pb hS hm ih=>
   exact .ch cs ad vs hl ih Pb (hs _ hS).1 (fun i v hv=>by rw [cell_of_heap (hs _ hS).2];exact hm i v hv)
 | sQ sz b i o n hb=>exact .sQ sz b i o n hb
 | func fn cs vs hl _ ih=>exact .func fn cs vs hl ih
 | bV b n hb=>exact .bV b n hb
 | raw v=>exact .raw v
 | Mf φ v hm h1 h=>exact .Mf φ v hm h1 (hm _ _ _ _ _ hs h)
structure mA where
 k:AV
 v:AV
 born:Nat
def mA.kv (e:mA):AV×AV:=(e.k,e.v)
inductive PO where
 | cells (cs:List AV)
 | arr (sz:Nat) (xs:List AV)
inductive Ob where
 | cells (cs:List AV)
 | arr (sz:Nat) (xs:List AV)
 | Bb (sz:Nat) (xs:List AV)
 | mp (es:List (AV×AV))
 | Mg (L:List mA) (c:Nat)
 | He (es:List (AV×AV)) (q:Nat) (k:AV)
 | KV (bm:Bk) (c:Nat) (seen:List Nat)
 | ct (es:List (Bk×PO))
 | WV (T E:TypeId) (row:Option Nat) (bs:List UInt8)
 | XB (s:List UInt8) (pos:Nat)
 | XC (xs:List Int)
abbrev Heap:=List (Bk×Ob)
def PO.ob:PO→Ob
 | .cells cs=>.cells cs
 | .arr sz xs=>.arr sz xs
def Ob.more:Ob→List Nat
 | .ct es=>es.filterMap (·.1.cw)
 | .WV _ _ row _=>row.toList
 | _=>[]
def eb (e:Bk×Ob):List Nat:=e.1.cw.toList++e.2.more
theorem fV {b:Bk} {o:Ob} {n:Nat} (h:b.cw=some n):n∈eb (b,o):=by simp [eb,h]
theorem xB {b:Bk} {o:Ob} {n:Nat} (hm:o.more=[]):n∈eb (b,o)↔b.cw=some n:=by simp [eb,hm]
def o8 (w:World) (S:Nat→Prop) (cs:List AV) (vs:Array Value):Prop:=∀ (i:Nat) c v,cs[i]? =some c→vs[i]? =some v→At w S c v
theorem o8.mono {w w':World} {S S':Nat→Prop} {cs:List AV} {vs:Array Value} (hs:∀ n,S n→S' n∧w'.heap[n]? =w.heap[n]?) (h:o8 w S cs vs):o8 w' S' cs vs:=
 fun i c v hc hv=>(h i c v hc hv).mono hs
def u6 (w:World) (S:Nat→Prop) (b:Bk) (L:List mA) (c:Nat):Prop:=
 ∃ n cq,b.cw=some n∧w.heap[n]? =some (.map cq c)∧cq.size=L.length∧(∀ (i:Nat) e m,L[i]? =some e→cq[i]? =some m→m.born=e.born∧At w S e.k m.key∧At w S e.v m.val)∧
   (∀ e∈L,e.born < c)∧(L.map (·.born)).Nodup∧(L.map (·.k)).Nodup
theorem u6.mono {w w':World} {S S':Nat→Prop} {b:Bk} {L:List mA} {c:Nat} (hs:∀ n,S n→S' n∧w'.heap[n]? =w.heap[n]?) (hb:∀ n,b.cw=some n→w'.heap[n]? =w.heap[n]?) (h:u6 w S b L c):u6 w' S' b L c:=by
 obtain ⟨n,cq,g1,g2,g3,g4,g5⟩:=h
 exact ⟨n,cq,g1,by rw [hb n g1];exact g2,g3,fun i e m he hm=>⟨(g4 i e m he hm).1,(g4 i e m he hm).2.1.mono hs,(g4 i e m he hm).2.2.mono hs⟩,g5⟩
def qW (w:World) (S:Nat→Prop) (b:Bk):PO→Prop
 | .cells cs=>(∀ c∈cs,c.one=true)∧∃ n vs E,b.cw=some n∧w.heap[n]? =some (.cells vs E (0,0))∧vs.size=cs.length∧o8 w S cs vs
 | .arr sz xs=>(∀ x∈xs,El sz x)∧xs.length≤b.cap∧
  ((b.cw=none∧b.cap=0)∨∃ n vs E,b.cw=some n∧w.heap[n]? =some (.cells vs E (0,0))∧vs.size=b.cap * sz∧o8 w S (flat xs) vs)
def Holds (w:World) (S:Nat→Prop) (b:Bk):Ob→Prop
 | .cells cs=>(∀ c∈cs,c.one=true)∧∃ n vs E,b.cw=some n∧w.heap[n]? =some (.cells vs E (0,0))∧vs.size=cs.length∧o8 w S cs vs
 | .arr sz xs | .Bb sz xs=>(∀ x∈xs,El sz x)∧xs.length≤b.cap∧
  ((b.cw=none∧b.cap=0)∨∃ n vs E,b.cw=some n∧w.heap[n]? =some (.cells vs E (0,0))∧vs.size=b.cap * sz∧o8 w S (flat xs) vs)
 | .mp es=>∃ L c,(L.map mA.kv).Perm es∧u6 w S b L c
 | .Mg L c=>u6 w S b L c
 | .He es q k=>∃ L c,(L.map mA.kv).Perm es∧u6 w S b L c∧((∃ e∈L,e.k=k∧e.born=q)∨((∀ e∈L,e.k≠k)∧q=c))
 | .KV bm c seen=>∃ n nm,b.cw=some n∧bm.cw=some nm∧w.heap[n]? =some (.mapIter (some nm) c seen.toArray c)
 | .ct es=>b.cw=none∧∀ e∈es,qW w S e.1 e.2
 | .WV T E row bs=>∃ n p v,b.cw=some n∧w.heap[n]? =some (.cells #[p,v] T (0,0))∧(p=.pointer none∨p=.pointer (some ⟨n,0,none⟩))∧w.ownsRowF 0 E 1 v bs.length (Lib.byteCells bs)∧v.ownBlock=row
 | .XB s pos=>∃ n,b.cw=some n∧w.heap[n]? =some (.stringIter ⟨s.toArray⟩ pos)
 | .XC xs=>∃ n vs E,b.cw=some n∧w.heap[n]? =some (.cells vs E (vs.size,vs.size+1))∧vs.size=b.cap∧xs.length≤b.cap∧∀ (i:Nat) z,xs[i]? =some z→vs[i]? =some (.int .u8 z)
theorem qW.ob {w:World} {S:Nat→Prop} {b:Bk} {o:PO}:qW w S b o↔Holds w S b o.ob:=by cases o<;>exact Iff.rfl
theorem tP {α β:Type} {f:α→List β} {l l':List α} (h:l.Sublist l'):(l.flatMap f).Sublist (l'.flatMap f):=by
 induction h with
 | slnil=>exact cW _
 | cons a _ ih=>rw [bi];exact ih.trans (List.sublist_append_right _ _)
 | cons_cons a _ ih=>rw [bi,bi];exact List.Sublist.append (cW _) ih
def Ob.CL:Ob→Prop
 | .Bb _ _=>True
 | _=>False
def Has (h:Heap) (n:Nat):Prop:=∃ e∈h,n∈eb e
structure db (w:World) (S:Nat→Prop) (h:Heap):Prop where
 nodup:(h.flatMap eb).Nodup
 holds:∀ e∈h,Holds w S e.1 e.2
 sep:∀ e∈h,∀ n,n∈eb e→(S n↔e.2.CL)
 slt:∀ n,S n→n < w.heap.size
 gz:∀ g o,bN.XA g=some o→S g∧o (w.heap[g]?)
structure kS (w:World) (S:Nat→Prop) (h:Heap) (w':World) (S':Nat→Prop) (h':Heap):Prop where
 os:w'.os=w.os
 tape:w'.tape=w.tape
 output:w'.output=w.output
 size:w.heap.size≤w'.heap.size
 mB:∀ n,S n→S' n∧w'.heap[n]? =w.heap[n]?
 other:∀ n,n < w.heap.size→¬ Has h n→w'.heap[n]? =w.heap[n]?∧(S' n→S n)
 new:∀ n,Has h' n→Has h n∨w.heap.size≤n
 drawn:bN.dr→w.drawn≤w'.drawn
theorem kS.refl (w:World) (S:Nat→Prop) (h:Heap):kS w S h w S h:=
 ⟨rfl,rfl,rfl,ag _,fun _ hs=>⟨hs,rfl⟩,fun _ _ _=>⟨rfl,id⟩,fun _ hn=>.inl hn,fun _=>ag _⟩
theorem kS.trans {w w1 w2:World} {S S1 S2:Nat→Prop} {h h1 h2:Heap} (a:kS w S h w1 S1 h1) (b:kS w1 S1 h1 w2 S2 h2):kS w S h w2 S2 h2 where
 os:=b.os.trans a.os
 tape:=b.tape.trans a.tape
 output:=b.output.trans a.output
 size:=b7 a.size b.size
 mB n hs:=⟨(b.mB n (a.mB n hs).1).1,(b.mB n (a.mB n hs).1).2.trans (a.mB n hs).2⟩
 other n hn hh:=by
  have DX:¬ Has h1 n:=fun hc=>by
   rcases a.new n hc with h | h
   ·exact hh h
   ·omega
  obtain ⟨e1,s1⟩:=a.other n hn hh
  obtain ⟨e2,s2⟩:=b.other n (cm hn a.size) DX
  exact ⟨e2.trans e1,fun hs=>s1 (s2 hs)⟩
 new n hn:=by
  rcases b.new n hn with h | h
  ·exact a.new n h
  ·exact .inr (b7 a.size h)
 drawn:=fun h=>b7 (a.drawn h) (b.drawn h)
theorem kS.less {w w':World} {S S':Nat→Prop} {h h' h2:Heap} (a:kS w S h w' S' h') (hl:∀ n,Has h2 n→Has h' n):kS w S h w' S' h2:=
 {a with new:=fun n hn=>a.new n (hl n hn)}
theorem qW.mono {w w':World} {S S':Nat→Prop} {b:Bk} {o:PO} (hs:∀ n,S n→S' n∧w'.heap[n]? =w.heap[n]?) (hb:∀ n,b.cw=some n→w'.heap[n]? =w.heap[n]?)
 (h:qW w S b o):qW w' S' b o:=by
 cases o with
 | cells cs=>
   obtain ⟨h0,n,vs,E,h1,h2,h3,h4⟩:=h
   exact ⟨h0,n,vs,E,h1,by rw [hb n h1];exact h2,h3,h4.mono hs⟩
 | arr sz xs=>
   obtain ⟨h1,h2,h3⟩:=h
   refine ⟨h1,h2,h3.imp id ?_⟩
   rintro ⟨n,vs,E,g1,g2,g3,g4⟩
   exact ⟨n,vs,E,g1,by rw [hb n g1];exact g2,g3,g4.mono hs⟩
theorem FH {w w':World} {base:Nat} {e:TypeId} {size:Nat} {v:Value} {n:Nat} {xs:List Value} (h:w.ownsRowF base e size v n xs) (hk:∀ k,v.ownBlock=some k→w'.heap[k]? =w.heap[k]?):w'.ownsRowF base e size v n xs:=by
 refine ⟨h.1,?_⟩
 rcases h.2 with hn | ⟨g,cap,cur,fz,rfl,hb,hgg,rest⟩
 ·exact .inl hn
 ·exact .inr ⟨g,cap,cur,fz,rfl,hb,by rw [hk g rfl];exact hgg,rest⟩
theorem Holds.mono {w w':World} {S S':Nat→Prop} {b:Bk} {o:Ob} (hs:∀ n,S n→S' n∧w'.heap[n]? =w.heap[n]?) (hb:∀ n,n∈eb (b,o)→w'.heap[n]? =w.heap[n]?)
 (h:Holds w S b o):Holds w' S' b o:=by
 have CN:∀ n,b.cw=some n→w'.heap[n]? =w.heap[n]?:=fun n hn=>hb n (fV hn)
 cases o with
 | cells cs=>
   obtain ⟨h0,n,vs,E,h1,h2,h3,h4⟩:=h
   exact ⟨h0,n,vs,E,h1,by rw [CN n h1];exact h2,h3,h4.mono hs⟩
 | arr sz xs=>
   obtain ⟨h1,h2,h3⟩:=h
   refine ⟨h1,h2,h3.imp id ?_⟩
   rintro ⟨n,vs,E,g1,g2,g3,g4⟩
   exact ⟨n,vs,E,g1,by rw [CN n g1];exact g2,g3,g4.mono hs⟩
 | Bb sz xs=>
   obtain ⟨h1,h2,h3⟩:=h
   refine ⟨h1,h2,h3.imp id ?_⟩
   rintro ⟨n,vs,E,g1,g2,g3,g4⟩
   exact ⟨n,vs,E,g1,by rw [CN n g1];exact g2,g3,g4.mono hs⟩
 | mp es=>
   obtain ⟨L,c,hp,h⟩:=h
   exact ⟨L,c,hp,h.mono hs CN⟩
 | Mg L c=>exact u6.mono hs CN h
 | He es q k=>
   obtain ⟨L,c,hp,h,hq⟩:=h
   exact ⟨L,c,hp,h.mono hs CN,hq⟩
 | KV bm c seen=>
   obtain ⟨n,nm,g1,g2,g3⟩:=h
   exact ⟨n,nm,g1,g2,by rw [CN n g1];exact g3⟩
 | XB s pos=>
   obtain ⟨n,g1,g3⟩:=h
   exact ⟨n,g1,by rw [CN n g1];exact g3⟩
 | XC xs=>
   obtain ⟨n,vs,E,g1,g3,g4⟩:=h
   exact ⟨n,vs,E,g1,by rw [CN n g1];exact g3,g4⟩
 | ct es=>
   obtain ⟨h1,h2⟩:=h
   exact ⟨h1,fun e he=>(h2 e he).mono hs (fun n hn=>hb n (by
    unfold eb Ob.more
    exact bo _ (cX.2 ⟨e,he,hn⟩)))⟩
 | WV T E row bs=>
   obtain ⟨n,p,v,g1,g2,g3,g4,g5⟩:=h
   exact ⟨n,p,v,g1,by rw [CN n g1];exact g2,g3,FH g4 (fun k hk=>hb k (by
    rw [g5] at hk
    unfold eb Ob.more
    exact bo _ (by simp [hk]))),g5⟩
theorem x5 {w:World} {n:Nat} {o:Obj} (h:w.heap[n]? =some o):n < w.heap.size:=by
 rcases c6 n w.heap.size with h' | h'
 ·exact h'
 ·simp [c7 h'] at h
theorem qW.lt {w:World} {S:Nat→Prop} {b:Bk} {o:PO} (h:qW w S b o) {n:Nat} (hn:b.cw=some n):n < w.heap.size:=by
 cases o with
 | cells cs=>
   obtain ⟨_,m,vs,E,h1,h2,_⟩:=h
   obtain rfl:m=n:=by rw [h1] at hn;exact aa hn
   exact x5 h2
 | arr sz xs=>
   obtain ⟨_,_,⟨h3,_⟩ | ⟨m,vs,E,h1,h2,_⟩⟩:=h
   ·rw [h3] at hn;cases hn
   ·obtain rfl:m=n:=by rw [h1] at hn;exact aa hn
    exact x5 h2
theorem Holds.lt {w:World} {S:Nat→Prop} {b:Bk} {o:Ob} (h:Holds w S b o) {n:Nat} (hnn:n∈eb (b,o)):n < w.heap.size:=by
 by_cases hb:b.cw=some n
 ·have hn:=hb
  cases o with
  | cells cs=>
    obtain ⟨_,m,vs,E,h1,h2,_⟩:=h
    obtain rfl:m=n:=by rw [h1] at hn;exact aa hn
    exact x5 h2
  | arr sz xs=>
    obtain ⟨_,_,⟨h3,_⟩ | ⟨m,vs,E,h1,h2,_⟩⟩:=h
    ·rw [h3] at hn;cases hn
    ·obtain rfl:m=n:=by rw [h1] at hn;exact aa hn
     exact x5 h2
  | Bb sz xs=>
    obtain ⟨_,_,⟨h3,_⟩ | ⟨m,vs,E,h1,h2,_⟩⟩:=h
    ·rw [h3] at hn;cases hn
    ·obtain rfl:m=n:=by rw [h1] at hn;exact aa hn
     exact x5 h2
  | mp es=>
    obtain ⟨_,_,_,m,cq,h1,h2,_⟩:=h
    obtain rfl:m=n:=by rw [h1] at hn;exact aa hn
    exact x5 h2
  | Mg L c=>
    obtain ⟨m,cq,h1,h2,_⟩:=h
    obtain rfl:m=n:=by rw [h1] at hn;exact aa hn
    exact x5 h2
  | He es q k=>
    obtain ⟨_,_,_,⟨m,cq,h1,h2,_⟩,_⟩:=h
    obtain rfl:m=n:=by rw [h1] at hn;exact aa hn
    exact x5 h2
  | KV bm c seen=>
    obtain ⟨m,nm,h1,_,h2⟩:=h
    obtain rfl:m=n:=by rw [h1] at hn;exact aa hn
    exact x5 h2
  | XB s pos=>
    obtain ⟨m,h1,h2⟩:=h
    obtain rfl:m=n:=by rw [h1] at hn;exact aa hn
    exact x5 h2
  | XC xs=>
    obtain ⟨m,vs,E,h1,h2,_⟩:=h
    obtain rfl:m=n:=by rw [h1] at hn;exact aa hn
    exact x5 h2
  | ct es=>
    obtain ⟨h1,_⟩:=h
    rw [h1] at hn;cases hn
  | WV T E row bs=>
    obtain ⟨m,p,v,h1,h2,_⟩:=h
    obtain rfl:m=n:=by rw [h1] at hn;exact aa hn
    exact x5 h2
 ·have hm:n∈o.more:=by
   unfold eb at hnn
   rcases a7.1 hnn with h | h
   ·exact absurd (by simpa using h) hb
   ·exact h
  cases o with
  | ct es=>
    obtain ⟨e,he,vD⟩:=cX.1 hm
    exact (h.2 e he).lt vD
  | WV T E row bs=>
    obtain ⟨m,p,v,h1,h2,h3,h4,h5⟩:=h
    have hr:row=some n:=by simpa [Ob.more] using hm
    exact (h4.lt n (h5.trans hr)).2
  | cells=>simp [Ob.more] at hm
  | arr=>simp [Ob.more] at hm
  | Bb=>simp [Ob.more] at hm
  | mp=>simp [Ob.more] at hm
  | Mg=>simp [Ob.more] at hm
  | He=>simp [Ob.more] at hm
  | KV=>simp [Ob.more] at hm
  | XB=>simp [Ob.more] at hm
  | XC=>simp [Ob.more] at hm
theorem db.lt {w:World} {S:Nat→Prop} {h:Heap} (r:db w S h) {n:Nat} (hn:Has h n):n < w.heap.size:=by
 obtain ⟨e,he,hb⟩:=hn
 exact (r.holds e he).lt hb
theorem At.KW {w:World} {S:Nat→Prop} {c:AV} {v:Value} (h:At w S c v) (ho:c.one=true):v.oneCell'=true:=by
 cases h<;>first | rfl | (simp [AV.one] at ho;done) | exact ho | (rename_i h1 h;exact h1 _ _ _ h)
theorem kK (x:AV) (xs:List AV):flat (x :: xs)=x.cells++flat xs:=by simp [flat]
theorem rm (xs ys:List AV):flat (xs++ys)=flat xs++flat ys:=by simp [flat]
theorem cN {sz:Nat}:∀ {xs:List AV},(∀ x∈xs,El sz x)→(flat xs).length=xs.length * sz
 | [],_=>by simp [flat]
 | x :: xs,h=>by
   rw [kK,b8,(h x (by simp)).1,cN (fun y hy=>h y (by simp [hy])),cz,al]
   omega
theorem Pc {sz:Nat} {xs:List AV} (h:∀ x∈xs,El sz x):∀ c∈flat xs,c.one=true:=by
 intro c hc
 obtain ⟨x,hx,hcx⟩:=a6.1 hc
 exact (h x hx).2 c hcx
theorem qm {sz:Nat}:∀ {xs:List AV} {i:Nat} {x:AV},(∀ x∈xs,El sz x)→xs[i]? =some x→∀ j,j < sz→(flat xs)[i * sz+j]? =x.cells[j]?
 | [],i,x,_,h,_,_=>by simp at h
 | y :: xs,0,x,hs,h,j,hj=>by
   simp at h;subst h
   rw [kK,bY (by rw [(hs y (by simp)).1];omega)]
   simp
 | y :: xs,i+1,x,hs,h,j,hj=>by
   simp at h
   rw [kK,b9 (by rw [(hs y (by simp)).1,al];omega),(hs y (by simp)).1]
   rw [show (i+1) * sz+j - sz=i * sz+j from by rw [al];omega]
   exact qm (fun z hz=>hs z (by simp [hz])) h j hj
structure Ext (w w':World):Prop where
 os:w'.os=w.os
 tape:w'.tape=w.tape
 output:w'.output=w.output
 size:w.heap.size≤w'.heap.size
 same:∀ n,n < w.heap.size→w'.heap[n]? =w.heap[n]?
 drawn:bN.dr→w.drawn≤w'.drawn
theorem Ext.refl (w:World):Ext w w:=⟨rfl,rfl,rfl,ag _,fun _ _=>rfl,fun _=>ag _⟩
theorem Ext.trans {a b c:World} (h:Ext a b) (k:Ext b c):Ext a c:=
 ⟨k.os.trans h.os,k.tape.trans h.tape,k.output.trans h.output,b7 h.size k.size,fun n hn=>(k.same n (cm hn h.size)).trans (h.same n hn),fun q=>b7 (h.drawn q) (k.drawn q)⟩
theorem Ext.alloc (w:World) (o:Obj):Ext w (w.alloc o):=
 ⟨rfl,rfl,rfl,by simp,fun n hn=>by show (w.heap.push o)[n]? =_;rw [Array.getElem?_push,if_neg (by omega)],fun _=>ag _⟩
theorem Ext.Mh (w:World) (k:Nat) (h:w.drawn≤k):Ext w {w with drawn:=k}:=⟨rfl,rfl,rfl,ag _,fun _ _=>rfl,fun _=>h⟩
theorem db.ext {w w':World} {S:Nat→Prop} {h:Heap} (r:db w S h) (e:Ext w w'):db w' S h where
 nodup:=r.nodup
 holds x hx:=(r.holds x hx).mono (fun n hn=>⟨hn,e.same n (r.slt n hn)⟩) (fun n hn=>e.same n (r.lt ⟨x,hx,hn⟩))
 sep:=r.sep
 slt n hn:=cm (r.slt n hn) e.size
 gz g o ho:=⟨(r.gz g o ho).1,A9 (e.same g (r.slt g (r.gz g o ho).1)) (r.gz g o ho).2⟩
theorem kS.ext {w w':World} {S:Nat→Prop} {h:Heap} (r:∀ n,S n→n < w.heap.size) (e:Ext w w'):kS w S h w' S h:=
 ⟨e.os,e.tape,e.output,e.size,fun n hn=>⟨hn,e.same n (r n hn)⟩,fun n hn _=>⟨e.same n hn,id⟩,fun _ hn=>.inl hn,e.drawn⟩
theorem db.frame {w w':World} {S S':Nat→Prop} {h h1 rest:Heap} (r:db w S (h++rest)) (e:kS w S h w' S' h1) (r1:db w' S' h1):db w' S' (h1++rest):=by
 have iW:∀ x∈rest,∀ n,n∈eb x→n < w.heap.size∧¬ Has h n:=by
  intro x hx n hn
  refine ⟨r.lt ⟨x,bo _ hx,hn⟩,fun ⟨y,hy,hyn⟩=>?_⟩
  have:=r.nodup
  rw [b4,a8] at this
  exact this.2.2 n (a6.2 ⟨y,hy,hyn⟩) n (a6.2 ⟨x,hx,hn⟩) rfl
 refine ⟨?_,?_,?_,r1.slt,r1.gz⟩
 ·have:=r.nodup
  rw [b4,a8] at this ⊢
  refine ⟨r1.nodup,this.2.1,fun n hn m hm hnm=>?_⟩
  subst hnm
  obtain ⟨y,hy,hyn⟩:=a6.1 hn
  obtain ⟨x,hx,XD⟩:=a6.1 hm
  rcases e.new n ⟨y,hy,hyn⟩ with hh | hh
  ·exact (iW x hx n XD).2 hh
  ·have:=(iW x hx n XD).1;omega
 ·intro x hx
  rcases a7.1 hx with hx | hx
  ·exact r1.holds x hx
  ·exact (r.holds x (bo _ hx)).mono e.mB (fun n hn=>(e.other n (iW x hx n hn).1 (iW x hx n hn).2).1)
 ·intro x hx n hn
  rcases a7.1 hx with hx | hx
  ·exact r1.sep x hx n hn
  ·rw [← r.sep x (bo _ hx) n hn]
   exact ⟨(e.other n (iW x hx n hn).1 (iW x hx n hn).2).2,fun hs=>(e.mB n hs).1⟩
theorem kS.frame {w w':World} {S S':Nat→Prop} {h h1:Heap} (rest:Heap) (e:kS w S h w' S' h1):kS w S (h++rest) w' S' (h1++rest) where
 os:=e.os
 tape:=e.tape
 output:=e.output
 size:=e.size
 drawn:=e.drawn
 mB:=e.mB
 other n hn hh:=e.other n hn (fun ⟨x,hx,hb⟩=>hh ⟨x,cb _ hx,hb⟩)
 new n hn:=by
  obtain ⟨x,hx,hb⟩:=hn
  rcases a7.1 hx with hx | hx
  ·rcases e.new n ⟨x,hx,hb⟩ with ⟨y,hy,hyb⟩ | h
   ·exact .inl ⟨y,cb _ hy,hyb⟩
   ·exact .inr h
  ·exact .inl ⟨x,bo _ hx,hb⟩
end Go.Eng
set_option linter.unusedVariables false
namespace Go.Eng
open Go
variable [bN]
theorem DY {a b:Nat} (h:ac a b=false):a≠b:=fun e=>by subst e;simp at h
theorem tx {a b:Nat} (h:a≠b):ac a b=false:=by
 cases hb:ac a b with
 | false=>rfl
 | true=>exact absurd (aw hb) h
def lk:List (Nat×AV)→Nat→Option AV
 | [],_=>none
 | (k,v) :: r,s=>match ac k s with
   | true=>some v
   | false=>lk r s
structure St where
 n:Nat
 tm:List (Nat×AV)
 hp:Heap
structure fh (w:World) (S:Nat→Prop) (σ:St) (a:Act):Prop where
 size:a.tmps.size=σ.n
 defers:a.defers=[]
 tm:∀ s av,lk σ.tm s=some av→∃ v,a.tmps[s]? =some v∧At w S av v
 hp:db w S σ.hp
def Up:Value→AV
 | .int k n=>.int k n
 | .bool b=>.bool b
 | .string s=>.str s.data.toList
 | .slice none 0 0=>.nil
 | v=>.raw v
theorem Hf (w:World) (S:Nat→Prop) (v:Value):At w S (Up v) v:=by
 unfold Up
 split
 ·exact .int _ _
 ·exact .bool _
 ·rename_i s
  have h:=At.str (w:=w) (S:=S) s.data.toList
  simpa using h
 ·exact .nil
 ·exact .raw _
def Mi:List UInt8→Option (List UInt8)
 | []=>some []
 | x :: r=>match Mi r with
   | some l=>some (x :: l)
   | none=>none
theorem II:∀ (l:List UInt8),Mi l=some l
 | []=>rfl
 | x :: r=>by simp [Mi,II r]
def Ve:Value→Option AV
 | .int k n=>some (.int k n)
 | .bool b=>some (.bool b)
 | .string s=>match Mi s.data.toList with
   | some l=>some (.str l)
   | none=>none
 | .slice none 0 0=>some .nil
 | v=>some (.raw v)
theorem Se (v:Value):Ve v=some (Up v):=by
 unfold Ve Up
 split<;>simp [II]
def de (tm:List (Nat×AV)):Operand→Option AV
 | .tmp t=>lk tm t
 | .const v=>Ve v
 | .func f=>some (.func (.func f) [])
 | .global g=>some (.raw (.pointer (some ⟨g,0,none⟩)))
theorem bj {w:World} {S:Nat→Prop} {σ:St} {a:Act} {x:Operand} {av:AV} (r:fh w S σ a) (h:de σ.tm x=some av):At w S av (a.eval x):=by
 cases x with
 | tmp t=>
   obtain ⟨v,h1,h2⟩:=r.tm t av h
   simp [Act.eval,h1,h2]
 | const v=>simp only [de,Se,bp] at h;subst h;exact Hf _ _ _
 | global g=>simp only [de,bp] at h;subst h;exact .raw _
 | func f=>simp only [de,bp] at h;subst h;exact .func _ _ _ rfl (fun i c v hc=>by simp at hc)
theorem fh.put {w:World} {S:Nat→Prop} {n:Nat} {tm:List (Nat×AV)} {hp:Heap} {a:Act} {d:Nat} {av:AV} {v:Value} (r:fh w S ⟨n,tm,hp⟩ a) (hd:ai d n=true) (hv:At w S av v):
 fh w S ⟨n,(d,av) :: tm,hp⟩ (a.put (some d) v) where
 size:=by simp [Act.put,r.size]
 defers:=r.defers
 hp:=r.hp
 tm s gx h:=by
  have Uq:d < a.tmps.size:=by rw [r.size];simpa using hd
  simp only [lk] at h
  split at h
  ·rename_i hb
   obtain rfl:d=s:=by simpa using hb
   obtain rfl:=aa h
   exact ⟨v,by simp [Act.put,Uq],hv⟩
  ·rename_i hb
   have A2:d≠s:=DY hb
   obtain ⟨u,h1,h2⟩:=r.tm s gx h
   exact ⟨u,by simp [Act.put,A2,h1],h2⟩
theorem fh.ext {w w':World} {S:Nat→Prop} {σ:St} {a:Act} (r:fh w S σ a) (e:Ext w w'):fh w' S σ a where
 size:=r.size
 defers:=r.defers
 hp:=r.hp.ext e
 tm s av h:=let ⟨v,h1,h2⟩:=r.tm s av h;⟨v,h1,h2.mono fun n hn=>⟨hn,e.same n (r.hp.slt n hn)⟩⟩
theorem fh.heap {w w':World} {S S':Nat→Prop} {n:Nat} {tm:List (Nat×AV)} {hp cL:Heap} {a:Act} (r:fh w S ⟨n,tm,hp⟩ a) (hs:∀ n,S n→S' n∧w'.heap[n]? =w.heap[n]?) (h:db w' S' cL):
 fh w' S' ⟨n,tm,cL⟩ a where
 size:=r.size
 defers:=r.defers
 hp:=h
 tm s av h:=let ⟨v,h1,h2⟩:=r.tm s av h;⟨v,h1,h2.mono hs⟩
def Zt (w:World) (S:Nat→Prop) (h:Heap) (Q:St→Prop) (a':Act) (w':World):Prop:=
 ∃ aK S',Q aK∧fh w' S' aK a'∧kS w S h w' S' aK.hp
def Vf (w:World) (S:Nat→Prop) (h:Heap) (Q:Exit→St→Prop) (e:Exit) (a':Act) (w':World):Prop:=
 ∃ aK S',Q e aK∧fh w' S' aK a'∧kS w S h w' S' aK.hp
def Au (K:Act→World→Prop):Exit→Act→World→Prop:=fun e a w=>e=.normal∧K a w
def ae (P:Program) (all:Array Oper) (l:List Oper) (σ:St) (Q:St→Prop):Prop:=
 ∀ w S a,fh w S σ a→wpList P all (Au (Zt w S σ.hp Q)) l a w
theorem Oper.Nw {P:Program} {o:Oper} {a:Act} {K K':Act→World→Prop} {Q Q':Exit→Act→World→Prop} (hK:∀ a w,K a w→K' a w) (hQ:∀ e a w,Q e a w→Q' e a w):
 ∀ r,o.upon P a K Q r→o.upon P a K' Q' r:=by
 intro r h
 unfold Oper.upon at *
 split at h
 ·exact hK _ _ h
 ·exact hK _ _ h
 ·exact hK _ _ h
 ·refine Calls.mono h ?_
  intro e w' he
  cases e with
  | returned v=>exact hK _ _ he
  | panicked c=>exact hQ _ _ _ he
  | outgrown=>obtain ⟨a0,w0,h0⟩:=he;exact ⟨a0,w0,hQ _ _ _ h0⟩
 ·exact Rows.mono h fun v w' hv=>hK _ _ hv
 ·exact hQ _ _ _ h
 ·exact h.elim
theorem jz {P:Program} {all:Array Oper} {Q Q':Exit→Act→World→Prop} (hQ:∀ e a w,Q e a w→Q' e a w):∀ (l:List Oper) (a:Act) (w:World),wpList P all Q l a w→wpList P all Q' l a w
 | [],_,_,h=>hQ _ _ _ h
 | o :: rest,a,w,h=>by
   unfold wpList at *
   split
   ·rename_i hw
    rw [if_pos hw] at h
    rcases h with h | ⟨h1,a0,w0,h0⟩
    ·exact .inl (Oper.Nw (fun a w hh=>jz hQ rest a w hh) hQ _ h)
    ·exact .inr ⟨h1,a0,w0,hQ _ _ _ h0⟩
   ·rename_i hw
    rw [if_neg hw] at h
    exact jz hQ rest _ _ h
theorem ae.nil {P:Program} {all:Array Oper} {σ:St} {Q:St→Prop} (h:Q σ):ae P all [] σ Q:=
 fun w S _ r=>⟨rfl,σ,S,h,r,kS.refl _ _ _⟩
theorem ae.go {P:Program} {all:Array Oper} {rest:List Oper} {σ:St} {Q:St→Prop} (k:ae P all rest σ Q) {w w':World} {S S':Nat→Prop} {h:Heap} {a':Act}
 (r:fh w' S' σ a') (e:kS w S h w' S' σ.hp):wpList P all (Au (Zt w S h Q)) rest a' w':=
 jz (fun _ _ _ ⟨h1,aK,XE,h2,h3,h4⟩=>⟨h1,aK,XE,h2,h3,e.trans h4⟩) _ _ _ (k w' S' a' r)
theorem ae.IJ {P:Program} {all:Array Oper} {o:Oper} {rest:List Oper} {σ:St} {Q:St→Prop} (hg:o.guard=none)
 (h:∀ w S a,fh w S σ a→∃ v w' S' aK,(execOp a.eval o).run P w=.ok (.value v) w'∧fh w' S' aK (a.put o.dst v)∧kS w S σ.hp w' S' aK.hp∧ae P all rest aK Q):
 ae P all (o :: rest) σ Q:=by
 intro w S a r
 obtain ⟨v,w',S',aK,h1,h2,h3,k⟩:=h w S a r
 unfold wpList
 rw [if_pos (by simp [Region.wanted,hg])]
 refine .inl ?_
 show o.upon P a _ _ _
 rw [h1]
 exact k.go h2 h3
theorem ae.op {P:Program} {all:Array Oper} {o:Oper} {rest:List Oper} {σ aK:St} {Q:St→Prop} (hg:o.guard=none)
 (h:∀ w S a,fh w S σ a→∃ v w' S',(execOp a.eval o).run P w=.ok (.value v) w'∧fh w' S' aK (a.put o.dst v)∧kS w S σ.hp w' S' aK.hp)
 (k:ae P all rest aK Q):ae P all (o :: rest) σ Q:=
 ae.IJ hg fun w S a r=>let ⟨v,w',S',h1,h2,h3⟩:=h w S a r;⟨v,w',S',aK,h1,h2,h3,k⟩
theorem ae.IK {P:Program} {all:Array Oper} {o:Oper} {rest:List Oper} {σ:St} {Q:St→Prop} (hg:o.guard=none)
 (h:∀ w S a,fh w S σ a→∃ f args,(execOp a.eval o).run P w=.ok (.enter f args) w∧
  Calls P f args w fun e w'=>∃ v S' aK,e=.returned v∧fh w' S' aK (a.put o.dst v)∧kS w S σ.hp w' S' aK.hp∧ae P all rest aK Q):
 ae P all (o :: rest) σ Q:=by
 intro w S a r
 obtain ⟨f,args,h1,h2⟩:=h w S a r
 unfold wpList
 rw [if_pos (by simp [Region.wanted,hg])]
 refine .inl ?_
 show o.upon P a _ _ _
 rw [h1]
 refine Calls.mono h2 ?_
 rintro e w' ⟨v,S',aK,rfl,g1,g2,k⟩
 exact k.go g1 g2
theorem ae.act {P:Program} {all:Array Oper} {o:Oper} {rest:List Oper} {σ aK:St} {Q:St→Prop} (hg:o.guard=none) (hd:o.dst=none)
 (h:∀ w S a,fh w S σ a→∃ w' S',(execOp a.eval o).run P w=.ok .skip w'∧fh w' S' aK a∧kS w S σ.hp w' S' aK.hp)
 (k:ae P all rest aK Q):ae P all (o :: rest) σ Q:=by
 intro w S a r
 obtain ⟨w',S',h1,h2,h3⟩:=h w S a r
 unfold wpList
 rw [if_pos (by simp [Region.wanted,hg])]
 refine .inl ?_
 show o.upon P a _ _ _
 rw [h1]
 show wpList P all _ rest (a.put o.dst undef) w'
 rw [hd]
 exact k.go h2 h3
theorem ae.val {P:Program} {all:Array Oper} {o:Oper} {rest:List Oper} {n:Nat} {tm:List (Nat×AV)} {hp:Heap} {Q:St→Prop} {d:Nat} {av:AV} (hg:o.guard=none) (hd:o.dst=some d) (hn:ai d n=true)
 (h:∀ w S a,fh w S ⟨n,tm,hp⟩ a→∃ v,(execOp a.eval o).run P w=.ok (.value v) w∧At w S av v)
 (k:ae P all rest ⟨n,(d,av) :: tm,hp⟩ Q):ae P all (o :: rest) ⟨n,tm,hp⟩ Q:=by
 refine ae.op hg (aK:=⟨n,(d,av) :: tm,hp⟩) ?_ k
 intro w S a r
 obtain ⟨v,h1,h2⟩:=h w S a r
 exact ⟨v,w,S,h1,by rw [hd];exact r.put hn h2,kS.refl _ _ _⟩
def QV (P:Program) (o:Oper) (σ:St) (av:AV):Prop:=
 ∀ w S a,fh w S σ a→∃ v,(∀ w',Ext w w'→(execOp a.eval o).run P w'=.ok (.value v) w')∧At w S av v
theorem ae.qv {P:Program} {all:Array Oper} {rest:List Oper} {n:Nat} {tm:List (Nat×AV)} {hp:Heap} {Q:St→Prop} {d:Nat} {av:AV} {op:Op} {ty:TypeId} {pos:String} {af:Array Edge}
 (q:QV P ⟨some d,op,ty,pos,af,none⟩ ⟨n,tm,hp⟩ av) (hn:ai d n=true) (k:ae P all rest ⟨n,(d,av) :: tm,hp⟩ Q):ae P all (⟨some d,op,ty,pos,af,none⟩ :: rest) ⟨n,tm,hp⟩ Q:=
 ae.val rfl rfl hn (fun w S a r=>let ⟨v,h1,h2⟩:=q w S a r;⟨v,h1 w (Ext.refl w),h2⟩) k
structure XF (σ aK:St):Prop where
 n:aK.n=σ.n
 tm:∀ s av,lk aK.tm s=some av→lk σ.tm s=some av
 hp:aK.hp.Sublist σ.hp
theorem db.sub {w:World} {S:Nat→Prop} {h h':Heap} (r:db w S h) (hs:h'.Sublist h):db w S h' where
 nodup:=r.nodup.sublist (tP hs)
 holds e he:=r.holds e (hs.subset he)
 sep e he:=r.sep e (hs.subset he)
 slt:=r.slt
 gz:=r.gz
theorem fh.less {w:World} {S:Nat→Prop} {σ aK:St} {a:Act} (r:fh w S σ a) (h:XF σ aK):fh w S aK a where
 size:=r.size.trans h.n.symm
 defers:=r.defers
 tm s av hh:=r.tm s av (h.tm s av hh)
 hp:=r.hp.sub h.hp
theorem Has.sub {h h':Heap} (hs:h'.Sublist h) {n:Nat} (hh:Has h' n):Has h n:=let ⟨e,he,hb⟩:=hh;⟨e,hs.subset he,hb⟩
theorem ae.weaken {P:Program} {all:Array Oper} {l:List Oper} {σ aK:St} {Q:St→Prop} (h:XF σ aK) (k:ae P all l aK Q):ae P all l σ Q:=
 fun w S _ r=>k.go (r.less h) (kS.less (kS.refl w S σ.hp) fun _ hn=>hn.sub h.hp)
theorem ae.ar {P:Program} {all:Array Oper} {d:Nat} {op:Op} {ty:TypeId} {pos:String} {af:Array Edge} {j:Nat} {want b:Bool} {s:Nat} {rest:List Oper} {n:Nat} {tm:List (Nat×AV)} {hp:Heap} {Q:St→Prop}
 (hj:(all[j]?).bind (·.dst)=some s) (hs:lk tm s=some (.bool b)) (hb:b=!want) (hn:ai d n=true)
 (k:ae P all rest ⟨n,(d,.raw undef) :: tm,hp⟩ Q):ae P all (⟨some d,op,ty,pos,af,some (j,want)⟩ :: rest) ⟨n,tm,hp⟩ Q:=by
 intro w S a r
 obtain ⟨v,h1,h2⟩:=r.tm s _ hs
 cases h2
 unfold wpList
 rw [if_neg (by simp [Region.wanted,yielded,hj,h1,hb])]
 exact k.go (r.put hn (.raw undef)) (kS.refl _ _ _)
theorem ae.aS {P:Program} {all:Array Oper} {d:Nat} {op:Op} {ty:TypeId} {pos:String} {af:Array Edge} {j:Nat} {want:Bool} {s:Nat} {rest:List Oper} {n:Nat} {tm:List (Nat×AV)} {hp:Heap} {Q:St→Prop}
 (hj:(all[j]?).bind (·.dst)=some s) (hs:lk tm s=some (.raw undef)) (hn:ai d n=true)
 (k:ae P all rest ⟨n,(d,.raw undef) :: tm,hp⟩ Q):ae P all (⟨some d,op,ty,pos,af,some (j,want)⟩ :: rest) ⟨n,tm,hp⟩ Q:=by
 intro w S a r
 obtain ⟨v,h1,h2⟩:=r.tm s _ hs
 cases h2
 unfold wpList
 rw [if_neg (by simp [Region.wanted,yielded,hj,h1,undef])]
 exact k.go (r.put hn (.raw undef)) (kS.refl _ _ _)
theorem ae.au {P:Program} {all:Array Oper} {d:Option Nat} {op:Op} {ty:TypeId} {pos:String} {af:Array Edge} {j:Nat} {want b:Bool} {s:Nat} {rest:List Oper} {σ:St} {Q:St→Prop}
 (hj:(all[j]?).bind (·.dst)=some s) (hs:lk σ.tm s=some (.bool b)) (hb:b=want)
 (k:ae P all (⟨d,op,ty,pos,af,none⟩ :: rest) σ Q):ae P all (⟨d,op,ty,pos,af,some (j,want)⟩ :: rest) σ Q:=by
 intro w S a r
 obtain ⟨v,h1,h2⟩:=r.tm s _ hs
 cases h2
 have:=k w S a r
 unfold wpList at this ⊢
 rw [if_pos (by simp [Region.wanted])] at this
 rw [if_pos (by simp [Region.wanted,yielded,hj,h1,hb])]
 exact this
def Sf (P:Program) (c:Code) (σ:St) (Q:Exit→St→Prop):Prop:=
 ∀ w S a,fh w S σ a→c.wp P (Vf w S σ.hp Q) a w
theorem Sf.go {P:Program} {c:Code} {σ:St} {Q:Exit→St→Prop} (k:Sf P c σ Q) {w w':World} {S S':Nat→Prop} {h:Heap} {a':Act}
 (r:fh w' S' σ a') (e:kS w S h w' S' σ.hp):c.wp P (Vf w S h Q) a' w':=
 wp_mono (k w' S' a' r) (fun _ _ _ ⟨aK,XE,h2,h3,h4⟩=>⟨aK,XE,h2,h3,e.trans h4⟩)
inductive It where
 | code (c:Code)
 | cw (id:Nat)
 | stop (I:St→Prop)
def TD (P:Program) (R:St→Prop):List It→Exit→St→Prop
 | [],.normal,σ | [],.ret,σ=>R σ
 | [],_,_=>False
 | .cw id :: k,.exit Ur,σ=>match ac Ur id with
   | true=>TD P R k .normal σ
   | false=>TD P R k (.exit Ur) σ
 | .cw _ :: k,e,σ=>TD P R k e σ
 | .stop I :: _,.normal,σ=>I σ
 | .stop _ :: k,e,σ=>TD P R k e σ
 | .code c :: k,.normal,σ=>Sf P c σ (fun e aK=>TD P R k e aK)
 | .code _ :: k,e,σ=>TD P R k e σ
def ab (P:Program) (R:St→Prop) (k:List It) (σ:St):Prop:=TD P R k .normal σ
section
variable {P:Program} {R:St→Prop} {k:List It} {σ:St}
theorem ab.nil (h:R σ):ab P R [] σ:=h
theorem ab.cw {id:Nat} (h:ab P R k σ):ab P R (.cw id :: k) σ:=h
theorem ab.stop {I:St→Prop} (h:I σ):ab P R (.stop I :: k) σ:=h
theorem TD.ret:∀ (k:List It),R σ→TD P R k .ret σ
 | [],h=>h
 | .cw _ :: k,h=>TD.ret k h
 | .stop _ :: k,h=>TD.ret k h
 | .code _ :: k,h=>TD.ret k h
theorem ab.ret (h:R σ):ab P R (.code .ret :: k) σ:=
 fun w S _ r=>wp_ret ⟨σ,S,TD.ret k h,r,kS.refl _ _ _⟩
theorem ab.skip (h:ab P R k σ):ab P R (.code .skip :: k) σ:=
 fun w S _ r=>wp_skip ⟨σ,S,h,r,kS.refl _ _ _⟩
def Ga (id:Nat):List It→Option (List It)
 | []=>none
 | .cw Ur :: k=>match ac id Ur with
   | true=>some k
   | false=>Ga id k
 | _ :: k=>Ga id k
theorem TD.exit {id:Nat}:∀ (k k':List It),Ga id k=some k'→ab P R k' σ→TD P R k (.exit id) σ
 | [],_,h,_=>by simp [Ga] at h
 | .cw Ur :: k,k',h,h'=>by
   simp only [Ga] at h
   unfold TD
   split at h
   ·obtain rfl:=aa h;exact h'
   ·exact TD.exit k k' h h'
 | .stop _ :: k,k',h,h'=>TD.exit k k' h h'
 | .code _ :: k,k',h,h'=>TD.exit k k' h h'
theorem ab.exit {id:Nat} {k':List It} (hp:Ga id k=some k') (h:ab P R k' σ):ab P R (.code (.exit id) :: k) σ:=
 fun w S _ r=>wp_exit ⟨σ,S,TD.exit k k' hp h,r,kS.refl _ _ _⟩
theorem ab.seq {x y:Code} (h:ab P R (.code x :: .code y :: k) σ):ab P R (.code (.seq x y) :: k) σ:=by
 intro w S a r
 refine wp_seq (wp_mono (h w S a r) ?_)
 rintro e a' w' ⟨aK,S',h1,h2,h3⟩
 cases e with
 | normal=>exact Sf.go (Q:=fun e aK=>TD P R k e aK) h1 h2 h3
 | exit id=>exact ⟨aK,S',h1,h2,h3⟩
 | goto l=>exact ⟨aK,S',h1,h2,h3⟩
 | ret=>exact ⟨aK,S',h1,h2,h3⟩
 | panic c=>exact ⟨aK,S',h1,h2,h3⟩
 | outgrown=>exact ⟨aK,S',h1,h2,h3⟩
theorem ab.block {id:Nat} {c:Code} (h:ab P R (.code c :: .cw id :: k) σ):ab P R (.code (.block id c) :: k) σ:=by
 intro w S a r
 refine wp_block (wp_mono (h w S a r) ?_)
 rintro e a' w' ⟨aK,S',h1,h2,h3⟩
 cases e with
 | normal=>exact ⟨aK,S',h1,h2,h3⟩
 | exit Ur=>
   simp only [TD] at h1
   by_cases hb:Ur=id
   ·subst hb
    simp only [Nat.beq_refl] at h1
    simp only [Exit.inBlock,if_true]
    exact ⟨aK,S',h1,h2,h3⟩
   ·have:ac Ur id=false:=tx hb
    rw [this] at h1
    simp only [Exit.inBlock,hb,if_false]
    exact ⟨aK,S',h1,h2,h3⟩
 | goto l=>exact ⟨aK,S',h1,h2,h3⟩
 | ret=>exact ⟨aK,S',h1,h2,h3⟩
 | panic c=>exact ⟨aK,S',h1,h2,h3⟩
 | outgrown=>exact ⟨aK,S',h1,h2,h3⟩
theorem ab.cond {c:Operand} {x y:Code} {b:Bool} (hc:de σ.tm c=some (.bool b)) (h1:b=true→ab P R (.code x :: k) σ) (h2:b=false→ab P R (.code y :: k) σ):
 ab P R (.code (.cond c x y) :: k) σ:=by
 intro w S a r
 have hv:=bj r hc
 generalize hgv:a.eval c=v at hv
 cases hv
 exact wp_cond_split hgv (fun hb=>h1 hb w S a r) (fun hb=>h2 hb w S a r)
theorem ab.Pd {c:Operand} {x y:Code} (hc:de σ.tm c=some (.bool true)) (h1:ab P R (.code x :: k) σ):ab P R (.code (.cond c x y) :: k) σ:=
 ab.cond hc (fun _=>h1) (fun h=>by cases h)
theorem ab.Pe {c:Operand} {x y:Code} (hc:de σ.tm c=some (.bool false)) (h1:ab P R (.code y :: k) σ):ab P R (.code (.cond c x y) :: k) σ:=
 ab.cond hc (fun h=>by cases h) (fun _=>h1)
theorem ab.region {id:Nat} {l:List Oper} (h:ae P l.toArray l σ (ab P R k)):ab P R (.code (.region id l.toArray false) :: k) σ:=by
 intro w S a r
 refine wp_region_lit (jz ?_ _ _ _ (h w S a r))
 rintro e a' w' ⟨rfl,aK,S',h1,h2,h3⟩
 exact ⟨aK,S',h1,h2,h3⟩
theorem ab.go {w w':World} {S S':Nat→Prop} {h:Heap} {a':Act} {c:Code} (kk:ab P R (.code c :: k) σ) (r:fh w' S' σ a') (e:kS w S h w' S' σ.hp):
 c.wp P (Vf w S h (TD P R k)) a' w':=Sf.go (Q:=fun e aK=>TD P R k e aK) kk r e
theorem least (p:Nat→Prop) (n:Nat) (h:p n):∃ m,p m∧∀ i,p i→m≤i:=by
 induction n using Nat.strongRecOn with
 | _ n ih=>
   by_cases hx:∃ i,i < n∧p i
   ·obtain ⟨i,hi,hp⟩:=hx;exact ih i hi hp
   ·exact ⟨n,h,fun i hi=>Nat.le_of_not_lt fun iW=>hx ⟨i,iW,hi⟩⟩
open Classical in
noncomputable def Bc (p:Nat→Prop):Nat:=if h:∃ n,p n then Classical.choose (least p h.choose h.choose_spec) else 0
theorem Ae {p:Nat→Prop} {n:Nat} (h:p n):p (Bc p)∧Bc p≤n:=by
 have hx:∃ n,p n:=⟨n,h⟩
 unfold Bc
 rw [dif_pos hx]
 have:=Classical.choose_spec (least p hx.choose hx.choose_spec)
 exact ⟨this.1,this.2 n h⟩
theorem ab.loop {body:Code} (I:Nat→St→Prop) (m:Nat) (h0:I m σ) (hs:∀ m σ,I m σ→ab P R (.code body :: .stop (fun aK=>∃ m',m' < m∧I m' aK) :: k) σ):
 ab P R (.code (.loop body) :: k) σ:=by
 intro w S a r
 let p:Act→World→Nat→Prop:=fun a' w' m=>∃ aK S',I m aK∧fh w' S' aK a'∧kS w S σ.hp w' S' aK.hp
 refine wp_loop (fun a' w'=>∃ m,p a' w' m) (fun a' w'=>Bc (p a' w')) ⟨m,σ,S,h0,r,kS.refl _ _ _⟩ ?_
 rintro a1 w1 ⟨m1,XG⟩
 obtain ⟨⟨A3,S1,hI,hr1,Sg⟩,_⟩:=Ae XG
 refine wp_mono (ab.go (hs _ A3 hI) hr1 Sg) ?_
 rintro e a2 w2 ⟨Mj,S2,h2,Us,Mk⟩
 cases e with
 | normal=>
   obtain ⟨m2,iW,hI2⟩:=h2
   have Sh:p a2 w2 m2:=⟨Mj,S2,hI2,Us,Mk⟩
   exact ⟨⟨m2,Sh⟩,Nat.lt_of_le_of_lt (Ae Sh).2 iW⟩
 | exit id=>exact ⟨Mj,S2,h2,Us,Mk⟩
 | goto l=>exact ⟨Mj,S2,h2,Us,Mk⟩
 | ret=>exact ⟨Mj,S2,h2,Us,Mk⟩
 | panic c=>exact ⟨Mj,S2,h2,Us,Mk⟩
 | outgrown=>exact ⟨Mj,S2,h2,Us,Mk⟩
end
def aP (P:Program) (f:FuncId) (args:List AV) (h:Heap) (Q:AV→Heap→Prop):Prop:=
 ∀ w S (vs:Array Value),db w S h→args.length=vs.size→o8 w S args vs→
   Calls P f vs w fun e w'=>∃ v r h' S',e=.returned v∧Q r h'∧At w' S' r v∧db w' S' h'∧kS w S h w' S' h'
theorem aP.frame {P:Program} {f:FuncId} {args:List AV} {h:Heap} {Q:AV→Heap→Prop} (c:aP P f args h Q) (rest:Heap):
 aP P f args (h++rest) (fun r h'=>∃ h1,h'=h1++rest∧Q r h1):=by
 intro w S vs r hl ha
 refine (c w S vs (r.sub (List.sublist_append_left _ _)) hl ha).mono ?_
 rintro e w' ⟨v,rr,h',S',h1,h2,h3,h4,h5⟩
 exact ⟨v,rr,h'++rest,S',h1,⟨h',rfl,h2⟩,h3,r.frame h5 h4,h5.frame rest⟩
theorem db.perm {w:World} {S:Nat→Prop} {h h':Heap} (r:db w S h) (hp:h.Perm h'):db w S h' where
 nodup:=(List.Perm.flatMap_right _ hp).nodup_iff.1 r.nodup
 holds e he:=r.holds e (hp.mem_iff.2 he)
 sep e he:=r.sep e (hp.mem_iff.2 he)
 slt:=r.slt
 gz:=r.gz
def Si:List AV→Nat→List (Nat×AV)
 | [],_=>[]
 | x :: r,i=>(i,x) :: Si r (i+1)
theorem Pf:∀ (l:List AV) (i s:Nat) (av:AV),lk (Si l i) s=some av→i≤s∧l[s - i]? =some av
 | [],_,_,_,h=>by simp [Si,lk] at h
 | x :: r,i,s,av,h=>by
   simp only [Si,lk] at h
   split at h
   ·rename_i hb
    obtain rfl:i=s:=by simpa using hb
    simpa using h
   ·rename_i hb
    have A2:i≠s:=DY hb
    obtain ⟨h1,h2⟩:=Pf r (i+1) s av h
    refine ⟨by omega,?_⟩
    rw [show s - i=(s - (i+1))+1 from by omega]
    simpa using h2
theorem pN {w:World} {S:Nat→Prop} {x y:AV} {u v:Value} (hx:At w S x u) (hy:At w S y v):o8 w S [x,y] #[u,v]:=by
 intro i c d hc hd
 match i with
 | 0=>simp at hc hd;subst hc;subst hd;exact hx
 | 1=>simp at hc hd;subst hc;subst hd;exact hy
 | i+2=>simp at hc
theorem Nx {w:World} {S:Nat→Prop} {x y z:AV} {u v t:Value} (hx:At w S x u) (hy:At w S y v) (hz:At w S z t):o8 w S [x,y,z] #[u,v,t]:=by
 intro i c d hc hd
 match i with
 | 0=>simp at hc hd;subst hc;subst hd;exact hx
 | 1=>simp at hc hd;subst hc;subst hd;exact hy
 | 2=>simp at hc hd;subst hc;subst hd;exact hz
 | i+3=>simp at hc
class aX (P:Program) (t:TypeId) (i:outParam TypeInfo):Prop where
 h:P.info? t=some i
class aB (P:Program) (t:TypeId) (d:outParam TypeDesc):Prop where
 h:P.underlying t=some d
section inv
variable {w:World} {S:Nat→Prop} {v:Value}
theorem At.eP {k:IntKind} {n:Int} (h:At w S (.int k n) v):v=.int k n:=by cases h;rfl
theorem At.kW {b:Bool} (h:At w S (.bool b) v):v=.bool b:=by cases h;rfl
theorem At.fj {s:List UInt8} (h:At w S (.str s) v):v=.string ⟨s.toArray⟩:=by cases h;rfl
theorem At.Sj {u:Value} (h:At w S (.raw u) v):v=u:=by cases h;rfl
theorem At.DH (h:At w S .nil v):v=.slice none 0 0:=by cases h;rfl
theorem At.pO {cs:List AV} (h:At w S (.agg cs) v):∃ vs,v=.agg vs∧cs.length=vs.size∧o8 w S cs vs:=by cases h with | agg _ vs hl h=>exact ⟨vs,rfl,hl,h⟩
theorem At.Sk {cs:List AV} (h:At w S (.lE cs) v):∃ vs,v=.tuple vs∧cs.length=vs.size∧o8 w S cs vs:=by cases h with | lE _ vs hl h=>exact ⟨vs,rfl,hl,h⟩
theorem At.tz {b:Bk} {o:Nat} (h:At w S (.ptr b o) v):∃ n,b.cw=some n∧v=.pointer (some ⟨n,o,none⟩):=by cases h with | ptr _ _ n hb=>exact ⟨n,hb,rfl⟩
theorem At.wM {sz:Nat} {b:Bk} {i o:Nat} (h:At w S (.sQ sz b i o) v):∃ n,b.cw=some n∧v=.pointer (some ⟨n,i * sz+o,none⟩):=by cases h with | sQ _ _ _ _ n hb=>exact ⟨n,hb,rfl⟩
theorem At.yH {fn:Fn} {cs:List AV} (h:At w S (.func fn cs) v):∃ vs,v=.func fn #[] vs∧cs.length=vs.size∧o8 w S cs vs:=by cases h with | func _ _ vs hl h=>exact ⟨vs,rfl,hl,h⟩
theorem At.yI {sz:Nat} {xs:List AV} (h:At w S (.list sz xs) v):∃ (a:Option Addr) (cap:Nat) (vs:List Value),v=.slice a xs.length cap∧(∀ x∈xs,El sz x)∧(flat xs).length=vs.length∧(∀ (i:Nat) c u,(flat xs)[i]? =some c→vs[i]? =some u→At w S c u)∧
 (∀ (i:Nat) u,vs[i]? =some u→∃ ad,a=some ad∧ad.spot=none∧S ad.block∧w.cell? ⟨ad.block,ad.off+i,none⟩=some u)∧xs.length≤cap:=by
 cases h with | list _ _ a cap vs h1 h2 h3 h4 h5=>exact ⟨a,cap,vs,rfl,h1,h2,h3,h4,h5⟩
theorem At.yJ {cs:List AV} (h:At w S (.ch cs) v):∃ (ad:Addr) (vs:List Value),v=.pointer (some ad)∧cs.length=vs.length∧(∀ (i:Nat) c u,cs[i]? =some c→vs[i]? =some u→At w S c u)∧ad.spot=none∧S ad.block∧
 (∀ (i:Nat) u,vs[i]? =some u→w.cell? ⟨ad.block,ad.off+i,none⟩=some u):=by
 cases h with | ch _ ad vs h1 h2 h3 h4 h5=>exact ⟨ad,vs,rfl,h1,h2,h3,h4,h5⟩
theorem At.u7 {sz:Nat} {b:Bk} {off len:Nat} (h:At w S (.sl sz b off len) v):∃ a cap,v=.slice a len cap∧((b.cw=none∧off=0∧len=0∧a=none∧cap=0)∨
 (∃ n,b.cw=some n∧a=some ⟨n,off * sz,none⟩∧len≤cap∧off+cap≤b.cap)∨(∃ n ad,b.cw=some n∧a=some ad∧len=0∧cap=0)):=by
 cases h with
 | Ba _ _ hb=>exact ⟨none,0,rfl,.inl ⟨hb,rfl,rfl,rfl,rfl⟩⟩
 | sl _ _ _ _ n cap hb h1 h2=>exact ⟨_,cap,rfl,.inr (.inl ⟨n,hb,rfl,h1,h2⟩)⟩
 | Pa _ _ _ n ad hb=>exact ⟨_,0,rfl,.inr (.inr ⟨n,ad,hb,rfl,rfl,rfl⟩)⟩
end inv
section rules
variable {P:Program} {all:Array Oper} {rest:List Oper} {n:Nat} {tm:List (Nat×AV)} {hp:Heap} {Q:St→Prop} {d:Nat} {ty:TypeId} {pos:String} {af:Array Edge}
theorem aM {x:Operand} {av:AV} (hx:de tm x=some av):QV P ⟨some d,.move x,ty,pos,af,none⟩ ⟨n,tm,hp⟩ (av):=
 (fun w S a r=>⟨a.eval x,fun _ _=>rfl,bj (σ:=⟨n,tm,hp⟩) r hx⟩)
theorem bR {x:Operand} {av:AV} (hx:de tm x=some av):QV P ⟨some d,.assign x,ty,pos,af,none⟩ ⟨n,tm,hp⟩ (av):=
 (fun w S a r=>⟨a.eval x,fun _ _=>rfl,bj (σ:=⟨n,tm,hp⟩) r hx⟩)
theorem fP {c x y:Operand} {av:AV} (hc:de tm c=some (.bool true)) (hx:de tm x=some av):QV P ⟨some d,.pick c x y,ty,pos,af,none⟩ ⟨n,tm,hp⟩ (av):=
 (fun w S a r=>⟨a.eval x,fun w1 _=>by have h:=(bj (σ:=⟨n,tm,hp⟩) r hc).kW;simp [execOp,h,asBool],bj (σ:=⟨n,tm,hp⟩) r hx⟩)
theorem ed {c x y:Operand} {av:AV} (hc:de tm c=some (.bool false)) (hx:de tm y=some av):QV P ⟨some d,.pick c x y,ty,pos,af,none⟩ ⟨n,tm,hp⟩ (av):=
 (fun w S a r=>⟨a.eval y,fun w1 _=>by have h:=(bj (σ:=⟨n,tm,hp⟩) r hc).kW;simp [execOp,h,asBool],bj (σ:=⟨n,tm,hp⟩) r hx⟩)
theorem x6 {op:BinOp} {xt yt:TypeId} {x y:Operand} {k:IntKind} {i j:Int} {av:AV} {v:Value} (hx:de tm x=some (.int k i)) (hy:de tm y=some (.int k j))
 (wy:∀ w,(binOp op xt (.int k i) (.int k j)).run P w=.ok v w) (sB:∀ w S,At w S av v):QV P ⟨some d,.binOp op xt x y yt,ty,pos,af,none⟩ ⟨n,tm,hp⟩ av:=by
 intro w S a r
 refine ⟨v,fun w' _=>?_,sB w S⟩
 simp [execOp,(bj (σ:=⟨n,tm,hp⟩) r hx).eP,(bj (σ:=⟨n,tm,hp⟩) r hy).eP,eqGuard_at_int,wy]
def Vg (i:Int):Prop:=-9223372036854775808≤i∧i≤9223372036854775807
theorem wN {i:Int} (h:Vg i):IntKind.i64.wrap i=i:=IntWalk.i64_in _ h
theorem bq {xt yt:TypeId} {x y:Operand} {k:IntKind} {i j:Int} (hx:de tm x=some (.int k i)) (hy:de tm y=some (.int k j)):QV P ⟨some d,.binOp .add xt x y yt,ty,pos,af,none⟩ ⟨n,tm,hp⟩ (.int k (k.wrap (i+j))):=
 x6 hx hy (v:=_) (fun w=>by simp [binOp,Op.intArith]) (fun w S=>.int _ _)
theorem eK {xt yt:TypeId} {x y:Operand} {k:IntKind} {i j:Int} (hx:de tm x=some (.int k i)) (hy:de tm y=some (.int k j)):QV P ⟨some d,.binOp .sub xt x y yt,ty,pos,af,none⟩ ⟨n,tm,hp⟩ (.int k (k.wrap (i - j))):=
 x6 hx hy (v:=_) (fun w=>by simp [binOp,Op.intArith]) (fun w S=>.int _ _)
theorem sR {xt yt:TypeId} {x y:Operand} {k:IntKind} {i j:Int} (hx:de tm x=some (.int k i)) (hy:de tm y=some (.int k j)):QV P ⟨some d,.binOp .mul xt x y yt,ty,pos,af,none⟩ ⟨n,tm,hp⟩ (.int k (k.wrap (i * j))):=
 x6 hx hy (v:=_) (fun w=>by simp [binOp,Op.intArith]) (fun w S=>.int _ _)
theorem Gb {xt yt:TypeId} {x y:Operand} {k:IntKind} {i j:Int} (hx:de tm x=some (.int k i)) (hy:de tm y=some (.int k j)) (h0:j≠0):QV P ⟨some d,.binOp .rem xt x y yt,ty,pos,af,none⟩ ⟨n,tm,hp⟩ (.int k (i.tmod j)):=
 x6 hx hy (v:=.int k (i.tmod j)) (fun w=>by simp [binOp,Op.intDiv,h0]) (fun w S=>.int _ _)
theorem bO {xt yt:TypeId} {x y:Operand} {k:IntKind} {i j:Int} (hx:de tm x=some (.int k i)) (hy:de tm y=some (.int k j)):QV P ⟨some d,.binOp .lss xt x y yt,ty,pos,af,none⟩ ⟨n,tm,hp⟩ (.bool (decide (i < j))):=
 x6 hx hy (v:=.bool (decide (i < j))) (fun w=>by simp [binOp,Op.intCmp]) (fun w S=>.bool _)
theorem pn {xt yt:TypeId} {x y:Operand} {k:IntKind} {i j:Int} (hx:de tm x=some (.int k i)) (hy:de tm y=some (.int k j)):QV P ⟨some d,.binOp .leq xt x y yt,ty,pos,af,none⟩ ⟨n,tm,hp⟩ (.bool (decide (i≤j))):=
 x6 hx hy (v:=.bool (decide (i≤j))) (fun w=>by simp [binOp,Op.intCmp]) (fun w S=>.bool _)
theorem eM {xt yt:TypeId} {x y:Operand} {k:IntKind} {i j:Int} (hx:de tm x=some (.int k i)) (hy:de tm y=some (.int k j)):QV P ⟨some d,.binOp .gtr xt x y yt,ty,pos,af,none⟩ ⟨n,tm,hp⟩ (.bool (decide (j < i))):=
 x6 hx hy (v:=.bool (decide (j < i))) (fun w=>by simp [binOp,Op.intCmp]) (fun w S=>.bool _)
theorem nU {xt yt:TypeId} {x y:Operand} {k:IntKind} {i j:Int} (hx:de tm x=some (.int k i)) (hy:de tm y=some (.int k j)):QV P ⟨some d,.binOp .geq xt x y yt,ty,pos,af,none⟩ ⟨n,tm,hp⟩ (.bool (decide (j≤i))):=
 x6 hx hy (v:=.bool (decide (j≤i))) (fun w=>by simp [binOp,Op.intCmp]) (fun w S=>.bool _)
theorem dt {xt yt:TypeId} {x y:Operand} {k:IntKind} {i j:Int} (hx:de tm x=some (.int k i)) (hy:de tm y=some (.int k j)):QV P ⟨some d,.binOp .eql xt x y yt,ty,pos,af,none⟩ ⟨n,tm,hp⟩ (.bool (decide (i=j))):=
 x6 hx hy (v:=.bool (decide (i=j))) (fun w=>by simp [binOp,Op.intCmp];rfl) (fun w S=>.bool _)
theorem o9 {xt yt:TypeId} {x y:Operand} {k:IntKind} {i j:Int} (hx:de tm x=some (.int k i)) (hy:de tm y=some (.int k j)):QV P ⟨some d,.binOp .neq xt x y yt,ty,pos,af,none⟩ ⟨n,tm,hp⟩ (.bool (decide (i≠j))):=
 x6 hx hy (v:=.bool (decide (i≠j))) (fun w=>by simp [binOp,Op.intCmp,bne];rfl) (fun w S=>.bool _)
theorem Ml {xt yt:TypeId} {x y:Operand} {s t:List UInt8} (hx:de tm x=some (.str s)) (hy:de tm y=some (.str t)):QV P ⟨some d,.binOp .eql xt x y yt,ty,pos,af,none⟩ ⟨n,tm,hp⟩ (.bool (decide (s=t))):=by
 refine fun w S a r=>⟨.bool (decide (s=t)),fun w1 _=>?_,.bool _⟩
 simp [execOp,(bj (σ:=⟨n,tm,hp⟩) r hx).fj,(bj (σ:=⟨n,tm,hp⟩) r hy).fj,eqGuard_at_string,binOp,Op.stringOp]
 rw [c8];simp
theorem XH {xt yt:TypeId} {x y:Operand} {s t:List UInt8} (hx:de tm x=some (.str s)) (hy:de tm y=some (.str t)):QV P ⟨some d,.binOp .neq xt x y yt,ty,pos,af,none⟩ ⟨n,tm,hp⟩ (.bool (decide (s≠t))):=by
 refine fun w S a r=>⟨.bool (decide (s≠t)),fun w1 _=>?_,.bool _⟩
 simp [execOp,(bj (σ:=⟨n,tm,hp⟩) r hx).fj,(bj (σ:=⟨n,tm,hp⟩) r hy).fj,eqGuard_at_string,binOp,Op.stringOp]
 rw [c8];simp
theorem run_equal_bool {P:Program} {t:TypeId} (h:P.underlying t=some .bool) (b c:Bool) (w:World):(Op.equal t (.bool b) (.bool c)).run P w=.ok (b==c) w:=by
 show (Op.equalIn (9999+1) t (.bool b) (.bool c)).run P w=_
 rw [Op.equalIn]
 simp [run_underlying h]
theorem Av {P:Program} {t:TypeId} (h:P.underlying t=some .bool) (b c:Bool) (w:World):(binOp .eql t (.bool b) (.bool c)).run P w=.ok (.bool (b==c)) w:=by
 rw [show binOp .eql t (.bool b) (.bool c)=(do pure (.bool (← Op.equal t (.bool b) (.bool c)))) from rfl]
 simp [run_equal_bool h]
theorem Aw {P:Program} {t:TypeId} (h:P.underlying t=some .bool) (b c:Bool) (w:World):(binOp .neq t (.bool b) (.bool c)).run P w=.ok (.bool (b !=c)) w:=by
 rw [show binOp .neq t (.bool b) (.bool c)=(do pure (.bool (!(← Op.equal t (.bool b) (.bool c))))) from rfl]
 simp [run_equal_bool h,bne]
theorem Hg (s:List UInt8):(⟨s.toArray⟩:ByteArray).size=s.length:=rfl
theorem cu {xt:TypeId} {x:Operand} {b:Bool} (hx:de tm x=some (.bool b)):QV P ⟨some d,.unOp .not xt x,ty,pos,af,none⟩ ⟨n,tm,hp⟩ (.bool (!b)):=
 (fun w S a r=>⟨.bool (!b),fun w1 _=>by simp [execOp,(bj (σ:=⟨n,tm,hp⟩) r hx).kW,Op.unary],.bool _⟩)
theorem Ut {xt yt:TypeId} {x y:Operand} {b c:Bool} [aB P xt .bool] (hx:de tm x=some (.bool b)) (hy:de tm y=some (.bool c)):QV P ⟨some d,.binOp .eql xt x y yt,ty,pos,af,none⟩ ⟨n,tm,hp⟩ (.bool (b==c)):=
 (fun w S a r=>⟨.bool (b==c),fun w1 _=>by simp [execOp,(bj (σ:=⟨n,tm,hp⟩) r hx).kW,(bj (σ:=⟨n,tm,hp⟩) r hy).kW,eqGuard_at_bool,Av (aB.h (P:=P) (t:=xt))],.bool _⟩)
theorem XI {xt yt:TypeId} {x y:Operand} {b c:Bool} [aB P xt .bool] (hx:de tm x=some (.bool b)) (hy:de tm y=some (.bool c)):QV P ⟨some d,.binOp .neq xt x y yt,ty,pos,af,none⟩ ⟨n,tm,hp⟩ (.bool (b !=c)):=
 (fun w S a r=>⟨.bool (b !=c),fun w1 _=>by simp [execOp,(bj (σ:=⟨n,tm,hp⟩) r hx).kW,(bj (σ:=⟨n,tm,hp⟩) r hy).kW,eqGuard_at_bool,Aw (aB.h (P:=P) (t:=xt))],.bool _⟩)
theorem KX {x:Operand} {t e:TypeId} {sz:Nat} {xs:List AV} [aB P t (.slice e)] (hx:de tm x=some (.list sz xs)):QV P ⟨some d,.call {callee:=.builtin .len,args:=#[x],argTypes:=#[t]},ty,pos,af,none⟩ ⟨n,tm,hp⟩ (.int .i64 (xs.length:Nat)):=
 (fun w S a r=>⟨.int .i64 (xs.length:Nat),fun w1 _=>by
  obtain ⟨ad,cap,vs,h1,_⟩:=(bj (σ:=⟨n,tm,hp⟩) r hx).yI
  simp [execOp,h1,resolve,invoke,builtin,Builtin.len_,run_underlying (aB.h (P:=P) (t:=t)),goInt],.int _ _⟩)
theorem IL {x:Operand} {t e:TypeId} {sz off len:Nat} {b:Bk} [aB P t (.slice e)] (hx:de tm x=some (.sl sz b off len)):QV P ⟨some d,.call {callee:=.builtin .len,args:=#[x],argTypes:=#[t]},ty,pos,af,none⟩ ⟨n,tm,hp⟩ (.int .i64 (len:Nat)):=
 (fun w S a r=>⟨.int .i64 (len:Nat),fun w1 _=>by
  obtain ⟨ad,cap,h1,_⟩:=(bj (σ:=⟨n,tm,hp⟩) r hx).u7
  simp [execOp,h1,resolve,invoke,builtin,Builtin.len_,run_underlying (aB.h (P:=P) (t:=t)),goInt],.int _ _⟩)
theorem oM {x:Operand} {t:TypeId} {s:List UInt8} [aB P t .string] (hx:de tm x=some (.str s)):QV P ⟨some d,.call {callee:=.builtin .len,args:=#[x],argTypes:=#[t]},ty,pos,af,none⟩ ⟨n,tm,hp⟩ (.int .i64 (s.length:Nat)):=
 (fun w S a r=>⟨.int .i64 (s.length:Nat),fun w1 _=>by
  simp [execOp,(bj (σ:=⟨n,tm,hp⟩) r hx).fj,resolve,invoke,builtin,Builtin.len_,run_underlying (aB.h (P:=P) (t:=t)),goInt,Hg],.int _ _⟩)
theorem IM {x y:Operand} {t:TypeId} {s:List UInt8} {k:IntKind} {i:Int} {c:UInt8} [aB P t .string] (hx:de tm x=some (.str s)) (hy:de tm y=some (.int k i)) (h0:0≤i) (hc:s[i.toNat]? =some c):QV P ⟨some d,.index t x y,ty,pos,af,none⟩ ⟨n,tm,hp⟩ (.int .u8 (c.toNat:Nat)):=
 (fun w S a r=>⟨.int .u8 (c.toNat:Nat),fun w1 _=>by
  have xx:(⟨s.toArray⟩:ByteArray)[i.toNat]? =some c:=by
   obtain ⟨hl,he⟩:=ap.1 hc
   rw [getElem?_pos _ _ (by rw [Hg];exact hl)]
   simp only [bp]
   rw [← he]
   rfl
  simp [execOp,(bj (σ:=⟨n,tm,hp⟩) r hx).fj,(bj (σ:=⟨n,tm,hp⟩) r hy).eP,Instr.index,asIntOf,run_underlying (aB.h (P:=P) (t:=t)),h0,xx],.int _ _⟩)
theorem jM {x:Operand} {i:Nat} {vs:List AV} {av:AV} (hx:de tm x=some (.lE vs)) (hi:vs[i]? =some av):QV P ⟨some d,.extract x i,ty,pos,af,none⟩ ⟨n,tm,hp⟩ (av):=
 (fun w S a r=>by
  obtain ⟨us,h1,h2,h3⟩:=(bj (σ:=⟨n,tm,hp⟩) r hx).Sk
  have iW:i < us.size:=by rw [← h2];exact (ap.1 hi).1
  have hu:us[i]? =some us[i]:=by simp [iW]
  exact ⟨us[i],fun _ _=>by simp [execOp,h1,Instr.extract,hu],h3 i av _ hi hu⟩)
theorem aE {x:Operand} {b:Bk} {o:Nat} (hx:de tm x=some (.ptr b o)):QV P ⟨some d,.nilCheck x,ty,pos,af,none⟩ ⟨n,tm,hp⟩ (.ptr b o):=
 (fun w S a r=>by
  have h:=bj (σ:=⟨n,tm,hp⟩) r hx
  obtain ⟨m,h1,h2⟩:=h.tz
  exact ⟨a.eval x,fun _ _=>by simp [execOp,h2],h⟩)
theorem bL {x:Operand} {cs:List AV} (hx:de tm x=some (.ch cs)):QV P ⟨some d,.nilCheck x,ty,pos,af,none⟩ ⟨n,tm,hp⟩ (.ch cs):=
 (fun w S a r=>by
  have h:=bj (σ:=⟨n,tm,hp⟩) r hx
  obtain ⟨ad,vs,h2,_⟩:=h.yJ
  exact ⟨a.eval x,fun _ _=>by simp [execOp,h2],h⟩)
theorem ec {x:Operand} {sz:Nat} {b:Bk} {i o:Nat} (hx:de tm x=some (.sQ sz b i o)):QV P ⟨some d,.nilCheck x,ty,pos,af,none⟩ ⟨n,tm,hp⟩ (.sQ sz b i o):=
 (fun w S a r=>by
  have h:=bj (σ:=⟨n,tm,hp⟩) r hx
  obtain ⟨m,h1,h2⟩:=h.wM
  exact ⟨a.eval x,fun _ _=>by simp [execOp,h2],h⟩)
def CO (tm:List (Nat×AV)):List Operand→Option (List AV)
 | []=>some []
 | x :: r=>match de tm x,CO tm r with
   | some a,some l=>some (a :: l)
   | _,_=>none
theorem KY {w:World} {S:Nat→Prop} {σ:St} {a:Act} (r:fh w S σ a):∀ {xs:List Operand} {l:List AV},CO σ.tm xs=some l→l.length=xs.length∧∀ (i:Nat) c v,l[i]? =some c→(xs.map a.eval)[i]? =some v→At w S c v
 | [],l,h=>by simp [CO] at h;subst h;exact ⟨rfl,fun i c v hc=>by simp at hc⟩
 | x :: xs,l,h=>by
   simp only [CO] at h
   split at h
   ·rename_i av l' ha hl
    obtain rfl:=aa h
    obtain ⟨h1,h2⟩:=KY r hl
    refine ⟨by simp [h1],fun i c v hc hv=>?_⟩
    match i with
    | 0=>simp at hc hv;subst hc;subst hv;exact bj r ha
    | i+1=>simp at hc hv;exact h2 i c v hc (by simpa using hv)
   ·cases h
theorem mC {fn:Fn} {wx:List Operand} {l:List AV} (hl:CO tm wx=some l):QV P ⟨some d,.makeFunc fn #[] wx.toArray,ty,pos,af,none⟩ ⟨n,tm,hp⟩ (.func fn l):=
 (fun w S a r=>by
  obtain ⟨h1,h2⟩:=KY (σ:=⟨n,tm,hp⟩) r hl
  exact ⟨.func fn #[] (wx.toArray.map a.eval),fun _ _=>by simp [execOp,Instr.makeFunc],.func _ _ _ (by simp [h1]) (fun i c v hc hv=>h2 i c v hc (by simpa using hv))⟩)
end rules
inductive mD:Heap→Bk→Ob→Prop
 | here {b:Bk} {o:Ob} {h:Heap}:mD ((b,o) :: h) b o
 | next {e:Bk×Ob} {b:Bk} {o:Ob} {h:Heap} (k:mD h b o):mD (e :: h) b o
 | skip {l:Heap} {b:Bk} {o:Ob} {h:Heap} (k:mD h b o):mD (l++h) b o
theorem mD.mem {h:Heap} {b:Bk} {o:Ob} (f:mD h b o):(b,o)∈h:=by
 induction f with
 | here=>simp
 | next _ ih=>simp [ih]
 | skip _ ih=>simp [ih]
inductive na:Heap→Bk→Ob→Bk→Ob→Heap→Prop
 | here {b b':Bk} {o o':Ob} {h:Heap}:na ((b,o) :: h) b o b' o' ((b',o') :: h)
 | next {e:Bk×Ob} {b b':Bk} {o o':Ob} {h h':Heap} (k:na h b o b' o' h'):na (e :: h) b o b' o' (e :: h')
 | skip {l:Heap} {b b':Bk} {o o':Ob} {h h':Heap} (k:na h b o b' o' h'):na (l++h) b o b' o' (l++h')
inductive yK:Heap→Bk→Ob→Heap→Prop
 | here {b:Bk} {o:Ob} {h:Heap}:yK ((b,o) :: h) b o h
 | next {e:Bk×Ob} {b:Bk} {o:Ob} {h h':Heap} (k:yK h b o h'):yK (e :: h) b o (e :: h')
 | skip {l:Heap} {b:Bk} {o:Ob} {h h':Heap} (k:yK h b o h'):yK (l++h) b o (l++h')
theorem na.split {h h':Heap} {b b':Bk} {o o':Ob} (u:na h b o b' o' h'):∃ pre post,h=pre++(b,o) :: post∧h'=pre++(b',o') :: post:=by
 induction u with
 | here=>exact ⟨[],_,rfl,rfl⟩
 | next _ ih=>obtain ⟨p,q,rfl,rfl⟩:=ih;exact ⟨_ :: p,q,rfl,rfl⟩
 | @skip l _ _ _ _ _ _ _ ih=>obtain ⟨p,q,rfl,rfl⟩:=ih;exact ⟨l++p,q,(bw _ _ _).symm,(bw _ _ _).symm⟩
theorem yK.split {h h':Heap} {b:Bk} {o:Ob} (u:yK h b o h'):∃ pre post,h=pre++(b,o) :: post∧h'=pre++post:=by
 induction u with
 | here=>exact ⟨[],_,rfl,rfl⟩
 | next _ ih=>obtain ⟨p,q,rfl,rfl⟩:=ih;exact ⟨_ :: p,q,rfl,rfl⟩
 | @skip l _ _ _ _ _ ih=>obtain ⟨p,q,rfl,rfl⟩:=ih;exact ⟨l++p,q,(bw _ _ _).symm,(bw _ _ _).symm⟩
theorem na.lS {h h':Heap} {b b':Bk} {o o':Ob} (u:na h b o b' o' h'):mD h b o:=by
 induction u with
 | here=>exact .here
 | next _ ih=>exact .next ih
 | skip _ ih=>exact .skip ih
theorem bE {α:Type} {p q:List α} {x y:α}:y∈p++x :: q↔y=x∨y∈p++q:=by
 simp only [a7,bt]
 constructor
 ·rintro (h | h | h)
  ·exact .inr (.inl h)
  ·exact .inl h
  ·exact .inr (.inr h)
 ·rintro (h | h | h)
  ·exact .inr (.inl h)
  ·exact .inl h
  ·exact .inr (.inr h)
def GB (w w':World) (x:Option Nat):Prop:=w.grownBy w' x∧(bN.dr→w.drawn≤w'.drawn)
theorem tA {w w':World} {S:Nat→Prop} {hp cL:Heap} {b b':Bk} {o o':Ob} (r:db w S hp) (u:na hp b o b' o' cL) (cc:GB w w' b.cw) (hf:¬ o.CL) (hf':¬ o'.CL)
 (hh:Holds w' S b' o') (B6:b'.cw=b.cw∨b'.cw=none∨∃ m,b'.cw=some m∧w.heap.size≤m) (hm:o'.more=[]:=by rfl):
 db w' S cL∧kS w S hp w' S cL∧∀ n,S n→S n∧w'.heap[n]? =w.heap[n]?:=by
 obtain ⟨c,hd⟩:=cc
 obtain ⟨p,q,rfl,rfl⟩:=u.split
 have IN:(b,o)∈p++(b,o) :: q:=by simp
 have nS:∀ n,b.cw=some n→¬ S n:=fun n hn hs=>hf ((r.sep _ IN n (fV hn)).1 hs)
 have mB:∀ n,S n→S n∧w'.heap[n]? =w.heap[n]?:=fun n hs=>⟨hs,c.block n (r.slt n hs) (fun e=>nS n e.symm hs)⟩
 have wz:=r.nodup
 rw [b4,bi,a8,a8] at wz
 have others:∀ e∈p++q,∀ n,n∈eb e→n < w.heap.size∧b.cw≠some n:=by
  intro e he n hn
  refine ⟨r.lt ⟨e,bE.2 (.inr he),hn⟩,fun hb=>?_⟩
  rcases a7.1 he with h | h
  ·exact wz.2.2 n (a6.2 ⟨e,h,hn⟩) n (cb _ (fV hb)) rfl
  ·exact wz.2.1.2.2 n (fV hb) n (a6.2 ⟨e,h,hn⟩) rfl
 have XJ:∀ e∈p++q,∀ n,n∈eb e→b'.cw≠some n:=by
  intro e he n hn hb
  obtain ⟨h1,h2⟩:=others e he n hn
  rcases B6 with h | h | ⟨m,h,hm⟩
  ·exact h2 (h▸hb)
  ·rw [h] at hb;cases hb
  ·rw [h] at hb;have:=aa hb;omega
 refine ⟨⟨?_,?_,?_,fun n hs=>cm (r.slt n hs) c.size,fun g o ho=>⟨(r.gz g o ho).1,A9 (mB g (r.gz g o ho).1).2 (r.gz g o ho).2⟩⟩,⟨c.os,c.tape,c.output,c.size,mB,?_,?_,hd⟩,mB⟩
 ·rw [b4,bi,a8,a8]
  have aaB:(eb (b',o')).Nodup:=by
   unfold eb;rw [hm,cP]
   cases b'.cw<;>simp
  refine ⟨wz.1,⟨aaB,wz.2.1.2.1,fun x hx y hy Hh=>?_⟩,fun x hx y hy Hh=>?_⟩
  ·subst Hh
   obtain ⟨e,he,vD⟩:=a6.1 hy
   exact XJ e (bo _ he) x vD ((xB hm).1 hx)
  ·subst Hh
   rcases a7.1 hy with hy | hy
   ·obtain ⟨e,he,vD⟩:=a6.1 hx
    exact XJ e (cb _ he) x vD ((xB hm).1 hy)
   ·exact wz.2.2 x hx x (bo _ hy) rfl
 ·intro e he
  rcases bE.1 he with rfl | he
  ·exact hh
  ·exact (r.holds e (bE.2 (.inr he))).mono mB (fun n hn=>c.block n (others e he n hn).1 (fun h=>(others e he n hn).2 h.symm))
 ·intro e he n hn
  rcases bE.1 he with rfl | he
  ·replace hn:=(xB hm).1 hn
   have ns:¬ S n:=by
    rcases B6 with h | h | ⟨m,h,hm⟩
    ·exact nS n (h▸hn)
    ·rw [h] at hn;cases hn
    ·intro hs;have:=r.slt n hs;rw [h] at hn;have:=aa hn;omega
   exact ⟨fun hs=>(ns hs).elim,fun h=>(hf' h).elim⟩
  ·exact r.sep e (bE.2 (.inr he)) n hn
 ·intro n hn aaC
  exact ⟨c.block n hn (fun h=>aaC ⟨(b,o),IN,fV h.symm⟩),id⟩
 ·rintro n ⟨e,he,vD⟩
  rcases bE.1 he with rfl | he
  ·replace vD:=(xB hm).1 vD
   rcases B6 with h | h | ⟨m,h,hm⟩
   ·exact .inl ⟨(b,o),IN,fV (h▸vD)⟩
   ·rw [h] at vD;cases vD
   ·rw [h] at vD;have:=aa vD;exact .inr (by omega)
  ·exact .inl ⟨e,bE.2 (.inr he),vD⟩
theorem pP {w w':World} {S:Nat→Prop} {hp:Heap} {b:Bk} {o:Ob} (r:db w S hp) (e:Ext w w') (hf:¬ o.CL) (hh:Holds w' S b o) (hb:b.cw=none∨∃ m,b.cw=some m∧w.heap.size≤m)(hm:o.more=[]:=by rfl):
 db w' S ((b,o) :: hp)∧kS w S hp w' S ((b,o) :: hp)∧∀ n,S n→S n∧w'.heap[n]? =w.heap[n]?:=by
 have r':=r.ext e
 have mB:∀ n,S n→S n∧w'.heap[n]? =w.heap[n]?:=fun n hs=>⟨hs,e.same n (r.slt n hs)⟩
 have fresh:∀ n,n∈eb (b,o)→w.heap.size≤n:=by
  intro n hn
  replace hn:=(xB hm).1 hn
  rcases hb with h | ⟨m,h,hm⟩
  ·rw [h] at hn;cases hn
  ·rw [h] at hn;have:=aa hn;omega
 refine ⟨⟨?_,?_,?_,r'.slt,r'.gz⟩,⟨e.os,e.tape,e.output,e.size,mB,fun n hn _=>⟨e.same n hn,id⟩,?_,e.drawn⟩,mB⟩
 ·rw [bi,a8]
  refine ⟨?_,r.nodup,fun x hx y hy Hh=>?_⟩
  ·unfold eb;rw [hm,cP]
   cases b.cw<;>simp
  ·subst Hh
   obtain ⟨z,hz,hzn⟩:=a6.1 hy
   have:=r.lt ⟨z,hz,hzn⟩
   have:=fresh x hx
   omega
 ·intro x hx
  rcases bt.1 hx with rfl | hx
  ·exact hh
  ·exact r'.holds x hx
 ·intro x hx n hn
  rcases bt.1 hx with rfl | hx
  ·refine ⟨fun hs=>?_,fun h=>(hf h).elim⟩
   have:=r.slt n hs
   have:=fresh n hn
   omega
  ·exact r.sep x hx n hn
 ·rintro n ⟨x,hx,XD⟩
  rcases bt.1 hx with rfl | hx
  ·exact .inr (fresh n XD)
  ·exact .inl ⟨x,hx,XD⟩
theorem wP {w:World} {S:Nat→Prop} {av:AV} {v:Value} (h:At w S av v) (h1:∀ c∈av.cells,c.one=true):av.cells.length=v.cells.size∧o8 w S av.cells v.cells:=by
 have single:∀ (c:AV) (u:Value),At w S c u→o8 w S [c] #[u]:=by
  intro c u hc i c' u' h1 h2
  match i with
  | 0=>simp at h1 h2;subst h1;subst h2;exact hc
  | i+1=>simp at h1
 cases h with
 | agg cs vs hl h=>exact ⟨hl,h⟩
 | raw v=>
   have:v.oneCell'=true:=h1 (.raw v) (by simp [AV.cells])
   have hv:v.cells=#[v]:=by cases v<;>first | rfl | (simp [Value.oneCell'] at this)
   rw [hv]
   exact ⟨rfl,single _ _ (.raw v)⟩
 | Mf φ v hm g1 g=>
   have this:v.oneCell'=true:=g1 _ _ _ g
   have hv:v.cells=#[v]:=by cases v<;>first | rfl | (simp [Value.oneCell'] at this)
   rw [hv]
   exact ⟨rfl,single _ _ (.Mf φ v hm g1 g)⟩
 | lE cs vs hl h=>exact ⟨rfl,single _ _ (.lE cs vs hl h)⟩
 | int k n=>exact ⟨rfl,single _ _ (.int k n)⟩
 | bool b=>exact ⟨rfl,single _ _ (.bool b)⟩
 | str s=>exact ⟨rfl,single _ _ (.str s)⟩
 | list sz xs a cap vs iV hl h hm hc=>exact ⟨rfl,single _ _ (.list sz xs a cap vs iV hl h hm hc)⟩
 | nil=>exact ⟨rfl,single _ _ .nil⟩
 | ptr b o n hb=>exact ⟨rfl,single _ _ (.ptr b o n hb)⟩
 | Ba sz b hb=>exact ⟨rfl,single _ _ (.Ba sz b hb)⟩
 | sl sz b off len n cap hb g1 g2=>exact ⟨rfl,single _ _ (.sl sz b off len n cap hb g1 g2)⟩
 | Pa sz b off n ad hb=>exact ⟨rfl,single _ _ (.Pa sz b off n ad hb)⟩
 | ch cs ad vs hl h hs hS hm=>exact ⟨rfl,single _ _ (.ch cs ad vs hl h hs hS hm)⟩
 | sQ sz b i o n hb=>exact ⟨rfl,single _ _ (.sQ sz b i o n hb)⟩
 | bV b n hb=>exact ⟨rfl,single _ _ (.bV b n hb)⟩
 | func fn cs vs hl h=>exact ⟨rfl,single _ _ (.func fn cs vs hl h)⟩
theorem yL {w:World} {S:Nat→Prop} {cs:List AV} {vs:Array Value} (hl:cs.length=vs.size) (h:o8 w S cs vs) (h1:∀ c∈cs,c.one=true):∀ v∈vs.toList,v.oneCell'=true:=by
 intro v hv
 obtain ⟨i,hi,he⟩:=List.mem_iff_getElem.1 hv
 have Vh:i < cs.length:=by rw [hl];simpa using hi
 have:=h i cs[i] v (by simp [Vh]) (by rw [← he];simp at hi ⊢)
 exact this.KW (h1 _ (List.getElem_mem Vh))
def kr:List AV→Bool
 | []=>true
 | c :: r=>c.one&&kr r
theorem ey {cs:List AV} (h:kr cs=true):∀ c∈cs,c.one=true:=by
 induction cs with
 | nil=>simp
 | cons x r ih=>
   simp only [kr,b5] at h
   intro c hc
   rcases bt.1 hc with rfl | hc
   ·exact h.1
   ·exact ih h.2 c hc
section rules
variable {P:Program} {all:Array Oper} {rest:List Oper} {n:Nat} {tm:List (Nat×AV)} {hp:Heap} {Q:St→Prop} {d:Nat} {ty:TypeId} {pos:String} {af:Array Edge}
theorem Mm {w:World} {S:Nat→Prop} {hp:Heap} (r:db w S hp) {cs:List AV} {vs:Array Value} (E:TypeId) (hl:cs.length=vs.size) (h:o8 w S cs vs) (h1:∀ c∈cs,c.one=true):
 db (w.alloc (.cells vs E)) S ((⟨some w.heap.size,0⟩,.cells cs) :: hp)∧kS w S hp (w.alloc (.cells vs E)) S ((⟨some w.heap.size,0⟩,.cells cs) :: hp)∧∀ n,S n→S n∧(w.alloc (.cells vs E)).heap[n]? =w.heap[n]?:=by
 have e:=Ext.alloc w (.cells vs E)
 refine pP r e id ⟨h1,w.heap.size,vs,E,rfl,?_,hl.symm,h.mono fun n hn=>⟨hn,e.same n (r.slt n hn)⟩⟩ (.inr ⟨_,rfl,ag _⟩)
 show (w.heap.push _)[w.heap.size]? =_
 simp
theorem XK {x:Operand} {E:TypeId} {av:AV} (hx:de tm x=some av) (h1:kr av.cells=true) (hn:ai d n=true)
 (kk:∀ b:Bk,ae P all rest ⟨n,(d,.ptr b 0) :: tm,(b,.cells av.cells) :: hp⟩ Q):ae P all (⟨some d,.box E x,ty,pos,af,none⟩ :: rest) ⟨n,tm,hp⟩ Q:=by
 refine ae.IJ rfl fun w S a r=>?_
 have hv:=bj (σ:=⟨n,tm,hp⟩) r hx
 obtain ⟨hl,sB⟩:=wP hv (ey h1)
 obtain ⟨g1,g2,g3⟩:=Mm r.hp E hl sB (ey h1)
 refine ⟨.pointer (some ⟨w.heap.size,0,none⟩),w.alloc (.cells (a.eval x).cells E),S,_,?_,(r.heap g3 g1).put hn (.ptr ⟨some w.heap.size,0⟩ 0 _ rfl),g2,kk ⟨some w.heap.size,0⟩⟩
 simp [execOp,Instr.box,newVar,newRow]
def A4:Value→AV
 | .agg cs=>.agg (cs.toList.map Up)
 | v=>Up v
theorem rR (w:World) (S:Nat→Prop) (z:Value) (h1:∀ c∈(A4 z).cells,c.one=true):(A4 z).cells.length=z.cells.size∧o8 w S (A4 z).cells z.cells:=by
 by_cases hz:∃ cs,z=.agg cs
 ·obtain ⟨cs,rfl⟩:=hz
  refine ⟨by simp [A4,AV.cells,Value.cells],?_⟩
  intro i c v hc hv
  simp only [A4,AV.cells,List.getElem?_map,Array.getElem?_toList] at hc
  simp only [Value.cells] at hv
  rw [hv] at hc
  simp at hc
  subst hc
  exact Hf _ _ _
 ·have KZ:A4 z=Up z:=by
   cases z<;>first | rfl | (exact (hz ⟨_,rfl⟩).elim)
  rw [KZ] at h1 ⊢
  exact wP (Hf w S z) h1
theorem Sl {E:TypeId} {i:TypeInfo} {z:Value} [aX P E i] (hz:i.zero=some z) (h1:kr (A4 z).cells=true) (hn:ai d n=true)
 (kk:∀ b:Bk,ae P all rest ⟨n,(d,.ptr b 0) :: tm,(b,.cells (A4 z).cells) :: hp⟩ Q):ae P all (⟨some d,.alloc E,ty,pos,af,none⟩ :: rest) ⟨n,tm,hp⟩ Q:=by
 refine ae.IJ rfl fun w S a r=>?_
 obtain ⟨hl,sB⟩:=rR w S z (ey h1)
 obtain ⟨g1,g2,g3⟩:=Mm r.hp E hl sB (ey h1)
 refine ⟨.pointer (some ⟨w.heap.size,0,none⟩),w.alloc (.cells z.cells E),S,_,?_,(r.heap g3 g1).put hn (.ptr ⟨some w.heap.size,0⟩ 0 _ rfl),g2,kk ⟨some w.heap.size,0⟩⟩
 have hi:=aX.h (P:=P) (t:=E)
 simp [execOp,Instr.alloc,newVar,newRow,zeroValue,typeInfo,hi,hz]
theorem nX (m o k:Nat):(⟨m,o,none⟩:Addr).add k=⟨m,o+k,none⟩:=Addr.add_lit m o k
theorem yM {s:TypeId} {fs:Array Field} {j:Nat} {f:Field} {i:TypeInfo} (hs:P.underlying s=some (.struct fs)) (hj:fs[j]? =some f) (hi:P.info? f.type=some i) (h0:i.size≠0) (ad:Addr) (w:World):
 (Instr.fieldAt s (.pointer (some ad)) j).run P w=.ok (.pointer (some (ad.add f.offset))) w:=by
 simp [Instr.fieldAt,run_underlying hs,hj,Instr.sureAddr,fieldPlace,sizeOf,typeInfo,hi,h0]
class ou (P:Program) (s:TypeId) (j:Nat) (off:outParam Nat):Prop where
 h:∃ fs f i,P.underlying s=some (.struct fs)∧fs[j]? =some f∧P.info? f.type=some i∧(ac i.size 0)=false∧f.offset=off
theorem IP {x:Operand} {s:TypeId} {j off:Nat} {b:Bk} {o:Nat} [ou P s j off]
 (hx:de tm x=some (.ptr b o)):QV P ⟨some d,.fieldAddr s x j,ty,pos,af,none⟩ ⟨n,tm,hp⟩ (.ptr b (o+off)):=
 (fun w S a r=>by
  obtain ⟨fs,f,i,hu,hj,hi,h0,rfl⟩:=ou.h (P:=P) (s:=s) (j:=j)
  obtain ⟨m,h1,h2⟩:=(bj (σ:=⟨n,tm,hp⟩) r hx).tz
  refine ⟨.pointer (some ⟨m,o+f.offset,none⟩),fun w1 _=>?_,.ptr b _ m h1⟩
  have hr:=yM (P:=P) hu hj hi (DY h0) ⟨m,o,none⟩ w1
  rw [nX] at hr
  simp [execOp,h2,hr])
theorem Hi {x:Operand} {s:TypeId} {j off sz:Nat} {b:Bk} {q o:Nat} [ou P s j off]
 (hx:de tm x=some (.sQ sz b q o)):QV P ⟨some d,.fieldAddr s x j,ty,pos,af,none⟩ ⟨n,tm,hp⟩ (.sQ sz b q (o+off)):=
 (fun w S a r=>by
  obtain ⟨fs,f,i,hu,hj,hi,h0,rfl⟩:=ou.h (P:=P) (s:=s) (j:=j)
  obtain ⟨m,h1,h2⟩:=(bj (σ:=⟨n,tm,hp⟩) r hx).wM
  refine ⟨.pointer (some ⟨m,q * sz+(o+f.offset),none⟩),fun w1 _=>?_,.sQ sz b q _ m h1⟩
  have hr:=yM (P:=P) hu hj hi (DY h0) ⟨m,q * sz+o,none⟩ w1
  rw [nX,cQ] at hr
  simp [execOp,h2,hr])
theorem Ny {w:World} {S:Nat→Prop} {cs:List AV} {ad:Addr} {vs:List Value} (k:Nat) (hl:cs.length=vs.length) (h:∀ (i:Nat) c u,cs[i]? =some c→vs[i]? =some u→At w S c u) (hs:ad.spot=none) (hS:S ad.block)
 (hm:∀ (i:Nat) u,vs[i]? =some u→w.cell? ⟨ad.block,ad.off+i,none⟩=some u):At w S (.ch (cs.drop k)) (.pointer (some (ad.add k))):=by
 obtain ⟨bk,of,sp⟩:=ad
 simp only at hs hS hm
 subst hs
 rw [nX]
 refine .ch _ _ (vs.drop k) (by simp [hl]) (fun i c u hc hu=>h (k+i) c u (by simpa using hc) (by simpa using hu)) rfl hS (fun i u hu=>?_)
 have:=hm (k+i) u (by simpa using hu)
 simpa [cQ] using this
theorem Hj {x:Operand} {s:TypeId} {j off:Nat} {cs:List AV} [ou P s j off]
 (hx:de tm x=some (.ch cs)):QV P ⟨some d,.fieldAddr s x j,ty,pos,af,none⟩ ⟨n,tm,hp⟩ (.ch (cs.drop off)):=
 (fun w S a r=>by
  obtain ⟨fs,f,i,hu,hj,hi,h0,rfl⟩:=ou.h (P:=P) (s:=s) (j:=j)
  obtain ⟨ad,vs,h2,h3,h4,h5,h6,h7⟩:=(bj (σ:=⟨n,tm,hp⟩) r hx).yJ
  refine ⟨.pointer (some (ad.add f.offset)),fun w1 _=>?_,Ny f.offset h3 h4 h5 h6 h7⟩
  have hr:=yM (P:=P) hu hj hi (DY h0) ad w1
  simp [execOp,h2,hr])
def TypeDesc.jA:TypeDesc→Bool
 | .struct _=>true
 | .array _ _=>true
 | _=>false
theorem qP {t:TypeId} {D:TypeDesc} (ht:P.underlying t=some D) (hD:TypeDesc.jA D=false) {ad:Addr} {v:Value} {w:World} (hc:w.cell? ad=some v):(loadVar t ad).run P w=.ok v w:=by
 have:(isAgg t).run P w=.ok false w:=by
  simp only [isAgg,Sem.run_bind,run_underlying ht,Result.andThen_ok]
  cases D<;>first | rfl | (simp [TypeDesc.jA] at hD)
 simp [loadVar,this,hc]
theorem jW {t:TypeId} {D:TypeDesc} {i:TypeInfo} (ht:P.underlying t=some D) (hD:TypeDesc.jA D=true) (hi:P.info? t=some i) {ad:Addr} {vs:List Value} {w:World} (hl:vs.length=i.size)
 (hc:∀ (j:Nat) v,vs[j]? =some v→w.cell? (ad.add j)=some v):(loadVar t ad).run P w=.ok (.agg vs.toArray) w:=by
 have h1:(isAgg t).run P w=.ok true w:=by
  simp only [isAgg,Sem.run_bind,run_underlying ht,Result.andThen_ok]
  cases D<;>first | rfl | (simp [TypeDesc.jA] at hD)
 have h2:=run_loadCells_list (P:=P) w ad vs hc
 rw [hl] at h2
 simp [loadVar,h1,sizeOf,typeInfo,hi,h2]
theorem Sm {w:World} {m:Nat} {ob:Obj} (h:w.heap[m]? =some ob):m < w.heap.size:=by
 rcases c6 m w.heap.size with h' | h'
 ·exact h'
 ·simp [c7 h'] at h
theorem Ext.at {w w':World} (e:Ext w w') {m:Nat} {ob:Obj} (h:w.heap[m]? =some ob):w'.heap[m]? =some ob:=by rw [e.same m (Sm h)];exact h
theorem Ext.cell {w w':World} (e:Ext w w') {m o:Nat} {v:Value} (h:w.cell? ⟨m,o,none⟩=some v):w'.cell? ⟨m,o,none⟩=some v:=by
 rw [cell_of_heap (e.same m (World.block_lt_of_cell? _ _ h))];exact h
theorem uW {w:World} {S:Nat→Prop} {hp:Heap} (r:db w S hp) {b:Bk} {cs:List AV} (f:mD hp b (.cells cs)):(∀ c∈cs,c.one=true)∧∃ m vs E,b.cw=some m∧w.heap[m]? =some (.cells vs E (0,0))∧vs.size=cs.length∧o8 w S cs vs:=
 r.holds _ f.mem
theorem nY {w:World} {m:Nat} {vs:Array Value} {E:TypeId} (h:w.heap[m]? =some (.cells vs E (0,0))) (o:Nat):w.cell? ⟨m,o,none⟩=vs[o]?:=cell_of_row w m o vs E (0,0) h
theorem aN {t:TypeId} {D:TypeDesc} {x:Operand} {b:Bk} {o:Nat} {cs:List AV} {av:AV} [aB P t D] (hD:TypeDesc.jA D=false) (hx:de tm x=some (.ptr b o)) (f:mD hp b (.cells cs)) (ho:cs[o]? =some av):QV P ⟨some d,.load t x,ty,pos,af,none⟩ ⟨n,tm,hp⟩ (av):=
 (fun w S a r=>by
  obtain ⟨m,h1,h2⟩:=(bj (σ:=⟨n,tm,hp⟩) r hx).tz
  obtain ⟨_,m',vs,E,g1,g2,g3,g4⟩:=uW r.hp f
  obtain rfl:m'=m:=by rw [g1] at h1;exact aa h1
  have iW:o < vs.size:=by rw [g3];exact (ap.1 ho).1
  have hv:vs[o]? =some vs[o]:=by simp [iW]
  refine ⟨vs[o],fun w1 ex=>?_,g4 o av _ ho hv⟩
  have:=qP (P:=P) (aB.h (P:=P) (t:=t)) hD (w:=w1) (ad:=⟨m',o,none⟩) (v:=vs[o]) (by rw [nY (ex.at g2),hv])
  simp [execOp,h2,Instr.loadAt,Instr.sureAddr,this])
theorem aG {t:TypeId} {D:TypeDesc} {i:TypeInfo} {x:Operand} {b:Bk} {cs:List AV} [aB P t D] [aX P t i] (hD:TypeDesc.jA D=true) (hx:de tm x=some (.ptr b 0)) (f:mD hp b (.cells cs)) (ho:ac cs.length i.size=true):QV P ⟨some d,.load t x,ty,pos,af,none⟩ ⟨n,tm,hp⟩ (.agg cs):=
 (fun w S a r=>by
  obtain ⟨m,h1,h2⟩:=(bj (σ:=⟨n,tm,hp⟩) r hx).tz
  obtain ⟨_,m',vs,E,g1,g2,g3,g4⟩:=uW r.hp f
  obtain rfl:m'=m:=by rw [g1] at h1;exact aa h1
  have hlen:vs.toList.length=i.size:=by simp [g3];exact aw ho
  refine ⟨.agg vs,fun w1 ex=>?_,.agg cs vs g3.symm g4⟩
  have:=jW (P:=P) (aB.h (P:=P) (t:=t)) hD (aX.h (P:=P) (t:=t)) (w:=w1) (ad:=⟨m',0,none⟩) (vs:=vs.toList) hlen (fun j v hv=>by rw [nX,nY (ex.at g2)];simpa using hv)
  simp [execOp,h2,Instr.loadAt,Instr.sureAddr,this])
theorem Dk {t:TypeId} {D:TypeDesc} {i:TypeInfo} {x:Operand} {b:Bk} {o:Nat} {cs:List AV} [aB P t D] [aX P t i] (hD:TypeDesc.jA D=true) (hx:de tm x=some (.ptr b o)) (f:mD hp b (.cells cs)) (ho:ce (o+i.size) cs.length=true):QV P ⟨some d,.load t x,ty,pos,af,none⟩ ⟨n,tm,hp⟩ (.agg ((cs.drop o).take i.size)):=
 (fun w S a r=>by
  obtain ⟨m,h1,h2⟩:=(bj (σ:=⟨n,tm,hp⟩) r hx).tz
  obtain ⟨_,m',vs,E,g1,g2,g3,g4⟩:=uW r.hp f
  obtain rfl:m'=m:=by rw [g1] at h1;exact aa h1
  have hle:o+i.size≤cs.length:=cf ho
  have hlen:((vs.toList.drop o).take i.size).length=i.size:=by simp [g3];omega
  refine ⟨.agg ((vs.toList.drop o).take i.size).toArray,fun w1 ex=>?_,.agg _ _ (by simp [g3]) (fun j c v hc hv=>?_)⟩
  ·have:=jW (P:=P) (aB.h (P:=P) (t:=t)) hD (aX.h (P:=P) (t:=t)) (w:=w1) (ad:=⟨m',o,none⟩) (vs:=(vs.toList.drop o).take i.size) hlen (fun j v hv=>by
    rw [nX,nY (ex.at g2)]
    simp only [aI,be] at hv
    split at hv
    ·simpa using hv
    ·cases hv)
   simp [execOp,h2,Instr.loadAt,Instr.sureAddr,this]
  ·simp only [bv,aI,be] at hc hv
   split at hv
   ·rename_i iW;rw [if_pos iW] at hc;exact g4 (o+j) c v hc (by simpa using hv)
   ·cases hv)
theorem aQ {t:TypeId} {D:TypeDesc} {x:Operand} {cs:List AV} {av:AV} [aB P t D] (hD:TypeDesc.jA D=false) (hx:de tm x=some (.ch cs)) (ho:cs[0]? =some av):QV P ⟨some d,.load t x,ty,pos,af,none⟩ ⟨n,tm,hp⟩ (av):=
 (fun w S a r=>by
  obtain ⟨ad,vs,h2,h3,h4,h5,h6,h7⟩:=(bj (σ:=⟨n,tm,hp⟩) r hx).yJ
  have iW:0 < vs.length:=by rw [← h3];exact (ap.1 ho).1
  have hv:vs[0]? =some vs[0]:=by simp [iW]
  refine ⟨vs[0],fun w1 ex=>?_,h4 0 av _ ho hv⟩
  have hc:=ex.cell (h7 0 _ hv)
  have he:(⟨ad.block,ad.off+0,none⟩:Addr)=ad:=by cases ad;simp at h5;simp [h5]
  rw [he] at hc
  have:=qP (P:=P) (aB.h (P:=P) (t:=t)) hD hc
  simp [execOp,h2,Instr.loadAt,Instr.sureAddr,this])
theorem aL {t:TypeId} {D:TypeDesc} {i:TypeInfo} {x:Operand} {cs:List AV} [aB P t D] [aX P t i] (hD:TypeDesc.jA D=true) (hx:de tm x=some (.ch cs)) (ho:ac cs.length i.size=true):QV P ⟨some d,.load t x,ty,pos,af,none⟩ ⟨n,tm,hp⟩ (.agg cs):=
 (fun w S a r=>by
  obtain ⟨ad,vs,h2,h3,h4,h5,h6,h7⟩:=(bj (σ:=⟨n,tm,hp⟩) r hx).yJ
  refine ⟨.agg vs.toArray,fun w1 ex=>?_,.agg cs _ (by simp [h3]) (fun j c v hc hv=>h4 j c v hc (by simpa using hv))⟩
  have:=jW (P:=P) (aB.h (P:=P) (t:=t)) hD (aX.h (P:=P) (t:=t)) (w:=w1) (ad:=ad) (vs:=vs) (by rw [← h3];exact aw ho) (fun j v hv=>by
   obtain ⟨bk,of,sp⟩:=ad
   simp only at h5;subst h5
   rw [nX];exact ex.cell (h7 j v hv))
  simp [execOp,h2,Instr.loadAt,Instr.sureAddr,this])
theorem Cc {t:TypeId} {D:TypeDesc} {i:TypeInfo} {x:Operand} {cs:List AV} [aB P t D] [aX P t i] (hD:TypeDesc.jA D=true) (hx:de tm x=some (.ch cs)) (ho:ce i.size cs.length=true):QV P ⟨some d,.load t x,ty,pos,af,none⟩ ⟨n,tm,hp⟩ (.agg (cs.take i.size)):=
 (fun w S a r=>by
  obtain ⟨ad,vs,h2,h3,h4,h5,h6,h7⟩:=(bj (σ:=⟨n,tm,hp⟩) r hx).yJ
  have hle:i.size≤cs.length:=cf ho
  have tk:∀ {α:Type} (l:List α) (k j:Nat) (y:α),(l.take k)[j]? =some y→l[j]? =some y:=by
   intro α l k j y h
   rw [aI] at h
   split at h
   ·exact h
   ·cases h
  refine ⟨.agg (vs.take i.size).toArray,fun w1 ex=>?_,.agg _ _ (by simp [h3]) (fun j c v hc hv=>h4 j c v (tk _ _ _ _ hc) (tk _ _ _ _ (by simpa using hv)))⟩
  have:=jW (P:=P) (aB.h (P:=P) (t:=t)) hD (aX.h (P:=P) (t:=t)) (w:=w1) (ad:=ad) (vs:=vs.take i.size) (by simp;omega) (fun j v hv=>by
   obtain ⟨bk,of,sp⟩:=ad
   simp only at h5;subst h5
   rw [nX];exact ex.cell (h7 j v (tk _ _ _ _ hv)))
  simp [execOp,h2,Instr.loadAt,Instr.sureAddr,this])
def qh (cs:List AV) (o:Nat) (new:List AV):List AV:=cs.take o++new++cs.drop (o+new.length)
theorem DZ {w:World} {S:Nat→Prop} {cs new:List AV} {vs uy:Array Value} (o:Nat) (hl:vs.size=cs.length) (h:o8 w S cs vs) (FI:new.length=uy.size) (h':o8 w S new uy) (ho:o+new.length≤cs.length):
 o8 w S (qh cs o new) (vs.toList.take o++uy.toList++vs.toList.drop (o+uy.toList.length)).toArray:=by
 intro i c v hc hv
 simp only [qh,bv] at hc hv
 have l1:(cs.take o).length=o:=by simp;omega
 have l2:(vs.toList.take o).length=o:=by simp;omega
 have l3:uy.toList.length=new.length:=by simp [FI]
 rw [bw] at hc hv
 by_cases h1:i < o
 ·rw [bY (by omega)] at hc hv
  rw [aI,if_pos h1] at hc hv
  exact h i c v hc (by simpa using hv)
 ·rw [b9 (by omega)] at hc hv
  rw [l1] at hc
  rw [l2] at hv
  by_cases h2:i - o < new.length
  ·rw [bY (by omega)] at hc hv
   exact h' (i - o) c v hc (by simpa using hv)
  ·rw [b9 (by omega)] at hc hv
   rw [l3] at hv
   rw [be] at hc hv
   rw [show o+new.length+(i - o - new.length)=i from by omega] at hc
   rw [show o+new.length+(i - o - new.length)=i from by omega] at hv
   exact h i c v hc (by simpa using hv)
theorem IQ {t:TypeId} {i:TypeInfo} {x y:Operand} {b:Bk} {o:Nat} {cs:List AV} {av:AV} {cL:Heap} [aX P t i] (hx:de tm x=some (.ptr b o)) (hy:de tm y=some av) (h1:kr av.cells=true) (iV:ac av.cells.length i.size=true)
 (u:na hp b (.cells cs) b (.cells (qh cs o av.cells)) cL) (ho:ce (o+av.cells.length) cs.length=true) (kk:ae P all rest ⟨n,tm,cL⟩ Q):ae P all (⟨none,.store t x y,ty,pos,af,none⟩ :: rest) ⟨n,tm,hp⟩ Q:=by
 refine ae.act rfl rfl (aK:=⟨n,tm,cL⟩) (fun w S a r=>?_) kk
 obtain ⟨m,e1,e2⟩:=(bj (σ:=⟨n,tm,hp⟩) r hx).tz
 obtain ⟨g0,m',vs,E,g1,g2,g3,g4⟩:=uW r.hp u.lS
 obtain rfl:m'=m:=by rw [g1] at e1;exact aa e1
 have hv:=bj (σ:=⟨n,tm,hp⟩) r hy
 obtain ⟨hl,sB⟩:=wP hv (ey h1)
 have hle:o+av.cells.length≤cs.length:=cf ho
 have vE:=yL hl sB (ey h1)
 have FJ:=run_storeCells_at (P:=P) m' o E (a.eval y).cells.toList 0 vs w g2 (by simp;omega) vE
 simp only [ci] at FJ
 have Pg:(a.eval y).cells.size=i.size:=by rw [← hl];exact aw iV
 have XL:=fun (w':World) (ha:o8 w' S cs vs) (hb:o8 w' S av.cells (a.eval y).cells)=>DZ o g3 ha hl hb hle
 have Uu:(vs.toList.take o++(a.eval y).cells.toList++vs.toList.drop (o+(a.eval y).cells.toList.length)).toArray.size=(qh cs o av.cells).length:=by
  simp [qh];omega
 generalize (vs.toList.take o++(a.eval y).cells.toList++vs.toList.drop (o+(a.eval y).cells.toList.length)).toArray=CP at FJ XL Uu
 have c:GB w (w.setRow m' CP) b.cw:=⟨⟨rfl,rfl,rfl,by simp,fun k hk A2=>setRow_other w m' k _ (fun e=>A2 (by rw [e1,e]))⟩,fun _=>ag _⟩
 have k1:∀ n,S n→S n∧(w.setRow m' CP).heap[n]? =w.heap[n]?:=by
  intro k hk
  refine ⟨hk,setRow_other w m' k _ (fun e=>?_)⟩
  subst e
  exact (r.hp.sep _ u.lS.mem k (fV e1)).1 hk
 have hh:=tA r.hp u c id id ⟨?_,m',CP,E,e1,setRow_heap w m' vs _ E _ g2,Uu,XL _ (g4.mono k1) (sB.mono k1)⟩ (.inl rfl)
 ·refine ⟨w.setRow m' CP,S,?_,r.heap hh.2.2 hh.1,hh.2.1⟩
  simp [execOp,e2,Instr.storeAt,Instr.sureAddr,storeVar,sizeOf,typeInfo,aX.h (P:=P) (t:=t),Pg,FJ]
 ·intro c hc
  simp only [qh,a7] at hc
  rcases hc with (hc | hc) | hc
  ·exact g0 c (cS hc)
  ·exact ey h1 c hc
  ·exact g0 c (cn hc)
end rules
def Ph (xs:List AV) (i:Int):Option AV:=if 0≤i then xs[i.toNat]? else none
theorem Nz {xs:List AV} {i:Int} {x:AV} (h:Ph xs i=some x):0≤i∧i < xs.length∧xs[i.toNat]? =some x:=by
 unfold Ph at h
 split at h
 ·rename_i h0
  have:=(ap.1 h).1
  exact ⟨h0,by omega,h⟩
 ·cases h
theorem CQ {P:Program} {t e:TypeId} {i:TypeInfo} (ht:P.underlying t=some (.slice e)) (hi:P.info? e=some i) (ad:Addr) (len cap:Nat) (k:IntKind) (j:Int) (h0:0≤j) (h1:j < len) (w:World):
 (Instr.indexAt t (.slice (some ad) len cap) (.int k j)).run P w=.ok (.pointer (some (ad.add (j.toNat * i.size)))) w:=by
 simp [Instr.indexAt,asIntOf,run_underlying ht,h0,h1,sizeOf,typeInfo,hi]
section rules
variable {P:Program} {all:Array Oper} {rest:List Oper} {n:Nat} {tm:List (Nat×AV)} {hp:Heap} {Q:St→Prop} {d:Nat} {ty:TypeId} {pos:String} {af:Array Edge}
theorem Hk {t e:TypeId} {i:TypeInfo} {x y:Operand} {xs:List AV} {k:IntKind} {j:Int} {av:AV} {sz:Nat} [aB P t (.slice e)] [aX P e i] (hx:de tm x=some (.list sz xs)) (iV:ac i.size sz=true) (hy:de tm y=some (.int k j))
 (hg:Ph xs j=some av) (h0:ai 0 sz=true):QV P ⟨some d,.indexAddr t x y,ty,pos,af,none⟩ ⟨n,tm,hp⟩ (.ch av.cells):=
 (fun w S a r=>by
  obtain rfl:i.size=sz:=aw iV
  obtain ⟨g0,g1,g2⟩:=Nz hg
  obtain ⟨oa,cap,vs,e1,e2,e3,e4,e5,e6⟩:=(bj (σ:=⟨n,tm,hp⟩) r hx).yI
  have tQ:0 < i.size:=by simpa using h0
  have qn:av∈xs:=b6 g2
  have Hl:=cN e2
  have Af:j.toNat < xs.length:=by omega
  have hmul:(j.toNat+1) * i.size≤xs.length * i.size:=bx _ (by omega)
  rw [al,bz] at hmul
  have hb:j.toNat * i.size < vs.length:=by rw [← e3,Hl];omega
  obtain ⟨ad,rfl,Pb,hS,_⟩:=e5 (j.toNat * i.size) _ (List.getElem?_eq_getElem hb)
  obtain ⟨bk,of,sp⟩:=ad
  simp only at Pb hS
  subst Pb
  refine ⟨.pointer (some ⟨bk,of+j.toNat * i.size,none⟩),fun w1 _=>?_,.ch _ _ ((vs.drop (j.toNat * i.size)).take i.size) ?_ ?_ rfl hS ?_⟩
  ·have:=CQ (P:=P) (aB.h (P:=P) (t:=t)) (aX.h (P:=P) (t:=e)) ⟨bk,of,none⟩ xs.length cap k j g0 g1 w1
   rw [nX] at this
   simp [execOp,e1,(bj (σ:=⟨n,tm,hp⟩) r hy).eP,this]
  ·rw [(e2 av qn).1];simp;omega
  ·intro q c u hc hu
   have hq:q < i.size:=by rw [← (e2 av qn).1];exact (ap.1 hc).1
   have hf:=qm e2 g2 q hq
   rw [hc] at hf
   rw [aI,if_pos hq,be] at hu
   exact e4 _ c u hf hu
  ·intro q u hu
   rw [aI] at hu
   split at hu
   ·rw [be] at hu
    obtain ⟨ad',h1,h2,h3,h4⟩:=e5 _ u hu
    obtain rfl:=aa h1
    simpa [cQ] using h4
   ·cases hu)
theorem D0 {t e:TypeId} {i:TypeInfo} {x y:Operand} {k:IntKind} {j:Int} {sz off len:Nat} {b:Bk} [aB P t (.slice e)] [aX P e i] (hx:de tm x=some (.sl sz b off len)) (iV:ac i.size sz=true) (hy:de tm y=some (.int k j))
 (h0:0≤j∧j < (len:Int)):QV P ⟨some d,.indexAddr t x y,ty,pos,af,none⟩ ⟨n,tm,hp⟩ (.sQ sz b (off+j.toNat) 0):=
 (fun w S a r=>by
  obtain rfl:i.size=sz:=aw iV
  obtain ⟨oa,cap,e1,e2⟩:=(bj (σ:=⟨n,tm,hp⟩) r hx).u7
  rcases e2 with ⟨_,_,hl,_⟩ | ⟨m,hb,rfl,h1,h2⟩ | ⟨m,ad,hb,_,hl,_⟩
  ·omega
  ·refine ⟨.pointer (some ⟨m,(off+j.toNat) * i.size+0,none⟩),fun w1 _=>?_,.sQ _ _ _ _ m hb⟩
   have:=CQ (P:=P) (aB.h (P:=P) (t:=t)) (aX.h (P:=P) (t:=e)) ⟨m,off * i.size,none⟩ len cap k j h0.1 h0.2 w1
   rw [nX,← al] at this
   simp [execOp,e1,(bj (σ:=⟨n,tm,hp⟩) r hy).eP,this]
  ·omega)
theorem rn {w:World} {S:Nat→Prop} {hp:Heap} (r:db w S hp) {b:Bk} {sz:Nat} {xs:List AV} (f:mD hp b (.arr sz xs)∨mD hp b (.Bb sz xs)):(∀ x∈xs,El sz x)∧xs.length≤b.cap∧
 ((b.cw=none∧b.cap=0)∨∃ m vs E,b.cw=some m∧w.heap[m]? =some (.cells vs E (0,0))∧vs.size=b.cap * sz∧o8 w S (flat xs) vs):=by
 rcases f with f | f<;>exact r.holds _ f.mem
theorem IS {t:TypeId} {D:TypeDesc} {x:Operand} {b:Bk} {sz q o:Nat} {xs:List AV} {el av:AV} [aB P t D] (hD:TypeDesc.jA D=false) (hx:de tm x=some (.sQ sz b q o)) (f:mD hp b (.arr sz xs)∨mD hp b (.Bb sz xs))
 (hq:xs[q]? =some el) (ho:el.cells[o]? =some av):QV P ⟨some d,.load t x,ty,pos,af,none⟩ ⟨n,tm,hp⟩ (av):=
 (fun w S a r=>by
  obtain ⟨m,h1,h2⟩:=(bj (σ:=⟨n,tm,hp⟩) r hx).wM
  obtain ⟨g0,g1,⟨g2,_⟩ | ⟨m',vs,E,g2,g3,g4,g5⟩⟩:=rn r.hp f
  ·rw [g2] at h1;cases h1
  ·obtain rfl:m'=m:=by rw [g2] at h1;exact aa h1
   have x7:=g0 el (b6 hq)
   have hos:o < sz:=by rw [← x7.1];exact (ap.1 ho).1
   have hqx:q < xs.length:=(ap.1 hq).1
   have hf:=qm g0 hq o hos
   rw [ho] at hf
   have hmul:(q+1) * sz≤b.cap * sz:=bx _ (by omega)
   rw [al,bz] at hmul
   have iW:q * sz+o < vs.size:=by omega
   have hv:vs[q * sz+o]? =some vs[q * sz+o]:=by simp [iW]
   refine ⟨vs[q * sz+o],fun w1 ex=>?_,g5 _ av _ hf hv⟩
   have:=qP (P:=P) (aB.h (P:=P) (t:=t)) hD (w:=w1) (ad:=⟨m',q * sz+o,none⟩) (v:=vs[q * sz+o]) (by rw [nY (ex.at g3),hv])
   simp [execOp,h2,Instr.loadAt,Instr.sureAddr,this])
theorem Dl {t:TypeId} {D:TypeDesc} {i:TypeInfo} {x:Operand} {b:Bk} {sz q:Nat} {xs cs:List AV} [aB P t D] [aX P t i] (hD:TypeDesc.jA D=true) (hx:de tm x=some (.sQ sz b q 0)) (f:mD hp b (.arr sz xs)∨mD hp b (.Bb sz xs)) (iV:ac i.size sz=true)
 (hq:xs[q]? =some (.agg cs)):QV P ⟨some d,.load t x,ty,pos,af,none⟩ ⟨n,tm,hp⟩ (.agg cs):=
 (fun w S a r=>by
  obtain ⟨m,h1,h2⟩:=(bj (σ:=⟨n,tm,hp⟩) r hx).wM
  obtain ⟨g0,g1,⟨g2,_⟩ | ⟨m',vs,E,g2,g3,g4,g5⟩⟩:=rn r.hp f
  ·rw [g2] at h1;cases h1
  ·obtain rfl:m'=m:=by rw [g2] at h1;exact aa h1
   have x7:=g0 (.agg cs) (b6 hq)
   have Ag:cs.length=sz:=x7.1
   have hi:i.size=sz:=aw iV
   have hqx:q < xs.length:=(ap.1 hq).1
   have hmul:(q+1) * sz≤b.cap * sz:=bx _ (by omega)
   rw [al,bz] at hmul
   have hlen:((vs.toList.drop (q * sz)).take sz).length=i.size:=by simp;omega
   refine ⟨.agg ((vs.toList.drop (q * sz)).take sz).toArray,fun w1 ex=>?_,.agg _ _ (by simp;omega) (fun j c v hc hv=>?_)⟩
   ·have:=jW (P:=P) (aB.h (P:=P) (t:=t)) hD (aX.h (P:=P) (t:=t)) (w:=w1) (ad:=⟨m',q * sz+0,none⟩) (vs:=(vs.toList.drop (q * sz)).take sz) hlen (fun j v hv=>by
     rw [nX,nY (ex.at g3)]
     simp only [aI,be] at hv
     split at hv
     ·simpa using hv
     ·cases hv)
    simp only [ci] at this
    simp [execOp,h2,Instr.loadAt,Instr.sureAddr,this]
   ·simp only [bv,aI,be] at hv
    split at hv
    ·rename_i iW
     have hf:=qm g0 hq j iW
     rw [show (AV.agg cs).cells=cs from rfl,hc] at hf
     exact g5 _ c v hf (by simpa using hv)
    ·cases hv)
theorem IT (off:Nat):∀ (l:List Value) (j:Nat) (cs:Array Value),off+j+l.length≤cs.size→
 (l.zipIdx j).foldl (fun (cs:Array Value) (p:Value×Nat)=>cs.setIfInBounds (off+p.2) p.1) cs=(cs.toList.take (off+j)++l++cs.toList.drop (off+j+l.length)).toArray
 | [],j,cs,h=>by simp
 | v :: l,j,cs,h=>by
   simp only [cz] at h
   rw [List.zipIdx_cons,List.foldl_cons,IT off l (j+1) _ (by simp;omega)]
   have iW:off+j < cs.size:=by omega
   apply Array.ext'
   simp only [Array.toList_setIfInBounds]
   rw [show off+(j+1)=(off+j)+1 from by omega]
   rw [List.take_add_one,List.take_set_of_le (ag _),List.drop_set_of_lt (by omega)]
   simp [iW,bw]
   rw [show off+j+1+l.length=off+j+(l.length+1) from by omega]
theorem Gc {place:Nat→Option (Nat×Nat)} {cells:Array Value} {i off size:Nat} {v:Value} {rest:List (Nat×Value)} (hp:place i=some (off,size)) (hs:v.cells.size=size) (ho:off+size≤cells.size):
 Instr.fill place cells ((i,v) :: rest)=Instr.fill place (cells.toList.take off++v.cells.toList++cells.toList.drop (off+v.cells.toList.length)).toArray rest:=by
 rw [Instr.fill,hp]
 simp only
 rw [if_neg (by simp [hs];omega)]
 congr 1
 have:=IT off v.cells.toList 0 cells (by simp [hs];omega)
 simp only [ci] at this
 rw [← this,← Array.toList_zipIdx,Array.foldl_toList]
def Gd (pl:List (Nat×Nat)):List AV→List (Nat×AV)→Option (List AV)
 | cells,[]=>some cells
 | cells,(i,v) :: rest=>match pl[i]? with
   | none=>none
   | some (off,size)=>match ac v.cells.length size&&ce (off+v.cells.length) cells.length&&kr v.cells with
     | true=>Gd pl (qh cells off v.cells) rest
     | false=>none
def WW (tm:List (Nat×AV)):List (Nat×Operand)→Option (List (Nat×AV))
 | []=>some []
 | (i,x) :: r=>match de tm x,WW tm r with
   | some a,some l=>some ((i,a) :: l)
   | _,_=>none
theorem Ge {w:World} {S:Nat→Prop} {σ:St} {a:Act} (r:fh w S σ a) (pl:List (Nat×Nat)):∀ (parts:List (Nat×Operand)) (l:List (Nat×AV)) (cells Ax:List AV) (vs:Array Value),WW σ.tm parts=some l→Gd pl cells l=some Ax→
 cells.length=vs.size→o8 w S cells vs→(∀ c∈cells,c.one=true)→∃ CP,Instr.fill (pl.toArray[·]?) vs (parts.map fun p=>(p.1,a.eval p.2))=some CP∧Ax.length=CP.size∧o8 w S Ax CP∧∀ c∈Ax,c.one=true
 | [],l,cells,Ax,vs,h1,h2,h3,h4,h5=>by
   simp only [WW,bp] at h1
   subst h1
   simp only [Gd,bp] at h2
   subst h2
   exact ⟨vs,rfl,h3,h4,h5⟩
 | (i,x) :: parts,l,cells,Ax,vs,h1,h2,h3,h4,h5=>by
   simp only [WW] at h1
   split at h1
   ·rename_i av l' ha hl
    obtain rfl:=aa h1
    simp only [Gd] at h2
    split at h2
    ·cases h2
    ·rename_i off size Vi
     split at h2
     ·rename_i hc
      simp only [b5] at hc
      obtain ⟨⟨c1,c2⟩,c3⟩:=hc
      have c1:=aw c1
      have c2:=cf c2
      obtain ⟨hl1,Vj⟩:=wP (bj r ha) (ey c3)
      have Pb:=DZ off h3.symm h4 hl1 Vj c2
      obtain ⟨CP,g1,g2,g3,g4⟩:=Ge r pl parts l' (qh cells off av.cells) Ax _ hl h2 (by simp [qh];omega) Pb (by
       intro c hc
       simp only [qh,a7] at hc
       rcases hc with (hc | hc) | hc
       ·exact h5 c (cS hc)
       ·exact ey c3 c hc
       ·exact h5 c (cn hc))
      refine ⟨CP,?_,g2,g3,g4⟩
      rw [da,Gc (off:=off) (size:=size) (by simpa using Vi) (by rw [← hl1];exact c1) (by omega)]
      exact g1
     ·cases h2
   ·cases h1
def placesOf (P:Program):List Field→Option (List (Nat×Nat))
 | []=>some []
 | f :: r=>match P.info? f.type,placesOf P r with
   | some i,some l=>some ((f.offset,i.size) :: l)
   | _,_=>none
theorem run_places {P:Program}:∀ (fs:List Field) (pl:List (Nat×Nat)) (w:World),placesOf P fs=some pl→(fs.mapM (fun f=>do pure (f.offset,← sizeOf f.type)):Sem (List (Nat×Nat))).run P w=.ok pl w
 | [],pl,w,h=>by simp [placesOf] at h;subst h;simp
 | f :: fs,pl,w,h=>by
   simp only [placesOf] at h
   split at h
   ·rename_i i l hi hl
    obtain rfl:=aa h
    have ih:=run_places fs l w hl
    simp only [List.mapM_cons,Sem.run_bind,sizeOf,typeInfo,hi,run_program,Result.andThen_ok,Sem.run_pure] at ih ⊢
    rw [ih]
    simp
   ·cases h
class lN (P:Program) (t:TypeId) (pl:outParam (List (Nat×Nat))):Prop where
 h:∃ fs,P.underlying t=some (.struct fs)∧placesOf P fs.toList=some pl
theorem Sn {t:TypeId} {i:TypeInfo} {z:Value} {parts:List (Nat×Operand)} {l:List (Nat×AV)} {cs:List AV} {pl:List (Nat×Nat)} [aX P t i] [lN P t pl] (hz:i.zero=some z) (hl:WW tm parts=some l) (h1:kr (A4 z).cells=true)
 (hc:Gd pl (A4 z).cells l=some cs):QV P ⟨some d,.build t parts.toArray,ty,pos,af,none⟩ ⟨n,tm,hp⟩ (.agg cs):=
 (fun w S a r=>by
  obtain ⟨z1,z2⟩:=rR w S z (ey h1)
  obtain ⟨vs,g1,g2,g3,g4⟩:=Ge (σ:=⟨n,tm,hp⟩) r pl parts l _ _ _ hl hc z1 z2 (ey h1)
  refine ⟨.agg vs,fun w1 _=>?_,.agg _ _ g2 g3⟩
  obtain ⟨fs,hu,Vi⟩:=lN.h (P:=P) (t:=t)
  have Zu:=run_places fs.toList pl w1 Vi
  have NA:(fs.mapM (fun f=>do pure (f.offset,← sizeOf f.type)):Sem (Array (Nat×Nat))).run P w1=.ok pl.toArray w1:=by
   have:(fs.mapM (fun f=>do pure (f.offset,← sizeOf f.type)):Sem (Array (Nat×Nat)))=Functor.map List.toArray (fs.toList.mapM (fun f=>do pure (f.offset,← sizeOf f.type))):=by
    rw [← List.mapM_toArray]
   rw [this,Sem.run_map,Zu]
   rfl
  simp only [execOp,Instr.build,Sem.run_bind,zeroValue,typeInfo,run_program,Result.andThen_ok,aX.h (P:=P) (t:=t),hz,Sem.run_pure,run_underlying hu,NA]
  have:((parts.toArray.map fun p=>(p.1,a.eval p.2))).toList=parts.map fun p=>(p.1,a.eval p.2):=by simp
  simp only [this,g1,Sem.run_pure,Result.andThen_ok])
end rules
def Sp (sz:Nat) (x:AV):Bool:=ac x.cells.length sz&&kr x.cells
def Bd (sz:Nat):List AV→Bool
 | []=>true
 | x :: r=>Sp sz x&&Bd sz r
theorem yN {sz:Nat} {x:AV} (h:Sp sz x=true):El sz x:=by
 simp only [Sp,b5] at h
 exact ⟨aw h.1,ey h.2⟩
theorem qX {sz:Nat}:∀ {xs:List AV},Bd sz xs=true→∀ x∈xs,El sz x
 | [],_,x,hx=>by simp at hx
 | y :: r,h,x,hx=>by
   simp only [Bd,b5] at h
   rcases bt.1 hx with rfl | hx
   ·exact yN h.1
   ·exact qX h.2 x hx
def OW (tm:List (Nat×AV)):List (Nat×Operand)→Nat→Option (List AV)
 | [],_=>some []
 | (i,x) :: r,k=>match ac i k,de tm x,OW tm r (k+1) with
   | true,some a,some l=>some (a :: l)
   | _,_,_=>none
theorem yO {w:World} {S:Nat→Prop} {cs ds:List AV} {us vs:List Value} (hl:cs.length=us.length) (h1:o8 w S cs us.toArray) (h2:o8 w S ds vs.toArray):o8 w S (cs++ds) (us++vs).toArray:=by
 intro i c v hc hv
 simp only [bv] at hv
 by_cases hi:i < cs.length
 ·rw [bY hi] at hc
  rw [bY (by omega)] at hv
  exact h1 i c v hc (by simpa using hv)
 ·rw [b9 (by omega)] at hc
  rw [b9 (by omega),← hl] at hv
  exact h2 _ c v hc (by simpa using hv)
theorem D2 {w:World} {S:Nat→Prop} {σ:St} {a:Act} (r:fh w S σ a) (size:Nat):∀ (parts:List (Nat×Operand)) (k:Nat) (xs:List AV) (cells:Array Value),OW σ.tm parts k=some xs→(∀ x∈xs,El size x)→cells.size=(k+parts.length) * size→
 ∃ vs:List Value,Instr.fill (fun i=>some (i * size,size)) cells (parts.map fun p=>(p.1,a.eval p.2))=some (cells.toList.take (k * size)++vs).toArray∧vs.length=xs.length * size∧xs.length=parts.length∧o8 w S (flat xs) vs.toArray
 | [],k,xs,cells,h1,h2,h3=>by
   simp only [OW,bp] at h1
   subst h1
   refine ⟨[],?_,by simp,rfl,fun i c v hc=>by simp [flat] at hc⟩
   simp only [cy,ci] at h3
   simp only [Instr.fill,List.map_nil,← h3,bp,cP]
   rw [dg (by simp)]
 | (i,x) :: parts,k,xs,cells,h1,h2,h3=>by
   simp only [OW] at h1
   split at h1
   ·rename_i av l hi ha hl
    obtain rfl:i=k:=aw hi
    obtain rfl:=aa h1
    have x7:=h2 av (by simp)
    obtain ⟨c1,c2⟩:=wP (bj r ha) x7.2
    simp only [cz] at h3
    have iV:(a.eval x).cells.size=size:=by rw [← c1];exact x7.1
    have e1:(i+(parts.length+1)) * size=i * size+size+parts.length * size:=by rw [al,al,bz];omega
    have hle:i * size+size≤cells.size:=by rw [h3,e1];omega
    obtain ⟨vs,g1,g2,g3,g4⟩:=D2 r size parts (i+1) l (cells.toList.take (i * size)++(a.eval x).cells.toList++cells.toList.drop (i * size+(a.eval x).cells.toList.length)).toArray hl (fun y hy=>h2 y (by simp [hy])) (by
     simp [iV];rw [show i+1+parts.length=i+(parts.length+1) from by omega,e1];omega)
    refine ⟨(a.eval x).cells.toList++vs,?_,?_,by simp [g3],?_⟩
    ·rw [da,Gc (off:=i * size) (size:=size) rfl iV hle,g1]
     congr 2
     have l1:(cells.toList.take (i * size)).length=i * size:=by simp;omega
     have l2:(a.eval x).cells.toList.length=size:=by simp [iV]
     rw [← bw]
     congr 1
     rw [show (i+1) * size=(cells.toList.take (i * size)++(a.eval x).cells.toList).length from by rw [b8,l1,l2,al,bz]]
     exact List.take_left
    ·simp [g2,iV,al];omega
    ·rw [kK]
     exact yO (by simpa using c1) (by simpa using c2) g4
   ·cases h1
section rules
variable {P:Program} {all:Array Oper} {rest:List Oper} {n:Nat} {tm:List (Nat×AV)} {hp:Heap} {Q:St→Prop} {d:Nat} {ty:TypeId} {pos:String} {af:Array Edge}
theorem pq {P:Program} (w:World) (E:TypeId) (vs:Array Value):(newRow E vs).run P w=.ok ⟨w.heap.size,0,none⟩ (w.alloc (.cells vs E)):=by simp [newRow]
theorem Be {t e:TypeId} {i:TypeInfo} {z:Value} {len:Nat} {parts:List (Nat×Operand)} {xs:List AV} [aB P t (.slice e)] [aX P e i] (hz:i.zero=some z) (hl:OW tm parts 0=some xs) (hlen:ac parts.length len=true) (x7:Bd i.size xs=true)
 (Pj:ce (len * i.size) 16777216=true) (hn:ai d n=true) (kk:∀ b:Bk,ae P all rest ⟨n,(d,.sl i.size b 0 len) :: tm,(b,.arr i.size xs) :: hp⟩ Q):ae P all (⟨some d,.buildSlice t len parts.toArray,ty,pos,af,none⟩ :: rest) ⟨n,tm,hp⟩ Q:=by
 refine ae.IJ rfl fun w S a r=>?_
 obtain rfl:parts.length=len:=aw hlen
 have Pj:=cf Pj
 obtain ⟨zz,Sq⟩:∃ zz:Array Value,zz=if parts.length * i.size=0 then #[] else z.cells:=⟨_,rfl⟩
 obtain ⟨vs,g1,g2,g3,g4⟩:=D2 (σ:=⟨n,tm,hp⟩) r i.size parts 0 xs ((Array.range (parts.length * i.size)).map (zz[· % zz.size]!)) hl (qX x7) (by simp)
 simp only [dk,List.take_zero,List.nil_append] at g1
 have e0:=Ext.alloc w (.cells vs.toArray e)
 have hh:Holds (w.alloc (.cells vs.toArray e)) S ⟨some w.heap.size,parts.length⟩ (.arr i.size xs):=by
  refine ⟨qX x7,by simp [g3],.inr ⟨w.heap.size,vs.toArray,e,rfl,?_,by simp [g2,g3],g4.mono fun m hm=>⟨hm,e0.same m (r.hp.slt m hm)⟩⟩⟩
  show (w.heap.push _)[w.heap.size]? =_
  simp
 obtain ⟨k1,k2,k3⟩:=pP r.hp e0 id hh (.inr ⟨_,rfl,ag _⟩)
 refine ⟨.slice (some ⟨w.heap.size,0,none⟩) parts.length parts.length,w.alloc (.cells vs.toArray e),S,_,?_,(r.heap k3 k1).put hn ?_,k2,kk ⟨some w.heap.size,parts.length⟩⟩
 ·have hm:((parts.toArray.map fun p=>(p.1,a.eval p.2))).toList=parts.map fun p=>(p.1,a.eval p.2):=by simp
  simp only [execOp,Instr.buildSlice,Sem.run_bind,run_underlying (aB.h (P:=P) (t:=t)),Result.andThen_ok,sizeOf,typeInfo,run_program,aX.h (P:=P) (t:=e),Sem.run_pure]
  rw [if_neg (by omega)]
  by_cases h0:parts.length * i.size=0
  ·rw [if_pos h0] at Sq ⊢
   subst Sq
   simp only [Sem.run_bind,Result.andThen_ok,Sem.run_pure,hm,g1,pq]
  ·rw [if_neg h0] at Sq ⊢
   subst Sq
   simp only [Sem.run_bind,Result.andThen_ok,Sem.run_pure,zeroValue,typeInfo,run_program,aX.h (P:=P) (t:=e),hz,hm,g1,pq]
 ·have:=At.sl (w:=w.alloc (.cells vs.toArray e)) (S:=S) i.size ⟨some w.heap.size,parts.length⟩ 0 parts.length w.heap.size parts.length rfl (ag _) (by simp)
  simpa using this
def Sr (w:World) (S:Nat→Prop) (sz:Nat) (ys:List AV) (v:Value):Prop:=
 (∀ y∈ys,El sz y)∧∃ (a:Option Addr) (c:Nat) (uy:List Value),v=.slice a ys.length c∧uy.length=ys.length * sz∧o8 w S (flat ys) uy.toArray∧∀ (i:Nat) u,uy[i]? =some u→∃ ad,a=some ad∧w.cell? (ad.add i)=some u
inductive Src (hp:Heap) (sz:Nat):AV→List AV→Prop
 | nil:Src hp sz .nil []
 | list (ys:List AV):Src hp sz (.list sz ys) ys
 | whole (b:Bk) (len:Nat) (xs:List AV) (f:mD hp b (.arr sz xs)∨mD hp b (.Bb sz xs)) (h:len=xs.length):Src hp sz (.sl sz b 0 len) xs
 | part (b:Bk) (off len:Nat) (xs:List AV) (f:mD hp b (.arr sz xs)∨mD hp b (.Bb sz xs)) (h:off+len≤xs.length):Src hp sz (.sl sz b off len) ((xs.drop off).take len)
theorem wQ {sz:Nat}:∀ (xs:List AV) (k:Nat),(∀ x∈xs,El sz x)→flat (xs.drop k)=(flat xs).drop (k * sz)
 | xs,0,_=>by simp
 | [],k+1,_=>by simp [flat]
 | x :: xs,k+1,h=>by
   rw [List.drop_succ_cons,wQ xs k (fun y hy=>h y (by simp [hy])),kK,al,bz,dl (k * sz),← List.drop_drop]
   rw [List.drop_left' ((h x (by simp)).1)]
theorem wR {sz:Nat}:∀ (xs:List AV) (k:Nat),(∀ x∈xs,El sz x)→flat (xs.take k)=(flat xs).take (k * sz)
 | xs,0,_=>by simp [flat]
 | [],k+1,_=>by simp [flat]
 | x :: xs,k+1,h=>by
   rw [List.take_succ_cons,kK,wR xs k (fun y hy=>h y (by simp [hy])),kK,al,bz,dl (k * sz)]
   have hx:=(h x (by simp)).1
   rw [List.take_append,dg (l:=x.cells) (by omega),hx,Nat.add_sub_cancel_left]
theorem Gf {w:World} {S:Nat→Prop} {hp:Heap} (r:db w S hp) {b:Bk} {sz off len:Nat} {xs:List AV} {v:Value} (f:mD hp b (.arr sz xs)∨mD hp b (.Bb sz xs)) (hle:off+len≤xs.length) (h:At w S (.sl sz b off len) v):
 Sr w S sz ((xs.drop off).take len) v:=by
 obtain ⟨g0,g1,g2⟩:=rn r f
 have lI:∀ y∈(xs.drop off).take len,El sz y:=fun y hy=>g0 y (cn (cS hy))
 have hlen:((xs.drop off).take len).length=len:=by simp;omega
 obtain ⟨oa,cap,e1,e2⟩:=h.u7
 refine ⟨lI,?_⟩
 rw [hlen,e1]
 rcases e2 with ⟨_,_,hl,ha,hc⟩ | ⟨m,hb,ha,h1,h2⟩ | ⟨m,ad,hb,ha,hl,hc⟩
 ·subst hl
  exact ⟨oa,cap,[],rfl,by simp,fun i c v hc hv=>by simp at hv,fun i u hu=>by simp at hu⟩
 ·rcases g2 with ⟨g2,_⟩ | ⟨m',vs,E,g2,g3,g4,g5⟩
  ·rw [g2] at hb;cases hb
  ·obtain rfl:m'=m:=by rw [g2] at hb;exact aa hb
   subst ha
   have DI:(off+len) * sz≤b.cap * sz:=bx _ (by omega)
   rw [al] at DI
   refine ⟨_,cap,(vs.toList.drop (off * sz)).take (len * sz),rfl,by simp;omega,?_,?_⟩
   ·rw [wR _ _ (fun y hy=>g0 y (cn hy)),wQ _ _ g0]
    intro i c v hc hv
    simp only [bv,aI,be] at hc hv
    split at hv
    ·rename_i iW
     rw [if_pos iW] at hc
     exact g5 _ c v hc (by simpa using hv)
    ·cases hv
   ·intro i u hu
    refine ⟨_,rfl,?_⟩
    rw [nX,nY g3]
    simp only [aI,be] at hu
    split at hu
    ·simpa using hu
    ·cases hu
 ·subst hl
  exact ⟨oa,cap,[],rfl,by simp,fun i c v hc hv=>by simp at hv,fun i u hu=>by simp at hu⟩
theorem Src.at {w:World} {S:Nat→Prop} {hp:Heap} {sz:Nat} {av:AV} {ys:List AV} {v:Value} (s:Src hp sz av ys) (r:db w S hp) (h:At w S av v):Sr w S sz ys v:=by
 cases s with
 | nil=>exact ⟨by simp,none,0,[],h.DH,by simp,fun i c v hc hv=>by simp at hv,fun i u hu=>by simp at hu⟩
 | list ys=>
   obtain ⟨a,cap,vs,e1,e2,e3,e4,e5,e6⟩:=h.yI
   refine ⟨e2,a,cap,vs,e1,by rw [← e3,cN e2],fun i c v hc hv=>e4 i c v hc (by simpa using hv),fun i u hu=>?_⟩
   obtain ⟨ad,h1,h2,h3,h4⟩:=e5 i u hu
   refine ⟨ad,h1,?_⟩
   obtain ⟨bk,of,sp⟩:=ad
   simp only at h2;subst h2
   rw [nX];exact h4
 | whole b len xs f hl=>
   subst hl
   have:=Gf r (off:=0) (len:=ys.length) f (by omega) h
   simpa using this
 | part b off len xs f hle=>exact Gf r f hle h
theorem Dm {P:Program} {t e:TypeId} {i:TypeInfo} (ht:P.underlying t=some (.slice e)) (hi:P.info? e=some i) (ob a:Option Addr) (D3 K1 c:Nat) (h:D3≤K1) (w:World):
 (Builtin.append_ #[t,t] ty #[.slice ob D3 K1,.slice a 0 c]).run P w=.ok (.slice ob D3 K1) w:=by
 cases a<;>cases ob<;>simp [Builtin.append_,run_underlying ht,sizeOf,typeInfo,hi,Builtin.lenOf,h,Builtin.firstCells,loadCells,loadCellsFrom,storeCells]
theorem FK {P:Program} {t e E:TypeId} {i:TypeInfo} {w:World} (ht:P.underlying t=some (.slice e)) (hi:P.info? e=some i) (g D3 K1:Nat) (cur:Array Value) (hg:w.heap[g]? =some (.cells cur E (0,0)))
 (a:Addr) (m c:Nat) (news:List Value) (hl:news.length=m * i.size) (XM:∀ (j:Nat) u,news[j]? =some u→w.cell? (a.add j)=some u) (h1:∀ u∈news,u.oneCell'=true)
 (x8:D3+m≤K1) (Vk:D3 * i.size+news.length≤cur.size):
 (Builtin.append_ #[t,t] ty #[.slice (some ⟨g,0,none⟩) D3 K1,.slice (some a) m c]).run P w=
  .ok (.slice (some ⟨g,0,none⟩) (D3+m) K1) (w.setRow g (cur.toList.take (D3 * i.size)++news++cur.toList.drop (D3 * i.size+news.length)).toArray):=by
 have hf:=run_firstCells_some (P:=P) w i.size m a m c news hl XM
 have FJ:=run_storeCells_at P g (D3 * i.size) E news 0 cur w hg (by simpa using Vk) h1
 simp only [ci] at FJ
 simp [Builtin.append_,run_underlying ht,sizeOf,typeInfo,hi,Builtin.lenOf,x8,hf,Addr.add_lit,FJ]
theorem D4 {w:World} {S:Nat→Prop} {hp:Heap} {t e:TypeId} {i:TypeInfo} {z:Value} {b:Bk} {xs ys:List AV} {v1 v2:Value} (r:db w S hp) (ht:P.underlying t=some (.slice e)) (hi:P.info? e=some i) (hz:i.zero=some z) (D5:z.cells.size=i.size) (h0:0 < i.size)
 (f:mD hp b (.arr i.size xs)) (Zv:At w S (.sl i.size b 0 xs.length) v1) (hs:Sr w S i.size ys v2) (hb:(xs.length+ys.length) * i.bytes≤140737488355328) (Zw:xs.length+ys.length≤9223372036854775807):
 ∃ v' w' b',(Builtin.append_ #[t,t] ty #[v1,v2]).run P w=.ok v' w'∧At w' S (.sl i.size b' 0 (xs.length+ys.length)) v'∧GB w w' b.cw∧Holds w' S b' (.arr i.size (xs++ys))∧
   (b'.cw=b.cw∨b'.cw=none∨∃ m,b'.cw=some m∧w.heap.size≤m):=by
 obtain ⟨k0,a,c,uy,rfl,k1,k2,k3⟩:=hs
 have hold:=r.holds _ f.mem
 obtain ⟨g0,g1,g2⟩:=rn r (.inl f)
 obtain ⟨oa,cap,rfl,e2⟩:=Zv.u7
 by_cases hy:ys=[]
 ·subst hy
  have hle:xs.length≤cap:=by
   rcases e2 with ⟨_,_,hl,_,_⟩ | ⟨m,B6,ha,h1,h2⟩ | ⟨m,ad,B6,ha,hl,hc⟩<;>omega
  refine ⟨_,w,b,Dm ht hi oa a xs.length cap c hle w,by simpa using Zv,⟨⟨rfl,rfl,rfl,ag _,fun _ _ _=>rfl⟩,fun _=>ag _⟩,by simpa using hold,.inl rfl⟩
 ·have hm:0 < ys.length:=List.length_pos_iff.2 hy
  have IU:0 < uy.length:=by rw [k1];exact Nat.mul_pos hm h0
  obtain ⟨ad,rfl,_⟩:=k3 0 uy[0] (by simp [IU])
  have Zx:∀ (j:Nat) u,uy[j]? =some u→w.cell? (ad.add j)=some u:=fun j u hu=>by
   obtain ⟨ad',h1,h2⟩:=k3 j u hu
   obtain rfl:=aa h1
   exact h2
  have vE:∀ u∈uy,u.oneCell'=true:=yL (cs:=flat ys) (vs:=uy.toArray) (by simp [k1,cN k0]) k2 (Pc k0)
  have uz:∀ x∈xs++ys,El i.size x:=fun x hx=>by rcases a7.1 hx with h | h;exact g0 x h;exact k0 x h
  have grown:∀ (old:Nat) (Dn:List Value) (wr:Option Nat),Dn.length=xs.length * i.size→o8 w S (flat xs) Dn.toArray→
   At (w.drew.alloc (.cells (Dn.toArray++uy.toArray++Builtin.zeroCells z.cells (grownCap w (xs.length+ys.length) old e - (xs.length+ys.length))) e)) S (.sl i.size ⟨some w.heap.size,grownCap w (xs.length+ys.length) old e⟩ 0 (xs.length+ys.length))
    (.slice (some ⟨w.heap.size,0,none⟩) (xs.length+ys.length) (grownCap w (xs.length+ys.length) old e))∧
   GB w (w.drew.alloc (.cells (Dn.toArray++uy.toArray++Builtin.zeroCells z.cells (grownCap w (xs.length+ys.length) old e - (xs.length+ys.length))) e)) wr∧
   Holds (w.drew.alloc (.cells (Dn.toArray++uy.toArray++Builtin.zeroCells z.cells (grownCap w (xs.length+ys.length) old e - (xs.length+ys.length))) e)) S ⟨some w.heap.size,grownCap w (xs.length+ys.length) old e⟩ (.arr i.size (xs++ys)):=by
   intro old Dn wr ho1 ho2
   have Uv:=grownCap_ge w (xs.length+ys.length) old e
   have ex:Ext w (w.drew.alloc (.cells (Dn.toArray++uy.toArray++Builtin.zeroCells z.cells (grownCap w (xs.length+ys.length) old e - (xs.length+ys.length))) e)):=(Ext.Mh w _ (Nat.le_succ _)).trans (Ext.alloc w.drew _)
   generalize grownCap w (xs.length+ys.length) old e=cp at *
   refine ⟨?_,⟨⟨ex.os,ex.tape,ex.output,ex.size,fun k hk _=>ex.same k hk⟩,ex.drawn⟩,uz,by simpa using Uv,.inr ⟨w.heap.size,Dn.toArray++uy.toArray++Builtin.zeroCells z.cells (cp - (xs.length+ys.length)),e,rfl,?_,?_,?_⟩⟩
   ·have:=At.sl (w:=w.drew.alloc (.cells (Dn.toArray++uy.toArray++Builtin.zeroCells z.cells (cp - (xs.length+ys.length))) e)) (S:=S) i.size ⟨some w.heap.size,cp⟩ 0 (xs.length+ys.length) w.heap.size cp rfl Uv (by simp)
    simpa using this
   ·show (w.heap.push _)[w.heap.size]? =_
    simp
   ·simp only [Array.size_append,List.size_toArray,size_zeroCells,D5,ho1,k1]
    rw [← al,← al]
    congr 1
    omega
   ·rw [rm]
    have h2:o8 w S (flat xs++flat ys) (Dn++uy).toArray:=yO (by rw [cN g0,ho1]) ho2 k2
    intro j c' u hc hu
    have hj:j < (Dn++uy).length:=by
     have:=(ap.1 hc).1
     simp only [b8,cN g0,cN k0] at this
     simp only [b8,ho1,k1]
     exact this
    have hu':(Dn++uy).toArray[j]? =some u:=by
     rw [Array.getElem?_append_left (by simpa using hj)] at hu
     simpa using hu
    exact (h2 j c' u hc hu').mono fun m hm'=>⟨hm',ex.same m (r.slt m hm')⟩
  rcases e2 with ⟨hbn,_,hl,rfl,rfl⟩ | ⟨m,Ss,rfl,h1,h2⟩ | ⟨m,ad',Ss,rfl,hl,rfl⟩
  ·have hx:xs=[]:=dn hl
   subst hx
   have hr:=run_append_nil (P:=P) (ty:=ty) w t e i z ht hi hz ad ys.length c uy k1 Zx hm (by simp at Zw;omega) (by simp only [cy,cl] at hb;omega)
   obtain ⟨q1,q2,q3⟩:=grown 0 [] b.cw (by simp) (fun j c' u hc=>by simp [flat] at hc)
   simp only [cy,cl,Array.empty_append] at q1 q2 q3 ⊢
   exact ⟨_,_,_,hr,q1,q2,q3,.inr (.inr ⟨_,rfl,ag _⟩)⟩
  ·rcases g2 with ⟨g2,_⟩ | ⟨m',vs,E,g2,g3,g4,g5⟩
   ·rw [g2] at Ss;cases Ss
   ·obtain rfl:m'=m:=by rw [g2] at Ss;exact aa Ss
    simp only [dk,cl] at *
    by_cases x8:xs.length+ys.length≤cap
    ·have hmul:(xs.length+ys.length) * i.size≤b.cap * i.size:=bx _ (by omega)
     have Vk:xs.length * i.size+uy.length≤vs.size:=by rw [k1,← al,g4];exact hmul
     have hr:=FK (P:=P) (ty:=ty) ht hi m' xs.length cap vs g3 ad ys.length c uy k1 Zx vE x8 Vk
     have nS:¬ S m':=fun hs=>(r.sep _ f.mem m' (fV Ss)).1 hs
     have ex:∀ k,S k→S k∧(w.setRow m' (vs.toList.take (xs.length * i.size)++uy++vs.toList.drop (xs.length * i.size+uy.length)).toArray).heap[k]? =w.heap[k]?:=fun k hk=>⟨hk,setRow_other w m' k _ (fun e=>nS (e▸hk))⟩
     refine ⟨_,_,b,hr,?_,⟨⟨rfl,rfl,rfl,by simp,fun k _ hk=>setRow_other w m' k _ (fun e=>hk (by rw [Ss,e]))⟩,fun _=>ag _⟩,⟨uz,by simp;omega,.inr ⟨m',(vs.toList.take (xs.length * i.size)++uy++vs.toList.drop (xs.length * i.size+uy.length)).toArray,E,Ss,setRow_heap w m' vs _ E _ g3,?_,?_⟩⟩,.inl rfl⟩
     ·have:=At.sl (w:=w.setRow m' (vs.toList.take (xs.length * i.size)++uy++vs.toList.drop (xs.length * i.size+uy.length)).toArray) (S:=S) i.size b 0 (xs.length+ys.length) m' cap Ss x8 (by omega)
      simpa using this
     ·simp;omega
     ·rw [rm]
      have hA:o8 w S (flat xs++flat ys) (vs.toList.take (xs.length * i.size)++uy).toArray:=yO (by simp [cN g0];omega) (fun j c' u hc hu=>by
       simp only [bv,aI] at hu
       split at hu
       ·exact g5 j c' u hc (by simpa using hu)
       ·cases hu) k2
      intro j c' u hc hu
      have hj:j < (vs.toList.take (xs.length * i.size)++uy).length:=by
       have:=(ap.1 hc).1
       simp only [b8,cN g0,cN k0] at this
       simp;omega
      simp only [bv] at hu
      rw [bY hj] at hu
      exact (hA j c' u hc (by simpa using hu)).mono ex
    ·have hr:=run_append_grow (P:=P) (ty:=ty) w t e i z ht hi hz ⟨m',0,none⟩ xs.length cap (vs.toList.take (xs.length * i.size)) (by
      have:=bx i.size g1
      simp;omega) (fun j u hu=>by
       rw [nX,cl,nY g3]
       rw [aI] at hu
       split at hu
       ·simpa using hu
       ·cases hu) ad ys.length c uy k1 Zx (by omega) (by omega) (growslice_fits (by omega) hb)
     obtain ⟨q1,q2,q3⟩:=grown cap (vs.toList.take (xs.length * i.size)) b.cw (by
      have:=bx i.size g1
      simp;omega) (fun j c' u hc hu=>by
       simp only [bv,aI] at hu
       split at hu
       ·exact g5 j c' u hc (by simpa using hu)
       ·cases hu)
     exact ⟨_,_,_,hr,q1,q2,q3,.inr (.inr ⟨_,rfl,ag _⟩)⟩
  ·have hx:xs=[]:=dn hl
   subst hx
   have hr:=run_append_grow (P:=P) (ty:=ty) w t e i z ht hi hz ad' 0 0 [] (by simp) (fun j u hu=>by simp at hu) ad ys.length c uy k1 Zx (by omega) (by simp at Zw;omega) (growslice_fits (by omega) (by simpa using hb))
   obtain ⟨q1,q2,q3⟩:=grown 0 [] b.cw (by simp) (fun j c' u hc=>by simp [flat] at hc)
   simp only [cy,cl] at q1 q2 q3 hr ⊢
   exact ⟨_,_,_,hr,q1,q2,q3,.inr (.inr ⟨_,rfl,ag _⟩)⟩
theorem Pk {t e:TypeId} {i:TypeInfo} {z:Value} {x y:Operand} {src:AV} {b:Bk} {len sz:Nat} {xs ys:List AV} {cL:Bk→Heap} [aB P t (.slice e)] [aX P e i] (hx:de tm x=some (.sl sz b 0 len)) (hy:de tm y=some src) (hz:i.zero=some z)
 (D5:ac z.cells.size i.size=true) (iV:ac i.size sz=true) (h0:ai 0 sz=true) (hn:ai d n=true) (hs:Src hp sz src ys) (u:∀ b',na hp b (.arr sz xs) b' (.arr sz (xs++ys)) (cL b')) (hlen:len=xs.length)
 (hb:(xs.length+ys.length) * i.bytes≤140737488355328) (Zw:xs.length+ys.length≤9223372036854775807)
 (kk:∀ b':Bk,ae P all rest ⟨n,(d,.sl sz b' 0 (len+ys.length)) :: tm,cL b'⟩ Q):ae P all (⟨some d,.call {callee:=.builtin .append,args:=#[x,y],argTypes:=#[t,t]},ty,pos,af,none⟩ :: rest) ⟨n,tm,hp⟩ Q:=by
 refine ae.IJ rfl fun w S a r=>?_
 subst hlen
 obtain rfl:i.size=sz:=aw iV
 obtain ⟨v',w',b',g1,g2,g3,g4,g5⟩:=D4 (P:=P) (ty:=ty) r.hp (aB.h (P:=P) (t:=t)) (aX.h (P:=P) (t:=e)) hz (aw D5) (by simpa using h0) (u b).lS (bj (σ:=⟨n,tm,hp⟩) r hx) (hs.at r.hp (bj (σ:=⟨n,tm,hp⟩) r hy)) hb Zw
 obtain ⟨k1,k2,k3⟩:=tA r.hp (u b') g3 id id g4 g5
 refine ⟨v',w',S,_,?_,(r.heap k3 k1).put hn g2,k2,kk b'⟩
 simp [execOp,resolve,invoke,builtin,g1]
end rules
def aj (σ:St) (T:St→Prop):Prop:=∀ w S a,fh w S σ a→∃ aK S',T aK∧fh w S' aK a∧kS w S σ.hp w S' aK.hp
theorem aj.here {σ:St} {T:St→Prop} (h:T σ):aj σ T:=fun w S a r=>⟨σ,S,h,r,kS.refl _ _ _⟩
theorem aj.step {σ A3:St} {T:St→Prop} (h:aj σ (· =A3)) (k:aj A3 T):aj σ T:=by
 intro w S a r
 obtain ⟨aK,S',rfl,r',e⟩:=h w S a r
 obtain ⟨Mj,S2,h2,r2,e2⟩:=k w S' a r'
 exact ⟨Mj,S2,h2,r2,e.trans e2⟩
theorem aj.mono {σ:St} {T T':St→Prop} (h:aj σ T) (ht:∀ σ,T σ→T' σ):aj σ T':=fun w S a r=>
 let ⟨aK,S',h1,h2,h3⟩:=h w S a r
 ⟨aK,S',ht _ h1,h2,h3⟩
def Gg (tm:List (Nat×AV)):List (Nat×AV)→Prop
 | []=>True
 | (s,av) :: r=>lk tm s=some av∧Gg tm r
theorem Gg.lk {tm:List (Nat×AV)}:∀ {sF:List (Nat×AV)},Gg tm sF→∀ s av,Eng.lk sF s=some av→Eng.lk tm s=some av
 | [],_,s,av,h=>by simp [Eng.lk] at h
 | (k,v) :: r,h,s,av,hh=>by
   simp only [Eng.lk] at hh
   split at hh
   ·rename_i hb
    obtain rfl:k=s:=by simpa using hb
    obtain rfl:=aa hh
    exact h.1
   ·exact Gg.lk h.2 s av hh
theorem aj.arr {n s:Nat} {tm:List (Nat×AV)} {hp:Heap} {T:St→Prop} (sz:Nat) (hs:lk tm s=some .nil) (k:∀ b,aj ⟨n,(s,.sl sz b 0 0) :: tm,(b,.arr sz []) :: hp⟩ T):aj ⟨n,tm,hp⟩ T:=by
 refine aj.step (A3:=⟨n,(s,.sl sz ⟨none,0⟩ 0 0) :: tm,(⟨none,0⟩,.arr sz []) :: hp⟩) (fun w S a r=>?_) (k ⟨none,0⟩)
 obtain ⟨g1,g2,g3⟩:=pP (b:=⟨none,0⟩) (o:=.arr sz []) r.hp (Ext.refl w) id ⟨by simp,by simp,.inl ⟨rfl,rfl⟩⟩ (.inl rfl)
 refine ⟨_,S,rfl,⟨r.size,r.defers,fun t av h=>?_,g1⟩,g2⟩
 simp only [lk] at h
 split at h
 ·rename_i hb
  obtain rfl:s=t:=by simpa using hb
  obtain rfl:=aa h
  obtain ⟨v,h1,h2⟩:=r.tm s _ hs
  cases h2
  exact ⟨_,h1,.Ba sz _ rfl⟩
 ·exact r.tm t av h
theorem aj.freeze {n sz:Nat} {tm:List (Nat×AV)} {hp cL:Heap} {T:St→Prop} {b:Bk} {xs:List AV} (u:na hp b (.arr sz xs) b (.Bb sz xs) cL) (k:aj ⟨n,tm,cL⟩ T):aj ⟨n,tm,hp⟩ T:=by
 refine aj.step (A3:=⟨n,tm,cL⟩) (fun w S a r=>?_) k
 have lI:=u.lS.mem
 have IN:∀ m,b.cw=some m→m < w.heap.size:=fun m hm=>r.hp.lt ⟨_,lI,fV hm⟩
 let S':Nat→Prop:=fun m=>S m∨b.cw=some m
 have mono:∀ m,S m→S' m∧w.heap[m]? =w.heap[m]?:=fun m hm=>⟨.inl hm,rfl⟩
 obtain ⟨p,q,rfl,rfl⟩:=u.split
 have wz:=r.hp.nodup
 have u9:db w S' (p++(b,.Bb sz xs) :: q):=by
  refine ⟨?_,?_,?_,?_,fun g o ho=>⟨.inl (r.hp.gz g o ho).1,(r.hp.gz g o ho).2⟩⟩
  ·simpa [b4,bi,eb,Ob.more] using wz
  ·intro e he
   rcases bE.1 he with rfl | he
   ·exact Holds.mono (o:=.Bb sz xs) mono (fun _ _=>rfl) (show Holds w S b (.arr sz xs) from r.hp.holds (b,.arr sz xs) lI)
   ·exact (r.hp.holds e (bE.2 (.inr he))).mono mono (fun _ _=>rfl)
  ·intro e he m hm
   rcases bE.1 he with rfl | he
   ·exact ⟨fun _=>trivial,fun _=>.inr ((xB rfl).1 hm)⟩
   ·rw [← r.hp.sep e (bE.2 (.inr he)) m hm]
    refine ⟨fun hs=>hs.elim id fun hb=>?_,.inl⟩
    exfalso
    rw [b4,bi,a8,a8] at wz
    rcases a7.1 he with h | h
    ·exact wz.2.2 m (a6.2 ⟨e,h,hm⟩) m (cb _ (fV hb)) rfl
    ·exact wz.2.1.2.2 m (fV hb) m (a6.2 ⟨e,h,hm⟩) rfl
  ·intro m hm
   rcases hm with h | h
   ·exact r.hp.slt m h
   ·exact IN m h
 refine ⟨_,S',rfl,r.heap mono u9,rfl,rfl,rfl,ag _,mono,fun m hm hh=>⟨rfl,fun hs=>hs.elim id fun hb=>(hh ⟨_,lI,fV hb⟩).elim⟩,fun m hm=>.inl ?_,fun _=>ag _⟩
 obtain ⟨e,he,hb⟩:=hm
 rcases bE.1 he with rfl | he
 ·exact ⟨_,lI,hb⟩
 ·exact ⟨e,bE.2 (.inr he),hb⟩
inductive Co (hp:Heap):AV→AV→Prop
 | refl (a:AV):Co hp a a
 | nil (sz:Nat):Co hp .nil (.list sz [])
 | Bb (sz:Nat) (b:Bk) (len:Nat) (xs:List AV) (f:mD hp b (.Bb sz xs)) (h:len=xs.length):Co hp (.sl sz b 0 len) (.list sz xs)
 | part (sz:Nat) (b:Bk) (off len:Nat) (xs:List AV) (f:mD hp b (.Bb sz xs)) (h:off+len≤xs.length):Co hp (.sl sz b off len) (.list sz ((xs.drop off).take len))
theorem rS {w:World} {S:Nat→Prop} {sz:Nat} {ys:List AV} {v:Value} (h:Sr w S sz ys v) (hS:∀ ad len cap,v=.slice (some ad) len cap→0 < len→ad.spot=none∧S ad.block) (hc:∀ ob len cap,v=.slice ob len cap→len≤cap):At w S (.list sz ys) v:=by
 obtain ⟨h0,a,c,uy,rfl,h1,h2,h3⟩:=h
 refine .list sz ys a c uy h0 (by rw [cN h0,h1]) (fun i c v hc hv=>h2 i c v hc (by simpa using hv)) (fun i v hv=>?_) (hc _ _ _ rfl)
 obtain ⟨ad,rfl,h4⟩:=h3 i v hv
 have iW:i < uy.length:=(ap.1 hv).1
 have tQ:0 < ys.length:=by
  rcases Nat.eq_zero_or_pos ys.length with h | h
  ·rw [h1,h] at iW;simp at iW
  ·exact h
 obtain ⟨g1,g2⟩:=hS ad _ _ rfl tQ
 refine ⟨ad,rfl,g1,g2,?_⟩
 obtain ⟨bk,of,sp⟩:=ad
 simp only at g1;subst g1
 rw [nX] at h4;exact h4
theorem tT {w:World} {S:Nat→Prop} {sz off len:Nat} {b:Bk} {v:Value} (h:At w S (.sl sz b off len) v):(∀ ad l c,v=.slice (some ad) l c→0 < l→ad.spot=none∧b.cw=some ad.block)∧∀ ob l c,v=.slice ob l c→l≤c:=by
 obtain ⟨oa,cap,rfl,e2⟩:=h.u7
 rcases e2 with ⟨_,_,hl,rfl,rfl⟩ | ⟨m,hb,rfl,h1,h2⟩ | ⟨m,ad,hb,rfl,hl,rfl⟩
 ·exact ⟨(fun ad l c h=>by cases h),(fun ob l c h=>by cases h;omega)⟩
 ·exact ⟨(fun ad l c h _=>by cases h;exact ⟨rfl,hb⟩),(fun ob l c h=>by cases h;omega)⟩
 ·exact ⟨(fun ad l c h FI=>by cases h;omega),(fun ob l c h=>by cases h;omega)⟩
theorem Co.at {w:World} {S:Nat→Prop} {hp:Heap} {a a':AV} {v:Value} (c:Co hp a a') (r:db w S hp) (h:At w S a v):At w S a' v:=by
 cases c with
 | refl=>exact h
 | nil sz=>rw [h.DH];exact .list sz [] none 0 [] (by simp) rfl (fun i c v hc=>by simp [flat] at hc) (fun i v hv=>by simp at hv) (by simp)
 | Bb sz b len xs f hl=>
   have hs:=(Src.whole (hp:=hp) (sz:=sz) b len xs (.inr f) hl).at r h
   exact rS hs (fun ad l c hv hp=>let ⟨g1,g2⟩:=(tT h).1 ad l c hv hp;⟨g1,(r.sep _ f.mem _ (fV g2)).2 trivial⟩) (tT h).2
 | part sz b off len xs f hl=>
   have hs:=(Src.part (hp:=hp) (sz:=sz) b off len xs (.inr f) hl).at r h
   exact rS hs (fun ad l c hv hp=>let ⟨g1,g2⟩:=(tT h).1 ad l c hv hp;⟨g1,(r.sep _ f.mem _ (fV g2)).2 trivial⟩) (tT h).2
theorem aj.co {n s:Nat} {tm:List (Nat×AV)} {hp:Heap} {T:St→Prop} {av gx:AV} (hs:lk tm s=some av) (c:Co hp av gx) (k:aj ⟨n,(s,gx) :: tm,hp⟩ T):aj ⟨n,tm,hp⟩ T:=by
 refine aj.step (A3:=⟨n,(s,gx) :: tm,hp⟩) (fun w S a r=>⟨_,S,rfl,⟨r.size,r.defers,fun t av h=>?_,r.hp⟩,kS.refl _ _ _⟩) k
 simp only [lk] at h
 split at h
 ·rename_i hb
  obtain rfl:s=t:=by simpa using hb
  obtain rfl:=aa h
  obtain ⟨v,h1,h2⟩:=r.tm s _ hs
  exact ⟨v,h1,c.at r.hp h2⟩
 ·exact r.tm t av h
section
variable {P:Program} {R:St→Prop} {k:List It} {σ:St}
theorem ab.ghost {c:Code} (h:aj σ (ab P R (.code c :: k))):ab P R (.code c :: k) σ:=by
 intro w S a r
 obtain ⟨aK,S',h1,h2,h3⟩:=h w S a r
 exact ab.go h1 h2 h3
theorem ae.ghost {all:Array Oper} {l:List Oper} {Q:St→Prop} (h:aj σ (fun aK=>ae P all l aK Q)):ae P all l σ Q:=by
 intro w S a r
 obtain ⟨aK,S',h1,h2,h3⟩:=h w S a r
 exact h1.go h2 h3
theorem ab.Uw {body:Code} (I:Nat→St→Prop) (m:Nat) (h0:aj σ (I m)) (hs:∀ m σ,I m σ→ab P R (.code body :: .stop (fun aK=>∃ m',m' < m∧aj aK (I m')) :: k) σ):
 ab P R (.code (.loop body) :: k) σ:=by
 refine ab.loop (fun m σ=>aj σ (I m)) m h0 (fun m σ hI=>?_)
 exact ab.ghost (hI.mono fun aK h=>hs m aK h)
end
class bJ (P:Program) (f:FuncId):Prop where
 h:∃ fn,P.funcs[f]? =some fn∧(fn.name=="runtime.NumGoroutine")=false∧fn.body.isNone=false
theorem uG {P:Program} (f:FuncId) [bJ P f] (args:Array Value) (w:World):(callFunc f args).run P w=.ok (.enter f args) w:=by
 obtain ⟨fn,h1,h2,h3⟩:=bJ.h (P:=P) (f:=f)
 have NB:¬ (fn.name="runtime.NumGoroutine"):=by simpa using h2
 have Zy:¬ (fn.body=none):=fun h=>by simp [h] at h3
 simp [callFunc,h1,NB,Zy]
inductive B7 (hp:Heap):List AV→List AV→Prop
 | nil:B7 hp [] []
 | cons {a a':AV} {l l':List AV} (c:Co hp a a') (k:B7 hp l l'):B7 hp (a :: l) (a' :: l')
theorem B7.at {w:World} {S:Nat→Prop} {hp:Heap} (r:db w S hp):∀ {l l':List AV},B7 hp l l'→∀ {vs:List Value},l.length=vs.length→o8 w S l vs.toArray→l'.length=vs.length∧o8 w S l' vs.toArray
 | [],_,.nil,vs,hl,h=>⟨hl,h⟩
 | a :: l,_,.cons (a':=a') (l':=l') c k,vs,hl,h=>by
   match vs,hl with
   | v :: vs,hl=>
     obtain ⟨g1,g2⟩:=B7.at r k (vs:=vs) (by simpa using hl) (fun i c u hc hu=>h (i+1) c u (by simpa using hc) (by simpa using hu))
     refine ⟨by simpa using g1,fun i c u hc hu=>?_⟩
     match i with
     | 0=>
       simp at hc hu
       subst hc
       subst hu
       exact Co.at ‹Co hp a a'› r (h 0 a v (by simp) (by simp))
     | i+1=>exact g2 i c u (by simpa using hc) (by simpa using hu)
section rules
variable {P:Program} {all:Array Oper} {rest:List Oper} {n:Nat} {tm:List (Nat×AV)} {hp:Heap} {Q:St→Prop} {d:Nat} {ty:TypeId} {pos:String} {af:Array Edge}
theorem tU {w:World} {S:Nat→Prop} {σ:St} {a:Act} (r:fh w S σ a) {xs:List Operand} {l:List AV} (h:CO σ.tm xs=some l):l.length=(xs.map a.eval).length∧o8 w S l (xs.map a.eval).toArray:=by
 obtain ⟨h1,h2⟩:=KY r h
 exact ⟨by simp [h1],fun i c v hc hv=>h2 i c v hc (by simpa using hv)⟩
theorem oN {f:FuncId} {args:List Operand} {ts:Array TypeId} {dd:Option Nat} [bJ P f] (a:Act) (w:World):
 (execOp a.eval ⟨dd,.call {callee:=.value (.func f),args:=args.toArray,argTypes:=ts},ty,pos,af,none⟩).run P w=.ok (.enter f (args.map a.eval).toArray) w:=by
 simp [execOp,resolve,Act.eval,Deferred.ofValue,invoke,uG]
theorem yP {f:FuncId} {x:Operand} {args:List Operand} {ts:Array TypeId} {dd:Option Nat} {wx:Array Value} [bJ P f] (a:Act) (w:World) (hx:a.eval x=.func (.func f) #[] wx):
 (execOp a.eval ⟨dd,.call {callee:=.value x,args:=args.toArray,argTypes:=ts},ty,pos,af,none⟩).run P w=.ok (.enter f ((args.map a.eval)++wx.toList).toArray) w:=by
 simp [execOp,resolve,hx,Deferred.ofValue,invoke,uG]
theorem Pl {f:FuncId} {args:List Operand} {ts:Array TypeId} {l l':List AV} {h0 hr:Heap} {Qc:AV→Heap→Prop} [bJ P f] (hl:CO tm args=some l) (c:aP P f l' h0 Qc) (co:B7 hp l l') (hs:hp.Perm (h0++hr)) (hn:ai d n=true)
 (kk:∀ r h',Qc r h'→ae P all rest ⟨n,(d,r) :: tm,h'++hr⟩ Q):ae P all (⟨some d,.call {callee:=.value (.func f),args:=args.toArray,argTypes:=ts},ty,pos,af,none⟩ :: rest) ⟨n,tm,hp⟩ Q:=by
 refine ae.IK rfl fun w S a r=>⟨f,_,oN a w,?_⟩
 obtain ⟨g1,g2⟩:=tU (σ:=⟨n,tm,hp⟩) r hl
 obtain ⟨g3,g4⟩:=B7.at r.hp co g1 g2
 have rp:=r.hp.perm hs
 refine (c.frame hr w S _ rp (by simpa using g3) g4).mono ?_
 rintro e w' ⟨v,rr,h',S',rfl,⟨h1,rfl,hq⟩,h3,h4,h5⟩
 have XN:=h5.mB
 have ev:kS w S hp w' S' (h1++hr):={h5 with
  other:=fun m hm hh=>h5.other m hm (fun ⟨x,hx,hb⟩=>hh ⟨x,hs.mem_iff.2 hx,hb⟩)
  new:=fun m hm=>(h5.new m hm).imp (fun ⟨x,hx,hb⟩=>⟨x,hs.mem_iff.2 hx,hb⟩) id}
 exact ⟨v,S',⟨n,(d,rr) :: tm,h1++hr⟩,rfl,(r.heap XN h4).put hn h3,ev,kk rr h1 hq⟩
theorem Mn {f:FuncId} {args:List Operand} {ts:Array TypeId} {l l':List AV} {Qc:AV→Heap→Prop} [bJ P f] (hl:CO tm args=some l) (c:aP P f l' [] Qc) (co:B7 hp l l') (hn:ai d n=true)
 (kk:∀ r h',Qc r h'→ae P all rest ⟨n,(d,r) :: tm,h'++hp⟩ Q):ae P all (⟨some d,.call {callee:=.value (.func f),args:=args.toArray,argTypes:=ts},ty,pos,af,none⟩ :: rest) ⟨n,tm,hp⟩ Q:=
 Pl hl c co (List.Perm.refl _) hn kk
theorem yK.perm {h h':Heap} {b:Bk} {o:Ob} (u:yK h b o h'):h.Perm ([(b,o)]++h'):=by
 obtain ⟨p,q,rfl,rfl⟩:=u.split
 exact List.perm_middle
theorem Su {f:FuncId} {x:Operand} {args:List Operand} {ts:Array TypeId} {wx l l':List AV} {h0 hr:Heap} {Qc:AV→Heap→Prop} [bJ P f] (hx:de tm x=some (.func (.func f) wx)) (hl:CO tm args=some l) (c:aP P f l' h0 Qc) (co:B7 hp (l++wx) l') (hs:hp.Perm (h0++hr)) (hn:ai d n=true)
 (kk:∀ r h',Qc r h'→ae P all rest ⟨n,(d,r) :: tm,h'++hr⟩ Q):ae P all (⟨some d,.call {callee:=.value x,args:=args.toArray,argTypes:=ts},ty,pos,af,none⟩ :: rest) ⟨n,tm,hp⟩ Q:=by
 refine ae.IK rfl fun w S a r=>?_
 obtain ⟨cv,e1,e2,e3⟩:=(bj (σ:=⟨n,tm,hp⟩) r hx).yH
 refine ⟨f,_,yP a w e1,?_⟩
 obtain ⟨g1,g2⟩:=tU (σ:=⟨n,tm,hp⟩) r hl
 obtain ⟨g3,g4⟩:=B7.at r.hp co (vs:=args.map a.eval++cv.toList) (by simp [g1,e2]) (yO g1 g2 (by simpa using e3))
 have rp:=r.hp.perm hs
 refine (c.frame hr w S _ rp (by simpa using g3) g4).mono ?_
 rintro e w' ⟨v,rr,h',S',rfl,⟨h1,rfl,hq⟩,h3,h4,h5⟩
 have ev:kS w S hp w' S' (h1++hr):={h5 with
  other:=fun m hm hh=>h5.other m hm (fun ⟨x,hx,hb⟩=>hh ⟨x,hs.mem_iff.2 hx,hb⟩)
  new:=fun m hm=>(h5.new m hm).imp (fun ⟨x,hx,hb⟩=>⟨x,hs.mem_iff.2 hx,hb⟩) id}
 exact ⟨v,S',⟨n,(d,rr) :: tm,h1++hr⟩,rfl,(r.heap h5.mB h4).put hn h3,ev,kk rr h1 hq⟩
def AV.Hm:AV→Bool
 | .int _ _ | .bool _ | .str _ | .nil | .raw _=>true
 | _=>false
def IV:List AV→Bool
 | []=>true
 | c :: r=>c.Hm&&IV r
def AV.Vl:AV→Bool
 | .agg cs=>IV cs
 | v=>v.Hm
def Sv:List AV→Bool
 | []=>true
 | c :: r=>c.Vl&&Sv r
def AV.XO:AV→Bool
 | .agg cs=>IV cs
 | .lE cs=>Sv cs
 | v=>v.Hm
theorem yQ {w w':World} {S S':Nat→Prop} {av:AV} {v:Value} (h:At w S av v) (hn:av.Hm=true):At w' S' av v:=by
 cases h<;>first | (simp [AV.Hm] at hn;done) | constructor
theorem yR:∀ {cs:List AV},IV cs=true→∀ c∈cs,c.Hm=true
 | [],_,c,hc=>by simp at hc
 | x :: r,h,c,hc=>by
   simp only [IV,b5] at h
   rcases bt.1 hc with rfl | hc
   ·exact h.1
   ·exact yR h.2 c hc
theorem IW:∀ {cs:List AV},Sv cs=true→∀ c∈cs,c.Vl=true
 | [],_,c,hc=>by simp at hc
 | x :: r,h,c,hc=>by
   simp only [Sv,b5] at h
   rcases bt.1 hc with rfl | hc
   ·exact h.1
   ·exact IW h.2 c hc
theorem Sw {w w':World} {S S':Nat→Prop} {av:AV} {v:Value} (h:At w S av v) (hn:av.Vl=true):At w' S' av v:=by
 cases av with
 | agg cs=>
   cases h with
   | agg _ vs hl h=>exact .agg cs vs hl fun i c u hc hu=>yQ (h i c u hc hu) (yR hn c (b6 hc))
 | _=>exact yQ h hn
theorem Pm {w w':World} {S S':Nat→Prop} {av:AV} {v:Value} (h:At w S av v) (hn:av.XO=true):At w' S' av v:=by
 cases h with
 | agg cs vs hl h=>exact .agg cs vs hl fun i c u hc hu=>yQ (h i c u hc hu) (yR hn c (b6 hc))
 | lE cs vs hl h=>exact .lE cs vs hl fun i c u hc hu=>Sw (h i c u hc hu) (IW hn c (b6 hc))
 | int k n=>exact .int k n
 | bool b=>exact .bool b
 | str s=>exact .str s
 | nil=>exact .nil
 | raw v=>exact .raw v
 | _=>simp [AV.XO,AV.Hm] at hn
inductive lO (hp:Heap):AV→AV→Prop
 | co {a a':AV} (c:Co hp a a'):lO hp a a'
 | arr (sz:Nat) (b:Bk) (len:Nat) (xs:List AV) (f:mD hp b (.arr sz xs)) (h:len=xs.length):lO hp (.sl sz b 0 len) (.list sz xs)
 | part (sz:Nat) (b:Bk) (off len:Nat) (xs:List AV) (f:mD hp b (.arr sz xs)) (h:off+len≤xs.length):lO hp (.sl sz b off len) (.list sz ((xs.drop off).take len))
 | box (b:Bk) (cs lF:List AV) (f:mD hp b (.cells cs)) (hl:lF.length=cs.length) (h:∀ (i:Nat) c c',cs[i]? =some c→lF[i]? =some c'→lO hp c c'):lO hp (.ptr b 0) (.ch lF)
 | func (fn:Fn) (cs lF:List AV) (hl:lF.length=cs.length) (h:∀ (i:Nat) c c',cs[i]? =some c→lF[i]? =some c'→lO hp c c'):lO hp (.func fn cs) (.func fn lF)
 | agg (cs lF:List AV) (hl:lF.length=cs.length) (h:∀ (i:Nat) c c',cs[i]? =some c→lF[i]? =some c'→lO hp c c'):lO hp (.agg cs) (.agg lF)
 | Mf {a a':AV} (h:∀ (w:World) (S:Nat→Prop) v,db w S hp→At w S a v→At w (fun m=>S m∨Has hp m) a' v):lO hp a a'
inductive vF (hp:Heap):List AV→List AV→Prop
 | nil:vF hp [] []
 | cons {a a':AV} {l l':List AV} (c:lO hp a a') (k:vF hp l l'):vF hp (a :: l) (a' :: l')
def SB (S:Nat→Prop) (hp:Heap):Nat→Prop:=fun m=>S m∨Has hp m
theorem vF.each {hp:Heap}:∀ {l l':List AV},vF hp l l'→l'.length=l.length∧∀ (i:Nat) c c',l[i]? =some c→l'[i]? =some c'→lO hp c c'
 | [],_,.nil=>⟨rfl,fun i c c' h=>by simp at h⟩
 | _ :: _,_,.cons c k=>by
   obtain ⟨g1,g2⟩:=vF.each k
   refine ⟨by simp [g1],fun i c1 c2 h1 h2=>?_⟩
   match i with
   | 0=>simp at h1 h2;subst h1;subst h2;assumption
   | i+1=>exact g2 i c1 c2 (by simpa using h1) (by simpa using h2)
theorem lO.xC {hp:Heap} (b:Bk) (cs lF:List AV) (f:mD hp b (.cells cs)) (k:vF hp cs lF):lO hp (.ptr b 0) (.ch lF):=.box b cs lF f k.each.1 k.each.2
theorem lO.Bf {hp:Heap} (fn:Fn) (cs lF:List AV) (k:vF hp cs lF):lO hp (.func fn cs) (.func fn lF):=.func fn cs lF k.each.1 k.each.2
theorem lO.at {w:World} {S:Nat→Prop} {hp:Heap} {a a':AV} {v:Value} (c:lO hp a a') (r:db w S hp) (h:At w S a v):At w (SB S hp) a' v:=by
 have mono:∀ m,S m→SB S hp m∧w.heap[m]? =w.heap[m]?:=fun m hm=>⟨.inl hm,rfl⟩
 induction c generalizing v with
 | box b cs lF f hl _ ih=>
   cases h with
   | ptr _ _ n hb=>
     obtain ⟨h1,n',vs,E,B6,hh,hs,ha⟩:=r.holds _ f.mem
     obtain rfl:=aa (hb.symm.trans B6)
     refine .ch lF ⟨n,0,none⟩ vs.toList (by simp [hl,hs]) (fun i c v hc hv=>?_) rfl (.inr ⟨_,f.mem,fV hb⟩) (fun i v hv=>?_)
     ·have hi:i < cs.length:=by rw [← hl];exact (ap.1 hc).1
      exact ih i cs[i] c (by simp [hi]) hc (ha i _ _ (by simp [hi]) (by simpa using hv))
     ·rw [nY hh];simpa using hv
 | func fn cs lF hl _ ih=>
   cases h with
   | func _ _ vs Vj h2=>
     refine .func fn lF vs (by rw [hl,Vj]) (fun i c v hc hv=>?_)
     have hi:i < cs.length:=by rw [← hl];exact (ap.1 hc).1
     exact ih i cs[i] c (by simp [hi]) hc (h2 i _ _ (by simp [hi]) hv)
 | agg cs lF hl _ ih=>
   cases h with
   | agg _ vs h1 h2=>
     refine .agg lF vs (by rw [hl,h1]) (fun i c v hc hv=>?_)
     have hi:i < cs.length:=by rw [← hl];exact (ap.1 hc).1
     exact ih i cs[i] c (by simp [hi]) hc (h2 i _ _ (by simp [hi]) hv)
 | co c=>exact (c.at r h).mono mono
 | Mf q=>exact q w S v r h
 | arr sz b len xs f hl=>
   obtain ⟨h0,a,c,uy,e1,h1,h2,h3⟩:=(Src.whole (hp:=hp) (sz:=sz) b len xs (.inl f) hl).at r h
   exact rS ⟨h0,a,c,uy,e1,h1,h2.mono mono,h3⟩ (fun ad l c hv hp=>let ⟨g1,g2⟩:=(tT h).1 ad l c hv hp;⟨g1,.inr ⟨_,f.mem,fV g2⟩⟩) (tT h).2
 | part sz b off len xs f hl=>
   obtain ⟨h0,a,c,uy,e1,h1,h2,h3⟩:=(Src.part (hp:=hp) (sz:=sz) b off len xs (.inl f) hl).at r h
   exact rS ⟨h0,a,c,uy,e1,h1,h2.mono mono,h3⟩ (fun ad l c hv hp=>let ⟨g1,g2⟩:=(tT h).1 ad l c hv hp;⟨g1,.inr ⟨_,f.mem,fV g2⟩⟩) (tT h).2
theorem vF.at {w:World} {S:Nat→Prop} {hp:Heap} (r:db w S hp):∀ {l l':List AV},vF hp l l'→∀ {vs:List Value},l.length=vs.length→o8 w S l vs.toArray→l'.length=vs.length∧o8 w (SB S hp) l' vs.toArray
 | [],_,.nil,vs,hl,h=>⟨hl,fun i c v hc=>by simp at hc⟩
 | a :: l,_,.cons (a':=a') (l':=l') c k,vs,hl,h=>by
   match vs,hl with
   | v :: vs,hl=>
     obtain ⟨g1,g2⟩:=vF.at r k (vs:=vs) (by simpa using hl) (fun i c u hc hu=>h (i+1) c u (by simpa using hc) (by simpa using hu))
     refine ⟨by simpa using g1,fun i c u hc hu=>?_⟩
     match i with
     | 0=>
       simp at hc hu
       subst hc
       subst hu
       exact lO.at ‹lO hp a a'› r (h 0 a v (by simp) (by simp))
     | i+1=>exact g2 i c u (by simpa using hc) (by simpa using hu)
theorem kS.Gh {w w':World} {S S':Nat→Prop} {h':Heap} (e:kS w S [] w' S' h'):Ext w w':=
 ⟨e.os,e.tape,e.output,e.size,fun m hm=>(e.other m hm (fun ⟨x,hx,_⟩=>by simp at hx)).1,e.drawn⟩
theorem va {w:World} {S:Nat→Prop} (h:∀ n,S n→n < w.heap.size) (hg:∀ g o,bN.XA g=some o→S g∧o (w.heap[g]?)):db w S []:=⟨by simp,by simp,by simp,h,hg⟩
theorem Sx {f:FuncId} {args:List Operand} {ts:Array TypeId} {l l':List AV} {Qc:AV→Heap→Prop} [bJ P f] (hl:CO tm args=some l) (c:aP P f l' [] Qc) (co:vF hp l l') (hn:ai d n=true)
 (kk:∀ r h',Qc r h'→r.XO=true∧ae P all rest ⟨n,(d,r) :: tm,hp⟩ Q):ae P all (⟨some d,.call {callee:=.value (.func f),args:=args.toArray,argTypes:=ts},ty,pos,af,none⟩ :: rest) ⟨n,tm,hp⟩ Q:=by
 refine ae.IK rfl fun w S a r=>⟨f,_,oN a w,?_⟩
 obtain ⟨g1,g2⟩:=tU (σ:=⟨n,tm,hp⟩) r hl
 obtain ⟨g3,g4⟩:=vF.at r.hp co g1 g2
 refine (c w (SB S hp) _ (va (fun m hm=>hm.elim (r.hp.slt m) fun h=>r.hp.lt h) (fun g o ho=>⟨.inl (r.hp.gz g o ho).1,(r.hp.gz g o ho).2⟩)) (by simpa using g3) g4).mono ?_
 rintro e w' ⟨v,rr,h',S',rfl,hq,h3,h4,h5⟩
 obtain ⟨k1,k2⟩:=kk rr h' hq
 have ex:=h5.Gh
 exact ⟨v,S,⟨n,(d,rr) :: tm,hp⟩,rfl,(r.ext ex).put hn (Pm h3 k1),kS.ext r.hp.slt ex,k2⟩
def AQ (P:Program) (all:Array Oper) (l:List Oper) (σ:St) (Q:St→Prop):Prop:=
 ∀ w S a,fh w S σ a→wpQuiet P all (Ext w) (fun a'=>∃ sF,Q ⟨σ.n,sF,σ.hp⟩∧fh w S ⟨σ.n,sF,σ.hp⟩ a') l a
end rules
section
variable {P:Program} {R:St→Prop} {k:List It} {σ:St}
theorem ab.Vm {c:Operand} {x y:Code} {p:Prop} [Decidable p] (hc:de σ.tm c=some (.bool (decide p))) (h1:p→ab P R (.code x :: k) σ) (h2:¬ p→ab P R (.code y :: k) σ):ab P R (.code (.cond c x y) :: k) σ:=
 ab.cond hc (fun h=>h1 (of_decide_eq_true h)) (fun h=>h2 (of_decide_eq_false h))
end
theorem fh.lit {w:World} {S:Nat→Prop} {n:Nat} {tm:List (Nat×AV)} {hp:Heap} {a:Act} {s:Nat} {b c:Bool} (r:fh w S ⟨n,tm,hp⟩ a) (hs:lk tm s=some (.bool b)) (hb:b=c):fh w S ⟨n,(s,.bool c) :: tm,hp⟩ a:=by
 subst hb
 refine ⟨r.size,r.defers,fun t av h=>?_,r.hp⟩
 simp only [lk] at h
 split at h
 ·rename_i hb
  obtain rfl:s=t:=by simpa using hb
  obtain rfl:=aa h
  exact r.tm s _ hs
 ·exact r.tm t av h
section rules
variable {P:Program} {all:Array Oper} {rest:List Oper} {n:Nat} {tm:List (Nat×AV)} {hp:Heap} {Q:St→Prop} {d:Nat} {ty:TypeId} {pos:String} {af:Array Edge} {op:Op} {j s:Nat}
theorem ae.lit {l:List Oper} {b c:Bool} (hs:lk tm s=some (.bool b)) (hb:b=c) (k:ae P all l ⟨n,(s,.bool c) :: tm,hp⟩ Q):ae P all l ⟨n,tm,hp⟩ Q:=
 fun w S a r=>k w S a (r.lit hs hb)
theorem ae.guard {want b:Bool} (hj:(all[j]?).bind (·.dst)=some s) (hs:lk tm s=some (.bool b)) (hn:ai d n=true) (h1:b=want→ae P all (⟨some d,op,ty,pos,af,none⟩ :: rest) ⟨n,(s,.bool want) :: tm,hp⟩ Q)
 (h2:b=!want→ae P all rest ⟨n,(d,.raw undef) :: (s,.bool (!want)) :: tm,hp⟩ Q):ae P all (⟨some d,op,ty,pos,af,some (j,want)⟩ :: rest) ⟨n,tm,hp⟩ Q:=by
 by_cases hb:b=want
 ·exact ae.lit hs hb (ae.au hj (by simp [lk]) rfl (h1 hb))
 ·have B6:b=!want:=by cases b<;>cases want<;>simp_all
  exact ae.lit hs B6 (ae.ar hj (b:=!want) (by simp [lk]) rfl hn (h2 B6))
theorem ae.dw {p:Prop} [Decidable p] (hj:(all[j]?).bind (·.dst)=some s) (hs:lk tm s=some (.bool (decide p))) (hn:ai d n=true) (h1:p→ae P all (⟨some d,op,ty,pos,af,none⟩ :: rest) ⟨n,(s,.bool true) :: tm,hp⟩ Q)
 (h2:¬ p→ae P all rest ⟨n,(d,.raw undef) :: (s,.bool false) :: tm,hp⟩ Q):ae P all (⟨some d,op,ty,pos,af,some (j,true)⟩ :: rest) ⟨n,tm,hp⟩ Q:=
 ae.guard hj hs hn (fun h=>h1 (of_decide_eq_true h)) (fun h=>h2 (of_decide_eq_false h))
theorem ae.dG {p:Prop} [Decidable p] (hj:(all[j]?).bind (·.dst)=some s) (hs:lk tm s=some (.bool (decide p))) (hn:ai d n=true) (h1:¬ p→ae P all (⟨some d,op,ty,pos,af,none⟩ :: rest) ⟨n,(s,.bool false) :: tm,hp⟩ Q)
 (h2:p→ae P all rest ⟨n,(d,.raw undef) :: (s,.bool true) :: tm,hp⟩ Q):ae P all (⟨some d,op,ty,pos,af,some (j,false)⟩ :: rest) ⟨n,tm,hp⟩ Q:=
 ae.guard hj hs hn (fun h=>h1 (of_decide_eq_false h)) (fun h=>h2 (of_decide_eq_true h))
theorem DJ {xt:TypeId} {x:Operand} {p:Prop} [Decidable p] (hx:de tm x=some (.bool (decide p))):QV P ⟨some d,.unOp .not xt x,ty,pos,af,none⟩ ⟨n,tm,hp⟩ (.bool (decide (¬ p))):=by
 have h:(!decide p)=decide (¬ p):=by by_cases h:p<;>simp [h]
 rw [← h]
 exact cu hx
end rules
end Go.Eng
