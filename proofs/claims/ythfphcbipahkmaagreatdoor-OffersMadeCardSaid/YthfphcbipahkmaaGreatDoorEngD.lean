/- The engine: abstract values, the symbolic heap, one rule for each operation. No program in sight. -/
import Derived.Test.YthfphcbipahkmaaGreatDoorEngC
import Derived.Laws.BytesArg
import Derived.Shelf.SlSortCmp.NoneTotal
open Array renaming getElem?_eq_getElem→a8,range→be,getElem?_modify→b9,getElem?_eq_none→ci,getElem?_eq_some_iff→cP,getElem_mem→c6,getElem_of_mem→c7,mem_filter→c8,getElem?_append_left→du,getElem?_map→d7,eq_empty_of_size_eq_zero→d9,getElem?_append_right→ej,length_toList→eC,getElem?_toList→eX,size_range→eY,getElem?_mapIdx→fl,getElem?_setIfInBounds→fu,isEmpty→g8
open Bool renaming false_eq_true→bx,not_eq_true'→cX,eq_iff_iff→d0
open Classical renaming propDecidable→ea
open List renaming replicate→ac,getElem?_map→al,getElem?_eq_some_iff→ap,mem_singleton→aw,mem_map→aI,getElem?_eq_getElem→a7,mem_append→bo,map_append→bp,map_cons→bt,Perm.refl→bv,mem_of_getElem?→bz,mem_flatMap→b4,nodup_append→b5,filter_eq_self→b6,getElem_mem→cl,Perm.cons→cm,getElem?_of_mem→cn,flatMap_append→cp,perm_middle→cS,map_set→cW,length_take→da,getElem?_append_left→dg,eq_of_mem_replicate→ds,mem_cons→dQ,nodup_cons→dR,Perm.trans→d1,mem_filter→d2,mem_of_mem_take→d3,take_append_drop→d4,getD_eq_getElem?_getD→eg,length_map→em,length_cons→eq,length_drop→eB,eq_nil_of_length_eq_zero→fs,append_of_mem→ft,length→fz,getElem?_set→gc,filter_append→gs,filter_cons→gt,getElem?_inj→gy
open Nat renaming blt→ai,le_refl→a6,lt_of_lt_of_le→bw,beq→b7,mod_lt→b8,lt_or_ge→ce,add_mul→cy,le_of_ble_eq_true→cz,mul_le_mul_right→cQ,zero_add→dl,lt_of_succ_le→dn,zero_le→dy,eq_of_beq_eq_true→d5,div_lt_iff_lt_mul→e8,div_add_mod'→e9,zero_mul→fg,eq_zero_or_pos→fr
open Option renaming some.inj→aa,map_some→bs,some.injEq→bY,bind_some→d6,map_eq_some_iff→d8,isSome_none→fd,getD_none→ge
open Prod renaming fst→bk,mk.inj→f0,mk.injEq→g9
set_option linter.unusedVariables false
set_option linter.unusedSectionVars false
namespace Go.Eng
open Go
variable [bN]
theorem PR {w:World} {S:Nat→Prop} {hp cL:Heap} {b:Bk} {sz k:Nat} {xs:List AV} (r:db w S hp) (u:na hp b (.arr sz xs) b (.arr sz (xs.take k)) cL):db w S cL∧kS w S hp w S cL:=by
 obtain ⟨pre,post,e1,e2⟩:=u.split
 subst e1;subst e2
 have hblk:∀ n,Has (pre++(b,Ob.arr sz (xs.take k)) :: post) n↔Has (pre++(b,Ob.arr sz xs) :: post) n:=by
  intro n
  constructor<;>rintro ⟨x,hx,hb⟩<;>rcases bE.1 hx with rfl | hx
  ·exact ⟨(b,.arr sz xs),bE.2 (.inl rfl),hb⟩
  ·exact ⟨x,bE.2 (.inr hx),hb⟩
  ·exact ⟨(b,.arr sz (xs.take k)),bE.2 (.inl rfl),hb⟩
  ·exact ⟨x,bE.2 (.inr hx),hb⟩
 refine ⟨⟨?_,?_,?_,r.slt,r.gz⟩,⟨rfl,rfl,rfl,a6 _,fun n hn=>⟨hn,rfl⟩,fun n _ _=>⟨rfl,id⟩,fun n hn=>.inl ((hblk n).1 hn),fun _=>a6 _⟩⟩
 ·have:=r.nodup
  simpa [cp,List.flatMap_cons,eb,Ob.more] using this
 ·intro x hx
  rcases bE.1 hx with rfl | hx
  ·obtain ⟨h0,h1,h2⟩:=r.holds (b,.arr sz xs) (bE.2 (.inl rfl))
   refine ⟨fun x hx=>h0 x (d3 hx),Nat.le_trans (by simp only [da];omega) h1,h2.imp id ?_⟩
   rintro ⟨n,vs,E,g1,g2,g3,g4⟩
   refine ⟨n,vs,E,g1,g2,g3,fun i c v hc hv=>?_⟩
   have hp:∃ t,flat xs=flat (xs.take k)++t:=⟨flat (xs.drop k),by
    show xs.flatMap AV.cells=(xs.take k).flatMap AV.cells++(xs.drop k).flatMap AV.cells
    rw [← cp,d4]⟩
   obtain ⟨t,ht⟩:=hp
   refine g4 i c v ?_ hv
   rw [ht,dg (ap.1 hc).1]
   exact hc
  ·exact r.holds x (bE.2 (.inr hx))
 ·intro x hx n hn
  rcases bE.1 hx with rfl | hx
  ·have:=r.sep (b,.arr sz xs) (bE.2 (.inl rfl)) n hn
   exact ⟨fun h=>(this.1 h).elim,fun h=>h.elim⟩
  ·exact r.sep x (bE.2 (.inr hx)) n hn
theorem aj.take {n k:Nat} {tm:List (Nat×AV)} {hp cL:Heap} {T:St→Prop} {b:Bk} {sz:Nat} {xs:List AV} (u:na hp b (.arr sz xs) b (.arr sz (xs.take k)) cL) (kk:aj ⟨n,tm,cL⟩ T):aj ⟨n,tm,hp⟩ T:=by
 refine aj.step (A3:=⟨n,tm,cL⟩) (fun w S a r=>?_) kk
 obtain ⟨g1,g2⟩:=PR r.hp u
 exact ⟨_,S,rfl,⟨r.size,r.defers,r.tm,g1⟩,g2⟩
section rules
variable {P:Program} {all:Array Oper} {rest:List Oper} {n:Nat} {tm:List (Nat×AV)} {hp:Heap} {Q:St→Prop} {d:Nat} {ty:TypeId} {pos:String} {af:Array Edge}
theorem Bo {α:Type} {Xs V:List α} {L H:Int} (h:A5 Xs L H=some V):V.length=H.toNat - L.toNat∧L.toNat+V.length≤Xs.length∧V=(Xs.drop L.toNat).take V.length:=by
 obtain ⟨⟨h0,h1,h2⟩,rfl⟩:=vb h
 have:((Xs.drop L.toNat).take (H.toNat - L.toNat)).length=H.toNat - L.toNat:=by simp;omega
 refine ⟨this,by rw [this];omega,by rw [this]⟩
theorem qZ {α:Type} {Xs Zs:List α} {t e:TypeId} {i:TypeInfo} {x:Operand} {lo hi:Option Operand} {l h:Option Int} {sz:Nat} {b:Bk} {L H:Int} [aB P t (.slice e)] [aX P e i] (hx:de tm x=some (.sl sz b 0 Xs.length)) (iV:b7 i.size sz=true) (hl:KM tm lo l) (hh:KM tm hi h)
 (eL:iH l=L) (eH:jB Xs.length h=H) (hv:A5 Xs L H=some Zs):QV P ⟨some d,.slice t x lo hi none,ty,pos,af,none⟩ ⟨n,tm,hp⟩ (.sl sz b L.toNat Zs.length):=by
 obtain ⟨⟨h0,h1,h2⟩,_⟩:=vb hv
 have hlen:=(Bo hv).1
 subst eL;subst eH
 have:=K2 (P:=P) (d:=d) (ty:=ty) (pos:=pos) (af:=af) (n:=n) (tm:=tm) (hp:=hp) (t:=t) (e:=e) hx iV hl hh h0 h1 h2
 rw [dl] at this
 rw [hlen];exact this
theorem aj.PS {α:Type} {g:α→AV} {Xs V:List α} {H:Int} {T:St→Prop} {b:Bk} {sz:Nat} {cL:Heap} (hv:A5 Xs 0 H=some V) (u:na hp b (.arr sz (Xs.map g)) b (.arr sz (V.map g)) cL) (kk:aj ⟨n,tm,cL⟩ T):aj ⟨n,tm,hp⟩ T:=by
 refine aj.take (k:=V.length) (xs:=Xs.map g) (b:=b) (sz:=sz) ?_ kk
 rw [← List.map_take]
 have:=(Bo hv).2.2
 simp only [Int.toNat_zero,List.drop_zero] at this
 rw [← this];exact u
end rules
inductive Dr (hp:Heap):AV→AV→Prop
 | co {a a':AV} (c:Co hp a a'):Dr hp a a'
 | agg (cs lF:List AV) (hl:lF.length=cs.length) (h:∀ (i:Nat) c c',cs[i]? =some c→lF[i]? =some c'→Dr hp c c'):Dr hp (.agg cs) (.agg lF)
 | lE (cs lF:List AV) (hl:lF.length=cs.length) (h:∀ (i:Nat) c c',cs[i]? =some c→lF[i]? =some c'→Dr hp c c'):Dr hp (.lE cs) (.lE lF)
 | list (sz:Nat) (xs ys:List AV) (hn:ys.length=xs.length) (hl:(flat ys).length=(flat xs).length) (he:∀ y∈ys,El sz y) (h:∀ (i:Nat) c c',(flat xs)[i]? =some c→(flat ys)[i]? =some c'→Dr hp c c'):Dr hp (.list sz xs) (.list sz ys)
inductive Jf (hp:Heap):List AV→List AV→Prop
 | nil:Jf hp [] []
 | cons {a a':AV} {l l':List AV} (c:Dr hp a a') (k:Jf hp l l'):Jf hp (a :: l) (a' :: l')
theorem Dr.r {hp:Heap} {a:AV}:Dr hp a a:=.co (.refl _)
theorem Dr.n {hp:Heap} {sz:Nat}:Dr hp .nil (.list sz []):=.co (.nil _)
theorem Jf.each {hp:Heap}:∀ {l l':List AV},Jf hp l l'→l'.length=l.length∧∀ (i:Nat) c c',l[i]? =some c→l'[i]? =some c'→Dr hp c c'
 | [],_,.nil=>⟨rfl,fun i c c' h=>by simp at h⟩
 | _ :: _,_,.cons c k=>by
   obtain ⟨g1,g2⟩:=Jf.each k
   refine ⟨by simp [g1],fun i c1 c2 h1 h2=>?_⟩
   match i with
   | 0=>simp at h1 h2;subst h1;subst h2;assumption
   | i+1=>exact g2 i c1 c2 (by simpa using h1) (by simpa using h2)
theorem Dr.X5 {hp:Heap} {cs lF:List AV} (k:Jf hp cs lF):Dr hp (.agg cs) (.agg lF):=.agg cs lF k.each.1 k.each.2
theorem Dr.PT {hp:Heap} {sz:Nat} {xs ys:List AV} (k:Jf hp (flat xs) (flat ys)) (hn:b7 ys.length xs.length=true) (he:Bd sz ys=true):Dr hp (.list sz xs) (.list sz ys):=
 .list sz xs ys (d5 hn) k.each.1 (qX he) k.each.2
theorem Dr.at {w:World} {S:Nat→Prop} {hp:Heap} {a a':AV} {v:Value} (c:Dr hp a a') (r:db w S hp) (h:At w S a v):At w S a' v:=by
 induction c generalizing v with
 | co c=>exact c.at r h
 | agg cs lF hl _ ih=>
   cases h with
   | agg _ vs h1 h2=>
     refine .agg lF vs (by rw [hl,h1]) (fun i c v hc hv=>?_)
     have hi:i < cs.length:=by rw [← hl];exact (ap.1 hc).1
     exact ih i cs[i] c (by simp [hi]) hc (h2 i _ _ (by simp [hi]) hv)
 | lE cs lF hl _ ih=>
   cases h with
   | lE _ vs h1 h2=>
     refine .lE lF vs (by rw [hl,h1]) (fun i c v hc hv=>?_)
     have hi:i < cs.length:=by rw [← hl];exact (ap.1 hc).1
     exact ih i cs[i] c (by simp [hi]) hc (h2 i _ _ (by simp [hi]) hv)
 | list sz xs ys hn hl he _ ih=>
   cases h with
   | list _ _ a cap vs g1 g2 g3 g4 g5=>
     rw [← hn]
     refine .list sz ys a cap vs he (by rw [hl,g2]) (fun i c v hc hv=>?_) g4 (by rw [hn];exact g5)
     have hi:i < (flat xs).length:=by rw [← hl];exact (ap.1 hc).1
     exact ih i (flat xs)[i] c (by simp [hi]) hc (g3 i _ _ (by simp [hi]) hv)
theorem aj.Vx {n s:Nat} {tm:List (Nat×AV)} {hp:Heap} {T:St→Prop} {av gx:AV} (hs:lk tm s=some av) (c:Dr hp av gx) (k:aj ⟨n,(s,gx) :: tm,hp⟩ T):aj ⟨n,tm,hp⟩ T:=by
 refine aj.step (A3:=⟨n,(s,gx) :: tm,hp⟩) (fun w S a r=>⟨_,S,rfl,⟨r.size,r.defers,fun t av h=>?_,r.hp⟩,kS.refl _ _ _⟩) k
 simp only [lk] at h
 split at h
 ·rename_i hb
  obtain rfl:s=t:=by simpa using hb
  obtain rfl:=aa h
  obtain ⟨v,h1,h2⟩:=r.tm s _ hs
  exact ⟨v,h1,c.at r.hp h2⟩
 ·exact r.tm t av h
def pb {R:Type} (n:Nat) (len:R→Nat) (x:Option R):Option R:=x.bind fun r=>if len r=n then some r else none
theorem rZ {R:Type} {n:Nat} {len:R→Nat} {x:Option R} {r:R} (h:pb n len x=some r):x=some r:=by
 unfold pb at h
 cases x with
 | none=>cases h
 | some y=>
   simp only [d6] at h
   split at h
   ·exact h
   ·cases h
theorem gR {R:Type} {n:Nat} {len:R→Nat} {x:Option R} {r:R} (h:pb n len x=some r):len r=n:=by
 unfold pb at h
 cases x with
 | none=>cases h
 | some y=>
   simp only [d6] at h
   split at h
   ·rename_i hh;obtain rfl:=aa h;exact hh
   ·cases h
def OY {α:Type} (z:α) (l c:Int):Option (List α):=if 0≤l∧l≤c∧c≤1000000000 then some (ac l.toNat z) else none
theorem yT {sz:Nat} {x:AV} (h:x.cells.length=sz):∀ (k i:Nat),i < k * sz→(flat (ac k x))[i]? =x.cells[i % sz]?
 | 0,i,hi=>by simp at hi
 | k+1,i,hi=>by
   rw [List.replicate_succ,show flat (x :: ac k x)=x.cells++flat (ac k x) from rfl]
   by_cases iW:i < sz
   ·rw [dg (by omega),Nat.mod_eq_of_lt iW]
   ·rw [List.getElem?_append_right (by omega),h,yT h k (i - sz) (by rw [cy] at hi;omega)]
    rw [Nat.mod_eq_sub_mod (a:=i) (by omega)]
section rules
variable {P:Program} {all:Array Oper} {rest:List Oper} {n:Nat} {tm:List (Nat×AV)} {hp:Heap} {Q:St→Prop} {d:Nat} {ty:TypeId} {pos:String} {af:Array Edge}
theorem yU {α:Type} {g:α→AV} {Z:α} {Xs:List α} {t e:TypeId} {i:TypeInfo} {z:Value} {x y:Operand} {k k':IntKind} {l c:Int} {sz:Nat} [aB P t (.slice e)] [aX P e i] (hx:de tm x=some (.int k l)) (hy:de tm y=some (.int k' c)) (hz:i.zero=some z) (hg:A4 z=g Z) (hs:i.size=sz) (x7:Sp sz (g Z)=true) (tQ:ai 0 sz=true) (hb:Nat.ble i.bytes 65536=true)
 (hn:ai d n=true) (hm:OY Z l c=some Xs) (kk:∀ b:Bk,ae P all rest ⟨n,(d,.sl sz b 0 Xs.length) :: tm,(b,.arr sz (Xs.map g)) :: hp⟩ Q):ae P all (⟨some d,.makeSlice t x y,ty,pos,af,none⟩ :: rest) ⟨n,tm,hp⟩ Q:=by
 subst hs
 have tQ:0 < i.size:=bw (dn (cz tQ)) (a6 _)
 have hb:=cz hb
 unfold OY at hm
 split at hm
 ·rename_i hc
  obtain rfl:=aa hm
  obtain ⟨c0,c1,c2⟩:=hc
  refine ae.IJ rfl fun w S a r=>?_
  have e1:=(bj (σ:=⟨n,tm,hp⟩) r hx).eP
  have e2:=(bj (σ:=⟨n,tm,hp⟩) r hy).eP
  have hE:=yN x7
  obtain ⟨hl,sB⟩:=rR w S z (by rw [hg];exact hE.2)
  rw [hg] at hl sB
  have D5:z.cells.size=i.size:=by rw [← hl];exact hE.1
  obtain ⟨vs,SO⟩:∃ vs:Array Value,vs=(be (c.toNat * i.size)).map (z.cells[· % z.cells.size]!):=⟨_,rfl⟩
  have iV:vs.size=c.toNat * i.size:=by rw [SO];simp
  have HC:∀ (j:Nat) (v:Value),vs[j]? =some v→z.cells[j % i.size]? =some v:=by
   intro j v hv
   rw [SO] at hv
   simp only [d7,d8] at hv
   obtain ⟨q,hq,rfl⟩:=hv
   have:q=j:=by
    rw [cP] at hq
    obtain ⟨h1,h2⟩:=hq
    simpa using h2.symm
   subst this
   rw [D5]
   have iW:q % i.size < z.cells.size:=by rw [D5];exact b8 _ tQ
   simp [iW]
  have e0:=Ext.alloc w (.cells vs e)
  have PU:(ac l.toNat Z).map g=ac l.toNat (g Z):=by simp
  have hh:Holds (w.alloc (.cells vs e)) S ⟨some w.heap.size,c.toNat⟩ (.arr i.size ((ac l.toNat Z).map g)):=by
   rw [PU]
   refine ⟨fun x hx=>by rw [ds hx];exact hE,by simp;omega,.inr ⟨w.heap.size,vs,e,rfl,?_,iV,fun j cc v Gp hv=>?_⟩⟩
   ·show (w.heap.push _)[w.heap.size]? =_
    simp
   ·have Af:j < (flat (ac l.toNat (g Z))).length:=(ap.1 Gp).1
    rw [cN (fun x hx=>by rw [ds hx];exact hE)] at Af
    rw [yT hE.1 _ _ (by simpa using Af)] at Gp
    exact (sB _ _ _ Gp (HC j v hv)).mono fun m hm=>⟨hm,e0.same m (r.hp.slt m hm)⟩
  obtain ⟨k1,k2,k3⟩:=pP r.hp e0 id hh (.inr ⟨_,rfl,a6 _⟩)
  refine ⟨.slice (some ⟨w.heap.size,0,none⟩) l.toNat c.toNat,w.alloc (.cells vs e),S,_,?_,(r.heap k3 k1).put hn ?_,k2,kk ⟨some w.heap.size,c.toNat⟩⟩
  ·have w1:IntKind.i64.wrap l=l:=wN ⟨by omega,by omega⟩
   have w2:IntKind.i64.wrap c=c:=wN ⟨by omega,by omega⟩
   have hbc:(i.bytes:Int) * c≤65536 * 1000000000:=Int.mul_le_mul (by omega) (by omega) (by omega) (by omega)
   have f1:decide (c < 0)=false:=decide_eq_false (by omega)
   have f2:decide (((i.bytes:Int) * c) > 2 ^ 48)=false:=decide_eq_false (by omega)
   have f3:decide (l < 0)=false:=decide_eq_false (by omega)
   have f4:decide (l > c)=false:=decide_eq_false (by omega)
   have x8:¬ c.toNat * i.bytes > roomBytes:=by
    have:c.toNat * i.bytes≤1000000000 * 65536:=Nat.mul_le_mul (by omega) hb
    unfold roomBytes;omega
   have a1:∀ (k:IntKind) (x:Int) (w:World),(asInt (.int k x)).run P w=.ok x w:=fun k x w=>by simp [asInt,asIntOf]
   simp only [execOp,Instr.makeSlice,Sem.run_bind,run_underlying (aB.h (P:=P) (t:=t)),Result.andThen_ok,e1,e2,a1,typeInfo,sizeOf,run_program,aX.h (P:=P) (t:=e),Sem.run_pure,w1,w2,f1,f2,f3,f4,Bool.or_self,bx,if_false,askRoom,if_neg x8]
   by_cases h0:c.toNat * i.size=0
   ·rw [if_pos h0]
    have ZK:vs=#[]:=by apply d9;omega
    simp only [Sem.run_bind,Sem.run_pure,Result.andThen_ok,h0,pq,ZK]
    rw [show be 0=#[] from rfl]
    simp
   ·rw [if_neg h0]
    simp only [Sem.run_bind,Result.andThen_ok,Sem.run_pure,zeroValue,typeInfo,run_program,aX.h (P:=P) (t:=e),hz,pq,← SO]
  ·have:=At.sl (w:=w.alloc (.cells vs e)) (S:=S) i.size ⟨some w.heap.size,c.toNat⟩ 0 l.toNat w.heap.size c.toNat rfl (by omega) (by simp)
   simpa using this
 ·cases hm
end rules
end Go.Eng
set_option linter.unusedSimpArgs false
namespace Go.Eng
open Go Go.Sort Go.Proofs
variable [bN]
structure Jg (P:Program) (f:FuncId) (k:Nat):Prop where
 some_:∀ (enc:Nat→List Value) (_:∀ x,(enc x).length=k) (_:∀ x,∀ v∈enc x,v.oneCell'=true) (cf:Nat→Nat→Int) (_:SWO (ltOf cf)) (g:Nat) (cb:Array Value) (cw off cap:Nat) (d:Array Nat) (w:World)
  (_:∀ args w,(callFunc g args).run P w=.ok (.enter g args) w) (_:CmpLays P g cb enc k cf cw off d.size w) (_:HoldsK enc k w cw off d) (_:cw < w.heap.size) (_:d.size < 4611686018427387904),
  Calls P f #[.slice (some ⟨cw,off,none⟩) d.size cap,.func (.func g) #[] cb] w fun e w'=>
   e=.returned (.tuple #[])∧∃ n os,w'=sortWorldK enc k w cw off n (pdq (ltOf cf) d 0 d.size (Lib.bitLen d.size) true true) os
 none_:∀ (p:Option Addr) (cap:Nat) (fv:Value) (w:World),Calls P f #[.slice p 0 cap,fv] w fun e w'=>e=.returned (.tuple #[])∧w'=w
def uz {α:Type} (x:α) (r:List α) (i:Nat):α:=(x :: r).getD i x
def vJ {α:Type} (f:α→α→Option Int) (x:α) (r:List α) (i j:Nat):Int:=(f (uz x r i) (uz x r j)).getD 0
noncomputable def Ek {α:Type} (f:α→α→Option Int):List α→Option (List α)
 | []=>some []
 | x :: r=>@ite _ (r.length+1 < 4611686018427387904∧(∀ a∈x :: r,∀ b∈x :: r,∃ u,f a b=some u)∧SWO (ltOf (vJ f x r))) (ea _)
     (some ((pdq (ltOf (vJ f x r)) (be (r.length+1)) 0 (r.length+1) (Lib.bitLen (r.length+1)) true true).toList.map (uz x r))) none
theorem AE {α:Type} (f:α→α→Option Int) (x:α) (r:List α):Ek f (x :: r)=@ite _ (r.length+1 < 4611686018427387904∧(∀ a∈x :: r,∀ b∈x :: r,∃ u,f a b=some u)∧SWO (ltOf (vJ f x r))) (ea _)
 (some ((pdq (ltOf (vJ f x r)) (be (r.length+1)) 0 (r.length+1) (Lib.bitLen (r.length+1)) true true).toList.map (uz x r))) none:=rfl
theorem jo {α:Type} (x:α) (r:List α) (i:Nat):uz x r i∈x :: r:=by
 unfold uz
 rw [eg]
 rcases h:(x :: r)[i]? with _ | y
 ·simp
 ·exact bz h
theorem ra (enc:Nat→List Value) (k:Nat) (w:World) (cw off m:Nat) (dk:Array Nat) (os:Array Obj) {n:Nat} (hn:n < w.heap.size) (A2:n≠cw):(sortWorldK enc k w cw off m dk os).heap[n]? =w.heap[n]?:=by
 unfold sortWorldK putRowK putRow
 rw [heap_grow_old _ _ (by simpa [mapBlock] using hn)]
 simp only [mapBlock,heap_ahead,b9]
 rw [if_neg (fun h=>A2 h.symm)]
theorem xI (enc:Nat→List Value) (k:Nat) (w:World) (cw off m:Nat) (dk:Array Nat) (os:Array Obj):w.heap.size≤(sortWorldK enc k w cw off m dk os).heap.size:=by
 unfold sortWorldK putRowK
 simp
theorem Gv (enc:Nat→List Value) (k:Nat) (w:World) (cw m:Nat) (dk:Array Nat) (os:Array Obj) {vs:Array Value} {E:TypeId} (hb:w.heap[cw]? =some (.cells vs E (0,0))):(sortWorldK enc k w cw 0 m dk os).heap[cw]? =some (.cells (putCells id 0 (flatK enc k dk) vs) E (0,0)):=by
 have iW:cw < w.heap.size:=by
  rcases ce cw w.heap.size with h | h
  ·exact h
  ·simp [ci h] at hb
 unfold sortWorldK putRowK putRow
 rw [heap_grow_old _ _ (by simpa [mapBlock] using iW)]
 simp only [mapBlock,heap_ahead,b9]
 rw [if_pos trivial,hb]
 rfl
theorem Ext.grown {w w':World} (hd:bN.dr) (e:Ext w w'):∃ q os,w'=grow (w.drewN q) os:=by
 refine ⟨w'.drawn - w.drawn,w'.heap.extract w.heap.size w'.heap.size,?_⟩
 obtain ⟨h',t',d',o',ahI⟩:=w'
 have e1:=e.os;have e2:=e.tape;have e3:=e.output;have e4:=e.drawn hd;have e5:=e.size;have e6:=e.same
 simp only at e1 e2 e3 e4 e5 e6
 subst e1 e2 e3
 unfold grow World.drewN
 simp only [World.mk.injEq,and_true,true_and]
 refine ⟨?_,by omega⟩
 apply Array.ext_getElem?
 intro i
 by_cases hi:i < w.heap.size
 ·rw [e6 i hi,du hi]
 ·rw [ej (by omega),Array.getElem?_extract]
  by_cases h2:i < h'.size
  ·rw [if_pos (by omega)]
   congr 1;omega
  ·rw [if_neg (by omega),ci (by omega)]
theorem Ld {P:Program} {T:Type} {g:T→AV} {f:FuncId} {k:Nat} (K:Jg P f k) (HF:ai 0 k=true) {gf:FuncId} [bJ P gf] {C:List AV} {fn:T→T→Option Int} (SP:∀ {x y:T} {u:Int},fn x y=some u→@Pu pM P gf (g x :: g y :: C) (I u))
 (PV:∀ x,g x=.agg (g x).cells) {Xs Ys:List T} {b:Bk} (h:Ek fn Xs=some Ys):aP P f [.sl k b 0 Xs.length,.func (.func gf) C] [(b,.arr k (Xs.map g))] (T0 [(b,.arr k (Ys.map g))] (.lE [])):=by
 have HF:0 < k:=bw (dn (cz HF)) (a6 _)
 intro w S vs r hl ha
 obtain ⟨v0,v1,rfl⟩:∃ v0 v1,vs=#[v0,v1]:=by
  match vs,hl with
  | ⟨[v0,v1]⟩,_=>exact ⟨v0,v1,rfl⟩
 have a0:=ha 0 _ v0 rfl rfl
 have a1:=ha 1 _ v1 rfl rfl
 obtain ⟨oa,cap,rfl,e2⟩:=a0.u7
 obtain ⟨cv,rfl,Ag,hca⟩:=a1.yH
 match Xs,h with
 | [],h=>
   obtain rfl:=aa h
   refine (K.none_ oa cap _ w).mono ?_
   rintro e w' ⟨rfl,rfl⟩
   exact ⟨_,.lE [],_,S,rfl,⟨rfl,rfl⟩,.lE [] #[] rfl (fun i c v hc=>by simp at hc),r,kS.refl _ _ _⟩
 | x :: xr,h=>
   rw [AE] at h
   by_cases hc:(xr.length+1 < 4611686018427387904∧(∀ a∈x :: xr,∀ b∈x :: xr,∃ u,fn a b=some u)∧SWO (ltOf (vJ fn x xr)))
   ·rw [if_pos hc] at h
    obtain rfl:=aa h
    obtain ⟨hlen,Vy,hO⟩:=hc
    obtain ⟨h0,h1,h2⟩:=r.holds _ (aw.2 rfl)
    simp only [em,eq] at h1
    rcases h2 with ⟨_,K3⟩ | ⟨m,row,E,hb,z6,iV,sB⟩
    ·have UI:b.cap=0:=K3
     omega
    rcases e2 with ⟨hn,_,_,_,_⟩ | ⟨m',B6,rfl,hle,X6⟩ | ⟨m',ad,_,_,Ux,_⟩
    ·rw [hn] at hb;cases hb
    ·obtain rfl:m'=m:=by rw [B6] at hb;exact aa hb
     have PW:m' < w.heap.size:=by
      rcases ce m' w.heap.size with h | h
      ·exact h
      ·simp [ci h] at z6
     have nS:¬ S m':=fun hs=>by have:=(r.sep _ (aw.2 rfl) m' (fV hb)).1 hs;exact this
     let ix:Nat→Nat:=fun i=>if i < xr.length+1 then i else 0
     have Mu:∀ i,ix i < xr.length+1:=fun i=>by simp only [ix];split<;>omega
     have Vz:∀ i,(x :: xr)[ix i]? =some (uz x xr i):=by
      intro i
      simp only [ix,uz,eg]
      split
      ·rename_i hi
       rw [a7 (by simpa using hi)];simp
      ·rename_i hi
       rw [List.getElem?_eq_none (l:=x :: xr) (i:=i) (by simp;omega)];simp
     have WX:(xr.length+1) * k≤row.size:=by rw [iV];exact cQ k h1
     let enc:Nat→List Value:=fun i=>(row.toList.drop (ix i * k)).take k
     have HG:∀ i,(enc i).length=k:=by
      intro i
      have:ix i * k+k≤row.size:=by
       have:=cQ k (show ix i+1≤xr.length+1 from Mu i)
       rw [cy,Nat.one_mul] at this
       omega
      simp only [enc,da,eB,eC];omega
     have PX:∀ i j,j < k→(enc i)[j]? =row[ix i * k+j]?:=by
      intro i j hj
      simp only [enc,List.getElem?_take,if_pos hj,List.getElem?_drop,eX]
     have Bg:∀ i j,j < k→(flat ((x :: xr).map g))[ix i * k+j]? =(g (uz x xr i)).cells[j]?:=by
      intro i j hj
      exact qm h0 (by rw [al,Vz i];rfl) j hj
     have Ag:∀ i,(g (uz x xr i)).cells.length=k:=fun i=>(h0 _ (aI.2 ⟨_,jo x xr i,rfl⟩)).1
     have vE:∀ i,∀ c∈(g (uz x xr i)).cells,c.one=true:=fun i=>(h0 _ (aI.2 ⟨_,jo x xr i,rfl⟩)).2
     have Lf:∀ i,o8 w S (g (uz x xr i)).cells (enc i).toArray:=by
      intro i j c v hc hv
      have hj:j < k:=by rw [← Ag i];exact (ap.1 hc).1
      refine sB (ix i * k+j) c v (by rw [Bg i j hj];exact hc) ?_
      rw [← PX i j hj]
      simpa using hv
     have VA:∀ i,∀ v∈enc i,v.oneCell'=true:=by
      intro i v hv
      obtain ⟨j,hj,rfl⟩:=List.getElem_of_mem hv
      have hjk:j < k:=by rw [HG i] at hj;exact hj
      have SQ:j < (g (uz x xr i)).cells.length:=by rw [Ag i];exact hjk
      exact (Lf i j (g (uz x xr i)).cells[j] (enc i)[j] (by simp [SQ]) (by simp [hj])).KW (vE i _ (cl SQ))
     have vO:∀ (d:Array Nat) (t:Nat),t < d.size * k→(flatK enc k d)[t]! =(enc d[t / k]!)[t % k]!:=fun d t ht=>get_flatK enc k d t ht
     have PY:HoldsK enc k w m' 0 (be (xr.length+1)):=by
      intro j hj
      rw [size_flatK,eY] at hj
      have hdiv:j / k < xr.length+1:=(e8 HF).2 hj
      have HI:j % k < k:=b8 _ HF
      have Mv:j < row.size:=by omega
      have e1:(flatK enc k (be (xr.length+1)))[j]! =row[j]:=by
       rw [vO _ _ (by simpa using hj)]
       have:(be (xr.length+1))[j / k]! =j / k:=by
        rw [getElem!_pos _ _ (by simpa using hdiv)];simp
       rw [this]
       have hv:=PX (j / k) (j % k) HI
       have:ix (j / k)=j / k:=by simp only [ix];rw [if_pos hdiv]
       rw [this,e9] at hv
       rw [a8 Mv] at hv
       rw [List.getElem!_eq_getElem?_getD,hv];rfl
      constructor
      ·simp only [World.cell?,z6,id,e1,dl,fd,bx,if_false]
       rw [a8 Mv]
      ·simp [World.frozen?,z6]
     have VB:CmpLays P gf cv enc k (vJ fn x xr) m' 0 (be (xr.length+1)).size w:=by
      intro mm os dk hdk i j
      obtain ⟨u,hu⟩:=Vy _ (jo x xr i) _ (jo x xr j)
      have hW:∀ n,S n→S n∧(sortWorldK enc k w m' 0 mm dk os).heap[n]? =w.heap[n]?:=fun n hs=>
       ⟨hs,ra enc k w m' 0 mm dk os (r.slt n hs) (fun e=>nS (e▸hs))⟩
      have Mw:o8 (sortWorldK enc k w m' 0 mm dk os) S (g (uz x xr i) :: g (uz x xr j) :: C) (#[.agg (enc i).toArray,.agg (enc j).toArray]++cv):=by
       intro q c v hc hv
       have ag:∀ i,At (sortWorldK enc k w m' 0 mm dk os) S (g (uz x xr i)) (.agg (enc i).toArray):=fun i=>by
        rw [PV (uz x xr i)]
        exact .agg _ _ (by rw [Ag i];simp [HG i]) (fun a c v hc hv=>((Lf i) a c v hc hv).mono hW)
       match q with
       | 0=>
         rw [du (by simp)] at hv
         simp at hc hv;subst hc;subst hv;exact ag i
       | 1=>
         rw [du (by simp)] at hv
         simp at hc hv;subst hc;subst hv;exact ag j
       | q+2=>
         simp only [List.getElem?_cons_succ] at hc
         rw [ej (by simp)] at hv
         simp only [List.size_toArray,eq,List.length_nil,Nat.add_sub_cancel] at hv
         exact (hca q c v hc (by simpa using hv)).mono hW
      refine (SP hu _ S _ (@va pM _ _ (fun n hn=>bw (r.slt n hn) (xI _ _ _ _ _ _ _ _)) (fun g o ho=>⟨(r.gz g o ho).1,A9 (hW g (r.gz g o ho).1).2 (r.gz g o ho).2⟩)) (by simp [Ag,‹C.length=cv.size›];omega) Mw).mono ?_
      rintro e w' ⟨v,rr,h',S',rfl,hq,h3,h4,h5⟩
      obtain rfl:=hq
      rw [h3.eP]
      refine ⟨?_,@Ext.grown pM _ _ trivial (@kS.Gh pM _ _ _ _ _ h5)⟩
      unfold vJ
      rw [hu];rfl
     have OZ:(be (xr.length+1)).size=xr.length+1:=eY
     have Jh:=K.some_ enc HG VA (vJ fn x xr) hO gf cv m' 0 cap (be (xr.length+1)) w (fun args w=>uG gf args w) VB PY PW (by rw [OZ];exact hlen)
     rw [OZ] at Jh
     simp only [fg]
     refine Jh.mono ?_
     rintro e w' ⟨rfl,q,os,rfl⟩
     have SR:=pdq_sorts (ltOf (vJ fn x xr)) hO (be (xr.length+1)) 0 (xr.length+1) (Lib.bitLen (xr.length+1)) true true (dy _) (by rw [OZ];exact a6 _) (Or.inl rfl)
     generalize ya:pdq (ltOf (vJ fn x xr)) (be (xr.length+1)) 0 (xr.length+1) (Lib.bitLen (xr.length+1)) true true=d' at SR ⊢
     have HJ:d'.size=xr.length+1:=by rw [SR.1.1,OZ]
     have hW:∀ n,S n→S n∧(sortWorldK enc k w m' 0 q d' os).heap[n]? =w.heap[n]?:=fun n hs=>
      ⟨hs,ra enc k w m' 0 q d' os (r.slt n hs) (fun e=>nS (e▸hs))⟩
     have R7:∀ y∈(d'.toList.map (uz x xr)).map g,El k y:=by
      intro y hy
      simp only [aI] at hy
      obtain ⟨z,⟨i,_,rfl⟩,rfl⟩:=hy
      exact h0 _ (aI.2 ⟨_,jo x xr i,rfl⟩)
     have hh:Go.Eng.Holds (sortWorldK enc k w m' 0 q d' os) S b (.arr k ((d'.toList.map (uz x xr)).map g)):=by
      refine ⟨R7,by simp [HJ];omega,.inr ⟨m',_,E,hb,Gv enc k w m' q d' os z6,by simp [putCells,iV],?_⟩⟩
      intro j c v hc hv
      have Af:j < (xr.length+1) * k:=by
       have:=(ap.1 hc).1
       rw [cN R7] at this
       simpa [HJ] using this
      have hdiv:j / k < xr.length+1:=(e8 HF).2 Af
      have HI:j % k < k:=b8 _ HF
      have Mv:j < row.size:=by omega
      have W3:(d'.toList.map (uz x xr))[j / k]? =some (uz x xr d'[j / k]!):=by
       rw [al,eX,a8 (by omega),getElem!_pos d' (j / k) (by omega)];rfl
      have xx:(g (uz x xr d'[j / k]!)).cells[j % k]? =some c:=by
       rw [← qm (sz:=k) R7 (i:=j / k) (x:=g (uz x xr d'[j / k]!)) (by rw [al,W3];rfl) (j % k) HI,e9]
       exact hc
      have UJ:(enc d'[j / k]!)[j % k]? =some v:=by
       simp only [putCells,fl,a8 Mv,bs,bY] at hv
       rw [if_pos ⟨dy _,by rw [size_flatK,HJ];omega⟩,Nat.sub_zero,vO d' j (by rw [HJ];exact Af)] at hv
       have iW:j % k < (enc d'[j / k]!).length:=by rw [HG];exact HI
       rw [a7 iW,← hv]
       simp only [id,getElem!_pos (enc d'[j / k]!) (j % k) iW]
      exact (Lf _ _ _ _ xx (by simpa using UJ)).mono hW
     have Ji:=xI enc k w m' 0 q d' os
     refine ⟨_,.lE [],_,S,rfl,⟨rfl,rfl⟩,.lE [] #[] rfl (fun i c v hc=>by simp at hc),⟨r.nodup,fun e he=>by rw [aw] at he;subst he;exact hh,fun e he n hn=>?_,fun n hn=>bw (r.slt n hn) Ji,fun g o ho=>⟨(r.gz g o ho).1,A9 (hW g (r.gz g o ho).1).2 (r.gz g o ho).2⟩⟩,?_⟩
     ·rw [aw] at he;subst he
      replace hn:=(xB rfl).1 hn
      rw [hb] at hn
      obtain rfl:=aa hn
      exact ⟨fun hs=>(nS hs).elim,fun hf=>hf.elim⟩
     ·refine ⟨rfl,rfl,rfl,Ji,hW,fun n hn X7=>⟨ra enc k w m' 0 q d' os hn (fun e=>X7 ⟨_,aw.2 rfl,by rw [e];exact fV hb⟩),id⟩,?_,?_⟩
      ·rintro n ⟨e,he,vD⟩
       rw [aw] at he;subst he
       exact .inl ⟨_,aw.2 rfl,vD⟩
      ·intro _
       show w.drawn≤(sortWorldK enc k w m' 0 q d' os).drawn
       show w.drawn≤w.drawn+q
       omega
    ·simp at Ux
   ·rw [if_neg hc] at h;cases h
end Go.Eng
namespace Go.Eng
open Go
variable [bN]
def Cf {α:Type} (xs:List α) (L:Int) (n:Nat) (j:Int):Option α:=if 0≤L∧0≤j∧j < n then idx xs (L+j) else none
theorem zH {α:Type} {xs:List α} {L:Int} {n:Nat} {j:Int} {x:α} (h:Cf xs L n j=some x):(0≤L∧0≤j∧j < n)∧idx xs (L+j)=some x:=by
 unfold Cf at h
 split at h
 ·rename_i hc;exact ⟨hc,h⟩
 ·cases h
def DM {α:Type} (xs:List α) (L:Int) (n:Nat) (z:α):List α:=xs.take L.toNat++ac n z++xs.drop (L.toNat+n)
theorem vP {α:Type} {xs v:List α} {L H:Int} {z:α} (h:A5 xs L H=some v):(DM xs L v.length z).length=xs.length:=by
 obtain ⟨⟨h0,h1,h2⟩,_⟩:=vb h
 have:=(Bo h).1
 unfold DM
 simp only [List.length_append,da,List.length_replicate,eB]
 omega
section rules
variable {P:Program} {all:Array Oper} {rest:List Oper} {n:Nat} {tm:List (Nat×AV)} {hp:Heap} {Q:St→Prop} {d:Nat} {ty:TypeId} {pos:String} {af:Array Edge}
theorem yV {α:Type} {Xs:List α} {el:α} {t e:TypeId} {i:TypeInfo} {x y:Operand} {k:IntKind} {j L:Int} {sz m:Nat} {b:Bk} [aB P t (.slice e)] [aX P e i] (hx:de tm x=some (.sl sz b L.toNat m)) (iV:b7 i.size sz=true) (hy:de tm y=some (.int k j))
 (hv:Cf Xs L m j=some el):QV P ⟨some d,.indexAddr t x y,ty,pos,af,none⟩ ⟨n,tm,hp⟩ (.sQ sz b (L+j).toNat 0):=by
 obtain ⟨⟨h0,h1,h2⟩,h3⟩:=zH hv
 have h:=D0 (P:=P) (d:=d) (ty:=ty) (pos:=pos) (af:=af) (n:=n) (tm:=tm) (hp:=hp) (t:=t) (e:=e) hx iV hy ⟨h1,h2⟩
 rw [show (L+j).toNat=L.toNat+j.toNat by omega]
 exact h
theorem NS {x:Operand} {t e:TypeId} {sz off len:Nat} {b:Bk} [aB P t (.slice e)] (hx:de tm x=some (.sl sz b off len)):QV P ⟨some d,.call {callee:=.builtin .len,args:=#[x],argTypes:=#[t]},ty,pos,af,none⟩ ⟨n,tm,hp⟩ (.int .i64 (len:Nat)):=IL hx
theorem SS {t e:TypeId} {i:TypeInfo} {z:Value} {x:Operand} {b:Bk} {L N sz:Nat} {xs:List AV} {zx:AV} {cL:Heap} [aB P t (.slice e)] [aX P e i] (hx:de tm x=some (.sl sz b L N)) (hz:i.zero=some z) (Em:A4 z=zx) (iV:b7 i.size sz=true) (x7:Sp sz zx=true) (tQ:ai 0 sz=true) (hL:L+N≤xs.length)
 (u:na hp b (.arr sz xs) b (.arr sz (xs.take L++ac N zx++xs.drop (L+N))) cL) (kk:ae P all rest ⟨n,tm,cL⟩ Q):
 ae P all (⟨none,.call {callee:=.builtin .clear,args:=#[x],argTypes:=#[t]},ty,pos,af,none⟩ :: rest) ⟨n,tm,hp⟩ Q:=by
 have iV:=d5 iV
 have tQ:0 < sz:=bw (dn (cz tQ)) (a6 _)
 have hE:=yN x7
 refine ae.IJ rfl fun w S a r=>?_
 obtain ⟨oa,cap,e1,e2⟩:=(bj (σ:=⟨n,tm,hp⟩) r hx).u7
 rcases fr N with h0 | h0
 ·subst h0
  have Ah:xs.take L++ac 0 zx++xs.drop (L+0)=xs:=by simp
  rw [Ah] at u
  obtain ⟨p,q,hq1,hq2⟩:=u.split
  obtain rfl:cL=hp:=by rw [hq1,hq2]
  refine ⟨.tuple #[],w,S,⟨n,tm,cL⟩,?_,r,kS.refl _ _ _,kk⟩
  cases oa<;>simp [execOp,e1,resolve,invoke,builtin,Builtin.clear_,run_underlying (aB.h (P:=P) (t:=t))]
 ·rcases e2 with ⟨_,_,hl,_,_⟩ | ⟨m,hb,rfl,h1,h2⟩ | ⟨_,_,_,_,hl,_⟩
  ·omega
  ·obtain ⟨g0,g1,⟨g2,_⟩ | ⟨m',vs,E,g2,g3,g4,g5⟩⟩:=rn r.hp (.inl u.lS)
   ·rw [g2] at hb;cases hb
   obtain rfl:m'=m:=by rw [g2] at hb;exact aa hb
   obtain ⟨zl,ZL⟩:=rR w S z (by rw [Em];exact hE.2)
   rw [Em] at zl ZL
   have D5:z.cells.size=sz:=by rw [← zl];exact hE.1
   have SU:∀ y∈ac N zx,El sz y:=fun y hy=>by rw [ds hy];exact hE
   have KZ:(Builtin.zeroCells z.cells N).size=N * sz:=by rw [size_zeroCells,D5]
   have IU:(flat (ac N zx)).length=(Builtin.zeroCells z.cells N).size:=by rw [cN SU,KZ];simp
   have PZ:o8 w S (flat (ac N zx)) (Builtin.zeroCells z.cells N):=by
    intro j c v hc hv
    have hj:j < N * sz:=by
     have:=(ap.1 hc).1
     rw [cN SU] at this;simpa using this
    rw [yT hE.1 N j hj] at hc
    refine ZL (j % sz) c v hc ?_
    unfold Builtin.zeroCells at hv
    simp only [d7,d8] at hv
    obtain ⟨q,hq,rfl⟩:=hv
    have:q=j:=by
     rw [cP] at hq
     obtain ⟨k1,k2⟩:=hq
     simpa using k2.symm
    subst this
    rw [D5]
    have iW:q % sz < z.cells.size:=by rw [D5];exact b8 _ tQ
    simp [iW]
   have vE:=yL IU PZ (fun c hc=>by
    unfold flat at hc
    rw [b4] at hc
    obtain ⟨y,hy,hcy⟩:=hc
    exact (SU y hy).2 c hcy)
   have Hl:=cN g0
   have hmul:(L+N) * sz≤xs.length * sz:=cQ _ hL
   have CZ:xs.length * sz≤b.cap * sz:=cQ _ g1
   rw [cy] at hmul
   have FJ:=run_storeCells_at (P:=P) m' (L * sz) E (Builtin.zeroCells z.cells N).toList 0 vs w g3 (by simp [KZ];omega) vE
   simp only [Nat.add_zero] at FJ
   have Bg:flat (xs.take L++ac N zx++xs.drop (L+N))=(flat xs).take (L * sz)++flat (ac N zx)++(flat xs).drop (L * sz+(flat (ac N zx)).length):=by
    rw [rm,rm,wR xs L g0,wQ xs (L+N) g0,IU,KZ,cy]
   have I7:=fun (w':World) (ha:o8 w' S (flat xs) vs) (hb:o8 w' S (flat (ac N zx)) (Builtin.zeroCells z.cells N))=>Hp (L * sz) (by rw [Hl,g4];exact CZ) ha IU hb (by rw [IU,KZ,Hl];omega)
   have I8:(vs.toList.take (L * sz)++(Builtin.zeroCells z.cells N).toList++vs.toList.drop (L * sz+(Builtin.zeroCells z.cells N).toList.length)).toArray.size=b.cap * sz:=by
    simp [KZ];omega
   generalize (vs.toList.take (L * sz)++(Builtin.zeroCells z.cells N).toList++vs.toList.drop (L * sz+(Builtin.zeroCells z.cells N).toList.length)).toArray=CP at FJ I7 I8
   have c:GB w (w.setRow m' CP) b.cw:=⟨⟨rfl,rfl,rfl,by simp,fun k hk A2=>setRow_other w m' k _ (fun e=>A2 (by rw [g2,e]))⟩,fun _=>a6 _⟩
   have k1:∀ n,S n→S n∧(w.setRow m' CP).heap[n]? =w.heap[n]?:=by
    intro k hk
    refine ⟨hk,setRow_other w m' k _ (fun e=>?_)⟩
    subst e
    exact (r.hp.sep _ u.lS.mem k (fV g2)).1 hk
   have hh:=tA r.hp u c id id ⟨fun y hy=>?_,by simp;omega,.inr ⟨m',CP,E,g2,setRow_heap w m' vs _ E _ g3,I8,by rw [Bg];exact I7 _ (g5.mono k1) (PZ.mono k1)⟩⟩ (.inl rfl)
   ·refine ⟨.tuple #[],w.setRow m' CP,S,⟨n,tm,cL⟩,?_,r.heap hh.2.2 hh.1,hh.2.1,kk⟩
    obtain ⟨N',rfl⟩:∃ k,N=k+1:=⟨N - 1,by omega⟩
    simp [execOp,e1,resolve,invoke,builtin,Builtin.clear_,run_underlying (aB.h (P:=P) (t:=t)),zeroValue,typeInfo,aX.h (P:=P) (t:=e),hz,FJ]
   ·rcases bo.1 hy with h | h
    ·rcases bo.1 h with h | h
     ·exact g0 y (d3 h)
     ·exact SU y h
    ·exact g0 y (List.mem_of_mem_drop h)
  ·omega
theorem Mx {α:Type} {g:α→AV} {Z:α} {Xs V:List α} {H:Int} {t e:TypeId} {i:TypeInfo} {z:Value} {x:Operand} {b:Bk} {L:Int} {sz:Nat} {cL:Heap} [aB P t (.slice e)] [aX P e i] (hx:de tm x=some (.sl sz b L.toNat V.length)) (hz:i.zero=some z) (Em:A4 z=g Z) (iV:b7 i.size sz=true) (x7:Sp sz (g Z)=true) (tQ:ai 0 sz=true) (hv:A5 Xs L H=some V)
 (u:na hp b (.arr sz (Xs.map g)) b (.arr sz ((DM Xs L V.length Z).map g)) cL) (kk:ae P all rest ⟨n,tm,cL⟩ Q):
 ae P all (⟨none,.call {callee:=.builtin .clear,args:=#[x],argTypes:=#[t]},ty,pos,af,none⟩ :: rest) ⟨n,tm,hp⟩ Q:=by
 obtain ⟨⟨h0,h1,h2⟩,_⟩:=vb hv
 have hlen:=(Bo hv).1
 refine SS (xs:=Xs.map g) hx hz Em iV x7 tQ (by simp;omega) ?_ kk
 have:(DM Xs L V.length Z).map g=(Xs.map g).take L.toNat++ac V.length (g Z)++(Xs.map g).drop (L.toNat+V.length):=by
  unfold DM
  simp
 rw [← this]
 exact u
end rules
end Go.Eng
namespace Go.Eng
open Go Go.Sort Go.Proofs
variable [bN]
structure P0 {α:Type} [Inhabited α] (P:Program) (f:FuncId) (enc:α→Value) (Lg:List α→List α):Prop where
 some_:∀ (cw off cap:Nat) (zs:List α) (w:World),Sort.Holds enc w cw off zs.toArray→cw < w.heap.size→zs.length < 4611686018427387904→Calls P f #[.slice (some ⟨cw,off,none⟩) zs.length cap] w fun e w'=>
  e=.returned (.tuple #[])∧∃ n os,w'=grow (putRow enc (Sort.ahead w n) cw off (Lg zs).toArray) os
 none_:∀ (p:Option Addr) (cap:Nat) (w:World),Calls P f #[.slice p 0 cap] w fun e w'=>e=.returned (.tuple #[])∧w'=w
def Jj {α:Type} (Lg:List α→List α) (xs:List α):Option (List α):=if xs.length < 4611686018427387904 then some (Lg xs) else none
theorem Gw {α:Type} [Inhabited α] (enc:α→Value) (w:World) (cw off m:Nat) (dk:Array α) (os:Array Obj) {n:Nat} (hn:n < w.heap.size) (A2:n≠cw):(grow (putRow enc (Sort.ahead w m) cw off dk) os).heap[n]? =w.heap[n]?:=by
 unfold putRow
 rw [heap_grow_old _ _ (by simpa [mapBlock] using hn)]
 simp only [mapBlock,heap_ahead,b9]
 rw [if_neg (fun h=>A2 h.symm)]
theorem P1 {α:Type} [Inhabited α] (enc:α→Value) (w:World) (cw m:Nat) (dk:Array α) (os:Array Obj) {vs:Array Value} {E:TypeId} (hb:w.heap[cw]? =some (.cells vs E (0,0))):(grow (putRow enc (Sort.ahead w m) cw 0 dk) os).heap[cw]? =some (.cells (putCells enc 0 dk vs) E (0,0)):=by
 have iW:cw < w.heap.size:=by
  rcases ce cw w.heap.size with h | h
  ·exact h
  ·simp [ci h] at hb
 unfold putRow
 rw [heap_grow_old _ _ (by simpa [mapBlock] using iW)]
 simp only [mapBlock,heap_ahead,b9]
 rw [if_pos trivial,hb]
 rfl
theorem wX {α:Type} {g:α→AV} (hc:∀ x,(g x).cells=[g x]):∀ xs:List α,flat (xs.map g)=xs.map g
 | []=>rfl
 | x :: r=>by rw [bt,kK,hc,wX hc r];rfl
theorem Jk {P:Program} {α:Type} [Inhabited α] {f:FuncId} {enc:α→Value} {Lg:List α→List α} (K:P0 P f enc Lg) {g:α→AV} (hg:∀ {w:World} {S:Nat→Prop} {x:α} {v:Value},At w S (g x) v→v=enc x) (O0:∀ (w:World) (S:Nat→Prop) (x:α),At w S (g x) (enc x)) (hc:∀ x,(g x).cells=[g x])
 (hlen:∀ xs,(Lg xs).length=xs.length) (vE:∀ x,(g x).one=true) {Xs Ys:List α} {b:Bk} (h:Jj Lg Xs=some Ys):aP P f [.sl 1 b 0 Xs.length] [(b,.arr 1 (Xs.map g))] (T0 [(b,.arr 1 (Ys.map g))] (.lE [])):=by
 unfold Jj at h
 split at h
 ·rename_i iV
  obtain rfl:=aa h
  intro w S vs r hl ha
  obtain ⟨v0,rfl⟩:∃ v0,vs=#[v0]:=by
   match vs,hl with
   | ⟨[v0]⟩,_=>exact ⟨v0,rfl⟩
  have a0:=ha 0 _ v0 rfl rfl
  obtain ⟨oa,cap,rfl,e2⟩:=a0.u7
  have R7:∀ (zs:List α),∀ y∈zs.map g,El 1 y:=by
   intro zs y hy
   obtain ⟨x,_,rfl⟩:=aI.1 hy
   exact ⟨by rw [hc];rfl,fun c Gp=>by rw [hc] at Gp;rw [aw.1 Gp];exact vE x⟩
  have Pq:Xs.length=0→Lg Xs=Xs:=fun h0=>by
   have h1:=hlen Xs
   have e1:Xs=[]:=fs h0
   rw [e1]
   apply fs
   rw [hlen];rfl
  rcases fr Xs.length with h0 | h0
  ·have hK:=K.none_ oa cap w
   rw [← h0] at hK
   refine hK.mono ?_
   rintro e w' ⟨rfl,rfl⟩
   rw [Pq h0]
   exact ⟨_,.lE [],_,S,rfl,⟨rfl,rfl⟩,.lE [] #[] rfl (fun i c v hc=>by simp at hc),r,kS.refl _ _ _⟩
  ·obtain ⟨_,h1,h2⟩:=r.holds _ (aw.2 rfl)
   simp only [em] at h1
   rcases h2 with ⟨_,K3⟩ | ⟨m,row,E,hb,z6,WX,sB⟩
   ·have UI:b.cap=0:=K3
    omega
   rcases e2 with ⟨hn,_,_,_,_⟩ | ⟨m',B6,rfl,hle,X6⟩ | ⟨m',ad,_,_,Ux,_⟩
   ·rw [hn] at hb;cases hb
   ·obtain rfl:m'=m:=by rw [B6] at hb;exact aa hb
    have PW:m' < w.heap.size:=by
     rcases ce m' w.heap.size with h | h
     ·exact h
     ·simp [ci h] at z6
    have nS:¬ S m':=fun hs=>by have:=(r.sep _ (aw.2 rfl) m' (fV hb)).1 hs;exact this
    have ahJ:row.size=b.cap:=by rw [WX];exact Nat.mul_one _
    rw [wX hc] at sB
    have hH:Sort.Holds enc w m' 0 Xs.toArray:=by
     intro j hj
     have W1:j < Xs.length:=by simpa using hj
     have Mv:j < row.size:=by omega
     have hv:=hg (sB j (g Xs[j]) row[j] (by simp [W1]) (by simp [Mv]))
     constructor
     ·simp only [World.cell?,z6,dl,fd,bx,if_false]
      rw [a8 Mv,hv]
      simp [W1]
     ·simp [World.frozen?,z6]
    simp only [fg]
    refine (K.some_ m' 0 cap Xs w hH PW iV).mono ?_
    rintro e w' ⟨rfl,q,os,rfl⟩
    have hW:∀ n,S n→S n∧(grow (putRow enc (Sort.ahead w q) m' 0 (Lg Xs).toArray) os).heap[n]? =w.heap[n]?:=fun n hs=>
     ⟨hs,Gw enc w m' 0 q _ os (r.slt n hs) (fun e=>nS (e▸hs))⟩
    have Ji:w.heap.size≤(grow (putRow enc (Sort.ahead w q) m' 0 (Lg Xs).toArray) os).heap.size:=by simp
    have hls:=hlen Xs
    have hh:Go.Eng.Holds (grow (putRow enc (Sort.ahead w q) m' 0 (Lg Xs).toArray) os) S b (.arr 1 ((Lg Xs).map g)):=by
     refine ⟨R7 _,by simp;omega,.inr ⟨m',_,E,hb,P1 enc w m' q _ os z6,by simp [putCells,WX],?_⟩⟩
     rw [wX hc]
     intro j c v SQ hv
     have Af:j < (Lg Xs).length:=by have:=(ap.1 SQ).1;simpa using this
     have Mv:j < row.size:=by omega
     rw [al,a7 Af] at SQ
     obtain rfl:=aa SQ
     simp only [putCells,fl,a8 Mv,bs,bY] at hv
     rw [if_pos ⟨dy _,by simp;omega⟩] at hv
     rw [← hv]
     have:(Lg Xs).toArray[j - 0]! =(Lg Xs)[j]:=by simp [Af]
     rw [this]
     exact O0 _ _ _
    refine ⟨_,.lE [],_,S,rfl,⟨rfl,rfl⟩,.lE [] #[] rfl (fun i c v hc=>by simp at hc),⟨r.nodup,fun e he=>by rw [aw] at he;subst he;exact hh,fun e he n hn=>?_,fun n hn=>bw (r.slt n hn) Ji,fun g o ho=>⟨(r.gz g o ho).1,A9 (hW g (r.gz g o ho).1).2 (r.gz g o ho).2⟩⟩,?_⟩
    ·rw [aw] at he;subst he
     replace hn:=(xB rfl).1 hn
     rw [hb] at hn
     obtain rfl:=aa hn
     exact ⟨fun hs=>(nS hs).elim,fun hf=>hf.elim⟩
    ·refine ⟨rfl,rfl,rfl,Ji,hW,fun n hn X7=>⟨Gw enc w m' 0 q _ os hn (fun e=>X7 ⟨_,aw.2 rfl,by rw [e];exact fV hb⟩),id⟩,?_,?_⟩
     ·rintro n ⟨e,he,vD⟩
      rw [aw] at he;subst he
      exact .inl ⟨_,aw.2 rfl,vD⟩
     ·intro _
      show w.drawn≤w.drawn+q
      omega
   ·omega
 ·cases h
def NT (xs:List Int):List Int:=xs.mergeSort fun x y=>decide (x≤y)
theorem Jl {P:Program} {f:FuncId} (K:P0 P f (Value.int .i64) NT) {Xs Ys:List Int} {b:Bk} (h:Jj NT Xs=some Ys):aP P f [.sl 1 b 0 Xs.length] [(b,.arr 1 (Xs.map I))] (T0 [(b,.arr 1 (Ys.map I))] (.lE [])):=
 Jk K (g:=I) (fun h=>h.eP) (fun w S x=>.int _ _) (fun _=>rfl) (fun xs=>List.length_mergeSort _) (fun _=>rfl) h
end Go.Eng
namespace Go.Eng
open Go
variable [bN]
def AV.P2:AV→Bool
 | .sl _ _ _ _=>true
 | .ptr _ _=>true
 | .agg cs=>IV cs
 | v=>v.Hm
def NU:List AV→Bool
 | []=>true
 | c :: r=>c.P2&&NU r
def AV.X8:AV→Bool
 | .lE cs=>NU cs
 | .agg cs=>NU cs
 | v=>v.P2
theorem DN {w:World} {S S':Nat→Prop} {av:AV} {v:Value} (h:At w S av v) (hn:av.P2=true):At w S' av v:=by
 cases h with
 | agg cs vs hl h=>exact .agg cs vs hl fun i c u hc hu=>yQ (h i c u hc hu) (yR hn c (bz hc))
 | sl sz b off len n cap hb h1 h2=>exact .sl sz b off len n cap hb h1 h2
 | Ba sz b hb=>exact .Ba sz b hb
 | Pa sz b off n ad hb=>exact .Pa sz b off n ad hb
 | ptr b o n hb=>exact .ptr b o n hb
 | int k n=>exact .int k n
 | bool b=>exact .bool b
 | str s=>exact .str s
 | nil=>exact .nil
 | raw v=>exact .raw v
 | _=>simp [AV.P2,AV.Hm] at hn
theorem Bp:∀ {cs:List AV},NU cs=true→∀ c∈cs,c.P2=true
 | [],_,c,hc=>by simp at hc
 | x :: r,h,c,hc=>by
   simp only [NU,Bool.and_eq_true] at h
   rcases dQ.1 hc with rfl | hc
   ·exact h.1
   ·exact Bp h.2 c hc
theorem VC {w:World} {S S':Nat→Prop} {av:AV} {v:Value} (h:At w S av v) (hn:av.X8=true):At w S' av v:=by
 cases av with
 | lE cs=>
   cases h with
   | lE _ vs hl h=>exact .lE cs vs hl fun i c u hc hu=>DN (h i c u hc hu) (Bp hn c (bz hc))
 | agg cs=>
   cases h with
   | agg _ vs hl h=>exact .agg cs vs hl fun i c u hc hu=>DN (h i c u hc hu) (Bp hn c (bz hc))
 | _=>exact DN h hn
def Ob.UK:Ob→Prop
 | .cells cs=>NU cs=true
 | .arr _ xs=>∀ x∈xs,IV x.cells=true
 | _=>False
inductive Lh:Heap→Prop
 | nil:Lh []
 | cons {b:Bk} {o:Ob} {h:Heap} (c:o.UK) (k:Lh h):Lh ((b,o) :: h)
theorem Lh.mem {h:Heap} (k:Lh h):∀ e∈h,e.2.UK:=by
 induction k with
 | nil=>intro e he;simp at he
 | cons c k ih=>
   intro e he
   rcases dQ.1 he with rfl | he
   ·exact c
   ·exact ih e he
theorem UK.jX {α:Type} {g:α→AV} {sz:Nat} {Xs:List α} (h:∀ x,IV (g x).cells=true):(Ob.arr sz (Xs.map g)).UK:=fun x hx=>by
 obtain ⟨y,_,rfl⟩:=aI.1 hx
 exact h y
theorem Holds.X8 {w:World} {S S':Nat→Prop} {b:Bk} {o:Ob} (h:Holds w S b o) (hn:o.UK):Holds w S' b o:=by
 cases o with
 | cells cs=>
   obtain ⟨h0,n,vs,E,h1,h2,h3,h4⟩:=h
   exact ⟨h0,n,vs,E,h1,h2,h3,fun i c v hc hv=>DN (h4 i c v hc hv) (Bp hn c (bz hc))⟩
 | arr sz xs=>
   obtain ⟨h0,h1,h2⟩:=h
   refine ⟨h0,h1,h2.imp id ?_⟩
   rintro ⟨n,vs,E,g1,g2,g3,g4⟩
   refine ⟨n,vs,E,g1,g2,g3,fun i c v hc hv=>yQ (g4 i c v hc hv) ?_⟩
   have hm:=bz hc
   unfold flat at hm
   rw [b4] at hm
   obtain ⟨x,hx,hcx⟩:=hm
   exact yR (hn x hx) c hcx
 | Bb _ _=>exact hn.elim
 | mp _=>exact hn.elim
 | Mg _ _=>exact hn.elim
 | He _ _ _=>exact hn.elim
 | KV _ _ _=>exact hn.elim
 | ct _=>exact hn.elim
 | WV _ _ _ _=>exact hn.elim
 | XB _ _=>exact hn.elim
 | XC _=>exact hn.elim
section rules
variable {P:Program} {all:Array Oper} {rest:List Oper} {n:Nat} {tm:List (Nat×AV)} {hp:Heap} {Q:St→Prop} {d:Nat} {ty:TypeId} {pos:String} {af:Array Edge}
theorem SV {f:FuncId} {args:List Operand} {ts:Array TypeId} {l l':List AV} {h0 hr:Heap} {Qc:AV→Heap→Prop} [bJ P f] (hl:CO tm args=some l) (c:aP P f l' h0 Qc) (co:vF hr l l') (hs:hp.Perm (h0++hr)) (hn:ai d n=true)
 (kk:∀ r h',Qc r h'→r.X8=true∧Lh h'∧ae P all rest ⟨n,(d,r) :: tm,h'++hr⟩ Q):ae P all (⟨some d,.call {callee:=.value (.func f),args:=args.toArray,argTypes:=ts},ty,pos,af,none⟩ :: rest) ⟨n,tm,hp⟩ Q:=by
 refine ae.IK rfl fun w S a r=>⟨f,_,oN a w,?_⟩
 obtain ⟨g1,g2⟩:=tU (σ:=⟨n,tm,hp⟩) r hl
 have rp:=r.hp.perm hs
 have Li:db w S hr:=rp.sub (List.sublist_append_right _ _)
 have P3:db w S h0:=rp.sub (List.sublist_append_left _ _)
 obtain ⟨g3,g4⟩:=vF.at Li co g1 g2
 have Lj:∀ m,Has h0 m→¬ Has hr m:=by
  rintro m ⟨x,hx,z7⟩ ⟨y,hy,ZN⟩
  have:=rp.nodup
  rw [cp,b5] at this
  exact this.2.2 m (b4.2 ⟨x,hx,z7⟩) m (b4.2 ⟨y,hy,ZN⟩) rfl
 have rh:db w (SB S hr) h0:=by
  refine ⟨P3.nodup,fun e he=>(P3.holds e he).mono (fun m hm=>⟨.inl hm,rfl⟩) (fun m _=>rfl),fun e he m hm=>?_,fun m hm=>?_,fun g o ho=>⟨.inl (P3.gz g o ho).1,(P3.gz g o ho).2⟩⟩
  ·constructor
   ·rintro (h | h)
    ·exact (P3.sep e he m hm).1 h
    ·exact (Lj m ⟨e,he,hm⟩ h).elim
   ·exact fun h=>.inl ((P3.sep e he m hm).2 h)
  ·rcases hm with h | h
   ·exact P3.slt m h
   ·exact Li.lt h
 refine (c w (SB S hr) _ rh (by simpa using g3) g4).mono ?_
 rintro e w' ⟨v,res,h',S',rfl,hq,h3,h4,h5⟩
 obtain ⟨k1,k2,k3⟩:=kk res h' hq
 have VD:∀ m,S m→(S' m∧(Has hr m→S m))∧w'.heap[m]? =w.heap[m]?:=fun m hm=>⟨⟨(h5.mB m (.inl hm)).1,fun _=>hm⟩,(h5.mB m (.inl hm)).2⟩
 have u9:db w' (fun m=>S' m∧(Has hr m→S m)) (h'++hr):=by
  refine ⟨?_,?_,?_,fun m hm=>h4.slt m hm.1,fun g o ho=>⟨⟨(h4.gz g o ho).1,fun _=>(P3.gz g o ho).1⟩,(h4.gz g o ho).2⟩⟩
  ·rw [cp,b5]
   refine ⟨h4.nodup,Li.nodup,fun x hx y hy Hh=>?_⟩
   subst Hh
   obtain ⟨e1,Sg,DI⟩:=b4.1 hx
   obtain ⟨e2,Mk,NV⟩:=b4.1 hy
   rcases h5.new x ⟨e1,Sg,DI⟩ with h | h
   ·exact Lj x h ⟨e2,Mk,NV⟩
   ·have:=Li.lt ⟨e2,Mk,NV⟩;omega
  ·intro e he
   rcases bo.1 he with he | he
   ·exact (h4.holds e he).X8 (k2.mem e he)
   ·exact (Li.holds e he).mono VD (fun m hm=>(h5.mB m (.inr ⟨e,he,hm⟩)).2)
  ·intro e he m hm
   rcases bo.1 he with he | he
   ·rw [← h4.sep e he m hm]
    refine ⟨fun h=>h.1,fun h=>⟨h,fun hh=>?_⟩⟩
    rcases h5.new m ⟨e,he,hm⟩ with h6 | h6
    ·exact (Lj m h6 hh).elim
    ·have:=Li.lt hh;omega
   ·rw [← Li.sep e he m hm]
    exact ⟨fun h=>h.2 ⟨e,he,hm⟩,fun h=>⟨(h5.mB m (.inl h)).1,fun _=>h⟩⟩
 have Jm:∀ m,Has hp m↔Has h0 m∨Has hr m:=by
  intro m
  constructor
  ·rintro ⟨x,hx,hb⟩
   rcases bo.1 (hs.mem_iff.1 hx) with h | h
   ·exact .inl ⟨x,h,hb⟩
   ·exact .inr ⟨x,h,hb⟩
  ·rintro (⟨x,hx,hb⟩ | ⟨x,hx,hb⟩)
   ·exact ⟨x,hs.mem_iff.2 (List.mem_append_left _ hx),hb⟩
   ·exact ⟨x,hs.mem_iff.2 (List.mem_append_right _ hx),hb⟩
 refine ⟨v,fun m=>S' m∧(Has hr m→S m),⟨n,(d,res) :: tm,h'++hr⟩,rfl,(r.heap VD u9).put hn (VC h3 k1),?_,k3⟩
 refine ⟨h5.os,h5.tape,h5.output,h5.size,VD,fun m hm hh=>?_,fun m hm=>?_,h5.drawn⟩
 ·have n0:¬ Has h0 m:=fun h=>hh ((Jm m).2 (.inl h))
  have nr:¬ Has hr m:=fun h=>hh ((Jm m).2 (.inr h))
  obtain ⟨q1,q2⟩:=h5.other m hm n0
  refine ⟨q1,fun h=>?_⟩
  rcases q2 h.1 with h | h
  ·exact h
  ·exact (nr h).elim
 ·obtain ⟨x,hx,hb⟩:=hm
  rcases bo.1 hx with hx | hx
  ·rcases h5.new m ⟨x,hx,hb⟩ with h | h
   ·exact .inl ((Jm m).2 (.inl h))
   ·exact .inr h
  ·exact .inl ((Jm m).2 (.inr ⟨x,hx,hb⟩))
theorem En {CY:Type} {f:FuncId} {args:List Operand} {ts:Array TypeId} {l l':List AV} {h0 hr:Heap} {H H':CY→Heap} {V:CY→AV} [bJ P f] (hl:CO tm args=some l) (c:aP P f l' h0 (T1 H V)) (hs:IC hp h0 hr) (co:vF hr l l') (ha:∀ b,uo (H b) hr=some (H' b)) (hV:∀ b,(V b).X8=true) (hH:∀ b,Lh (H b)) (hn:ai d n=true)
 (kk:∀ b,ae P all rest ⟨n,(d,V b) :: tm,H' b⟩ Q):ae P all (⟨some d,.call {callee:=.value (.func f),args:=args.toArray,argTypes:=ts},ty,pos,af,none⟩ :: rest) ⟨n,tm,hp⟩ Q:=
 SV hl c co hs.perm hn (fun r h' ⟨b,e1,e2⟩=>by subst e1;subst e2;rw [qQ (ha b)];exact ⟨hV b,hH b,kk b⟩)
end rules
class wJ (K:Type) where
 lt:K→K→Bool
instance:wJ Int:=⟨fun a b=>decide (a < b)⟩
instance:wJ Bool:=⟨fun a b=>!a&&b⟩
instance:wJ (List UInt8):=⟨fun a b=>Op.bytesLess a b⟩
section plain
variable {K V:Type}
def mG [DecidableEq K] (m:List (K×V)) (k:K):List (K×V):=m.filter (fun e=>decide (e.1≠k))
def wY [wJ K] (k:K) (v:V):List (K×V)→List (K×V)
 | []=>[(k,v)]
 | e :: r=>if wJ.lt e.1 k=true then e :: wY k v r else (k,v) :: e :: r
def bW [DecidableEq K] [wJ K] (m:List (K×V)) (k:K) (v:V):List (K×V):=wY k v (mG m k)
def bc [DecidableEq K]:List (K×V)→K→Option V
 | [],_=>none
 | e :: r,k=>if e.1=k then some e.2 else bc r k
def pc [DecidableEq K] (m:List (K×V)) (k:K) (z:V):Option V:=some ((bc m k).getD z)
def uD [DecidableEq K] (m:List (K×V)) (k:K) (z:V):Option (V×Bool):=some ((bc m k).getD z,(bc m k).isSome)
theorem sU [wJ K] (k:K) (v:V):∀ (m:List (K×V)),(wY k v m).Perm ((k,v) :: m)
 | []=>bv _
 | e :: r=>by
   unfold wY
   split
   ·exact (cm e (sU k v r)).trans (List.Perm.swap _ _ _)
   ·exact bv _
theorem r4 {α β:Type} (f:α→β):∀ (l:List β) (M:List α),l.Perm (M.map f)→∃ M':List α,M'.Perm M∧l=M'.map f
 | [],M,h=>by
   have:=h.nil_eq
   rw [eq_comm,List.map_eq_nil_iff] at this
   subst this;exact ⟨[],bv _,rfl⟩
 | x :: t,M,h=>by
   have hx:x∈M.map f:=h.mem_iff.1 (by simp)
   obtain ⟨e,he,rfl⟩:=aI.1 hx
   obtain ⟨p,q,rfl⟩:=ft he
   have h2:(f e :: t).Perm (f e :: (p++q).map f):=h.trans (by rw [bp,bt,bp];exact cS)
   obtain ⟨M',h3,rfl⟩:=r4 f t (p++q) (List.Perm.cons_inv h2)
   exact ⟨e :: M',(cm e h3).trans cS.symm,rfl⟩
theorem Eo [DecidableEq K] {k:K} {v:V}:∀ {m:List (K×V)},bc m k=some v→(k,v)∈m
 | [],h=>by cases h
 | e :: r,h=>by
   unfold bc at h
   split at h
   ·rename_i hk
    obtain rfl:=aa h
    subst hk;simp
   ·exact List.mem_cons_of_mem _ (Eo h)
theorem tW [DecidableEq K] {k:K} {v:V}:∀ {m:List (K×V)},(m.map bk).Nodup→(k,v)∈m→bc m k=some v
 | [],_,h=>by simp at h
 | e :: r,hn,h=>by
   rw [bt,dR] at hn
   unfold bc
   rcases dQ.1 h with rfl | h
   ·simp
   ·rw [if_neg (fun hk=>hn.1 (aI.2 ⟨_,h,hk.symm⟩))]
    exact tW hn.2 h
theorem pS [DecidableEq K] {k:K}:∀ {m:List (K×V)},bc m k=none↔∀ e∈m,e.1≠k
 | []=>by simp [bc]
 | e :: r=>by
   unfold bc
   split
   ·rename_i hk;simp [hk]
   ·rename_i hk
    rw [pS (m:=r)]
    simp [hk]
theorem jg [DecidableEq K] {m m':List (K×V)} (hp:m'.Perm m) (hn:(m'.map bk).Nodup) (k:K):bc m' k=bc m k:=by
 have Je:(m.map bk).Nodup:=(hp.map _).nodup_iff.1 hn
 cases h:bc m' k with
 | none=>
   symm
   rw [pS] at h ⊢
   exact fun e he=>h e (hp.mem_iff.2 he)
 | some v=>exact (tW Je (hp.mem_iff.1 (Eo h))).symm
theorem wZ [DecidableEq K] {m:List (K×V)} {k:K} (h:bc m k=none):mG m k=m:=by
 rw [pS] at h
 unfold mG
 exact b6.2 fun e he=>by simpa using h e he
end plain
noncomputable def Ep {E A:Type} (es:List E) (g:List E→Option A):Option A:=
 open Classical in if h:∃ r,∀ p,p.Perm es→g p=some r then some h.choose else none
theorem Lk {E A:Type} {es:List E} {g:List E→Option A} {r:A} (h:Ep es g=some r):∀ p,p.Perm es→g p=some r:=by
 unfold Ep at h
 split at h
 ·rename_i hx
  obtain rfl:=aa h
  exact hx.choose_spec
 ·cases h
theorem P4 {E A:Type} {es:List E} {g:List E→Option A} {r:A} (h:∀ p,p.Perm es→g p=some r):Ep es g=some r:=by
 unfold Ep
 have hx:∃ r,∀ p,p.Perm es→g p=some r:=⟨r,h⟩
 rw [dif_pos hx]
 have:=hx.choose_spec es (bv _)
 rw [h es (bv _)] at this
 exact this.symm
def vQ {E S A:Type} (b:E→S→Option (S⊕A)) (f:S→Option A):List E→S→Option A
 | [],s=>f s
 | e :: p,s=>(b e s).bind (after (vQ b f p))
theorem X9 {E S A:Type} {b:E→S→Option (S⊕A)} {f:S→Option A} {rest Ai:List E} {e:E} {s:S} {a:A} (h:∀ p,p.Perm rest→vQ b f p s=some a) (hp:rest.Perm (e :: Ai)):
 ∃ z,b e s=some z∧(∀ y,z=.inl y→∀ p,p.Perm Ai→vQ b f p y=some a)∧∀ a',z=.inr a'→a'=a:=by
 have h1:=h (e :: Ai) hp.symm
 unfold vQ at h1
 obtain ⟨z,hz,h2⟩:=bnd h1
 refine ⟨z,hz,fun y hy p hq=>?_,fun a' ha=>?_⟩
 ·have h3:=h (e :: p) ((cm e hq).trans hp.symm)
  unfold vQ at h3
  rw [hz,hy] at h3
  exact h3
 ·rw [ha] at h2
  exact aa h2
theorem aaI {E S A:Type} {b:E→S→Option (S⊕A)} {f:S→Option A} {rest:List E} {s:S} {a:A} (h:∀ p,p.Perm rest→vQ b f p s=some a) (hn:rest=[]):f s=some a:=by
 subst hn;exact h [] (bv _)
theorem ab.SY {P:Program} {R:St→Prop} {k:List It} {σ:St} {body:Code} {E S A:Type} (b:E→S→Option (S⊕A)) (f:S→Option A) (mk:List E→S→St→Prop) {a:A} {My:List E} {s0:S} (h:Ep My (fun p=>vQ b f p s0)=some a) (h0:aj σ (mk My s0))
 (hs:∀ rest s σ (J:St→Prop),mk rest s σ→(∀ p,p.Perm rest→vQ b f p s=some a)→(∀ Ai s' aK,Ai.length < rest.length→(∀ p,p.Perm Ai→vQ b f p s'=some a)→aj aK (mk Ai s')→J aK)→ab P R (.code body :: .stop J :: k) σ):
 ab P R (.code (.loop body) :: k) σ:=by
 refine ab.Uw (fun m σ=>∃ rest s,rest.length=m∧(∀ p,p.Perm rest→vQ b f p s=some a)∧mk rest s σ) My.length (h0.mono fun aK hσ=>⟨My,s0,rfl,Lk h,hσ⟩) ?_
 rintro m A3 ⟨rest,s,hm,hH,dY⟩
 refine hs rest s A3 _ dY hH (fun Ai s' aK hl VE hi=>⟨Ai.length,by omega,hi.mono fun K4 hk=>⟨Ai,s',rfl,VE,hk⟩⟩)
def yW {K:Type} [DecidableEq K] (k:K):List K→List MapEntry→Nat→Option (Nat×Value)
 | k' :: ks,e :: es,i=>if k'=k then some (i,e.val) else yW k ks es (i+1)
 | _,_,_=>none
class dC (P:Program) (t:TypeId) {K:Type} [DecidableEq K] (g:K→AV):Prop where
 inj:∀ a b,g a=g b→a=b
 check:∀ {w:World} {S:Nat→Prop} {k:K} {v:Value},At w S (g k) v→∀ (b:Bool) (w1:World),(Instr.checkKey b 10000 t v).run P w1=.ok () w1
 find:∀ {w:World} {S:Nat→Prop} {k:K} {v:Value},At w S (g k) v→∀ (es:List MapEntry) (ks:List K),ks.length=es.length→(∀ (i:Nat) k' e,ks[i]? =some k'→es[i]? =some e→At w S (g k') e.key)→∀ w1:World,(Instr.findKey t v es).run P w1=.ok (yW k ks es 0) w1
 bits:∀ {w:World} {S:Nat→Prop} {k:K} {v u:Value},At w S (g k) v→At w S (g k) u→Instr.sameBits 10000 v u=true
theorem zI {K:Type} [DecidableEq K] {d:TypeDesc} {v:Value} {k:K} {q:K→Value→Prop} (hq:∀ k' u,q k' u→Instr.sameNow d v u=some (decide (k'=k))):∀ (es:List MapEntry) (ks:List K) (i:Nat),ks.length=es.length→(∀ (i:Nat) k' e,ks[i]? =some k'→es[i]? =some e→q k' e.key)→Instr.findNow d v es i=some (yW k ks es i)
 | [],[],i,_,_=>rfl
 | [],k' :: ks,i,hl,_=>by simp at hl
 | e :: es,[],i,hl,_=>by simp at hl
 | e :: es,k' :: ks,i,hl,h=>by
   unfold Instr.findNow yW
   rw [hq k' e.key (h 0 k' e rfl rfl)]
   by_cases hk:k'=k
   ·simp [hk]
   ·simp only [hk,decide_false,if_false]
    exact zI hq es ks (i+1) (by simpa using hl) (fun i k' e h1 h2=>h (i+1) k' e (by simpa using h1) (by simpa using h2))
theorem Ll (a b:ByteArray):((a==b)=true)↔a=b:=by
 cases a with
 | mk a=>
   cases b with
   | mk b=>
     show (a==b)=true↔_
     rw [beq_iff_eq]
     exact ⟨fun h=>by rw [h],fun h=>by cases h;rfl⟩
theorem dC.int {P:Program} {t:TypeId} {q:IntKind} (h:P.underlying t=some (.int q)):dC P t (K:=Int) (fun n=>AV.int q n) where
 inj a b h:=by simpa using h
 check:=fun {w S k v} hv b w1=>by
  rw [hv.eP]
  have key:∀ n:Nat,(Instr.checkKey b (n+1) t (Value.int q k)).run P w1=.ok () w1:=fun n=>by simp [Instr.checkKey,run_underlying h]
  exact key 9999
 find:=fun {w S k v} hv es ks hl hk w1=>by
  rw [hv.eP]
  have hf:=zI (d:=(.int q)) (v:=(Value.int q k)) (k:=k) (q:=fun k' u=>u=(Value.int q k')) (fun k' u hu=>by subst hu;simp only [Instr.sameNow,if_true];congr 1;rw [d0];simp;exact eq_comm) es ks 0 hl (fun i k' e h1 h2=>(hk i k' e h1 h2).eP)
  simp [Instr.findKey,run_underlying h,hf]
 bits:=fun {w S k v u} h1 h2=>by rw [h1.eP,h2.eP];simp [Instr.sameBits]
theorem dC.bool {P:Program} {t:TypeId} (h:P.underlying t=some .bool):dC P t (K:=Bool) AV.bool where
 inj a b h:=by simpa using h
 check:=fun {w S k v} hv b w1=>by
  rw [hv.kW]
  have key:∀ n:Nat,(Instr.checkKey b (n+1) t (Value.bool k)).run P w1=.ok () w1:=fun n=>by simp [Instr.checkKey,run_underlying h]
  exact key 9999
 find:=fun {w S k v} hv es ks hl hk w1=>by
  rw [hv.kW]
  have hf:=zI (d:=.bool) (v:=(Value.bool k)) (k:=k) (q:=fun k' u=>u=(Value.bool k')) (fun k' u hu=>by subst hu;simp only [Instr.sameNow];congr 1;rw [d0];simp;exact eq_comm) es ks 0 hl (fun i k' e h1 h2=>(hk i k' e h1 h2).kW)
  simp [Instr.findKey,run_underlying h,hf]
 bits:=fun {w S k v u} h1 h2=>by rw [h1.kW,h2.kW];simp [Instr.sameBits]
theorem dC.str {P:Program} {t:TypeId} (h:P.underlying t=some .string):dC P t (K:=List UInt8) AV.str where
 inj a b h:=by simpa using h
 check:=fun {w S k v} hv b w1=>by
  rw [hv.fj]
  have key:∀ n:Nat,(Instr.checkKey b (n+1) t (Value.string ⟨k.toArray⟩)).run P w1=.ok () w1:=fun n=>by simp [Instr.checkKey,run_underlying h]
  exact key 9999
 find:=fun {w S k v} hv es ks hl hk w1=>by
  rw [hv.fj]
  have hf:=zI (d:=.string) (v:=(Value.string ⟨k.toArray⟩)) (k:=k) (q:=fun k' u=>u=(Value.string ⟨k'.toArray⟩)) (fun k' u hu=>by subst hu;simp only [Instr.sameNow];congr 1;rw [d0,Ll];simp;exact eq_comm) es ks 0 hl (fun i k' e h1 h2=>(hk i k' e h1 h2).fj)
  simp [Instr.findKey,run_underlying h,hf]
 bits:=fun {w S k v u} h1 h2=>by rw [h1.fj,h2.fj];simp only [Instr.sameBits];exact (Ll _ _).2 rfl
instance {P:Program} {t:TypeId} [h:aB P t (.int .i64)]:dC P t (K:=Int) I:=dC.int h.h
instance {P:Program} {t:TypeId} [h:aB P t .bool]:dC P t (K:=Bool) AV.bool:=dC.bool h.h
instance {P:Program} {t:TypeId} [h:aB P t .string]:dC P t (K:=List UInt8) AV.str:=dC.str h.h
theorem cY {P:Program} {w:World} {r:Nat} {es:Array MapEntry} {c:Nat} (h:w.heap[r]? =some (.map es c)):(getObj r).run P w=.ok (.map es c) w:=by
 simp only [getObj,Sem.run,h]
theorem C0 {P:Program} {w:World} {r:Nat} {m:Option Nat} {a b:Nat} {s:Array Nat} (h:w.heap[r]? =some (.mapIter m a s b)):(getObj r).run P w=.ok (.mapIter m a s b) w:=by
 simp only [getObj,Sem.run,h]
def z8 (w:World) (r:Nat) (o:Obj):World:={w with heap:=w.heap.setIfInBounds r o}
theorem ve {P:Program} {w:World} {r:Nat} {es:Array MapEntry} {c:Nat} (o:Obj) (h:w.heap[r]? =some (.map es c)):(setObj r o).run P w=.ok () (z8 w r o):=by
 simp only [setObj,Sem.run,h];rfl
theorem Jn {P:Program} {w:World} {r:Nat} {m:Option Nat} {a b:Nat} {s:Array Nat} (o:Obj) (h:w.heap[r]? =some (.mapIter m a s b)):(setObj r o).run P w=.ok () (z8 w r o):=by
 simp only [setObj,Sem.run,h];rfl
theorem uX {w:World} {r:Nat} {o o':Obj} (h:w.heap[r]? =some o'):(z8 w r o).heap[r]? =some o:=by
 have iW:r < w.heap.size:=(cP.1 h).1
 simp [z8,fu,iW]
theorem Er {w:World} {r k:Nat} {o:Obj} (h:k≠r):(z8 w r o).heap[k]? =w.heap[k]?:=by
 simp [z8,fu,Ne.symm h]
theorem SZ {w:World} {r:Nat} {o:Obj} {x:Option Nat} (hx:x=some r):GB w (z8 w r o) x:=
 ⟨⟨rfl,rfl,rfl,by simp [z8],fun k hk A2=>Er (fun e=>A2 (by rw [hx,e]))⟩,fun _=>a6 _⟩
theorem HK (w:World) (x:Option Nat):GB w w x:=⟨⟨rfl,rfl,rfl,a6 _,fun _ _ _=>rfl⟩,fun _=>a6 _⟩
theorem Ext.heap {w w':World} {n:Nat} {o:Obj} (e:Ext w w') (h:w.heap[n]? =some o):w'.heap[n]? =some o:=by
 rw [e.same n (cP.1 h).1];exact h
theorem At.kf {w:World} {S:Nat→Prop} {b:Bk} {v:Value} (h:At w S (.bV b) v):∃ n,b.cw=some n∧v=.map (some n):=by cases h with | bV _ n hb=>exact ⟨n,hb,rfl⟩
theorem Es (w:World) (S:Nat→Prop) (z:Value) (h1:kr (A4 z).cells=true):At w S (A4 z) z:=by
 by_cases hz:∃ cs,z=.agg cs
 ·obtain ⟨cs,rfl⟩:=hz
  obtain ⟨h2,h3⟩:=rR w S (.agg cs) (ey h1)
  exact .agg _ _ h2 h3
 ·have KZ:A4 z=Up z:=by
   cases z<;>first | rfl | (exact (hz ⟨_,rfl⟩).elim)
  rw [KZ];exact Hf w S z
theorem qR {K V:Type} {gk:K→AV} {gv:V→AV} {w:World} {S:Nat→Prop} {hp:Heap} {b:Bk} {M:List (K×V)} (NW:∀ a b,gk a=gk b→a=b) (r:db w S hp) (f:mD hp b (.mp (M.map fun e=>(gk e.1,gv e.2)))):
 ∃ (L:List mA) (c:Nat) (M':List (K×V)) (n:Nat) (cq:Array MapEntry),M'.Perm M∧L.map mA.kv=M'.map (fun e=>(gk e.1,gv e.2))∧u6 w S b L c∧b.cw=some n∧w.heap[n]? =some (.map cq c)∧cq.toList.length=M'.length∧
   (∀ (i:Nat) e m,M'[i]? =some e→cq.toList[i]? =some m→At w S (gk e.1) m.key∧At w S (gv e.2) m.val)∧(M'.map bk).Nodup:=by
 obtain ⟨L,c,mW,hH⟩:=r.holds _ f.mem
 obtain ⟨M',h1,h2⟩:=r4 _ _ _ mW
 have VE:=hH
 obtain ⟨n,cq,g1,g2,g3,g4,g5,g6,g7⟩:=hH
 have hlen:L.length=M'.length:=by have:=congrArg fz h2;simpa using this
 refine ⟨L,c,M',n,cq,h1,h2,VE,g1,g2,by rw [eC,g3,hlen],fun i e m he hm=>?_,?_⟩
 ·have:(L.map mA.kv)[i]? =some (gk e.1,gv e.2):=by rw [h2,al,he];rfl
  rw [al] at this
  cases hL:L[i]? with
  | none=>rw [hL] at this;cases this
  | some x=>
    rw [hL] at this
    have hx:(x.k,x.v)=(gk e.1,gv e.2):=aa this
    obtain ⟨q1,q2⟩:=f0 hx
    have:=g4 i x m hL (by simpa using hm)
    rw [q1,q2] at this
    exact this.2
 ·have hk:L.map (·.k)=(M'.map bk).map gk:=by
   have:=congrArg (List.map bk) h2
   simpa [List.map_map,Function.comp_def,mA.kv] using this
  rw [hk] at g7
  exact (List.pairwise_map.1 g7).imp (fun h e=>h (by rw [e]))
theorem w4 {α:Type} {l:List α} {j:Nat} {x:α} (h:l[j]? =some x):l.set j x=l:=by
 apply List.ext_getElem?
 intro i
 rw [gc]
 by_cases zC:j=i
 ·subst zC
  have:=(ap.1 h).1
  rw [if_pos rfl,if_pos this,h]
 ·simp [zC]
theorem oc {K V:Type} [DecidableEq K] {gv:V→AV} {w:World} {S:Nat→Prop} {k:K}:∀ (M:List (K×V)) (es:List MapEntry) (i:Nat),M.length=es.length→(∀ (j:Nat) e m,M[j]? =some e→es[j]? =some m→At w S (gv e.2) m.val)→
 (bc M k=none∧yW k (M.map bk) es i=none)∨∃ v j val,bc M k=some v∧yW k (M.map bk) es i=some (i+j,val)∧At w S (gv v) val∧M[j]? =some (k,v)
 | [],[],i,_,_=>.inl ⟨rfl,rfl⟩
 | [],m :: es,i,hl,_=>by simp at hl
 | e :: M,[],i,hl,_=>by simp at hl
 | e :: M,m :: es,i,hl,h=>by
   unfold bc
   simp only [bt,yW]
   by_cases hk:e.1=k
   ·simp only [hk,if_true]
    refine .inr ⟨e.2,0,m.val,rfl,rfl,h 0 e m rfl rfl,?_⟩
    subst hk;rfl
   ·simp only [hk,if_false]
    rcases oc M es (i+1) (by simpa using hl) (fun j e' m' h1 h2=>h (j+1) e' m' (by simpa using h1) (by simpa using h2)) with ⟨h1,h2⟩ | ⟨v,j,val,h1,h2,h3,h4⟩
    ·exact .inl ⟨h1,h2⟩
    ·exact .inr ⟨v,j+1,val,h1,by rw [h2];congr 2;omega,h3,by simpa using h4⟩
section rules
variable {P:Program} {all:Array Oper} {rest:List Oper} {n:Nat} {tm:List (Nat×AV)} {hp:Heap} {Q:St→Prop} {d:Nat} {ty:TypeId} {pos:String} {af:Array Edge}
theorem sV {t:TypeId} (hn:ai d n=true) (kk:∀ b:Bk,ae P all rest ⟨n,(d,.bV b) :: tm,(b,.mp []) :: hp⟩ Q):ae P all (⟨some d,.makeMap t none,ty,pos,af,none⟩ :: rest) ⟨n,tm,hp⟩ Q:=by
 refine ae.IJ rfl fun w S a r=>?_
 have hh:Holds (w.alloc (.map #[] 0)) S ⟨some w.heap.size,0⟩ (.mp []):=⟨[],0,bv _,w.heap.size,#[],rfl,by show (w.heap.push _)[w.heap.size]? =_;simp,rfl,by simp,by simp,by simp,by simp⟩
 obtain ⟨k1,k2,k3⟩:=pP r.hp (Ext.alloc w (.map #[] 0)) id hh (.inr ⟨_,rfl,a6 _⟩)
 exact ⟨.map (some w.heap.size),w.alloc (.map #[] 0),S,_,by simp [execOp,Instr.makeMap],(r.heap k3 k1).put hn (.bV _ _ rfl),k2,kk ⟨some w.heap.size,0⟩⟩
theorem Bq {K V:Type} [DecidableEq K] {gk:K→AV} {gv:V→AV} {M:List (K×V)} {key:K} {Z v:V} {t kt vt:TypeId} {i:TypeInfo} {z:Value} {x y:Operand} {b:Bk} {av:AV} [aB P t (.map kt vt)] [aX P vt i] [dC P kt gk] (hx:de tm x=some (.bV b)) (hy:de tm y=some (gk key)) (f:mD hp b (.mp (M.map fun e=>(gk e.1,gv e.2)))) (hz:i.zero=some z) (Em:A4 z=gv Z) (h1:kr (A4 z).cells=true) (h:pc M key Z=some v) (qn:gv v=av):
 QV P ⟨some d,.lookup t x y false,ty,pos,af,none⟩ ⟨n,tm,hp⟩ av:=by
 intro w S a r
 have kx:=bj (σ:=⟨n,tm,hp⟩) r hx
 have ky:=bj (σ:=⟨n,tm,hp⟩) r hy
 obtain ⟨nb,hb,ex⟩:=kx.kf
 obtain ⟨L,c,M',zJ,cq,p1,p2,p3,p4,p5,p6,p7,p8⟩:=qR (dC.inj P kt) r.hp f
 obtain rfl:zJ=nb:=by rw [p4] at hb;exact aa hb
 unfold pc at h
 have hv:=aa h
 rw [← jg p1 p8] at hv
 have jD:=dC.find (P:=P) (t:=kt) (g:=gk) ky cq.toList (M'.map bk) (by simpa using p6.symm) (fun j k' e h1 h2=>by
  rw [al] at h1
  cases hm:M'[j]? with
  | none=>rw [hm] at h1;cases h1
  | some q=>rw [hm] at h1;rw [← aa h1];exact (p7 j q e hm h2).1)
 rcases oc (gv:=gv) (w:=w) (S:=S) (k:=key) M' cq.toList 0 p6.symm (fun j e m h1 h2=>(p7 j e m h1 h2).2) with ⟨q1,q2⟩ | ⟨v',j,val,q1,q2,q3,_⟩
 ·refine ⟨z,fun w1 e1=>?_,?_⟩
  ·simp [execOp,Instr.lookup,ex,run_underlying (aB.h (P:=P) (t:=t)),cY (e1.heap p5),dC.check (P:=P) (t:=kt) ky,jD,q2,zeroValue,typeInfo,aX.h (P:=P) (t:=vt),hz]
  ·rw [← qn,← hv,q1,ge,← Em];exact Es w S z h1
 ·refine ⟨val,fun w1 e1=>?_,?_⟩
  ·simp [execOp,Instr.lookup,ex,run_underlying (aB.h (P:=P) (t:=t)),cY (e1.heap p5),dC.check (P:=P) (t:=kt) ky,jD,q2]
  ·rw [← qn,← hv,q1,Option.getD_some];exact q3
theorem Gx {K V:Type} [DecidableEq K] {gk:K→AV} {gv:V→AV} {M:List (K×V)} {key:K} {Z:V} {v:V×Bool} {t kt vt:TypeId} {i:TypeInfo} {z:Value} {x y:Operand} {b:Bk} {av:AV} [aB P t (.map kt vt)] [aX P vt i] [dC P kt gk] (hx:de tm x=some (.bV b)) (hy:de tm y=some (gk key)) (f:mD hp b (.mp (M.map fun e=>(gk e.1,gv e.2)))) (hz:i.zero=some z) (Em:A4 z=gv Z) (h1:kr (A4 z).cells=true) (h:uD M key Z=some v) (qn:gv v.1=av):
 QV P ⟨some d,.lookup t x y true,ty,pos,af,none⟩ ⟨n,tm,hp⟩ (.lE [av,.bool v.2]):=by
 intro w S a r
 have kx:=bj (σ:=⟨n,tm,hp⟩) r hx
 have ky:=bj (σ:=⟨n,tm,hp⟩) r hy
 obtain ⟨nb,hb,ex⟩:=kx.kf
 obtain ⟨L,c,M',zJ,cq,p1,p2,p3,p4,p5,p6,p7,p8⟩:=qR (dC.inj P kt) r.hp f
 obtain rfl:zJ=nb:=by rw [p4] at hb;exact aa hb
 unfold uD at h
 have hv:=aa h
 rw [← jg p1 p8] at hv
 have jD:=dC.find (P:=P) (t:=kt) (g:=gk) ky cq.toList (M'.map bk) (by simpa using p6.symm) (fun j k' e h1 h2=>by
  rw [al] at h1
  cases hm:M'[j]? with
  | none=>rw [hm] at h1;cases h1
  | some q=>rw [hm] at h1;rw [← aa h1];exact (p7 j q e hm h2).1)
 rcases oc (gv:=gv) (w:=w) (S:=S) (k:=key) M' cq.toList 0 p6.symm (fun j e m h1 h2=>(p7 j e m h1 h2).2) with ⟨q1,q2⟩ | ⟨v',j,val,q1,q2,q3,_⟩
 ·refine ⟨.tuple #[z,.bool false],fun w1 e1=>?_,?_⟩
  ·simp [execOp,Instr.lookup,ex,run_underlying (aB.h (P:=P) (t:=t)),cY (e1.heap p5),dC.check (P:=P) (t:=kt) ky,jD,q2,zeroValue,typeInfo,aX.h (P:=P) (t:=vt),hz]
  ·rw [← qn,← hv,q1]
   refine .lE _ _ rfl (pN ?_ (.bool _))
   rw [ge,← Em];exact Es w S z h1
 ·refine ⟨.tuple #[val,.bool true],fun w1 e1=>?_,?_⟩
  ·simp [execOp,Instr.lookup,ex,run_underlying (aB.h (P:=P) (t:=t)),cY (e1.heap p5),dC.check (P:=P) (t:=kt) ky,jD,q2]
  ·rw [← qn,← hv,q1]
   exact .lE _ _ rfl (pN q3 (.bool _))
theorem uY {w:World} {S:Nat→Prop} {hp cL:Heap} {b:Bk} {m:Nat} {o o':Ob} {ob old:Obj} (r:db w S hp) (u:na hp b o b o' cL) (hb:b.cw=some m) (ho:w.heap[m]? =some old) (hf:¬ o.CL) (hf':¬ o'.CL) (hh:(∀ n,S n→S n∧(z8 w m ob).heap[n]? =w.heap[n]?)→Holds (z8 w m ob) S b o')(hm:o'.more=[]:=by rfl):
 db (z8 w m ob) S cL∧kS w S hp (z8 w m ob) S cL∧∀ n,S n→S n∧(z8 w m ob).heap[n]? =w.heap[n]?:=by
 have k1:∀ n,S n→S n∧(z8 w m ob).heap[n]? =w.heap[n]?:=fun k hk=>⟨hk,Er (fun e=>by
  subst e
  exact hf ((r.sep _ u.lS.mem _ (fV hb)).1 hk))⟩
 exact tA r u (SZ hb) hf hf' (hh k1) (.inl rfl) hm
theorem vR {K V:Type} [DecidableEq K] [wJ K] {gk:K→AV} {gv:V→AV} {M:List (K×V)} {key:K} {v:V} {t kt vt:TypeId} {x y z:Operand} {b:Bk} {av:AV} {cL:Heap} [aB P t (.map kt vt)] [dC P kt gk] (hx:de tm x=some (.bV b)) (hy:de tm y=some (gk key)) (hz:de tm z=some av) (qn:av=gv v) (u:na hp b (.mp (M.map fun e=>(gk e.1,gv e.2))) b (.mp ((bW M key v).map fun e=>(gk e.1,gv e.2))) cL)
 (kk:ae P all rest ⟨n,tm,cL⟩ Q):ae P all (⟨none,.mapUpdate t x y z,ty,pos,af,none⟩ :: rest) ⟨n,tm,hp⟩ Q:=by
 refine ae.act rfl rfl (fun w S a r=>?_) kk
 have kx:=bj (σ:=⟨n,tm,hp⟩) r hx
 have ky:=bj (σ:=⟨n,tm,hp⟩) r hy
 have kz:=bj (σ:=⟨n,tm,hp⟩) r hz
 obtain ⟨nb,hb,ex⟩:=kx.kf
 obtain ⟨L,c,M',zJ,cq,p1,p2,p3,p4,p5,p6,p7,p8⟩:=qR (dC.inj P kt) r.hp u.lS
 obtain rfl:zJ=nb:=by rw [p4] at hb;exact aa hb
 have jD:=dC.find (P:=P) (t:=kt) (g:=gk) ky cq.toList (M'.map bk) (by simpa using p6.symm) (fun j k' e h1 h2=>by
  rw [al] at h1
  cases hm:M'[j]? with
  | none=>rw [hm] at h1;cases h1
  | some q=>rw [hm] at h1;rw [← aa h1];exact (p7 j q e hm h2).1)
 obtain ⟨R9,iY,g1,g2,g3,g4,g5,g6,g7⟩:=p3
 obtain rfl:R9=zJ:=by rw [p4] at g1;exact (aa g1).symm
 obtain rfl:iY=cq:=by rw [p5] at g2;exact (Obj.map.inj (aa g2)).1.symm
 have ZO:L.length=M'.length:=by have:=congrArg fz p2;simpa using this
 have VF:∀ (j:Nat) (x:mA) (e:K×V),L[j]? =some x→M'[j]? =some e→x.k=gk e.1∧x.v=gv e.2:=by
  intro j x e h1 h2
  have:(L.map mA.kv)[j]? =(M'.map fun e=>(gk e.1,gv e.2))[j]?:=by rw [p2]
  rw [al,al,h1,h2] at this
  exact f0 (aa this)
 rcases oc (gv:=gv) (w:=w) (S:=S) (k:=key) M' iY.toList 0 p6.symm (fun j e m h1 h2=>(p7 j e m h1 h2).2) with ⟨q1,q2⟩ | ⟨v',j,val,q1,q2,q3,q4⟩
 ·
  have hw:=uY (ob:=.map (iY.push ⟨a.eval y,a.eval z,c⟩) (c+1)) r.hp u p4 p5 id id (fun k1=>by
   refine ⟨L++[⟨gk key,gv v,c⟩],c+1,?_,R9,iY.push ⟨a.eval y,a.eval z,c⟩,p4,uX p5,by simp [g3],?_,?_,?_,?_⟩
   ·rw [bp,p2]
    refine d1 ?_ ((sU key v (mG M key)).symm.map _)
    rw [wZ (by rw [← jg p1 p8];exact q1)]
    exact List.perm_append_comm.trans (cm _ (p1.map _))
   ·intro i e m he hm
    rw [Array.getElem?_push] at hm
    rcases ce i L.length with hi | hi
    ·rw [dg hi] at he
     rw [if_neg (by omega)] at hm
     obtain ⟨s1,s2,s3⟩:=g4 i e m he hm
     exact ⟨s1,s2.mono k1,s3.mono k1⟩
    ·have I2:i=L.length:=by
      have:=(ap.1 he).1
      simp at this;omega
     subst I2
     rw [if_pos g3.symm] at hm
     simp at he
     obtain rfl:=aa hm
     subst he
     exact ⟨rfl,ky.mono k1,by rw [qn] at kz;exact kz.mono k1⟩
   ·intro e he
    rcases bo.1 he with h | h
    ·have:=g5 e h;omega
    ·simp at h;subst h;simp
   ·rw [bp,b5]
    refine ⟨g6,by simp,fun a1 ha b1 DI DL=>?_⟩
    simp at DI
    subst DI
    obtain ⟨e,he,rfl⟩:=aI.1 ha
    have:=g5 e he
    omega
   ·rw [bp,b5]
    refine ⟨g7,by simp,fun a1 ha b1 DI DL=>?_⟩
    simp at DI
    subst DI
    obtain ⟨e,he,rfl⟩:=aI.1 ha
    obtain ⟨j,hj⟩:=cn he
    have Af:j < M'.length:=by rw [← ZO];exact (ap.1 hj).1
    have:=(VF j e M'[j] hj (a7 Af)).1
    rw [this] at DL
    exact (pS.1 q1) M'[j] (cl Af) (dC.inj P kt _ _ DL))
  refine ⟨_,S,?_,r.heap hw.2.2 hw.1,hw.2.1⟩
  simp [execOp,Instr.mapUpdate,ex,run_underlying (aB.h (P:=P) (t:=t)),cY p5,dC.check (P:=P) (t:=kt) ky,jD,q2,ve _ p5]
 ·
  have Af:j < iY.toList.length:=by rw [p6];exact (ap.1 q4).1
  have Dp:j < iY.size:=by simpa using Af
  have W4:iY.toList[j]? =some iY[j]:=by simp [Dp]
  have HF:=(p7 j _ _ q4 W4).1
  have P5:Instr.sameBits 10000 iY[j].key (a.eval y)=true:=dC.bits (P:=P) (t:=kt) HF ky
  have C1:j < L.length:=by omega
  have hw:=uY (ob:=.map (iY.modify j fun e=>{e with key:=a.eval y,val:=a.eval z}) c) r.hp u p4 p5 id id (fun k1=>by
   refine ⟨L.set j ⟨gk key,gv v,L[j].born⟩,c,?_,R9,_,p4,uX p5,by simp [g3],?_,?_,?_,?_⟩
   ·rw [cW]
    refine d1 ?_ ((sU key v (mG M key)).symm.map _)
    have e1:(L.map mA.kv).set j (gk key,gv v)=(M'.set j (key,v)).map fun e=>(gk e.1,gv e.2):=by rw [p2,cW]
    show ((L.map mA.kv).set j (gk key,gv v)).Perm _
    rw [e1]
    refine List.Perm.map _ ?_
    have UL:j < M'.length:=by omega
    have e2:M'=M'.take j++(key,v') :: M'.drop (j+1):=by
     have:=d4 j M'
     rw [List.drop_eq_getElem_cons UL] at this
     have hq:M'[j]=(key,v'):=by rw [a7 UL] at q4;exact aa q4
     rw [hq] at this
     exact this.symm
    have e3:M'.set j (key,v)=M'.take j++(key,v) :: M'.drop (j+1):=by
     rw [List.set_eq_take_append_cons_drop,if_pos UL]
    rw [e3]
    refine cS.trans (cm _ ?_)
    have e4:mG M' key=M'.take j++M'.drop (j+1):=by
     have VG:=p8
     rw [e2,bp,bt,b5,dR] at VG
     unfold mG
     rw [e2,gs,gt]
     simp only [ne_eq,not_true_eq_false,decide_false,bx,if_false]
     rw [← e2]
     congr 1
     ·refine b6.2 fun e he=>?_
      simp only [decide_not,cX,decide_eq_false_iff_not]
      intro hk
      exact VG.2.2 e.1 (aI.2 ⟨e,he,rfl⟩) key (by simp) hk
     ·refine b6.2 fun e he=>?_
      simp only [decide_not,cX,decide_eq_false_iff_not]
      intro hk
      exact VG.2.1.1 (aI.2 ⟨e,he,hk⟩)
    rw [← e4]
    exact p1.filter _
   ·intro i e m he hm
    rw [b9] at hm
    rw [gc] at he
    by_cases zC:j=i
    ·subst zC
     simp only [if_true,C1] at he
     simp only [if_true,a8 Dp,bs] at hm
     obtain rfl:=aa he
     obtain rfl:=aa hm
     refine ⟨(g4 j L[j] iY[j] (a7 C1) (a8 Dp)).1,ky.mono k1,by rw [qn] at kz;exact kz.mono k1⟩
    ·rw [if_neg zC] at he hm
     obtain ⟨s1,s2,s3⟩:=g4 i e m he hm
     exact ⟨s1,s2.mono k1,s3.mono k1⟩
   ·intro e he
    rcases List.mem_or_eq_of_mem_set he with h | h
    ·exact g5 e h
    ·subst h;exact g5 L[j] (cl C1)
   ·rw [cW]
    have:(L.map (·.born)).set j L[j].born=L.map (·.born):=by
     exact w4 (by rw [al,a7 C1];rfl)
    rw [this];exact g6
   ·rw [cW]
    have:(L.map (·.k)).set j (gk key)=L.map (·.k):=by
     have hk:=(VF j L[j] _ (a7 C1) q4).1
     exact w4 (by rw [al,a7 C1,bs,hk])
    rw [this];exact g7)
  refine ⟨_,S,?_,r.heap hw.2.2 hw.1,hw.2.1⟩
  simp [execOp,Instr.mapUpdate,ex,run_underlying (aB.h (P:=P) (t:=t)),cY p5,dC.check (P:=P) (t:=kt) ky,jD,q2,Instr.keyThatStays,Dp,P5,ve _ p5]
theorem Et {K V:Type} [DecidableEq K] [wJ K] {gk:K→AV} {gv:V→AV} {M:List (K×V)} {key:K} {v:V} {t kt vt:TypeId} {x y z:Operand} {b:Bk} {av:AV} {cL:Heap} [aB P t (.map kt vt)] [dC P kt gk] (hx:de tm x=some (.bV b)) (hy:de tm y=some (gk key)) (hz:de tm z=some av) (qn:av=gv v) (u:na hp b (.mp (M.map fun e=>(gk e.1,gv e.2))) b (.mp ((bW M key v).map fun e=>(gk e.1,gv e.2))) cL)
 (kk:ae P all rest ⟨n,tm,cL⟩ Q):ae P all (⟨none,.insert t x y z,ty,pos,af,none⟩ :: rest) ⟨n,tm,hp⟩ Q:=by
 intro w S a r
 have:=vR (all:=all) (rest:=rest) (ty:=ty) (pos:=pos) (af:=af) (t:=t) (kt:=kt) (vt:=vt) (gk:=gk) (gv:=gv) hx hy hz qn u kk w S a r
 unfold wpList at this ⊢
 exact this
end rules
def Br (L:List mA) (c:Nat) (seen:List Nat) (rest:List (AV×AV)):Prop:=((L.filter (fun e=>!seen.contains e.born)).map mA.kv).Perm rest
def Ya (L:List mA) (seen:List Nat) (e:AV×AV):Prop:=∃ x∈L,seen.getLast? =some x.born∧x.kv=e
theorem find_born {L:List mA} (hn:(L.map (·.born)).Nodup) {x:mA} (hx:x∈L) {w:World} {S:Nat→Prop} {cq:Array MapEntry} (hl:cq.size=L.length) (h:∀ (i:Nat) e m,L[i]? =some e→cq[i]? =some m→m.born=e.born∧At w S e.k m.key∧At w S e.v m.val):
 ∃ m,cq.find? (·.born==x.born)=some m∧At w S x.k m.key∧At w S x.v m.val:=by
 obtain ⟨j,hj⟩:=cn hx
 have Af:j < L.length:=(ap.1 hj).1
 have Dp:j < cq.size:=by omega
 have sB:=h j x cq[j] hj (a8 Dp)
 cases hf:cq.find? (·.born==x.born) with
 | none=>
   rw [Array.find?_eq_none] at hf
   exact absurd (by simpa using sB.1) (hf cq[j] (c6 Dp))
 | some m=>
   have hb:m.born=x.born:=by have:=Array.find?_some hf;simpa using this
   have hm:=Array.mem_of_find?_eq_some hf
   obtain ⟨i,hi,rfl⟩:=c7 hm
   have ru:i < L.length:=by omega
   have NV:=(h i L[i] cq[i] (a7 ru) (a8 hi)).1
   have zC:i=j:=by
    have e1:(L.map (·.born))[i]? =some x.born:=by rw [al,a7 ru,bs,← NV,hb]
    have e2:(L.map (·.born))[j]? =some x.born:=by rw [al,hj];rfl
    exact (gy (by simpa using ru) hn).1 (e1.trans e2.symm)
   subst zC
   exact ⟨_,rfl,sB.2⟩
theorem Jo {P:Program} {w:World} {r m c:Nat} {seen:Array Nat} {cq B8:Array MapEntry} {ty:TypeId} (g:w.heap[r]? =some (.mapIter (some m) c seen c)) (p:w.heap[m]? =some (.map cq c)) (S3:(!seen.isEmpty&&!cq.isEmpty&&cq.all (fun e=>decide (e.born≥c)))=false)
 (hl:(cq.filter fun e=>!seen.contains e.born)=B8) (ho:B8.filter (fun e=>decide (e.born < c))=B8) (hn:B8.filter (fun e=>decide (e.born≥c))=#[]):
 (Instr.next (.pointer (some ⟨r,0,none⟩)) false ty).run P w=((choose (.mapNext ((if B8.isEmpty then #[none] else #[])++(B8++#[]).map some).size)).run P w).andThen fun i w'=>
  (match ((if B8.isEmpty then #[none] else #[])++(B8++#[]).map some)[i]? with
  | some (some e)=>(do setObj r (.mapIter (some m) c (seen.push e.born) c);pure (.tuple #[.bool true,e.key,e.val]):Sem Value)
  | some none=>pure (.tuple #[.bool false])
  | none=>stuck "Next: no such candidate").run P w':=by
 subst hl
 unfold Instr.next
 simp only [Sem.run_bind,C0 g,cY p,Result.andThen_ok,S3,ho,hn,bx,if_false,Sem.run_pure]
 rfl
section rules
variable {P:Program} {all:Array Oper} {rest:List Oper} {n:Nat} {tm:List (Nat×AV)} {hp:Heap} {Q:St→Prop} {d:Nat} {ty:TypeId} {pos:String} {af:Array Edge}
theorem S4 {E:Type} {enc:E→AV×AV} {M:List E} {t kt vt:TypeId} {x:Operand} {b:Bk} {cL:List mA→Nat→Heap} [aB P t (.map kt vt)] (hx:de tm x=some (.bV b)) (u:∀ L c,na hp b (.mp (M.map enc)) b (.Mg L c) (cL L c)) (hn:ai d n=true)
 (kk:∀ bi L c,(L.map mA.kv).Perm (M.map enc)→Br L c [] (M.map enc)→ae P all rest ⟨n,(d,.ptr bi 0) :: tm,(bi,.KV b c []) :: cL L c⟩ Q):ae P all (⟨some d,.range t x,ty,pos,af,none⟩ :: rest) ⟨n,tm,hp⟩ Q:=by
 refine ae.IJ rfl fun w S a r=>?_
 obtain ⟨nb,hb,ex⟩:=(bj (σ:=⟨n,tm,hp⟩) r hx).kf
 have f:=(u [] 0).lS
 obtain ⟨L,c,mW,hH⟩:=r.hp.holds _ f.mem
 have VE:=hH
 obtain ⟨zJ,cq,g1,g2,g3,_⟩:=hH
 obtain rfl:zJ=nb:=by rw [g1] at hb;exact aa hb
 obtain ⟨r1,e1,k1⟩:=tA r.hp (u L c) (HK w b.cw) id id VE (.inl rfl)
 have hh:Holds (w.alloc (.mapIter (some zJ) c #[] c)) S ⟨some w.heap.size,0⟩ (.KV b c []):=⟨w.heap.size,zJ,rfl,hb,by show (w.heap.push _)[w.heap.size]? =_;simp⟩
 obtain ⟨r2,e2,k2⟩:=pP r1 (Ext.alloc w (.mapIter (some zJ) c #[] c)) id hh (.inr ⟨_,rfl,a6 _⟩)
 refine ⟨.pointer (some ⟨w.heap.size,0,none⟩),w.alloc (.mapIter (some zJ) c #[] c),S,_,?_,(r.heap k2 r2).put hn (.ptr _ _ _ rfl),e1.trans e2,kk ⟨some w.heap.size,0⟩ L c mW ?_⟩
 ·simp [execOp,Instr.range,ex,run_underlying (aB.h (P:=P) (t:=t)),cY g2]
 ·unfold Br
  have e:L.filter (fun e=>!([]:List Nat).contains e.born)=L:=b6.2 (fun _ _=>by simp)
  rw [e];exact mW
theorem S5 {L:List mA} {c:Nat} {seen:List Nat} {x:Operand} {bi bm:Bk} {e:AV×AV} {k v:AV} (hx:de tm x=some (.ptr bi 0)) (fi:mD hp bi (.KV bm c seen)) (fm:mD hp bm (.Mg L c)) (hc:Ya L seen e) (hk:e.1=k) (hv:e.2=v):
 QV P ⟨some d,.entry x,ty,pos,af,none⟩ ⟨n,tm,hp⟩ (.lE [k,v]):=by
 intro w S a r
 obtain ⟨ni,hi,ex⟩:=(bj (σ:=⟨n,tm,hp⟩) r hx).tz
 obtain ⟨VH,nm,g1,g2,g3⟩:=r.hp.holds _ fi.mem
 obtain rfl:VH=ni:=by rw [g1] at hi;exact aa hi
 obtain ⟨UM,cq,p1,p2,p3,p4,p5,p6,_⟩:=r.hp.holds _ fm.mem
 obtain rfl:UM=nm:=by rw [p1] at g2;exact aa g2
 obtain ⟨y,hy,hs,hkv⟩:=hc
 obtain ⟨m,m1,m2,m3⟩:=find_born p6 hy p3 p4
 have hbk:seen.toArray.back? =some y.born:=by rw [← hs];simp [List.getLast?_eq_getElem?,Array.back?]
 subst hkv
 refine ⟨.tuple #[m.key,m.val],fun w1 e1=>?_,?_⟩
 ·simp [execOp,Instr.entry,ex,C0 (e1.heap g3),cY (e1.heap p2),hbk,m1]
 ·rw [← hk,← hv];exact .lE _ _ rfl (pN m2 m3)
theorem VI {E:Type} {enc:E→AV×AV} {R:List E} {L:List mA} {c:Nat} {seen:List Nat} {x:Operand} {bi bm:Bk} {cL:List Nat→Heap} (hx:de tm x=some (.ptr bi 0)) (hI:Br L c seen (R.map enc)) (fm:mD hp bm (.Mg L c)) (u:∀ s,na hp bi (.KV bm c seen) bi (.KV bm c s) (cL s)) (hn:ai d n=true)
 (k0:R=[]→ae P all rest ⟨n,(d,.lE [.bool false]) :: tm,hp⟩ Q)
 (k1:∀ e R' s,R.Perm (e :: R')→R'.length < R.length→Br L c s (R'.map enc)→Ya L s (enc e)→ae P all rest ⟨n,(d,.lE [.bool true,(enc e).1,(enc e).2]) :: tm,cL s⟩ Q):ae P all (⟨some d,.next x false,ty,pos,af,none⟩ :: rest) ⟨n,tm,hp⟩ Q:=by
 refine ae.IJ rfl fun w S a r=>?_
 obtain ⟨ni,hi,ex⟩:=(bj (σ:=⟨n,tm,hp⟩) r hx).tz
 obtain ⟨VH,nm,g1,g2,g3⟩:=r.hp.holds _ (u []).lS.mem
 obtain rfl:VH=ni:=by rw [g1] at hi;exact aa hi
 obtain ⟨UM,cq,p1,p2,p3,p4,p5,p6,_⟩:=r.hp.holds _ fm.mem
 obtain rfl:UM=nm:=by rw [p1] at g2;exact aa g2
 have Eu:∀ m∈cq,m.born < c:=by
  intro m hm
  obtain ⟨i,hi,rfl⟩:=c7 hm
  have ru:i < L.length:=by omega
  have:=(p4 i L[i] cq[i] (a7 ru) (a8 hi)).1
  rw [this];exact p5 _ (cl ru)
 have S3:(!seen.toArray.isEmpty&&!cq.isEmpty&&cq.all (fun e=>decide (e.born≥c)))=false:=by
  by_cases h0:cq.isEmpty=true
  ·simp [h0]
  ·have h1:0 < cq.size:=by
    have:cq.size≠0:=by simpa [g8] using h0
    omega
   have:cq.all (fun e=>decide (e.born≥c))=false:=by
    rw [Bool.eq_false_iff]
    intro mc
    rw [Array.all_eq_true] at mc
    have:=mc 0 h1
    have hb:=Eu cq[0] (c6 h1)
    simp at this;omega
   simp [this]
 have hold:(cq.filter fun e=>!seen.toArray.contains e.born).filter (fun e=>decide (e.born < c))=cq.filter fun e=>!seen.toArray.contains e.born:=by
  rw [Array.filter_eq_self]
  intro m hm
  simpa using Eu m (c8.1 hm).1
 have wS:(cq.filter fun e=>!seen.toArray.contains e.born).filter (fun e=>decide (e.born≥c))=#[]:=by
  rw [Array.filter_eq_empty_iff]
  intro m hm
  have:=Eu m (c8.1 hm).1
  simp;omega
 generalize S6:(cq.filter fun e=>!seen.toArray.contains e.born)=B8 at hold wS
 have lI:∀ m∈B8,∃ y∈L,(seen.contains y.born=false)∧m.born=y.born∧At w S y.k m.key∧At w S y.v m.val:=by
  intro m hm
  rw [← S6] at hm
  obtain ⟨h1,h2⟩:=c8.1 hm
  obtain ⟨i,hi,rfl⟩:=c7 h1
  have ru:i < L.length:=by omega
  have hh:=p4 i L[i] cq[i] (a7 ru) (a8 hi)
  refine ⟨L[i],cl ru,?_,hh⟩
  rw [← hh.1];simpa using h2
 have hex:∀ y∈L,seen.contains y.born=false→∃ m,m∈B8:=by
  intro y hy hs
  obtain ⟨j,hj⟩:=cn hy
  have Af:j < L.length:=(ap.1 hj).1
  have Dp:j < cq.size:=by omega
  refine ⟨cq[j],?_⟩
  rw [← S6,c8]
  refine ⟨c6 Dp,?_⟩
  rw [(p4 j y cq[j] hj (a8 Dp)).1]
  simpa using hs
 by_cases hz:B8.size=0
 ·
  have hR:R=[]:=by
   cases R with
   | nil=>rfl
   | cons e R'=>
     unfold Br at hI
     have hm:enc e∈(L.filter (fun e=>!seen.contains e.born)).map mA.kv:=hI.mem_iff.2 (by simp)
     obtain ⟨y,hy,_⟩:=aI.1 hm
     obtain ⟨hy1,hy2⟩:=d2.1 hy
     obtain ⟨m,hm⟩:=hex y hy1 (by simpa using hy2)
     obtain ⟨i,hi,_⟩:=c7 hm
     omega
  obtain rfl:B8=#[]:=d9 hz
  refine ⟨.tuple #[.bool false],w,S,_,?_,r.put hn (.lE _ _ rfl ?_),kS.refl _ _ _,k0 hR⟩
  ·have hop:(Instr.next (a.eval x) false ty).run P w=.ok (.tuple #[.bool false]) w:=by
    rw [ex,Jo (P:=P) (ty:=ty) g3 p2 S3 S6 hold wS]
    simp [run_choose,Question.forced]
   simp [execOp,hop]
  ·intro i c' v h1 h2
   cases i with
   | zero=>simp at h1 h2;subst h1;subst h2;exact .bool _
   | succ i=>simp at h1
 ·obtain ⟨i,w1,hch,ru,hE⟩:∃ i w1,(choose (.mapNext B8.size)).run P w=.ok i w1∧i < B8.size∧(w1=w∨w1=w.drew):=by
   by_cases hf:(Question.mapNext B8.size).forced=true
   ·refine ⟨0,w,?_,by omega,.inl rfl⟩
    rw [run_choose,if_pos hf]
   ·have hc:=run_choose P w (Question.mapNext B8.size)
    rw [if_neg hf] at hc
    exact ⟨_,w.drew,hc,b8 _ (by omega:0 < B8.size),.inr rfl⟩
  have ext:Ext w w1:=by
   rcases hE with rfl | rfl
   ·exact Ext.refl _
   ·exact Ext.Mh w (w.drawn+1) (Nat.le_succ _)
  obtain ⟨y,hy,ZP,hb,hk,hv⟩:=lI B8[i] (c6 ru)
  have wz:∀ z∈L,z.born=y.born→z=y:=by
   intro z hz hzb
   obtain ⟨i1,h1⟩:=cn hz
   obtain ⟨i2,h2⟩:=cn hy
   have aaJ:i1 < L.length:=(ap.1 h1).1
   have:i1=i2:=(gy (by simpa using aaJ) p6).1 (by rw [al,al,h1,h2,bs,bs,hzb])
   subst this
   rw [h1] at h2;exact aa h2
  unfold Br at hI
  have hyR:y.kv∈R.map enc:=hI.mem_iff.1 (aI.2 ⟨y,d2.2 ⟨hy,by simpa using ZP⟩,rfl⟩)
  obtain ⟨pre,post,W2⟩:=ft (d2.2 ⟨hy,(by simpa using ZP:(!seen.contains y.born)=true)⟩:y∈L.filter (fun e=>!seen.contains e.born))
  have aaK:L.filter (fun e=>!(seen++[y.born]).contains e.born)=pre++post:=by
   have e1:L.filter (fun e=>!(seen++[y.born]).contains e.born)=(L.filter (fun e=>!seen.contains e.born)).filter (fun e=>decide (e.born≠y.born)):=by
    rw [List.filter_filter]
    apply List.filter_congr
    intro e he
    simp only [List.contains_eq_mem,bo,aw,ne_eq,decide_not]
    by_cases q1:e.born∈seen<;>by_cases q2:e.born=y.born<;>simp [q1,q2]
   have VJ:((L.filter (fun e=>!seen.contains e.born)).map (·.born)).Nodup:=p6.sublist ((List.filter_sublist).map _)
   rw [W2,bp,bt,b5,dR] at VJ
   rw [e1,W2,gs,gt]
   simp only [ne_eq,not_true_eq_false,decide_false,bx,if_false]
   congr 1
   ·refine b6.2 fun e he=>?_
    simp only [decide_not,cX,decide_eq_false_iff_not]
    intro hk
    exact VJ.2.2 e.born (aI.2 ⟨e,he,rfl⟩) y.born (by simp) hk
   ·refine b6.2 fun e he=>?_
    simp only [decide_not,cX,decide_eq_false_iff_not]
    intro hk
    exact VJ.2.1.1 (aI.2 ⟨e,he,hk⟩)
  have hP:(y.kv :: (pre++post).map mA.kv).Perm (R.map enc):=by
   refine d1 ?_ hI
   rw [W2]
   simp only [bp,bt]
   exact cS.symm
  obtain ⟨R2,hR2,Yb⟩:=r4 enc _ _ hP
  cases R2 with
  | nil=>simp at Yb
  | cons e R'=>
    obtain ⟨Sg,Mk⟩:=List.cons.inj (by simpa using Yb)
    have hw1:w1.heap[VH]? =some (.mapIter (some UM) c seen.toArray c):=ext.heap g3
    have hIt:Br L c (seen++[y.born]) (R'.map enc):=by unfold Br;rw [aaK,← Mk];simp
    have r1:=r.ext ext
    have hw:=uY (ob:=.mapIter (some UM) c (seen++[y.born]).toArray c) r1.hp (u (seen++[y.born])) g1 hw1 id id (fun k1=>⟨VH,UM,g1,g2,uX hw1⟩)
    have aaL:kS w S hp w1 S hp:=kS.ext (fun n hn=>r.hp.slt n hn) ext
    refine ⟨.tuple #[.bool true,B8[i].key,B8[i].val],z8 w1 VH (.mapIter (some UM) c (seen++[y.born]).toArray c),S,_,?_,(r1.heap hw.2.2 hw.1).put hn (.lE _ _ rfl (Nx (.bool _) ?_ ?_)),aaL.trans hw.2.1,k1 e R' (seen++[y.born]) hR2.symm (by have:=hR2.length_eq;simp at this;omega) hIt ⟨y,hy,by simp,Sg⟩⟩
    ·have hlz:B8.isEmpty=false:=by
      have:B8.size≠0:=hz
      simpa [g8] using this
     have hop:(Instr.next (a.eval x) false ty).run P w=.ok (.tuple #[.bool true,B8[i].key,B8[i].val]) (z8 w1 VH (.mapIter (some UM) c (seen++[y.born]).toArray c)):=by
      rw [ex,Jo (P:=P) (ty:=ty) g3 p2 S3 S6 hold wS]
      have iV:((if B8.isEmpty=true then #[none] else #[])++(B8++#[]).map some)=B8.map some:=by simp [hlz]
      rw [iV,Array.size_map,hch]
      simp [ru,hb,Jn _ hw1]
     simp [execOp,hop]
    ·rw [← Sg]
     exact (hk.mono (fun n hn=>⟨hn,ext.same n (r.hp.slt n hn)⟩)).mono hw.2.2
    ·rw [← Sg]
     exact (hv.mono (fun n hn=>⟨hn,ext.same n (r.hp.slt n hn)⟩)).mono hw.2.2
end rules
theorem aj.VK {n:Nat} {tm:List (Nat×AV)} {hp cL:Heap} {T:St→Prop} {b:Bk} {L:List mA} {c:Nat} {es:List (AV×AV)} (hL:(L.map mA.kv).Perm es) (u:na hp b (.Mg L c) b (.mp es) cL) (k:aj ⟨n,tm,cL⟩ T):aj ⟨n,tm,hp⟩ T:=by
 refine aj.step (A3:=⟨n,tm,cL⟩) (fun w S a r=>?_) k
 have hH:u6 w S b L c:=r.hp.holds _ u.lS.mem
 obtain ⟨r1,e1,k1⟩:=tA r.hp u (HK w b.cw) id id ⟨L,c,hL,hH⟩ (.inl rfl)
 exact ⟨_,S,rfl,r.heap k1 r1,e1⟩
theorem aH {α β:Type} {o:Option α} {f:α→Option β} {r:β} {C:Prop} (h:o.bind f=some r) (k:∀ v,o=some v→f v=some r→C):C:=
 let ⟨v,h1,h2⟩:=bnd h;k v h1 h2
def Gy:Heap→Nat→Option ((Bk×Ob)×Heap)
 | [],_=>none
 | e :: h,0=>some (e,h)
 | e :: h,i+1=>match Gy h i with
   | some (x,h')=>some (x,e :: h')
   | none=>none
def Ev:Heap→List Nat→Option Heap
 | _,[]=>some []
 | h,i :: r=>match Gy h i with
   | some (e,h')=>match Ev h' r with
     | some t=>some (e :: t)
     | none=>none
   | none=>none
theorem Gz:∀ {h:Heap} {i:Nat} {e:Bk×Ob} {h':Heap},Gy h i=some (e,h')→yK h e.1 e.2 h'
 | [],_,_,_,hh=>by simp [Gy] at hh
 | x :: h,0,e,h',hh=>by
   simp only [Gy,bY,g9] at hh
   obtain ⟨rfl,rfl⟩:=hh
   exact .here
 | x :: h,i+1,e,h',hh=>by
   simp only [Gy] at hh
   split at hh
   ·rename_i y h1 h2
    simp only [bY,g9] at hh
    obtain ⟨rfl,rfl⟩:=hh
    exact .next (Gz h2)
   ·cases hh
theorem Bs:∀ {l:List Nat} {h t:Heap},Ev h l=some t→HS h t
 | [],h,t,hh=>by
   simp only [Ev,bY] at hh
   subst hh;exact .nil
 | i :: r,h,t,hh=>by
   simp only [Ev] at hh
   split at hh
   ·rename_i e h' h1
    split at hh
    ·rename_i t' h2
     obtain rfl:=aa hh
     exact .cons (Gz h1) (Bs h2)
    ·cases hh
   ·cases hh
def P6 (tm:List (Nat×AV)):List Nat→Option (List (Nat×AV))
 | []=>some []
 | s :: r=>match lk tm s with
   | some av=>match P6 tm r with
     | some l=>some ((s,av) :: l)
     | none=>none
   | none=>none
theorem Jp {tm:List (Nat×AV)}:∀ {l:List Nat} {sF:List (Nat×AV)},P6 tm l=some sF→Gg tm sF
 | [],sF,h=>by
   simp only [P6,bY] at h
   subst h;exact True.intro
 | s :: r,sF,h=>by
   simp only [P6] at h
   split at h
   ·rename_i av h1
    split at h
    ·rename_i t' h2
     obtain rfl:=aa h
     exact ⟨h1,Jp h2⟩
    ·cases h
   ·cases h
theorem aj.lq {n:Nat} {tm sF:List (Nat×AV)} {hp cL:Heap} {T:St→Prop} (is:List Nat) (h:T ⟨n,sF,cL⟩) (ht:P6 tm (sF.map bk)=some sF) (hs:Ev hp is=some cL):aj ⟨n,tm,hp⟩ T:=
 aj.XR (Jp ht) (Bs hs) (aj.here h)
theorem mD.p0 {b:Bk} {o:Ob} {h:Heap}:mD ((b,o) :: h) b o:=.here
theorem na.p0 {b b':Bk} {o o':Ob} {h:Heap}:na ((b,o) :: h) b o b' o' ((b',o') :: h):=.here
theorem yK.p0 {b:Bk} {o:Ob} {h:Heap}:yK ((b,o) :: h) b o (h):=.here
theorem mD.p1 {e0:Bk×Ob} {b:Bk} {o:Ob} {h:Heap}:mD (e0 :: (b,o) :: h) b o:=.next .p0
theorem na.p1 {e0:Bk×Ob} {b b':Bk} {o o':Ob} {h:Heap}:na (e0 :: (b,o) :: h) b o b' o' (e0 :: (b',o') :: h):=.next .p0
theorem yK.p1 {e0:Bk×Ob} {b:Bk} {o:Ob} {h:Heap}:yK (e0 :: (b,o) :: h) b o (e0 :: h):=.next .p0
theorem mD.p2 {e0 e1:Bk×Ob} {b:Bk} {o:Ob} {h:Heap}:mD (e0 :: e1 :: (b,o) :: h) b o:=.next .p1
theorem na.p2 {e0 e1:Bk×Ob} {b b':Bk} {o o':Ob} {h:Heap}:na (e0 :: e1 :: (b,o) :: h) b o b' o' (e0 :: e1 :: (b',o') :: h):=.next .p1
theorem yK.p2 {e0 e1:Bk×Ob} {b:Bk} {o:Ob} {h:Heap}:yK (e0 :: e1 :: (b,o) :: h) b o (e0 :: e1 :: h):=.next .p1
theorem mD.p3 {e0 e1 e2:Bk×Ob} {b:Bk} {o:Ob} {h:Heap}:mD (e0 :: e1 :: e2 :: (b,o) :: h) b o:=.next .p2
theorem na.p3 {e0 e1 e2:Bk×Ob} {b b':Bk} {o o':Ob} {h:Heap}:na (e0 :: e1 :: e2 :: (b,o) :: h) b o b' o' (e0 :: e1 :: e2 :: (b',o') :: h):=.next .p2
theorem yK.p3 {e0 e1 e2:Bk×Ob} {b:Bk} {o:Ob} {h:Heap}:yK (e0 :: e1 :: e2 :: (b,o) :: h) b o (e0 :: e1 :: e2 :: h):=.next .p2
theorem mD.p4 {e0 e1 e2 e3:Bk×Ob} {b:Bk} {o:Ob} {h:Heap}:mD (e0 :: e1 :: e2 :: e3 :: (b,o) :: h) b o:=.next .p3
theorem na.p4 {e0 e1 e2 e3:Bk×Ob} {b b':Bk} {o o':Ob} {h:Heap}:na (e0 :: e1 :: e2 :: e3 :: (b,o) :: h) b o b' o' (e0 :: e1 :: e2 :: e3 :: (b',o') :: h):=.next .p3
theorem yK.p4 {e0 e1 e2 e3:Bk×Ob} {b:Bk} {o:Ob} {h:Heap}:yK (e0 :: e1 :: e2 :: e3 :: (b,o) :: h) b o (e0 :: e1 :: e2 :: e3 :: h):=.next .p3
theorem mD.p5 {e0 e1 e2 e3 e4:Bk×Ob} {b:Bk} {o:Ob} {h:Heap}:mD (e0 :: e1 :: e2 :: e3 :: e4 :: (b,o) :: h) b o:=.next .p4
theorem na.p5 {e0 e1 e2 e3 e4:Bk×Ob} {b b':Bk} {o o':Ob} {h:Heap}:na (e0 :: e1 :: e2 :: e3 :: e4 :: (b,o) :: h) b o b' o' (e0 :: e1 :: e2 :: e3 :: e4 :: (b',o') :: h):=.next .p4
theorem yK.p5 {e0 e1 e2 e3 e4:Bk×Ob} {b:Bk} {o:Ob} {h:Heap}:yK (e0 :: e1 :: e2 :: e3 :: e4 :: (b,o) :: h) b o (e0 :: e1 :: e2 :: e3 :: e4 :: h):=.next .p4
theorem mD.p6 {e0 e1 e2 e3 e4 e5:Bk×Ob} {b:Bk} {o:Ob} {h:Heap}:mD (e0 :: e1 :: e2 :: e3 :: e4 :: e5 :: (b,o) :: h) b o:=.next .p5
theorem na.p6 {e0 e1 e2 e3 e4 e5:Bk×Ob} {b b':Bk} {o o':Ob} {h:Heap}:na (e0 :: e1 :: e2 :: e3 :: e4 :: e5 :: (b,o) :: h) b o b' o' (e0 :: e1 :: e2 :: e3 :: e4 :: e5 :: (b',o') :: h):=.next .p5
theorem yK.p6 {e0 e1 e2 e3 e4 e5:Bk×Ob} {b:Bk} {o:Ob} {h:Heap}:yK (e0 :: e1 :: e2 :: e3 :: e4 :: e5 :: (b,o) :: h) b o (e0 :: e1 :: e2 :: e3 :: e4 :: e5 :: h):=.next .p5
theorem mD.p7 {e0 e1 e2 e3 e4 e5 e6:Bk×Ob} {b:Bk} {o:Ob} {h:Heap}:mD (e0 :: e1 :: e2 :: e3 :: e4 :: e5 :: e6 :: (b,o) :: h) b o:=.next .p6
theorem na.p7 {e0 e1 e2 e3 e4 e5 e6:Bk×Ob} {b b':Bk} {o o':Ob} {h:Heap}:na (e0 :: e1 :: e2 :: e3 :: e4 :: e5 :: e6 :: (b,o) :: h) b o b' o' (e0 :: e1 :: e2 :: e3 :: e4 :: e5 :: e6 :: (b',o') :: h):=.next .p6
theorem yK.p7 {e0 e1 e2 e3 e4 e5 e6:Bk×Ob} {b:Bk} {o:Ob} {h:Heap}:yK (e0 :: e1 :: e2 :: e3 :: e4 :: e5 :: e6 :: (b,o) :: h) b o (e0 :: e1 :: e2 :: e3 :: e4 :: e5 :: e6 :: h):=.next .p6
section rules
variable {P:Program} {all:Array Oper} {rest:List Oper} {n:Nat} {tm:List (Nat×AV)} {hp:Heap} {Q:St→Prop} {d:Nat} {ty:TypeId} {pos:String} {af:Array Edge}
theorem rM {x:Operand} {av:AV} (hx:de tm x=some av) (hn:ai d n=true) (k:ae P all rest ⟨n,(d,av) :: tm,hp⟩ Q):ae P all (⟨some d,.move x,ty,pos,af,none⟩ :: rest) ⟨n,tm,hp⟩ Q:=ae.qv (aM hx) hn k
theorem rA {x:Operand} {av:AV} (hx:de tm x=some av) (hn:ai d n=true) (k:ae P all rest ⟨n,(d,av) :: tm,hp⟩ Q):ae P all (⟨some d,.assign x,ty,pos,af,none⟩ :: rest) ⟨n,tm,hp⟩ Q:=ae.qv (bR hx) hn k
theorem rF {x:Operand} {s:TypeId} {j off:Nat} {b:Bk} {o o':Nat} [ou P s j off] (hx:de tm x=some (.ptr b o)) (ho:o+off=o') (hn:ai d n=true) (k:ae P all rest ⟨n,(d,.ptr b o') :: tm,hp⟩ Q):ae P all (⟨some d,.fieldAddr s x j,ty,pos,af,none⟩ :: rest) ⟨n,tm,hp⟩ Q:=ae.qv (az hx ho) hn k
theorem rL {t:TypeId} {D:TypeDesc} {x:Operand} {b:Bk} {o:Nat} {cs:List AV} {av:AV} [aB P t D] (hD:TypeDesc.jA D=false) (hx:de tm x=some (.ptr b o)) (f:mD hp b (.cells cs)) (ho:cs[o]? =some av) (hn:ai d n=true) (k:ae P all rest ⟨n,(d,av) :: tm,hp⟩ Q):ae P all (⟨some d,.load t x,ty,pos,af,none⟩ :: rest) ⟨n,tm,hp⟩ Q:=ae.qv (aN hD hx f ho) hn k
theorem rT {c x y:Operand} {av:AV} (hc:de tm c=some (.bool true)) (hx:de tm x=some av) (hn:ai d n=true) (k:ae P all rest ⟨n,(d,av) :: tm,hp⟩ Q):ae P all (⟨some d,.pick c x y,ty,pos,af,none⟩ :: rest) ⟨n,tm,hp⟩ Q:=ae.qv (fP hc hx) hn k
theorem rE {c x y:Operand} {av:AV} (hc:de tm c=some (.bool false)) (hx:de tm y=some av) (hn:ai d n=true) (k:ae P all rest ⟨n,(d,av) :: tm,hp⟩ Q):ae P all (⟨some d,.pick c x y,ty,pos,af,none⟩ :: rest) ⟨n,tm,hp⟩ Q:=ae.qv (ed hc hx) hn k
theorem rX {x:Operand} {i:Nat} {vs:List AV} {av:AV} (hx:de tm x=some (.lE vs)) (hi:vs[i]? =some av) (hn:ai d n=true) (k:ae P all rest ⟨n,(d,av) :: tm,hp⟩ Q):ae P all (⟨some d,.extract x i,ty,pos,af,none⟩ :: rest) ⟨n,tm,hp⟩ Q:=ae.qv (jM hx hi) hn k
theorem rN (h:Q ⟨n,tm,hp⟩):ae P all [] ⟨n,tm,hp⟩ Q:=ae.nil h
theorem rG {op:Op} {j:Nat} {want b:Bool} {s:Nat} (hj:(all[j]?).bind (·.dst)=some s) (hs:lk tm s=some (.bool b)) (hb:b=!want) (hn:ai d n=true) (k:ae P all rest ⟨n,(d,.raw undef) :: tm,hp⟩ Q):ae P all (⟨some d,op,ty,pos,af,some (j,want)⟩ :: rest) ⟨n,tm,hp⟩ Q:=ae.ar hj hs hb hn k
theorem rY {op:Op} {j:Nat} {want b:Bool} {s:Nat} (hj:(all[j]?).bind (·.dst)=some s) (hs:lk tm s=some (.bool b)) (hb:b=want) (k:ae P all (⟨some d,op,ty,pos,af,none⟩ :: rest) ⟨n,tm,hp⟩ Q):ae P all (⟨some d,op,ty,pos,af,some (j,want)⟩ :: rest) ⟨n,tm,hp⟩ Q:=ae.au hj hs hb k
end rules
section rules
variable {P:Program} {R:St→Prop} {k:List It} {σ:St}
theorem tS {x y:Code} (h:ab P R (.code x :: .code y :: k) σ):ab P R (.code (.seq x y) :: k) σ:=ab.seq h
theorem tR {id:Nat} {l:List Oper} (h:ae P l.toArray l σ (ab P R k)):ab P R (.code (.region id l.toArray false) :: k) σ:=ab.region h
theorem aJ {id:Nat} {l:List Oper} {y:Code} (h:ae P l.toArray l σ (ab P R (.code y :: k))):ab P R (.code (.seq (.region id l.toArray false) y) :: k) σ:=ab.seq (ab.region h)
theorem tK (h:ab P R k σ):ab P R (.code .skip :: k) σ:=ab.skip h
end rules
end Go.Eng
