/- The engine: abstract values, the symbolic heap, one rule for each operation. No program in sight. -/
import Derived.Test.YthfphcbipahkmaaGreatDoorEngC
import Derived.Laws.BytesArg
import Derived.Shelf.SlSortCmp.NoneTotal
open Array renaming getElem?_eq_getElem→bc,range→be,getElem?_modify→b8,getElem?_eq_none→ce,getElem?_eq_some_iff→cz,getElem_mem→c7,getElem_of_mem→c8,mem_filter→da,getElem?_append_left→ds,getElem?_map→d7,eq_empty_of_size_eq_zero→d9,getElem?_append_right→ej,length_toList→eq,getElem?_toList→eX,size_range→eY,getElem?_mapIdx→fl,getElem?_setIfInBounds→fz,isEmpty→gI
open Bool renaming false_eq_true→bO,not_eq_true'→c6,eq_iff_iff→d0
open Classical renaming propDecidable→ea
open List renaming replicate→ac,getElem?_map→al,getElem?_eq_some_iff→ap,mem_singleton→aw,mem_map→aH,getElem?_eq_getElem→a7,mem_append→bo,map_append→bp,map_cons→bv,Perm.refl→bx,mem_of_getElem?→bW,mem_flatMap→b4,nodup_append→b5,filter_eq_self→b6,getElem_mem→ci,Perm.cons→ck,getElem?_of_mem→cl,flatMap_append→cm,perm_middle→cJ,map_set→cK,length_take→db,getElem?_append_left→dd,eq_of_mem_replicate→dn,mem_cons→dV,nodup_cons→dY,Perm.trans→d1,mem_filter→d2,mem_of_mem_take→d3,take_append_drop→d4,getD_eq_getElem?_getD→eg,length_map→ek,length_cons→el,length_drop→em,eq_nil_of_length_eq_zero→fs,append_of_mem→ft,length→f0,getElem?_set→gc,filter_append→gq,filter_cons→gs,getElem?_inj→gt
open Nat renaming blt→ai,le_refl→a6,lt_of_lt_of_le→bz,mod_lt→b7,lt_or_ge→b9,beq→cn,add_mul→cp,le_of_ble_eq_true→cy,mul_le_mul_right→cA,zero_add→dg,lt_of_succ_le→dl,zero_le→dy,eq_of_beq_eq_true→d5,div_lt_iff_lt_mul→e8,div_add_mod'→e9,zero_mul→fj,eq_zero_or_pos→fr
open Option renaming some.inj→aa,map_some→bs,some.injEq→bX,bind_some→d6,map_eq_some_iff→d8,isSome_none→fd,getD_none→ge
open Prod renaming fst→bk,mk.inj→f9,mk.injEq→g8
set_option linter.unusedVariables false
set_option linter.unusedSectionVars false
namespace Go.Eng
open Go
variable [bU]
theorem O5 {w:World} {S:Nat→Prop} {hp cQ:Heap} {b:Bk} {sz k:Nat} {xs:List AV} (r:de w S hp) (u:mF hp b (.arr sz xs) b (.arr sz (xs.take k)) cQ):de w S cQ∧kT w S hp w S cQ:=by
 obtain ⟨pre,post,e1,e2⟩:=u.split
 subst e1;subst e2
 have hblk:∀ n,Has (pre++(b,Ob.arr sz (xs.take k)) :: post) n↔Has (pre++(b,Ob.arr sz xs) :: post) n:=by
  intro n
  constructor<;>rintro ⟨x,hx,hb⟩<;>rcases bw.1 hx with rfl | hx
  ·exact ⟨(b,.arr sz xs),bw.2 (.inl rfl),hb⟩
  ·exact ⟨x,bw.2 (.inr hx),hb⟩
  ·exact ⟨(b,.arr sz (xs.take k)),bw.2 (.inl rfl),hb⟩
  ·exact ⟨x,bw.2 (.inr hx),hb⟩
 refine ⟨⟨?_,?_,?_,r.slt,r.gh⟩,⟨rfl,rfl,rfl,a6 _,fun n hn=>⟨hn,rfl⟩,fun n _ _=>⟨rfl,id⟩,fun n hn=>.inl ((hblk n).1 hn),fun _=>a6 _⟩⟩
 ·have:=r.nodup
  simpa [cm,List.flatMap_cons,eb,Ob.more] using this
 ·intro x hx
  rcases bw.1 hx with rfl | hx
  ·obtain ⟨h0,h1,h2⟩:=r.holds (b,.arr sz xs) (bw.2 (.inl rfl))
   refine ⟨fun x hx=>h0 x (d3 hx),Nat.le_trans (by simp only [db];omega) h1,h2.imp id ?_⟩
   rintro ⟨n,vs,E,g1,g2,g3,g4⟩
   refine ⟨n,vs,E,g1,g2,g3,fun i c v hc hv=>?_⟩
   have hp:∃ t,flat xs=flat (xs.take k)++t:=⟨flat (xs.drop k),by
    show xs.flatMap AV.cells=(xs.take k).flatMap AV.cells++(xs.drop k).flatMap AV.cells
    rw [← cm,d4]⟩
   obtain ⟨t,ht⟩:=hp
   refine g4 i c v ?_ hv
   rw [ht,dd (ap.1 hc).1]
   exact hc
  ·exact r.holds x (bw.2 (.inr hx))
 ·intro x hx n hn
  rcases bw.1 hx with rfl | hx
  ·have:=r.sep (b,.arr sz xs) (bw.2 (.inl rfl)) n hn
   exact ⟨fun h=>(this.1 h).elim,fun h=>h.elim⟩
  ·exact r.sep x (bw.2 (.inr hx)) n hn
theorem aj.take {n k:Nat} {tm:List (Nat×AV)} {hp cQ:Heap} {T:St→Prop} {b:Bk} {sz:Nat} {xs:List AV} (u:mF hp b (.arr sz xs) b (.arr sz (xs.take k)) cQ) (kk:aj ⟨n,tm,cQ⟩ T):aj ⟨n,tm,hp⟩ T:=by
 refine aj.step (Ar:=⟨n,tm,cQ⟩) (fun w S a r=>?_) kk
 obtain ⟨g1,g2⟩:=O5 r.hp u
 exact ⟨_,S,rfl,⟨r.size,r.defers,r.tm,g1⟩,g2⟩
section rules
variable {P:Program} {all:Array Oper} {rest:List Oper} {n:Nat} {tm:List (Nat×AV)} {hp:Heap} {Q:St→Prop} {d:Nat} {ty:TypeId} {pos:String} {af:Array Edge}
theorem AJ {α:Type} {Xs V:List α} {L H:Int} (h:Cj Xs L H=some V):V.length=H.toNat - L.toNat∧L.toNat+V.length≤Xs.length∧V=(Xs.drop L.toNat).take V.length:=by
 obtain ⟨⟨h0,h1,h2⟩,rfl⟩:=uD h
 have:((Xs.drop L.toNat).take (H.toNat - L.toNat)).length=H.toNat - L.toNat:=by simp;omega
 refine ⟨this,by rw [this];omega,by rw [this]⟩
theorem w5 {α:Type} {Xs Zs:List α} {t e:TypeId} {i:TypeInfo} {x:Operand} {lo hi:Option Operand} {l h:Option Int} {sz:Nat} {b:Bk} {L H:Int} [aC P t (.slice e)] [a8 P e i] (hx:du tm x=some (.sl sz b 0 Xs.length)) (jc:cn i.size sz=true) (hl:J9 tm lo l) (hh:J9 tm hi h)
 (eL:iJ l=L) (eH:jt Xs.length h=H) (hv:Cj Xs L H=some Zs):QV P ⟨some d,.slice t x lo hi none,ty,pos,af,none⟩ ⟨n,tm,hp⟩ (.sl sz b L.toNat Zs.length):=by
 obtain ⟨⟨h0,h1,h2⟩,_⟩:=uD hv
 have hlen:=(AJ hv).1
 subst eL;subst eH
 have:=Kt (P:=P) (d:=d) (ty:=ty) (pos:=pos) (af:=af) (n:=n) (tm:=tm) (hp:=hp) (t:=t) (e:=e) hx jc hl hh h0 h1 h2
 rw [dg] at this
 rw [hlen];exact this
theorem aj.Ur {α:Type} {g:α→AV} {Xs V:List α} {H:Int} {T:St→Prop} {b:Bk} {sz:Nat} {cQ:Heap} (hv:Cj Xs 0 H=some V) (u:mF hp b (.arr sz (Xs.map g)) b (.arr sz (V.map g)) cQ) (kk:aj ⟨n,tm,cQ⟩ T):aj ⟨n,tm,hp⟩ T:=by
 refine aj.take (k:=V.length) (xs:=Xs.map g) (b:=b) (sz:=sz) ?_ kk
 rw [← List.map_take]
 have:=(AJ hv).2.2
 simp only [Int.toNat_zero,List.drop_zero] at this
 rw [← this];exact u
end rules
inductive CO (hp:Heap):AV→AV→Prop
 | co {a a':AV} (c:Co hp a a'):CO hp a a'
 | agg (cs lA:List AV) (hl:lA.length=cs.length) (h:∀ (i:Nat) c c',cs[i]? =some c→lA[i]? =some c'→CO hp c c'):CO hp (.agg cs) (.agg lA)
 | lM (cs lA:List AV) (hl:lA.length=cs.length) (h:∀ (i:Nat) c c',cs[i]? =some c→lA[i]? =some c'→CO hp c c'):CO hp (.lM cs) (.lM lA)
 | list (sz:Nat) (xs ys:List AV) (hn:ys.length=xs.length) (hl:(flat ys).length=(flat xs).length) (he:∀ y∈ys,El sz y) (h:∀ (i:Nat) c c',(flat xs)[i]? =some c→(flat ys)[i]? =some c'→CO hp c c'):CO hp (.list sz xs) (.list sz ys)
inductive Iw (hp:Heap):List AV→List AV→Prop
 | nil:Iw hp [] []
 | cons {a a':AV} {l l':List AV} (c:CO hp a a') (k:Iw hp l l'):Iw hp (a :: l) (a' :: l')
theorem CO.r {hp:Heap} {a:AV}:CO hp a a:=.co (.refl _)
theorem CO.n {hp:Heap} {sz:Nat}:CO hp .nil (.list sz []):=.co (.nil _)
theorem Iw.each {hp:Heap}:∀ {l l':List AV},Iw hp l l'→l'.length=l.length∧∀ (i:Nat) c c',l[i]? =some c→l'[i]? =some c'→CO hp c c'
 | [],_,.nil=>⟨rfl,fun i c c' h=>by simp at h⟩
 | _ :: _,_,.cons c k=>by
   obtain ⟨g1,g2⟩:=Iw.each k
   refine ⟨by simp [g1],fun i c1 c2 h1 h2=>?_⟩
   match i with
   | 0=>simp at h1 h2;subst h1;subst h2;assumption
   | i+1=>exact g2 i c1 c2 (by simpa using h1) (by simpa using h2)
theorem CO.XP {hp:Heap} {cs lA:List AV} (k:Iw hp cs lA):CO hp (.agg cs) (.agg lA):=.agg cs lA k.each.1 k.each.2
theorem CO.O6 {hp:Heap} {sz:Nat} {xs ys:List AV} (k:Iw hp (flat xs) (flat ys)) (hn:cn ys.length xs.length=true) (he:Az sz ys=true):CO hp (.list sz xs) (.list sz ys):=
 .list sz xs ys (d5 hn) k.each.1 (qA he) k.each.2
theorem CO.at {w:World} {S:Nat→Prop} {hp:Heap} {a a':AV} {v:Value} (c:CO hp a a') (r:de w S hp) (h:At w S a v):At w S a' v:=by
 induction c generalizing v with
 | co c=>exact c.at r h
 | agg cs lA hl _ ih=>
   cases h with
   | agg _ vs h1 h2=>
     refine .agg lA vs (by rw [hl,h1]) (fun i c v hc hv=>?_)
     have hi:i < cs.length:=by rw [← hl];exact (ap.1 hc).1
     exact ih i cs[i] c (by simp [hi]) hc (h2 i _ _ (by simp [hi]) hv)
 | lM cs lA hl _ ih=>
   cases h with
   | lM _ vs h1 h2=>
     refine .lM lA vs (by rw [hl,h1]) (fun i c v hc hv=>?_)
     have hi:i < cs.length:=by rw [← hl];exact (ap.1 hc).1
     exact ih i cs[i] c (by simp [hi]) hc (h2 i _ _ (by simp [hi]) hv)
 | list sz xs ys hn hl he _ ih=>
   cases h with
   | list _ _ a cap vs g1 g2 g3 g4 g5=>
     rw [← hn]
     refine .list sz ys a cap vs he (by rw [hl,g2]) (fun i c v hc hv=>?_) g4 (by rw [hn];exact g5)
     have hi:i < (flat xs).length:=by rw [← hl];exact (ap.1 hc).1
     exact ih i (flat xs)[i] c (by simp [hi]) hc (g3 i _ _ (by simp [hi]) hv)
theorem aj.Va {n s:Nat} {tm:List (Nat×AV)} {hp:Heap} {T:St→Prop} {av iI:AV} (hs:lk tm s=some av) (c:CO hp av iI) (k:aj ⟨n,(s,iI) :: tm,hp⟩ T):aj ⟨n,tm,hp⟩ T:=by
 refine aj.step (Ar:=⟨n,(s,iI) :: tm,hp⟩) (fun w S a r=>⟨_,S,rfl,⟨r.size,r.defers,fun t av h=>?_,r.hp⟩,kT.refl _ _ _⟩) k
 simp only [lk] at h
 split at h
 ·rename_i hb
  obtain rfl:s=t:=by simpa using hb
  obtain rfl:=aa h
  obtain ⟨v,h1,h2⟩:=r.tm s _ hs
  exact ⟨v,h1,c.at r.hp h2⟩
 ·exact r.tm t av h
def pP {R:Type} (n:Nat) (len:R→Nat) (x:Option R):Option R:=x.bind fun r=>if len r=n then some r else none
theorem tZ {R:Type} {n:Nat} {len:R→Nat} {x:Option R} {r:R} (h:pP n len x=some r):x=some r:=by
 unfold pP at h
 cases x with
 | none=>cases h
 | some y=>
   simp only [d6] at h
   split at h
   ·exact h
   ·cases h
theorem jI {R:Type} {n:Nat} {len:R→Nat} {x:Option R} {r:R} (h:pP n len x=some r):len r=n:=by
 unfold pP at h
 cases x with
 | none=>cases h
 | some y=>
   simp only [d6] at h
   split at h
   ·rename_i hh;obtain rfl:=aa h;exact hh
   ·cases h
def Oh {α:Type} (z:α) (l c:Int):Option (List α):=if 0≤l∧l≤c∧c≤1000000000 then some (ac l.toNat z) else none
theorem yf {sz:Nat} {x:AV} (h:x.cells.length=sz):∀ (k i:Nat),i < k * sz→(flat (ac k x))[i]? =x.cells[i % sz]?
 | 0,i,hi=>by simp at hi
 | k+1,i,hi=>by
   rw [List.replicate_succ,show flat (x :: ac k x)=x.cells++flat (ac k x) from rfl]
   by_cases eI:i < sz
   ·rw [dd (by omega),Nat.mod_eq_of_lt eI]
   ·rw [List.getElem?_append_right (by omega),h,yf h k (i - sz) (by rw [cp] at hi;omega)]
    rw [Nat.mod_eq_sub_mod (a:=i) (by omega)]
section rules
variable {P:Program} {all:Array Oper} {rest:List Oper} {n:Nat} {tm:List (Nat×AV)} {hp:Heap} {Q:St→Prop} {d:Nat} {ty:TypeId} {pos:String} {af:Array Edge}
theorem yg {α:Type} {g:α→AV} {Z:α} {Xs:List α} {t e:TypeId} {i:TypeInfo} {z:Value} {x y:Operand} {k k':IntKind} {l c:Int} {sz:Nat} [aC P t (.slice e)] [a8 P e i] (hx:du tm x=some (.int k l)) (hy:du tm y=some (.int k' c)) (hz:i.zero=some z) (hg:As z=g Z) (hs:i.size=sz) (xv:RL sz (g Z)=true) (tI:ai 0 sz=true) (hb:Nat.ble i.bytes 65536=true)
 (hn:ai d n=true) (hm:Oh Z l c=some Xs) (kk:∀ b:Bk,ae P all rest ⟨n,(d,.sl sz b 0 Xs.length) :: tm,(b,.arr sz (Xs.map g)) :: hp⟩ Q):ae P all (⟨some d,.makeSlice t x y,ty,pos,af,none⟩ :: rest) ⟨n,tm,hp⟩ Q:=by
 subst hs
 have tI:0 < i.size:=bz (dl (cy tI)) (a6 _)
 have hb:=cy hb
 unfold Oh at hm
 split at hm
 ·rename_i hc
  obtain rfl:=aa hm
  obtain ⟨c0,c1,c2⟩:=hc
  refine ae.HY rfl fun w S a r=>?_
  have e1:=(bl (σ:=⟨n,tm,hp⟩) r hx).eE
  have e2:=(bl (σ:=⟨n,tm,hp⟩) r hy).eE
  have hE:=ya xv
  obtain ⟨hl,qo⟩:=rl w S z (by rw [hg];exact hE.2)
  rw [hg] at hl qo
  have Du:z.cells.size=i.size:=by rw [← hl];exact hE.1
  obtain ⟨vs,Sc⟩:∃ vs:Array Value,vs=(be (c.toNat * i.size)).map (z.cells[· % z.cells.size]!):=⟨_,rfl⟩
  have jc:vs.size=c.toNat * i.size:=by rw [Sc];simp
  have G1:∀ (j:Nat) (v:Value),vs[j]? =some v→z.cells[j % i.size]? =some v:=by
   intro j v hv
   rw [Sc] at hv
   simp only [d7,d8] at hv
   obtain ⟨q,hq,rfl⟩:=hv
   have:q=j:=by
    rw [cz] at hq
    obtain ⟨h1,h2⟩:=hq
    simpa using h2.symm
   subst this
   rw [Du]
   have eI:q % i.size < z.cells.size:=by rw [Du];exact b7 _ tI
   simp [eI]
  have e0:=Ext.alloc w (.cells vs e)
  have O7:(ac l.toNat Z).map g=ac l.toNat (g Z):=by simp
  have hh:Holds (w.alloc (.cells vs e)) S ⟨some w.heap.size,c.toNat⟩ (.arr i.size ((ac l.toNat Z).map g)):=by
   rw [O7]
   refine ⟨fun x hx=>by rw [dn hx];exact hE,by simp;omega,.inr ⟨w.heap.size,vs,e,rfl,?_,jc,fun j cc v FO hv=>?_⟩⟩
   ·show (w.heap.push _)[w.heap.size]? =_
    simp
   ·have zw:j < (flat (ac l.toNat (g Z))).length:=(ap.1 FO).1
    rw [cT (fun x hx=>by rw [dn hx];exact hE)] at zw
    rw [yf hE.1 _ _ (by simpa using zw)] at FO
    exact (qo _ _ _ FO (G1 j v hv)).mono fun m hm=>⟨hm,e0.same m (r.hp.slt m hm)⟩
  obtain ⟨k1,k2,k3⟩:=pg r.hp e0 id hh (.inr ⟨_,rfl,a6 _⟩)
  refine ⟨.slice (some ⟨w.heap.size,0,none⟩) l.toNat c.toNat,w.alloc (.cells vs e),S,_,?_,(r.heap k3 k1).put hn ?_,k2,kk ⟨some w.heap.size,c.toNat⟩⟩
  ·have w1:IntKind.i64.wrap l=l:=vX ⟨by omega,by omega⟩
   have w2:IntKind.i64.wrap c=c:=vX ⟨by omega,by omega⟩
   have hbc:(i.bytes:Int) * c≤65536 * 1000000000:=Int.mul_le_mul (by omega) (by omega) (by omega) (by omega)
   have f1:decide (c < 0)=false:=decide_eq_false (by omega)
   have f2:decide (((i.bytes:Int) * c) > 2 ^ 48)=false:=decide_eq_false (by omega)
   have f3:decide (l < 0)=false:=decide_eq_false (by omega)
   have f4:decide (l > c)=false:=decide_eq_false (by omega)
   have xw:¬ c.toNat * i.bytes > roomBytes:=by
    have:c.toNat * i.bytes≤1000000000 * 65536:=Nat.mul_le_mul (by omega) hb
    unfold roomBytes;omega
   have a1:∀ (k:IntKind) (x:Int) (w:World),(asInt (.int k x)).run P w=.ok x w:=fun k x w=>by simp [asInt,asIntOf]
   simp only [execOp,Instr.makeSlice,Sem.run_bind,run_underlying (aC.h (P:=P) (t:=t)),Result.andThen_ok,e1,e2,a1,typeInfo,sizeOf,run_program,a8.h (P:=P) (t:=e),Sem.run_pure,w1,w2,f1,f2,f3,f4,Bool.or_self,bO,if_false,askRoom,if_neg xw]
   by_cases h0:c.toNat * i.size=0
   ·rw [if_pos h0]
    have XQ:vs=#[]:=by apply d9;omega
    simp only [Sem.run_bind,Sem.run_pure,Result.andThen_ok,h0,oS,XQ]
    rw [show be 0=#[] from rfl]
    simp
   ·rw [if_neg h0]
    simp only [Sem.run_bind,Result.andThen_ok,Sem.run_pure,zeroValue,typeInfo,run_program,a8.h (P:=P) (t:=e),hz,oS,← Sc]
  ·have:=At.sl (w:=w.alloc (.cells vs e)) (S:=S) i.size ⟨some w.heap.size,c.toNat⟩ 0 l.toNat w.heap.size c.toNat rfl (by omega) (by simp)
   simpa using this
 ·cases hm
end rules
end Go.Eng
set_option linter.unusedSimpArgs false
namespace Go.Eng
open Go Go.Sort Go.Proofs
variable [bU]
structure Ix (P:Program) (f:FuncId) (k:Nat):Prop where
 some_:∀ (enc:Nat→List Value) (_:∀ x,(enc x).length=k) (_:∀ x,∀ v∈enc x,v.oneCell'=true) (cf:Nat→Nat→Int) (_:SWO (ltOf cf)) (g:Nat) (cb:Array Value) (cH off cap:Nat) (d:Array Nat) (w:World)
  (_:∀ args w,(callFunc g args).run P w=.ok (.enter g args) w) (_:CmpLays P g cb enc k cf cH off d.size w) (_:HoldsK enc k w cH off d) (_:cH < w.heap.size) (_:d.size < 4611686018427387904),
  Calls P f #[.slice (some ⟨cH,off,none⟩) d.size cap,.func (.func g) #[] cb] w fun e w'=>
   e=.returned (.tuple #[])∧∃ n os,w'=sortWorldK enc k w cH off n (pdq (ltOf cf) d 0 d.size (Lib.bitLen d.size) true true) os
 none_:∀ (p:Option Addr) (cap:Nat) (fv:Value) (w:World),Calls P f #[.slice p 0 cap,fv] w fun e w'=>e=.returned (.tuple #[])∧w'=w
def tP {α:Type} (x:α) (r:List α) (i:Nat):α:=(x :: r).getD i x
def vb {α:Type} (f:α→α→Option Int) (x:α) (r:List α) (i j:Nat):Int:=(f (tP x r i) (tP x r j)).getD 0
noncomputable def DK {α:Type} (f:α→α→Option Int):List α→Option (List α)
 | []=>some []
 | x :: r=>@ite _ (r.length+1 < 4611686018427387904∧(∀ a∈x :: r,∀ b∈x :: r,∃ u,f a b=some u)∧SWO (ltOf (vb f x r))) (ea _)
     (some ((pdq (ltOf (vb f x r)) (be (r.length+1)) 0 (r.length+1) (Lib.bitLen (r.length+1)) true true).toList.map (tP x r))) none
theorem zV {α:Type} (f:α→α→Option Int) (x:α) (r:List α):DK f (x :: r)=@ite _ (r.length+1 < 4611686018427387904∧(∀ a∈x :: r,∀ b∈x :: r,∃ u,f a b=some u)∧SWO (ltOf (vb f x r))) (ea _)
 (some ((pdq (ltOf (vb f x r)) (be (r.length+1)) 0 (r.length+1) (Lib.bitLen (r.length+1)) true true).toList.map (tP x r))) none:=rfl
theorem jl {α:Type} (x:α) (r:List α) (i:Nat):tP x r i∈x :: r:=by
 unfold tP
 rw [eg]
 rcases h:(x :: r)[i]? with _ | y
 ·simp
 ·exact bW h
theorem qC (enc:Nat→List Value) (k:Nat) (w:World) (cH off m:Nat) (dk:Array Nat) (os:Array Obj) {n:Nat} (hn:n < w.heap.size) (Aq:n≠cH):(sortWorldK enc k w cH off m dk os).heap[n]? =w.heap[n]?:=by
 unfold sortWorldK putRowK putRow
 rw [heap_grow_old _ _ (by simpa [mapBlock] using hn)]
 simp only [mapBlock,heap_ahead,b8]
 rw [if_neg (fun h=>Aq h.symm)]
theorem w6 (enc:Nat→List Value) (k:Nat) (w:World) (cH off m:Nat) (dk:Array Nat) (os:Array Obj):w.heap.size≤(sortWorldK enc k w cH off m dk os).heap.size:=by
 unfold sortWorldK putRowK
 simp
theorem FV (enc:Nat→List Value) (k:Nat) (w:World) (cH m:Nat) (dk:Array Nat) (os:Array Obj) {vs:Array Value} {E:TypeId} (hb:w.heap[cH]? =some (.cells vs E (0,0))):(sortWorldK enc k w cH 0 m dk os).heap[cH]? =some (.cells (putCells id 0 (flatK enc k dk) vs) E (0,0)):=by
 have eI:cH < w.heap.size:=by
  rcases b9 cH w.heap.size with h | h
  ·exact h
  ·simp [ce h] at hb
 unfold sortWorldK putRowK putRow
 rw [heap_grow_old _ _ (by simpa [mapBlock] using eI)]
 simp only [mapBlock,heap_ahead,b8]
 rw [if_pos trivial,hb]
 rfl
theorem Ext.grown {w w':World} (hd:bU.dr) (e:Ext w w'):∃ q os,w'=grow (w.drewN q) os:=by
 refine ⟨w'.drawn - w.drawn,w'.heap.extract w.heap.size w'.heap.size,?_⟩
 obtain ⟨h',t',d',o',ahC⟩:=w'
 have e1:=e.os;have e2:=e.tape;have e3:=e.output;have e4:=e.drawn hd;have e5:=e.size;have e6:=e.same
 simp only at e1 e2 e3 e4 e5 e6
 subst e1 e2 e3
 unfold grow World.drewN
 simp only [World.mk.injEq,and_true,true_and]
 refine ⟨?_,by omega⟩
 apply Array.ext_getElem?
 intro i
 by_cases hi:i < w.heap.size
 ·rw [e6 i hi,ds hi]
 ·rw [ej (by omega),Array.getElem?_extract]
  by_cases h2:i < h'.size
  ·rw [if_pos (by omega)]
   congr 1;omega
  ·rw [if_neg (by omega),ce (by omega)]
theorem KG {P:Program} {T:Type} {g:T→AV} {f:FuncId} {k:Nat} (K:Ix P f k) (G4:ai 0 k=true) {gf:FuncId} [bN P gf] {C:List AV} {fn:T→T→Option Int} (Sd:∀ {x y:T} {u:Int},fn x y=some u→@Pu nz P gf (g x :: g y :: C) (I u))
 (O8:∀ x,g x=.agg (g x).cells) {Xs Ys:List T} {b:Bk} (h:DK fn Xs=some Ys):aR P f [.sl k b 0 Xs.length,.func (.func gf) C] [(b,.arr k (Xs.map g))] (T0 [(b,.arr k (Ys.map g))] (.lM [])):=by
 have G4:0 < k:=bz (dl (cy G4)) (a6 _)
 intro w S vs r hl ha
 obtain ⟨v0,v1,rfl⟩:∃ v0 v1,vs=#[v0,v1]:=by
  match vs,hl with
  | ⟨[v0,v1]⟩,_=>exact ⟨v0,v1,rfl⟩
 have a0:=ha 0 _ v0 rfl rfl
 have a1:=ha 1 _ v1 rfl rfl
 obtain ⟨oa,cap,rfl,e2⟩:=a0.uz
 obtain ⟨cv,rfl,zy,hca⟩:=a1.x4
 match Xs,h with
 | [],h=>
   obtain rfl:=aa h
   refine (K.none_ oa cap _ w).mono ?_
   rintro e w' ⟨rfl,rfl⟩
   exact ⟨_,.lM [],_,S,rfl,⟨rfl,rfl⟩,.lM [] #[] rfl (fun i c v hc=>by simp at hc),r,kT.refl _ _ _⟩
 | x :: xr,h=>
   rw [zV] at h
   by_cases hc:(xr.length+1 < 4611686018427387904∧(∀ a∈x :: xr,∀ b∈x :: xr,∃ u,fn a b=some u)∧SWO (ltOf (vb fn x xr)))
   ·rw [if_pos hc] at h
    obtain rfl:=aa h
    obtain ⟨hlen,Vb,hO⟩:=hc
    obtain ⟨h0,h1,h2⟩:=r.holds _ (aw.2 rfl)
    simp only [ek,el] at h1
    rcases h2 with ⟨_,Ku⟩ | ⟨m,row,E,hb,zh,jc,qo⟩
    ·have Us:b.cap=0:=Ku
     omega
    rcases e2 with ⟨hn,_,_,_,_⟩ | ⟨m',Bx,rfl,hle,XR⟩ | ⟨m',ad,_,_,Ug,_⟩
    ·rw [hn] at hb;cases hb
    ·obtain rfl:m'=m:=by rw [Bx] at hb;exact aa hb
     have O9:m' < w.heap.size:=by
      rcases b9 m' w.heap.size with h | h
      ·exact h
      ·simp [ce h] at zh
     have nS:¬ S m':=fun hs=>by have:=(r.sep _ (aw.2 rfl) m' (fF hb)).1 hs;exact this
     let ix:Nat→Nat:=fun i=>if i < xr.length+1 then i else 0
     have Kd:∀ i,ix i < xr.length+1:=fun i=>by simp only [ix];split<;>omega
     have Vc:∀ i,(x :: xr)[ix i]? =some (tP x xr i):=by
      intro i
      simp only [ix,tP,eg]
      split
      ·rename_i hi
       rw [a7 (by simpa using hi)];simp
      ·rename_i hi
       rw [List.getElem?_eq_none (l:=x :: xr) (i:=i) (by simp;omega)];simp
     have WG:(xr.length+1) * k≤row.size:=by rw [jc];exact cA k h1
     let enc:Nat→List Value:=fun i=>(row.toList.drop (ix i * k)).take k
     have G5:∀ i,(enc i).length=k:=by
      intro i
      have:ix i * k+k≤row.size:=by
       have:=cA k (show ix i+1≤xr.length+1 from Kd i)
       rw [cp,Nat.one_mul] at this
       omega
      simp only [enc,db,em,eq];omega
     have Pa:∀ i j,j < k→(enc i)[j]? =row[ix i * k+j]?:=by
      intro i j hj
      simp only [enc,List.getElem?_take,if_pos hj,List.getElem?_drop,eX]
     have AE:∀ i j,j < k→(flat ((x :: xr).map g))[ix i * k+j]? =(g (tP x xr i)).cells[j]?:=by
      intro i j hj
      exact pL h0 (by rw [al,Vc i];rfl) j hj
     have zy:∀ i,(g (tP x xr i)).cells.length=k:=fun i=>(h0 _ (aH.2 ⟨_,jl x xr i,rfl⟩)).1
     have u6:∀ i,∀ c∈(g (tP x xr i)).cells,c.one=true:=fun i=>(h0 _ (aH.2 ⟨_,jl x xr i,rfl⟩)).2
     have KH:∀ i,oe w S (g (tP x xr i)).cells (enc i).toArray:=by
      intro i j c v hc hv
      have hj:j < k:=by rw [← zy i];exact (ap.1 hc).1
      refine qo (ix i * k+j) c v (by rw [AE i j hj];exact hc) ?_
      rw [← Pa i j hj]
      simpa using hv
     have Vd:∀ i,∀ v∈enc i,v.oneCell'=true:=by
      intro i v hv
      obtain ⟨j,hj,rfl⟩:=List.getElem_of_mem hv
      have hjk:j < k:=by rw [G5 i] at hj;exact hj
      have Se:j < (g (tP x xr i)).cells.length:=by rw [zy i];exact hjk
      exact (KH i j (g (tP x xr i)).cells[j] (enc i)[j] (by simp [Se]) (by simp [hj])).Kn (u6 i _ (ci Se))
     have vi:∀ (d:Array Nat) (t:Nat),t < d.size * k→(flatK enc k d)[t]! =(enc d[t / k]!)[t % k]!:=fun d t ht=>get_flatK enc k d t ht
     have Pb:HoldsK enc k w m' 0 (be (xr.length+1)):=by
      intro j hj
      rw [size_flatK,eY] at hj
      have hdiv:j / k < xr.length+1:=(e8 G4).2 hj
      have G6:j % k < k:=b7 _ G4
      have LX:j < row.size:=by omega
      have e1:(flatK enc k (be (xr.length+1)))[j]! =row[j]:=by
       rw [vi _ _ (by simpa using hj)]
       have:(be (xr.length+1))[j / k]! =j / k:=by
        rw [getElem!_pos _ _ (by simpa using hdiv)];simp
       rw [this]
       have hv:=Pa (j / k) (j % k) G6
       have:ix (j / k)=j / k:=by simp only [ix];rw [if_pos hdiv]
       rw [this,e9] at hv
       rw [bc LX] at hv
       rw [List.getElem!_eq_getElem?_getD,hv];rfl
      constructor
      ·simp only [World.cell?,zh,id,e1,dg,fd,bO,if_false]
       rw [bc LX]
      ·simp [World.frozen?,zh]
     have Ve:CmpLays P gf cv enc k (vb fn x xr) m' 0 (be (xr.length+1)).size w:=by
      intro mm os dk hdk i j
      obtain ⟨u,hu⟩:=Vb _ (jl x xr i) _ (jl x xr j)
      have hW:∀ n,S n→S n∧(sortWorldK enc k w m' 0 mm dk os).heap[n]? =w.heap[n]?:=fun n hs=>
       ⟨hs,qC enc k w m' 0 mm dk os (r.slt n hs) (fun e=>nS (e▸hs))⟩
      have LY:oe (sortWorldK enc k w m' 0 mm dk os) S (g (tP x xr i) :: g (tP x xr j) :: C) (#[.agg (enc i).toArray,.agg (enc j).toArray]++cv):=by
       intro q c v hc hv
       have ag:∀ i,At (sortWorldK enc k w m' 0 mm dk os) S (g (tP x xr i)) (.agg (enc i).toArray):=fun i=>by
        rw [O8 (tP x xr i)]
        exact .agg _ _ (by rw [zy i];simp [G5 i]) (fun a c v hc hv=>((KH i) a c v hc hv).mono hW)
       match q with
       | 0=>
         rw [ds (by simp)] at hv
         simp at hc hv;subst hc;subst hv;exact ag i
       | 1=>
         rw [ds (by simp)] at hv
         simp at hc hv;subst hc;subst hv;exact ag j
       | q+2=>
         simp only [List.getElem?_cons_succ] at hc
         rw [ej (by simp)] at hv
         simp only [List.size_toArray,el,List.length_nil,Nat.add_sub_cancel] at hv
         exact (hca q c v hc (by simpa using hv)).mono hW
      refine (Sd hu _ S _ (@uC nz _ _ (fun n hn=>bz (r.slt n hn) (w6 _ _ _ _ _ _ _ _)) (fun g o ho=>⟨(r.gh g o ho).1,Aw (hW g (r.gh g o ho).1).2 (r.gh g o ho).2⟩)) (by simp [zy,‹C.length=cv.size›];omega) LY).mono ?_
      rintro e w' ⟨v,rr,h',S',rfl,hq,h3,h4,h5⟩
      obtain rfl:=hq
      rw [h3.eE]
      refine ⟨?_,@Ext.grown nz _ _ trivial (@kT.FJ nz _ _ _ _ _ h5)⟩
      unfold vb
      rw [hu];rfl
     have Sf:(be (xr.length+1)).size=xr.length+1:=eY
     have Iy:=K.some_ enc G5 Vd (vb fn x xr) hO gf cv m' 0 cap (be (xr.length+1)) w (fun args w=>tY gf args w) Ve Pb O9 (by rw [Sf];exact hlen)
     rw [Sf] at Iy
     simp only [fj]
     refine Iy.mono ?_
     rintro e w' ⟨rfl,q,os,rfl⟩
     have Sg:=pdq_sorts (ltOf (vb fn x xr)) hO (be (xr.length+1)) 0 (xr.length+1) (Lib.bitLen (xr.length+1)) true true (dy _) (by rw [Sf];exact a6 _) (Or.inl rfl)
     generalize vT:pdq (ltOf (vb fn x xr)) (be (xr.length+1)) 0 (xr.length+1) (Lib.bitLen (xr.length+1)) true true=d' at Sg ⊢
     have G7:d'.size=xr.length+1:=by rw [Sg.1.1,Sf]
     have hW:∀ n,S n→S n∧(sortWorldK enc k w m' 0 q d' os).heap[n]? =w.heap[n]?:=fun n hs=>
      ⟨hs,qC enc k w m' 0 q d' os (r.slt n hs) (fun e=>nS (e▸hs))⟩
     have Rp:∀ y∈(d'.toList.map (tP x xr)).map g,El k y:=by
      intro y hy
      simp only [aH] at hy
      obtain ⟨z,⟨i,_,rfl⟩,rfl⟩:=hy
      exact h0 _ (aH.2 ⟨_,jl x xr i,rfl⟩)
     have hh:Go.Eng.Holds (sortWorldK enc k w m' 0 q d' os) S b (.arr k ((d'.toList.map (tP x xr)).map g)):=by
      refine ⟨Rp,by simp [G7];omega,.inr ⟨m',_,E,hb,FV enc k w m' q d' os zh,by simp [putCells,jc],?_⟩⟩
      intro j c v hc hv
      have zw:j < (xr.length+1) * k:=by
       have:=(ap.1 hc).1
       rw [cT Rp] at this
       simpa [G7] using this
      have hdiv:j / k < xr.length+1:=(e8 G4).2 zw
      have G6:j % k < k:=b7 _ G4
      have LX:j < row.size:=by omega
      have WN:(d'.toList.map (tP x xr))[j / k]? =some (tP x xr d'[j / k]!):=by
       rw [al,eX,bc (by omega),getElem!_pos d' (j / k) (by omega)];rfl
      have wR:(g (tP x xr d'[j / k]!)).cells[j % k]? =some c:=by
       rw [← pL (sz:=k) Rp (i:=j / k) (x:=g (tP x xr d'[j / k]!)) (by rw [al,WN];rfl) (j % k) G6,e9]
       exact hc
      have Ut:(enc d'[j / k]!)[j % k]? =some v:=by
       simp only [putCells,fl,bc LX,bs,bX] at hv
       rw [if_pos ⟨dy _,by rw [size_flatK,G7];omega⟩,Nat.sub_zero,vi d' j (by rw [G7];exact zw)] at hv
       have eI:j % k < (enc d'[j / k]!).length:=by rw [G5];exact G6
       rw [a7 eI,← hv]
       simp only [id,getElem!_pos (enc d'[j / k]!) (j % k) eI]
      exact (KH _ _ _ _ wR (by simpa using Ut)).mono hW
     have Iz:=w6 enc k w m' 0 q d' os
     refine ⟨_,.lM [],_,S,rfl,⟨rfl,rfl⟩,.lM [] #[] rfl (fun i c v hc=>by simp at hc),⟨r.nodup,fun e he=>by rw [aw] at he;subst he;exact hh,fun e he n hn=>?_,fun n hn=>bz (r.slt n hn) Iz,fun g o ho=>⟨(r.gh g o ho).1,Aw (hW g (r.gh g o ho).1).2 (r.gh g o ho).2⟩⟩,?_⟩
     ·rw [aw] at he;subst he
      replace hn:=(wV rfl).1 hn
      rw [hb] at hn
      obtain rfl:=aa hn
      exact ⟨fun hs=>(nS hs).elim,fun hf=>hf.elim⟩
     ·refine ⟨rfl,rfl,rfl,Iz,hW,fun n hn XS=>⟨qC enc k w m' 0 q d' os hn (fun e=>XS ⟨_,aw.2 rfl,by rw [e];exact fF hb⟩),id⟩,?_,?_⟩
      ·rintro n ⟨e,he,u5⟩
       rw [aw] at he;subst he
       exact .inl ⟨_,aw.2 rfl,u5⟩
      ·intro _
       show w.drawn≤(sortWorldK enc k w m' 0 q d' os).drawn
       show w.drawn≤w.drawn+q
       omega
    ·simp at Ug
   ·rw [if_neg hc] at h;cases h
end Go.Eng
namespace Go.Eng
open Go
variable [bU]
def E7 {α:Type} (xs:List α) (L:Int) (n:Nat) (z:α):List α:=xs.take L.toNat++ac n z++xs.drop (L.toNat+n)
theorem yV {α:Type} {xs v:List α} {L H:Int} {z:α} (h:Cj xs L H=some v):(E7 xs L v.length z).length=xs.length:=by
 obtain ⟨⟨h0,h1,h2⟩,_⟩:=uD h
 have:=(AJ h).1
 unfold E7
 simp only [List.length_append,db,List.length_replicate,em]
 omega
section rules
variable {P:Program} {all:Array Oper} {rest:List Oper} {n:Nat} {tm:List (Nat×AV)} {hp:Heap} {Q:St→Prop} {d:Nat} {ty:TypeId} {pos:String} {af:Array Edge}
theorem Sh {t e:TypeId} {i:TypeInfo} {z:Value} {x:Operand} {b:Bk} {L N sz:Nat} {xs:List AV} {zx:AV} {cQ:Heap} [aC P t (.slice e)] [a8 P e i] (hx:du tm x=some (.sl sz b L N)) (hz:i.zero=some z) (DL:As z=zx) (jc:cn i.size sz=true) (xv:RL sz zx=true) (tI:ai 0 sz=true) (hL:L+N≤xs.length)
 (u:mF hp b (.arr sz xs) b (.arr sz (xs.take L++ac N zx++xs.drop (L+N))) cQ) (kk:ae P all rest ⟨n,tm,cQ⟩ Q):
 ae P all (⟨none,.call {callee:=.builtin .clear,args:=#[x],argTypes:=#[t]},ty,pos,af,none⟩ :: rest) ⟨n,tm,hp⟩ Q:=by
 have jc:=d5 jc
 have tI:0 < sz:=bz (dl (cy tI)) (a6 _)
 have hE:=ya xv
 refine ae.HY rfl fun w S a r=>?_
 obtain ⟨oa,cap,e1,e2⟩:=(bl (σ:=⟨n,tm,hp⟩) r hx).uz
 rcases fr N with h0 | h0
 ·subst h0
  have zA:xs.take L++ac 0 zx++xs.drop (L+0)=xs:=by simp
  rw [zA] at u
  obtain ⟨p,q,hq1,hq2⟩:=u.split
  obtain rfl:cQ=hp:=by rw [hq1,hq2]
  refine ⟨.tuple #[],w,S,⟨n,tm,cQ⟩,?_,r,kT.refl _ _ _,kk⟩
  cases oa<;>simp [execOp,e1,resolve,invoke,builtin,Builtin.clear_,run_underlying (aC.h (P:=P) (t:=t))]
 ·rcases e2 with ⟨_,_,hl,_,_⟩ | ⟨m,hb,rfl,h1,h2⟩ | ⟨_,_,_,_,hl,_⟩
  ·omega
  ·obtain ⟨g0,g1,⟨g2,_⟩ | ⟨m',vs,E,g2,g3,g4,g5⟩⟩:=qO r.hp (.inl u.qN)
   ·rw [g2] at hb;cases hb
   obtain rfl:m'=m:=by rw [g2] at hb;exact aa hb
   obtain ⟨zl,Zu⟩:=rl w S z (by rw [DL];exact hE.2)
   rw [DL] at zl Zu
   have Du:z.cells.size=sz:=by rw [← zl];exact hE.1
   have Si:∀ y∈ac N zx,El sz y:=fun y hy=>by rw [dn hy];exact hE
   have Kq:(Builtin.zeroCells z.cells N).size=N * sz:=by rw [size_zeroCells,Du]
   have GJ:(flat (ac N zx)).length=(Builtin.zeroCells z.cells N).size:=by rw [cT Si,Kq];simp
   have Pc:oe w S (flat (ac N zx)) (Builtin.zeroCells z.cells N):=by
    intro j c v hc hv
    have hj:j < N * sz:=by
     have:=(ap.1 hc).1
     rw [cT Si] at this;simpa using this
    rw [yf hE.1 N j hj] at hc
    refine Zu (j % sz) c v hc ?_
    unfold Builtin.zeroCells at hv
    simp only [d7,d8] at hv
    obtain ⟨q,hq,rfl⟩:=hv
    have:q=j:=by
     rw [cz] at hq
     obtain ⟨k1,k2⟩:=hq
     simpa using k2.symm
    subst this
    rw [Du]
    have eI:q % sz < z.cells.size:=by rw [Du];exact b7 _ tI
    simp [eI]
   have u6:=x8 GJ Pc (fun c hc=>by
    unfold flat at hc
    rw [b4] at hc
    obtain ⟨y,hy,hcy⟩:=hc
    exact (Si y hy).2 c hcy)
   have FD:=cT g0
   have hmul:(L+N) * sz≤xs.length * sz:=cA _ hL
   have Cl:xs.length * sz≤b.cap * sz:=cA _ g1
   rw [cp] at hmul
   have Ca:=run_storeCells_at (P:=P) m' (L * sz) E (Builtin.zeroCells z.cells N).toList 0 vs w g3 (by simp [Kq];omega) u6
   simp only [Nat.add_zero] at Ca
   have AE:flat (xs.take L++ac N zx++xs.drop (L+N))=(flat xs).take (L * sz)++flat (ac N zx)++(flat xs).drop (L * sz+(flat (ac N zx)).length):=by
    rw [qL,qL,wa xs L g0,vZ xs (L+N) g0,GJ,Kq,cp]
   have Io:=fun (w':World) (ha:oe w' S (flat xs) vs) (hb:oe w' S (flat (ac N zx)) (Builtin.zeroCells z.cells N))=>GN (L * sz) (by rw [FD,g4];exact Cl) ha GJ hb (by rw [GJ,Kq,FD];omega)
   have Ip:(vs.toList.take (L * sz)++(Builtin.zeroCells z.cells N).toList++vs.toList.drop (L * sz+(Builtin.zeroCells z.cells N).toList.length)).toArray.size=b.cap * sz:=by
    simp [Kq];omega
   generalize (vs.toList.take (L * sz)++(Builtin.zeroCells z.cells N).toList++vs.toList.drop (L * sz+(Builtin.zeroCells z.cells N).toList.length)).toArray=Cb at Ca Io Ip
   have c:GB w (w.setRow m' Cb) b.cH:=⟨⟨rfl,rfl,rfl,by simp,fun k hk Aq=>setRow_other w m' k _ (fun e=>Aq (by rw [g2,e]))⟩,fun _=>a6 _⟩
   have k1:∀ n,S n→S n∧(w.setRow m' Cb).heap[n]? =w.heap[n]?:=by
    intro k hk
    refine ⟨hk,setRow_other w m' k _ (fun e=>?_)⟩
    subst e
    exact (r.hp.sep _ u.qN.mem k (fF g2)).1 hk
   have hh:=sS r.hp u c id id ⟨fun y hy=>?_,by simp;omega,.inr ⟨m',Cb,E,g2,setRow_heap w m' vs _ E _ g3,Ip,by rw [AE];exact Io _ (g5.mono k1) (Pc.mono k1)⟩⟩ (.inl rfl)
   ·refine ⟨.tuple #[],w.setRow m' Cb,S,⟨n,tm,cQ⟩,?_,r.heap hh.2.2 hh.1,hh.2.1,kk⟩
    obtain ⟨N',rfl⟩:∃ k,N=k+1:=⟨N - 1,by omega⟩
    simp [execOp,e1,resolve,invoke,builtin,Builtin.clear_,run_underlying (aC.h (P:=P) (t:=t)),zeroValue,typeInfo,a8.h (P:=P) (t:=e),hz,Ca]
   ·rcases bo.1 hy with h | h
    ·rcases bo.1 h with h | h
     ·exact g0 y (d3 h)
     ·exact Si y h
    ·exact g0 y (List.mem_of_mem_drop h)
  ·omega
theorem Sj {α:Type} {g:α→AV} {Z:α} {Xs V:List α} {H:Int} {t e:TypeId} {i:TypeInfo} {z:Value} {x:Operand} {b:Bk} {L:Int} {sz:Nat} {cQ:Heap} [aC P t (.slice e)] [a8 P e i] (hx:du tm x=some (.sl sz b L.toNat V.length)) (hz:i.zero=some z) (DL:As z=g Z) (jc:cn i.size sz=true) (xv:RL sz (g Z)=true) (tI:ai 0 sz=true) (hv:Cj Xs L H=some V)
 (u:mF hp b (.arr sz (Xs.map g)) b (.arr sz ((E7 Xs L V.length Z).map g)) cQ) (kk:ae P all rest ⟨n,tm,cQ⟩ Q):
 ae P all (⟨none,.call {callee:=.builtin .clear,args:=#[x],argTypes:=#[t]},ty,pos,af,none⟩ :: rest) ⟨n,tm,hp⟩ Q:=by
 obtain ⟨⟨h0,h1,h2⟩,_⟩:=uD hv
 have hlen:=(AJ hv).1
 refine Sh (xs:=Xs.map g) hx hz DL jc xv tI (by simp;omega) ?_ kk
 have:(E7 Xs L V.length Z).map g=(Xs.map g).take L.toNat++ac V.length (g Z)++(Xs.map g).drop (L.toNat+V.length):=by
  unfold E7
  simp
 rw [← this]
 exact u
end rules
end Go.Eng
namespace Go.Eng
open Go Go.Sort Go.Proofs
variable [bU]
structure Pd {α:Type} [Inhabited α] (P:Program) (f:FuncId) (enc:α→Value) (KI:List α→List α):Prop where
 some_:∀ (cH off cap:Nat) (zs:List α) (w:World),Sort.Holds enc w cH off zs.toArray→cH < w.heap.size→zs.length < 4611686018427387904→Calls P f #[.slice (some ⟨cH,off,none⟩) zs.length cap] w fun e w'=>
  e=.returned (.tuple #[])∧∃ n os,w'=grow (putRow enc (Sort.ahead w n) cH off (KI zs).toArray) os
 none_:∀ (p:Option Addr) (cap:Nat) (w:World),Calls P f #[.slice p 0 cap] w fun e w'=>e=.returned (.tuple #[])∧w'=w
def IA {α:Type} (KI:List α→List α) (xs:List α):Option (List α):=if xs.length < 4611686018427387904 then some (KI xs) else none
theorem FW {α:Type} [Inhabited α] (enc:α→Value) (w:World) (cH off m:Nat) (dk:Array α) (os:Array Obj) {n:Nat} (hn:n < w.heap.size) (Aq:n≠cH):(grow (putRow enc (Sort.ahead w m) cH off dk) os).heap[n]? =w.heap[n]?:=by
 unfold putRow
 rw [heap_grow_old _ _ (by simpa [mapBlock] using hn)]
 simp only [mapBlock,heap_ahead,b8]
 rw [if_neg (fun h=>Aq h.symm)]
theorem Pe {α:Type} [Inhabited α] (enc:α→Value) (w:World) (cH m:Nat) (dk:Array α) (os:Array Obj) {vs:Array Value} {E:TypeId} (hb:w.heap[cH]? =some (.cells vs E (0,0))):(grow (putRow enc (Sort.ahead w m) cH 0 dk) os).heap[cH]? =some (.cells (putCells enc 0 dk vs) E (0,0)):=by
 have eI:cH < w.heap.size:=by
  rcases b9 cH w.heap.size with h | h
  ·exact h
  ·simp [ce h] at hb
 unfold putRow
 rw [heap_grow_old _ _ (by simpa [mapBlock] using eI)]
 simp only [mapBlock,heap_ahead,b8]
 rw [if_pos trivial,hb]
 rfl
theorem wh {α:Type} {g:α→AV} (hc:∀ x,(g x).cells=[g x]):∀ xs:List α,flat (xs.map g)=xs.map g
 | []=>rfl
 | x :: r=>by rw [bv,kI,hc,wh hc r];rfl
theorem IB {P:Program} {α:Type} [Inhabited α] {f:FuncId} {enc:α→Value} {KI:List α→List α} (K:Pd P f enc KI) {g:α→AV} (hg:∀ {w:World} {S:Nat→Prop} {x:α} {v:Value},At w S (g x) v→v=enc x) (Oi:∀ (w:World) (S:Nat→Prop) (x:α),At w S (g x) (enc x)) (hc:∀ x,(g x).cells=[g x])
 (hlen:∀ xs,(KI xs).length=xs.length) (u6:∀ x,(g x).one=true) {Xs Ys:List α} {b:Bk} (h:IA KI Xs=some Ys):aR P f [.sl 1 b 0 Xs.length] [(b,.arr 1 (Xs.map g))] (T0 [(b,.arr 1 (Ys.map g))] (.lM [])):=by
 unfold IA at h
 split at h
 ·rename_i jc
  obtain rfl:=aa h
  intro w S vs r hl ha
  obtain ⟨v0,rfl⟩:∃ v0,vs=#[v0]:=by
   match vs,hl with
   | ⟨[v0]⟩,_=>exact ⟨v0,rfl⟩
  have a0:=ha 0 _ v0 rfl rfl
  obtain ⟨oa,cap,rfl,e2⟩:=a0.uz
  have Rp:∀ (zs:List α),∀ y∈zs.map g,El 1 y:=by
   intro zs y hy
   obtain ⟨x,_,rfl⟩:=aH.1 hy
   exact ⟨by rw [hc];rfl,fun c FO=>by rw [hc] at FO;rw [aw.1 FO];exact u6 x⟩
  have OK:Xs.length=0→KI Xs=Xs:=fun h0=>by
   have h1:=hlen Xs
   have e1:Xs=[]:=fs h0
   rw [e1]
   apply fs
   rw [hlen];rfl
  rcases fr Xs.length with h0 | h0
  ·have hK:=K.none_ oa cap w
   rw [← h0] at hK
   refine hK.mono ?_
   rintro e w' ⟨rfl,rfl⟩
   rw [OK h0]
   exact ⟨_,.lM [],_,S,rfl,⟨rfl,rfl⟩,.lM [] #[] rfl (fun i c v hc=>by simp at hc),r,kT.refl _ _ _⟩
  ·obtain ⟨_,h1,h2⟩:=r.holds _ (aw.2 rfl)
   simp only [ek] at h1
   rcases h2 with ⟨_,Ku⟩ | ⟨m,row,E,hb,zh,WG,qo⟩
   ·have Us:b.cap=0:=Ku
    omega
   rcases e2 with ⟨hn,_,_,_,_⟩ | ⟨m',Bx,rfl,hle,XR⟩ | ⟨m',ad,_,_,Ug,_⟩
   ·rw [hn] at hb;cases hb
   ·obtain rfl:m'=m:=by rw [Bx] at hb;exact aa hb
    have O9:m' < w.heap.size:=by
     rcases b9 m' w.heap.size with h | h
     ·exact h
     ·simp [ce h] at zh
    have nS:¬ S m':=fun hs=>by have:=(r.sep _ (aw.2 rfl) m' (fF hb)).1 hs;exact this
    have ahD:row.size=b.cap:=by rw [WG];exact Nat.mul_one _
    rw [wh hc] at qo
    have hH:Sort.Holds enc w m' 0 Xs.toArray:=by
     intro j hj
     have WK:j < Xs.length:=by simpa using hj
     have LX:j < row.size:=by omega
     have hv:=hg (qo j (g Xs[j]) row[j] (by simp [WK]) (by simp [LX]))
     constructor
     ·simp only [World.cell?,zh,dg,fd,bO,if_false]
      rw [bc LX,hv]
      simp [WK]
     ·simp [World.frozen?,zh]
    simp only [fj]
    refine (K.some_ m' 0 cap Xs w hH O9 jc).mono ?_
    rintro e w' ⟨rfl,q,os,rfl⟩
    have hW:∀ n,S n→S n∧(grow (putRow enc (Sort.ahead w q) m' 0 (KI Xs).toArray) os).heap[n]? =w.heap[n]?:=fun n hs=>
     ⟨hs,FW enc w m' 0 q _ os (r.slt n hs) (fun e=>nS (e▸hs))⟩
    have Iz:w.heap.size≤(grow (putRow enc (Sort.ahead w q) m' 0 (KI Xs).toArray) os).heap.size:=by simp
    have hls:=hlen Xs
    have hh:Go.Eng.Holds (grow (putRow enc (Sort.ahead w q) m' 0 (KI Xs).toArray) os) S b (.arr 1 ((KI Xs).map g)):=by
     refine ⟨Rp _,by simp;omega,.inr ⟨m',_,E,hb,Pe enc w m' q _ os zh,by simp [putCells,WG],?_⟩⟩
     rw [wh hc]
     intro j c v Se hv
     have zw:j < (KI Xs).length:=by have:=(ap.1 Se).1;simpa using this
     have LX:j < row.size:=by omega
     rw [al,a7 zw] at Se
     obtain rfl:=aa Se
     simp only [putCells,fl,bc LX,bs,bX] at hv
     rw [if_pos ⟨dy _,by simp;omega⟩] at hv
     rw [← hv]
     have:(KI Xs).toArray[j - 0]! =(KI Xs)[j]:=by simp [zw]
     rw [this]
     exact Oi _ _ _
    refine ⟨_,.lM [],_,S,rfl,⟨rfl,rfl⟩,.lM [] #[] rfl (fun i c v hc=>by simp at hc),⟨r.nodup,fun e he=>by rw [aw] at he;subst he;exact hh,fun e he n hn=>?_,fun n hn=>bz (r.slt n hn) Iz,fun g o ho=>⟨(r.gh g o ho).1,Aw (hW g (r.gh g o ho).1).2 (r.gh g o ho).2⟩⟩,?_⟩
    ·rw [aw] at he;subst he
     replace hn:=(wV rfl).1 hn
     rw [hb] at hn
     obtain rfl:=aa hn
     exact ⟨fun hs=>(nS hs).elim,fun hf=>hf.elim⟩
    ·refine ⟨rfl,rfl,rfl,Iz,hW,fun n hn XS=>⟨FW enc w m' 0 q _ os hn (fun e=>XS ⟨_,aw.2 rfl,by rw [e];exact fF hb⟩),id⟩,?_,?_⟩
     ·rintro n ⟨e,he,u5⟩
      rw [aw] at he;subst he
      exact .inl ⟨_,aw.2 rfl,u5⟩
     ·intro _
      show w.drawn≤w.drawn+q
      omega
   ·omega
 ·cases h
def Na (xs:List Int):List Int:=xs.mergeSort fun x y=>decide (x≤y)
theorem IC {P:Program} {f:FuncId} (K:Pd P f (Value.int .i64) Na) {Xs Ys:List Int} {b:Bk} (h:IA Na Xs=some Ys):aR P f [.sl 1 b 0 Xs.length] [(b,.arr 1 (Xs.map I))] (T0 [(b,.arr 1 (Ys.map I))] (.lM [])):=
 IB K (g:=I) (fun h=>h.eE) (fun w S x=>.int _ _) (fun _=>rfl) (fun xs=>List.length_mergeSort _) (fun _=>rfl) h
end Go.Eng
namespace Go.Eng
open Go
variable [bU]
def AV.Pf:AV→Bool
 | .sl _ _ _ _=>true
 | .ptr _ _=>true
 | .agg cs=>H9 cs
 | v=>v.GK
def Nb:List AV→Bool
 | []=>true
 | c :: r=>c.Pf&&Nb r
def AV.XT:AV→Bool
 | .lM cs=>Nb cs
 | .agg cs=>Nb cs
 | v=>v.Pf
theorem Da {w:World} {S S':Nat→Prop} {av:AV} {v:Value} (h:At w S av v) (hn:av.Pf=true):At w S' av v:=by
 cases h with
 | agg cs vs hl h=>exact .agg cs vs hl fun i c u hc hu=>yd (h i c u hc hu) (ye hn c (bW hc))
 | sl sz b off len n cap hb h1 h2=>exact .sl sz b off len n cap hb h1 h2
 | Ax sz b hb=>exact .Ax sz b hb
 | Oq sz b off n ad hb=>exact .Oq sz b off n ad hb
 | ptr b o n hb=>exact .ptr b o n hb
 | int k n=>exact .int k n
 | bool b=>exact .bool b
 | str s=>exact .str s
 | nil=>exact .nil
 | raw v=>exact .raw v
 | _=>simp [AV.Pf,AV.GK] at hn
theorem AK:∀ {cs:List AV},Nb cs=true→∀ c∈cs,c.Pf=true
 | [],_,c,hc=>by simp at hc
 | x :: r,h,c,hc=>by
   simp only [Nb,Bool.and_eq_true] at h
   rcases dV.1 hc with rfl | hc
   ·exact h.1
   ·exact AK h.2 c hc
theorem Vf {w:World} {S S':Nat→Prop} {av:AV} {v:Value} (h:At w S av v) (hn:av.XT=true):At w S' av v:=by
 cases av with
 | lM cs=>
   cases h with
   | lM _ vs hl h=>exact .lM cs vs hl fun i c u hc hu=>Da (h i c u hc hu) (AK hn c (bW hc))
 | agg cs=>
   cases h with
   | agg _ vs hl h=>exact .agg cs vs hl fun i c u hc hu=>Da (h i c u hc hu) (AK hn c (bW hc))
 | _=>exact Da h hn
def Ob.Rq:Ob→Prop
 | .cells cs=>Nb cs=true
 | .arr _ xs=>∀ x∈xs,H9 x.cells=true
 | _=>False
inductive KJ:Heap→Prop
 | nil:KJ []
 | cons {b:Bk} {o:Ob} {h:Heap} (c:o.Rq) (k:KJ h):KJ ((b,o) :: h)
theorem KJ.mem {h:Heap} (k:KJ h):∀ e∈h,e.2.Rq:=by
 induction k with
 | nil=>intro e he;simp at he
 | cons c k ih=>
   intro e he
   rcases dV.1 he with rfl | he
   ·exact c
   ·exact ih e he
theorem Rq.jd {α:Type} {g:α→AV} {sz:Nat} {Xs:List α} (h:∀ x,H9 (g x).cells=true):(Ob.arr sz (Xs.map g)).Rq:=fun x hx=>by
 obtain ⟨y,_,rfl⟩:=aH.1 hx
 exact h y
theorem Holds.XT {w:World} {S S':Nat→Prop} {b:Bk} {o:Ob} (h:Holds w S b o) (hn:o.Rq):Holds w S' b o:=by
 cases o with
 | cells cs=>
   obtain ⟨h0,n,vs,E,h1,h2,h3,h4⟩:=h
   exact ⟨h0,n,vs,E,h1,h2,h3,fun i c v hc hv=>Da (h4 i c v hc hv) (AK hn c (bW hc))⟩
 | arr sz xs=>
   obtain ⟨h0,h1,h2⟩:=h
   refine ⟨h0,h1,h2.imp id ?_⟩
   rintro ⟨n,vs,E,g1,g2,g3,g4⟩
   refine ⟨n,vs,E,g1,g2,g3,fun i c v hc hv=>yd (g4 i c v hc hv) ?_⟩
   have hm:=bW hc
   unfold flat at hm
   rw [b4] at hm
   obtain ⟨x,hx,hcx⟩:=hm
   exact ye (hn x hx) c hcx
 | Bw _ _=>exact hn.elim
 | mp _=>exact hn.elim
 | LJ _ _=>exact hn.elim
 | Gz _ _ _=>exact hn.elim
 | Km _ _ _=>exact hn.elim
 | cu _=>exact hn.elim
 | WD _ _ _ _=>exact hn.elim
 | Xl _ _=>exact hn.elim
 | Xm _=>exact hn.elim
section rules
variable {P:Program} {all:Array Oper} {rest:List Oper} {n:Nat} {tm:List (Nat×AV)} {hp:Heap} {Q:St→Prop} {d:Nat} {ty:TypeId} {pos:String} {af:Array Edge}
theorem Sk {f:FuncId} {args:List Operand} {ts:Array TypeId} {l l':List AV} {h0 hr:Heap} {Qc:AV→Heap→Prop} [bN P f] (hl:B9 tm args=some l) (c:aR P f l' h0 Qc) (co:u7 hr l l') (hs:hp.Perm (h0++hr)) (hn:ai d n=true)
 (kk:∀ r h',Qc r h'→r.XT=true∧KJ h'∧ae P all rest ⟨n,(d,r) :: tm,h'++hr⟩ Q):ae P all (⟨some d,.call {callee:=.value (.func f),args:=args.toArray,argTypes:=ts},ty,pos,af,none⟩ :: rest) ⟨n,tm,hp⟩ Q:=by
 refine ae.HZ rfl fun w S a r=>⟨f,_,oh a w,?_⟩
 obtain ⟨g1,g2⟩:=tj (σ:=⟨n,tm,hp⟩) r hl
 have rp:=r.hp.perm hs
 have KK:de w S hr:=rp.sub (List.sublist_append_right _ _)
 have Pg:de w S h0:=rp.sub (List.sublist_append_left _ _)
 obtain ⟨g3,g4⟩:=u7.at KK co g1 g2
 have KL:∀ m,Has h0 m→¬ Has hr m:=by
  rintro m ⟨x,hx,zW⟩ ⟨y,hy,hym⟩
  have:=rp.nodup
  rw [cm,b5] at this
  exact this.2.2 m (b4.2 ⟨x,hx,zW⟩) m (b4.2 ⟨y,hy,hym⟩) rfl
 have rh:de w (SB S hr) h0:=by
  refine ⟨Pg.nodup,fun e he=>(Pg.holds e he).mono (fun m hm=>⟨.inl hm,rfl⟩) (fun m _=>rfl),fun e he m hm=>?_,fun m hm=>?_,fun g o ho=>⟨.inl (Pg.gh g o ho).1,(Pg.gh g o ho).2⟩⟩
  ·constructor
   ·rintro (h | h)
    ·exact (Pg.sep e he m hm).1 h
    ·exact (KL m ⟨e,he,hm⟩ h).elim
   ·exact fun h=>.inl ((Pg.sep e he m hm).2 h)
  ·rcases hm with h | h
   ·exact Pg.slt m h
   ·exact KK.lt h
 refine (c w (SB S hr) _ rh (by simpa using g3) g4).mono ?_
 rintro e w' ⟨v,res,h',S',rfl,hq,h3,h4,h5⟩
 obtain ⟨k1,k2,k3⟩:=kk res h' hq
 have Vg:∀ m,S m→(S' m∧(Has hr m→S m))∧w'.heap[m]? =w.heap[m]?:=fun m hm=>⟨⟨(h5.mf m (.inl hm)).1,fun _=>hm⟩,(h5.mf m (.inl hm)).2⟩
 have uB:de w' (fun m=>S' m∧(Has hr m→S m)) (h'++hr):=by
  refine ⟨?_,?_,?_,fun m hm=>h4.slt m hm.1,fun g o ho=>⟨⟨(h4.gh g o ho).1,fun _=>(Pg.gh g o ho).1⟩,(h4.gh g o ho).2⟩⟩
  ·rw [cm,b5]
   refine ⟨h4.nodup,KK.nodup,fun x hx y hy HO=>?_⟩
   subst HO
   obtain ⟨e1,RC,C6⟩:=b4.1 hx
   obtain ⟨e2,LN,Nc⟩:=b4.1 hy
   rcases h5.new x ⟨e1,RC,C6⟩ with h | h
   ·exact KL x h ⟨e2,LN,Nc⟩
   ·have:=KK.lt ⟨e2,LN,Nc⟩;omega
  ·intro e he
   rcases bo.1 he with he | he
   ·exact (h4.holds e he).XT (k2.mem e he)
   ·exact (KK.holds e he).mono Vg (fun m hm=>(h5.mf m (.inr ⟨e,he,hm⟩)).2)
  ·intro e he m hm
   rcases bo.1 he with he | he
   ·rw [← h4.sep e he m hm]
    refine ⟨fun h=>h.1,fun h=>⟨h,fun hh=>?_⟩⟩
    rcases h5.new m ⟨e,he,hm⟩ with h6 | h6
    ·exact (KL m h6 hh).elim
    ·have:=KK.lt hh;omega
   ·rw [← KK.sep e he m hm]
    exact ⟨fun h=>h.2 ⟨e,he,hm⟩,fun h=>⟨(h5.mf m (.inl h)).1,fun _=>h⟩⟩
 have ID:∀ m,Has hp m↔Has h0 m∨Has hr m:=by
  intro m
  constructor
  ·rintro ⟨x,hx,hb⟩
   rcases bo.1 (hs.mem_iff.1 hx) with h | h
   ·exact .inl ⟨x,h,hb⟩
   ·exact .inr ⟨x,h,hb⟩
  ·rintro (⟨x,hx,hb⟩ | ⟨x,hx,hb⟩)
   ·exact ⟨x,hs.mem_iff.2 (List.mem_append_left _ hx),hb⟩
   ·exact ⟨x,hs.mem_iff.2 (List.mem_append_right _ hx),hb⟩
 refine ⟨v,fun m=>S' m∧(Has hr m→S m),⟨n,(d,res) :: tm,h'++hr⟩,rfl,(r.heap Vg uB).put hn (Vf h3 k1),?_,k3⟩
 refine ⟨h5.os,h5.tape,h5.output,h5.size,Vg,fun m hm hh=>?_,fun m hm=>?_,h5.drawn⟩
 ·have n0:¬ Has h0 m:=fun h=>hh ((ID m).2 (.inl h))
  have nr:¬ Has hr m:=fun h=>hh ((ID m).2 (.inr h))
  obtain ⟨q1,q2⟩:=h5.other m hm n0
  refine ⟨q1,fun h=>?_⟩
  rcases q2 h.1 with h | h
  ·exact h
  ·exact (nr h).elim
 ·obtain ⟨x,hx,hb⟩:=hm
  rcases bo.1 hx with hx | hx
  ·rcases h5.new m ⟨x,hx,hb⟩ with h | h
   ·exact .inl ((ID m).2 (.inl h))
   ·exact .inr h
  ·exact .inl ((ID m).2 (.inr ⟨x,hx,hb⟩))
theorem yh {Ck:Type} {f:FuncId} {args:List Operand} {ts:Array TypeId} {l l':List AV} {h0 hr:Heap} {H H':Ck→Heap} {V:Ck→AV} [bN P f] (hl:B9 tm args=some l) (c:aR P f l' h0 (T1 H V)) (hs:HR hp h0 hr) (co:u7 hr l l') (ha:∀ b,tJ (H b) hr=some (H' b)) (hV:∀ b,(V b).XT=true) (hH:∀ b,KJ (H b)) (hn:ai d n=true)
 (kk:∀ b,ae P all rest ⟨n,(d,V b) :: tm,H' b⟩ Q):ae P all (⟨some d,.call {callee:=.value (.func f),args:=args.toArray,argTypes:=ts},ty,pos,af,none⟩ :: rest) ⟨n,tm,hp⟩ Q:=
 Sk hl c co hs.perm hn (fun r h' ⟨b,e1,e2⟩=>by subst e1;subst e2;rw [qq (ha b)];exact ⟨hV b,hH b,kk b⟩)
end rules
class vU (K:Type) where
 lt:K→K→Bool
instance:vU Int:=⟨fun a b=>decide (a < b)⟩
instance:vU Bool:=⟨fun a b=>!a&&b⟩
instance:vU (List UInt8):=⟨fun a b=>Op.bytesLess a b⟩
section plain
variable {K V:Type}
def mj [DecidableEq K] (m:List (K×V)) (k:K):List (K×V):=m.filter (fun e=>decide (e.1≠k))
def wi [vU K] (k:K) (v:V):List (K×V)→List (K×V)
 | []=>[(k,v)]
 | e :: r=>if vU.lt e.1 k=true then e :: wi k v r else (k,v) :: e :: r
def ca [DecidableEq K] [vU K] (m:List (K×V)) (k:K) (v:V):List (K×V):=wi k v (mj m k)
def bh [DecidableEq K]:List (K×V)→K→Option V
 | [],_=>none
 | e :: r,k=>if e.1=k then some e.2 else bh r k
def oJ [DecidableEq K] (m:List (K×V)) (k:K) (z:V):Option V:=some ((bh m k).getD z)
def tV [DecidableEq K] (m:List (K×V)) (k:K) (z:V):Option (V×Bool):=some ((bh m k).getD z,(bh m k).isSome)
theorem sv [vU K] (k:K) (v:V):∀ (m:List (K×V)),(wi k v m).Perm ((k,v) :: m)
 | []=>bx _
 | e :: r=>by
   unfold wi
   split
   ·exact (ck e (sv k v r)).trans (List.Perm.swap _ _ _)
   ·exact bx _
theorem ry {α β:Type} (f:α→β):∀ (l:List β) (M:List α),l.Perm (M.map f)→∃ M':List α,M'.Perm M∧l=M'.map f
 | [],M,h=>by
   have:=h.nil_eq
   rw [eq_comm,List.map_eq_nil_iff] at this
   subst this;exact ⟨[],bx _,rfl⟩
 | x :: t,M,h=>by
   have hx:x∈M.map f:=h.mem_iff.1 (by simp)
   obtain ⟨e,he,rfl⟩:=aH.1 hx
   obtain ⟨p,q,rfl⟩:=ft he
   have h2:(f e :: t).Perm (f e :: (p++q).map f):=h.trans (by rw [bp,bv,bp];exact cJ)
   obtain ⟨M',h3,rfl⟩:=ry f t (p++q) (List.Perm.cons_inv h2)
   exact ⟨e :: M',(ck e h3).trans cJ.symm,rfl⟩
theorem DM [DecidableEq K] {k:K} {v:V}:∀ {m:List (K×V)},bh m k=some v→(k,v)∈m
 | [],h=>by cases h
 | e :: r,h=>by
   unfold bh at h
   split at h
   ·rename_i hk
    obtain rfl:=aa h
    subst hk;simp
   ·exact List.mem_cons_of_mem _ (DM h)
theorem tp [DecidableEq K] {k:K} {v:V}:∀ {m:List (K×V)},(m.map bk).Nodup→(k,v)∈m→bh m k=some v
 | [],_,h=>by simp at h
 | e :: r,hn,h=>by
   rw [bv,dY] at hn
   unfold bh
   rcases dV.1 h with rfl | h
   ·simp
   ·rw [if_neg (fun hk=>hn.1 (aH.2 ⟨_,h,hk.symm⟩))]
    exact tp hn.2 h
theorem ph [DecidableEq K] {k:K}:∀ {m:List (K×V)},bh m k=none↔∀ e∈m,e.1≠k
 | []=>by simp [bh]
 | e :: r=>by
   unfold bh
   split
   ·rename_i hk;simp [hk]
   ·rename_i hk
    rw [ph (m:=r)]
    simp [hk]
theorem je [DecidableEq K] {m m':List (K×V)} (hp:m'.Perm m) (hn:(m'.map bk).Nodup) (k:K):bh m' k=bh m k:=by
 have Iv:(m.map bk).Nodup:=(hp.map _).nodup_iff.1 hn
 cases h:bh m' k with
 | none=>
   symm
   rw [ph] at h ⊢
   exact fun e he=>h e (hp.mem_iff.2 he)
 | some v=>exact (tp Iv (hp.mem_iff.1 (DM h))).symm
theorem wj [DecidableEq K] {m:List (K×V)} {k:K} (h:bh m k=none):mj m k=m:=by
 rw [ph] at h
 unfold mj
 exact b6.2 fun e he=>by simpa using h e he
end plain
noncomputable def DN {E A:Type} (es:List E) (g:List E→Option A):Option A:=
 open Classical in if h:∃ r,∀ p,p.Perm es→g p=some r then some h.choose else none
theorem KM {E A:Type} {es:List E} {g:List E→Option A} {r:A} (h:DN es g=some r):∀ p,p.Perm es→g p=some r:=by
 unfold DN at h
 split at h
 ·rename_i hx
  obtain rfl:=aa h
  exact hx.choose_spec
 ·cases h
theorem Ph {E A:Type} {es:List E} {g:List E→Option A} {r:A} (h:∀ p,p.Perm es→g p=some r):DN es g=some r:=by
 unfold DN
 have hx:∃ r,∀ p,p.Perm es→g p=some r:=⟨r,h⟩
 rw [dif_pos hx]
 have:=hx.choose_spec es (bx _)
 rw [h es (bx _)] at this
 exact this.symm
def vj {E S A:Type} (b:E→S→Option (S⊕A)) (f:S→Option A):List E→S→Option A
 | [],s=>f s
 | e :: p,s=>(b e s).bind (after (vj b f p))
theorem XU {E S A:Type} {b:E→S→Option (S⊕A)} {f:S→Option A} {rest zB:List E} {e:E} {s:S} {a:A} (h:∀ p,p.Perm rest→vj b f p s=some a) (hp:rest.Perm (e :: zB)):
 ∃ z,b e s=some z∧(∀ y,z=.inl y→∀ p,p.Perm zB→vj b f p y=some a)∧∀ a',z=.inr a'→a'=a:=by
 have h1:=h (e :: zB) hp.symm
 unfold vj at h1
 obtain ⟨z,hz,h2⟩:=bnd h1
 refine ⟨z,hz,fun y hy p hq=>?_,fun a' ha=>?_⟩
 ·have h3:=h (e :: p) ((ck e hq).trans hp.symm)
  unfold vj at h3
  rw [hz,hy] at h3
  exact h3
 ·rw [ha] at h2
  exact aa h2
theorem aa8 {E S A:Type} {b:E→S→Option (S⊕A)} {f:S→Option A} {rest:List E} {s:S} {a:A} (h:∀ p,p.Perm rest→vj b f p s=some a) (hn:rest=[]):f s=some a:=by
 subst hn;exact h [] (bx _)
theorem ab.Sl {P:Program} {R:St→Prop} {k:List It} {σ:St} {body:Code} {E S A:Type} (b:E→S→Option (S⊕A)) (f:S→Option A) (mk:List E→S→St→Prop) {a:A} {LZ:List E} {s0:S} (h:DN LZ (fun p=>vj b f p s0)=some a) (h0:aj σ (mk LZ s0))
 (hs:∀ rest s σ (J:St→Prop),mk rest s σ→(∀ p,p.Perm rest→vj b f p s=some a)→(∀ zB s' aJ,zB.length < rest.length→(∀ p,p.Perm zB→vj b f p s'=some a)→aj aJ (mk zB s')→J aJ)→ab P R (.code body :: .stop J :: k) σ):
 ab P R (.code (.loop body) :: k) σ:=by
 refine ab.Uf (fun m σ=>∃ rest s,rest.length=m∧(∀ p,p.Perm rest→vj b f p s=some a)∧mk rest s σ) LZ.length (h0.mono fun aJ hσ=>⟨LZ,s0,rfl,KM h,hσ⟩) ?_
 rintro m Ar ⟨rest,s,hm,hH,ep⟩
 refine hs rest s Ar _ ep hH (fun zB s' aJ hl Vh hi=>⟨zB.length,by omega,hi.mono fun Kv hk=>⟨zB,s',rfl,Vh,hk⟩⟩)
def yi {K:Type} [DecidableEq K] (k:K):List K→List MapEntry→Nat→Option (Nat×Value)
 | k' :: ks,e :: es,i=>if k'=k then some (i,e.val) else yi k ks es (i+1)
 | _,_,_=>none
class dD (P:Program) (t:TypeId) {K:Type} [DecidableEq K] (g:K→AV):Prop where
 inj:∀ a b,g a=g b→a=b
 check:∀ {w:World} {S:Nat→Prop} {k:K} {v:Value},At w S (g k) v→∀ (b:Bool) (w1:World),(Instr.checkKey b 10000 t v).run P w1=.ok () w1
 find:∀ {w:World} {S:Nat→Prop} {k:K} {v:Value},At w S (g k) v→∀ (es:List MapEntry) (ks:List K),ks.length=es.length→(∀ (i:Nat) k' e,ks[i]? =some k'→es[i]? =some e→At w S (g k') e.key)→∀ w1:World,(Instr.findKey t v es).run P w1=.ok (yi k ks es 0) w1
 bits:∀ {w:World} {S:Nat→Prop} {k:K} {v u:Value},At w S (g k) v→At w S (g k) u→Instr.sameBits 10000 v u=true
theorem yW {K:Type} [DecidableEq K] {d:TypeDesc} {v:Value} {k:K} {q:K→Value→Prop} (hq:∀ k' u,q k' u→Instr.sameNow d v u=some (decide (k'=k))):∀ (es:List MapEntry) (ks:List K) (i:Nat),ks.length=es.length→(∀ (i:Nat) k' e,ks[i]? =some k'→es[i]? =some e→q k' e.key)→Instr.findNow d v es i=some (yi k ks es i)
 | [],[],i,_,_=>rfl
 | [],k' :: ks,i,hl,_=>by simp at hl
 | e :: es,[],i,hl,_=>by simp at hl
 | e :: es,k' :: ks,i,hl,h=>by
   unfold Instr.findNow yi
   rw [hq k' e.key (h 0 k' e rfl rfl)]
   by_cases hk:k'=k
   ·simp [hk]
   ·simp only [hk,decide_false,if_false]
    exact yW hq es ks (i+1) (by simpa using hl) (fun i k' e h1 h2=>h (i+1) k' e (by simpa using h1) (by simpa using h2))
theorem KN (a b:ByteArray):((a==b)=true)↔a=b:=by
 cases a with
 | mk a=>
   cases b with
   | mk b=>
     show (a==b)=true↔_
     rw [beq_iff_eq]
     exact ⟨fun h=>by rw [h],fun h=>by cases h;rfl⟩
theorem dD.int {P:Program} {t:TypeId} {q:IntKind} (h:P.underlying t=some (.int q)):dD P t (K:=Int) (fun n=>AV.int q n) where
 inj a b h:=by simpa using h
 check:=fun {w S k v} hv b w1=>by
  rw [hv.eE]
  have key:∀ n:Nat,(Instr.checkKey b (n+1) t (Value.int q k)).run P w1=.ok () w1:=fun n=>by simp [Instr.checkKey,run_underlying h]
  exact key 9999
 find:=fun {w S k v} hv es ks hl hk w1=>by
  rw [hv.eE]
  have hf:=yW (d:=(.int q)) (v:=(Value.int q k)) (k:=k) (q:=fun k' u=>u=(Value.int q k')) (fun k' u hu=>by subst hu;simp only [Instr.sameNow,if_true];congr 1;rw [d0];simp;exact eq_comm) es ks 0 hl (fun i k' e h1 h2=>(hk i k' e h1 h2).eE)
  simp [Instr.findKey,run_underlying h,hf]
 bits:=fun {w S k v u} h1 h2=>by rw [h1.eE,h2.eE];simp [Instr.sameBits]
theorem dD.bool {P:Program} {t:TypeId} (h:P.underlying t=some .bool):dD P t (K:=Bool) AV.bool where
 inj a b h:=by simpa using h
 check:=fun {w S k v} hv b w1=>by
  rw [hv.mL]
  have key:∀ n:Nat,(Instr.checkKey b (n+1) t (Value.bool k)).run P w1=.ok () w1:=fun n=>by simp [Instr.checkKey,run_underlying h]
  exact key 9999
 find:=fun {w S k v} hv es ks hl hk w1=>by
  rw [hv.mL]
  have hf:=yW (d:=.bool) (v:=(Value.bool k)) (k:=k) (q:=fun k' u=>u=(Value.bool k')) (fun k' u hu=>by subst hu;simp only [Instr.sameNow];congr 1;rw [d0];simp;exact eq_comm) es ks 0 hl (fun i k' e h1 h2=>(hk i k' e h1 h2).mL)
  simp [Instr.findKey,run_underlying h,hf]
 bits:=fun {w S k v u} h1 h2=>by rw [h1.mL,h2.mL];simp [Instr.sameBits]
theorem dD.str {P:Program} {t:TypeId} (h:P.underlying t=some .string):dD P t (K:=List UInt8) AV.str where
 inj a b h:=by simpa using h
 check:=fun {w S k v} hv b w1=>by
  rw [hv.eV]
  have key:∀ n:Nat,(Instr.checkKey b (n+1) t (Value.string ⟨k.toArray⟩)).run P w1=.ok () w1:=fun n=>by simp [Instr.checkKey,run_underlying h]
  exact key 9999
 find:=fun {w S k v} hv es ks hl hk w1=>by
  rw [hv.eV]
  have hf:=yW (d:=.string) (v:=(Value.string ⟨k.toArray⟩)) (k:=k) (q:=fun k' u=>u=(Value.string ⟨k'.toArray⟩)) (fun k' u hu=>by subst hu;simp only [Instr.sameNow];congr 1;rw [d0,KN];simp;exact eq_comm) es ks 0 hl (fun i k' e h1 h2=>(hk i k' e h1 h2).eV)
  simp [Instr.findKey,run_underlying h,hf]
 bits:=fun {w S k v u} h1 h2=>by rw [h1.eV,h2.eV];simp only [Instr.sameBits];exact (KN _ _).2 rfl
instance {P:Program} {t:TypeId} [h:aC P t (.int .i64)]:dD P t (K:=Int) I:=dD.int h.h
instance {P:Program} {t:TypeId} [h:aC P t .bool]:dD P t (K:=Bool) AV.bool:=dD.bool h.h
instance {P:Program} {t:TypeId} [h:aC P t .string]:dD P t (K:=List UInt8) AV.str:=dD.str h.h
theorem cY {P:Program} {w:World} {r:Nat} {es:Array MapEntry} {c:Nat} (h:w.heap[r]? =some (.map es c)):(getObj r).run P w=.ok (.map es c) w:=by
 simp only [getObj,Sem.run,h]
theorem Cm {P:Program} {w:World} {r:Nat} {m:Option Nat} {a b:Nat} {s:Array Nat} (h:w.heap[r]? =some (.mapIter m a s b)):(getObj r).run P w=.ok (.mapIter m a s b) w:=by
 simp only [getObj,Sem.run,h]
def zi (w:World) (r:Nat) (o:Obj):World:={w with heap:=w.heap.setIfInBounds r o}
theorem uG {P:Program} {w:World} {r:Nat} {es:Array MapEntry} {c:Nat} (o:Obj) (h:w.heap[r]? =some (.map es c)):(setObj r o).run P w=.ok () (zi w r o):=by
 simp only [setObj,Sem.run,h];rfl
theorem IE {P:Program} {w:World} {r:Nat} {m:Option Nat} {a b:Nat} {s:Array Nat} (o:Obj) (h:w.heap[r]? =some (.mapIter m a s b)):(setObj r o).run P w=.ok () (zi w r o):=by
 simp only [setObj,Sem.run,h];rfl
theorem uq {w:World} {r:Nat} {o o':Obj} (h:w.heap[r]? =some o'):(zi w r o).heap[r]? =some o:=by
 have eI:r < w.heap.size:=(cz.1 h).1
 simp [zi,fz,eI]
theorem DO {w:World} {r k:Nat} {o:Obj} (h:k≠r):(zi w r o).heap[k]? =w.heap[k]?:=by
 simp [zi,fz,Ne.symm h]
theorem Sm {w:World} {r:Nat} {o:Obj} {x:Option Nat} (hx:x=some r):GB w (zi w r o) x:=
 ⟨⟨rfl,rfl,rfl,by simp [zi],fun k hk Aq=>DO (fun e=>Aq (by rw [hx,e]))⟩,fun _=>a6 _⟩
theorem G8 (w:World) (x:Option Nat):GB w w x:=⟨⟨rfl,rfl,rfl,a6 _,fun _ _ _=>rfl⟩,fun _=>a6 _⟩
theorem Ext.heap {w w':World} {n:Nat} {o:Obj} (e:Ext w w') (h:w.heap[n]? =some o):w'.heap[n]? =some o:=by
 rw [e.same n (cz.1 h).1];exact h
theorem At.jY {w:World} {S:Nat→Prop} {b:Bk} {v:Value} (h:At w S (.bV b) v):∃ n,b.cH=some n∧v=.map (some n):=by cases h with | bV _ n hb=>exact ⟨n,hb,rfl⟩
theorem DP (w:World) (S:Nat→Prop) (z:Value) (h1:ke (As z).cells=true):At w S (As z) z:=by
 by_cases hz:∃ cs,z=.agg cs
 ·obtain ⟨cs,rfl⟩:=hz
  obtain ⟨h2,h3⟩:=rl w S (.agg cs) (eo h1)
  exact .agg _ _ h2 h3
 ·have Kq:As z=T8 z:=by
   cases z<;>first | rfl | (exact (hz ⟨_,rfl⟩).elim)
  rw [Kq];exact GC w S z
theorem qs {K V:Type} {gk:K→AV} {gv:V→AV} {w:World} {S:Nat→Prop} {hp:Heap} {b:Bk} {M:List (K×V)} (IF:∀ a b,gk a=gk b→a=b) (r:de w S hp) (f:mh hp b (.mp (M.map fun e=>(gk e.1,gv e.2)))):
 ∃ (L:List me) (c:Nat) (M':List (K×V)) (n:Nat) (cC:Array MapEntry),M'.Perm M∧L.map me.kv=M'.map (fun e=>(gk e.1,gv e.2))∧uy w S b L c∧b.cH=some n∧w.heap[n]? =some (.map cC c)∧cC.toList.length=M'.length∧
   (∀ (i:Nat) e m,M'[i]? =some e→cC.toList[i]? =some m→At w S (gk e.1) m.key∧At w S (gv e.2) m.val)∧(M'.map bk).Nodup:=by
 obtain ⟨L,c,mC,hH⟩:=r.holds _ f.mem
 obtain ⟨M',h1,h2⟩:=ry _ _ _ mC
 have Vh:=hH
 obtain ⟨n,cC,g1,g2,g3,g4,g5,g6,g7⟩:=hH
 have hlen:L.length=M'.length:=by have:=congrArg f0 h2;simpa using this
 refine ⟨L,c,M',n,cC,h1,h2,Vh,g1,g2,by rw [eq,g3,hlen],fun i e m he hm=>?_,?_⟩
 ·have:(L.map me.kv)[i]? =some (gk e.1,gv e.2):=by rw [h2,al,he];rfl
  rw [al] at this
  cases hL:L[i]? with
  | none=>rw [hL] at this;cases this
  | some x=>
    rw [hL] at this
    have hx:(x.k,x.v)=(gk e.1,gv e.2):=aa this
    obtain ⟨q1,q2⟩:=f9 hx
    have:=g4 i x m hL (by simpa using hm)
    rw [q1,q2] at this
    exact this.2
 ·have hk:L.map (·.k)=(M'.map bk).map gk:=by
   have:=congrArg (List.map bk) h2
   simpa [List.map_map,Function.comp_def,me.kv] using this
  rw [hk] at g7
  exact (List.pairwise_map.1 g7).imp (fun h e=>h (by rw [e]))
theorem wk {α:Type} {l:List α} {j:Nat} {x:α} (h:l[j]? =some x):l.set j x=l:=by
 apply List.ext_getElem?
 intro i
 rw [gc]
 by_cases yQ:j=i
 ·subst yQ
  have:=(ap.1 h).1
  rw [if_pos rfl,if_pos this,h]
 ·simp [yQ]
theorem nE {K V:Type} [DecidableEq K] {gv:V→AV} {w:World} {S:Nat→Prop} {k:K}:∀ (M:List (K×V)) (es:List MapEntry) (i:Nat),M.length=es.length→(∀ (j:Nat) e m,M[j]? =some e→es[j]? =some m→At w S (gv e.2) m.val)→
 (bh M k=none∧yi k (M.map bk) es i=none)∨∃ v j val,bh M k=some v∧yi k (M.map bk) es i=some (i+j,val)∧At w S (gv v) val∧M[j]? =some (k,v)
 | [],[],i,_,_=>.inl ⟨rfl,rfl⟩
 | [],m :: es,i,hl,_=>by simp at hl
 | e :: M,[],i,hl,_=>by simp at hl
 | e :: M,m :: es,i,hl,h=>by
   unfold bh
   simp only [bv,yi]
   by_cases hk:e.1=k
   ·simp only [hk,if_true]
    refine .inr ⟨e.2,0,m.val,rfl,rfl,h 0 e m rfl rfl,?_⟩
    subst hk;rfl
   ·simp only [hk,if_false]
    rcases nE M es (i+1) (by simpa using hl) (fun j e' m' h1 h2=>h (j+1) e' m' (by simpa using h1) (by simpa using h2)) with ⟨h1,h2⟩ | ⟨v,j,val,h1,h2,h3,h4⟩
    ·exact .inl ⟨h1,h2⟩
    ·exact .inr ⟨v,j+1,val,h1,by rw [h2];congr 2;omega,h3,by simpa using h4⟩
section rules
variable {P:Program} {all:Array Oper} {rest:List Oper} {n:Nat} {tm:List (Nat×AV)} {hp:Heap} {Q:St→Prop} {d:Nat} {ty:TypeId} {pos:String} {af:Array Edge}
theorem sw {t:TypeId} (hn:ai d n=true) (kk:∀ b:Bk,ae P all rest ⟨n,(d,.bV b) :: tm,(b,.mp []) :: hp⟩ Q):ae P all (⟨some d,.makeMap t none,ty,pos,af,none⟩ :: rest) ⟨n,tm,hp⟩ Q:=by
 refine ae.HY rfl fun w S a r=>?_
 have hh:Holds (w.alloc (.map #[] 0)) S ⟨some w.heap.size,0⟩ (.mp []):=⟨[],0,bx _,w.heap.size,#[],rfl,by show (w.heap.push _)[w.heap.size]? =_;simp,rfl,by simp,by simp,by simp,by simp⟩
 obtain ⟨k1,k2,k3⟩:=pg r.hp (Ext.alloc w (.map #[] 0)) id hh (.inr ⟨_,rfl,a6 _⟩)
 exact ⟨.map (some w.heap.size),w.alloc (.map #[] 0),S,_,by simp [execOp,Instr.makeMap],(r.heap k3 k1).put hn (.bV _ _ rfl),k2,kk ⟨some w.heap.size,0⟩⟩
theorem AL {K V:Type} [DecidableEq K] {gk:K→AV} {gv:V→AV} {M:List (K×V)} {key:K} {Z v:V} {t kt vt:TypeId} {i:TypeInfo} {z:Value} {x y:Operand} {b:Bk} {av:AV} [aC P t (.map kt vt)] [a8 P vt i] [dD P kt gk] (hx:du tm x=some (.bV b)) (hy:du tm y=some (gk key)) (f:mh hp b (.mp (M.map fun e=>(gk e.1,gv e.2)))) (hz:i.zero=some z) (DL:As z=gv Z) (h1:ke (As z).cells=true) (h:oJ M key Z=some v) (pM:gv v=av):
 QV P ⟨some d,.lookup t x y false,ty,pos,af,none⟩ ⟨n,tm,hp⟩ av:=by
 intro w S a r
 have kx:=bl (σ:=⟨n,tm,hp⟩) r hx
 have ky:=bl (σ:=⟨n,tm,hp⟩) r hy
 obtain ⟨nb,hb,ex⟩:=kx.jY
 obtain ⟨L,c,M',yX,cC,p1,p2,p3,p4,p5,p6,p7,p8⟩:=qs (dD.inj P kt) r.hp f
 obtain rfl:yX=nb:=by rw [p4] at hb;exact aa hb
 unfold oJ at h
 have hv:=aa h
 rw [← je p1 p8] at hv
 have ju:=dD.find (P:=P) (t:=kt) (g:=gk) ky cC.toList (M'.map bk) (by simpa using p6.symm) (fun j k' e h1 h2=>by
  rw [al] at h1
  cases hm:M'[j]? with
  | none=>rw [hm] at h1;cases h1
  | some q=>rw [hm] at h1;rw [← aa h1];exact (p7 j q e hm h2).1)
 rcases nE (gv:=gv) (w:=w) (S:=S) (k:=key) M' cC.toList 0 p6.symm (fun j e m h1 h2=>(p7 j e m h1 h2).2) with ⟨q1,q2⟩ | ⟨v',j,val,q1,q2,q3,_⟩
 ·refine ⟨z,fun w1 e1=>?_,?_⟩
  ·simp [execOp,Instr.lookup,ex,run_underlying (aC.h (P:=P) (t:=t)),cY (e1.heap p5),dD.check (P:=P) (t:=kt) ky,ju,q2,zeroValue,typeInfo,a8.h (P:=P) (t:=vt),hz]
  ·rw [← pM,← hv,q1,ge,← DL];exact DP w S z h1
 ·refine ⟨val,fun w1 e1=>?_,?_⟩
  ·simp [execOp,Instr.lookup,ex,run_underlying (aC.h (P:=P) (t:=t)),cY (e1.heap p5),dD.check (P:=P) (t:=kt) ky,ju,q2]
  ·rw [← pM,← hv,q1,Option.getD_some];exact q3
theorem FX {K V:Type} [DecidableEq K] {gk:K→AV} {gv:V→AV} {M:List (K×V)} {key:K} {Z:V} {v:V×Bool} {t kt vt:TypeId} {i:TypeInfo} {z:Value} {x y:Operand} {b:Bk} {av:AV} [aC P t (.map kt vt)] [a8 P vt i] [dD P kt gk] (hx:du tm x=some (.bV b)) (hy:du tm y=some (gk key)) (f:mh hp b (.mp (M.map fun e=>(gk e.1,gv e.2)))) (hz:i.zero=some z) (DL:As z=gv Z) (h1:ke (As z).cells=true) (h:tV M key Z=some v) (pM:gv v.1=av):
 QV P ⟨some d,.lookup t x y true,ty,pos,af,none⟩ ⟨n,tm,hp⟩ (.lM [av,.bool v.2]):=by
 intro w S a r
 have kx:=bl (σ:=⟨n,tm,hp⟩) r hx
 have ky:=bl (σ:=⟨n,tm,hp⟩) r hy
 obtain ⟨nb,hb,ex⟩:=kx.jY
 obtain ⟨L,c,M',yX,cC,p1,p2,p3,p4,p5,p6,p7,p8⟩:=qs (dD.inj P kt) r.hp f
 obtain rfl:yX=nb:=by rw [p4] at hb;exact aa hb
 unfold tV at h
 have hv:=aa h
 rw [← je p1 p8] at hv
 have ju:=dD.find (P:=P) (t:=kt) (g:=gk) ky cC.toList (M'.map bk) (by simpa using p6.symm) (fun j k' e h1 h2=>by
  rw [al] at h1
  cases hm:M'[j]? with
  | none=>rw [hm] at h1;cases h1
  | some q=>rw [hm] at h1;rw [← aa h1];exact (p7 j q e hm h2).1)
 rcases nE (gv:=gv) (w:=w) (S:=S) (k:=key) M' cC.toList 0 p6.symm (fun j e m h1 h2=>(p7 j e m h1 h2).2) with ⟨q1,q2⟩ | ⟨v',j,val,q1,q2,q3,_⟩
 ·refine ⟨.tuple #[z,.bool false],fun w1 e1=>?_,?_⟩
  ·simp [execOp,Instr.lookup,ex,run_underlying (aC.h (P:=P) (t:=t)),cY (e1.heap p5),dD.check (P:=P) (t:=kt) ky,ju,q2,zeroValue,typeInfo,a8.h (P:=P) (t:=vt),hz]
  ·rw [← pM,← hv,q1]
   refine .lM _ _ rfl (pd ?_ (.bool _))
   rw [ge,← DL];exact DP w S z h1
 ·refine ⟨.tuple #[val,.bool true],fun w1 e1=>?_,?_⟩
  ·simp [execOp,Instr.lookup,ex,run_underlying (aC.h (P:=P) (t:=t)),cY (e1.heap p5),dD.check (P:=P) (t:=kt) ky,ju,q2]
  ·rw [← pM,← hv,q1]
   exact .lM _ _ rfl (pd q3 (.bool _))
theorem ur {w:World} {S:Nat→Prop} {hp cQ:Heap} {b:Bk} {m:Nat} {o o':Ob} {ob old:Obj} (r:de w S hp) (u:mF hp b o b o' cQ) (hb:b.cH=some m) (ho:w.heap[m]? =some old) (hf:¬ o.B7) (hf':¬ o'.B7) (hh:(∀ n,S n→S n∧(zi w m ob).heap[n]? =w.heap[n]?)→Holds (zi w m ob) S b o')(hm:o'.more=[]:=by rfl):
 de (zi w m ob) S cQ∧kT w S hp (zi w m ob) S cQ∧∀ n,S n→S n∧(zi w m ob).heap[n]? =w.heap[n]?:=by
 have k1:∀ n,S n→S n∧(zi w m ob).heap[n]? =w.heap[n]?:=fun k hk=>⟨hk,DO (fun e=>by
  subst e
  exact hf ((r.sep _ u.qN.mem _ (fF hb)).1 hk))⟩
 exact sS r u (Sm hb) hf hf' (hh k1) (.inl rfl) hm
theorem vk {K V:Type} [DecidableEq K] [vU K] {gk:K→AV} {gv:V→AV} {M:List (K×V)} {key:K} {v:V} {t kt vt:TypeId} {x y z:Operand} {b:Bk} {av:AV} {cQ:Heap} [aC P t (.map kt vt)] [dD P kt gk] (hx:du tm x=some (.bV b)) (hy:du tm y=some (gk key)) (hz:du tm z=some av) (pM:av=gv v) (u:mF hp b (.mp (M.map fun e=>(gk e.1,gv e.2))) b (.mp ((ca M key v).map fun e=>(gk e.1,gv e.2))) cQ)
 (kk:ae P all rest ⟨n,tm,cQ⟩ Q):ae P all (⟨none,.mapUpdate t x y z,ty,pos,af,none⟩ :: rest) ⟨n,tm,hp⟩ Q:=by
 refine ae.act rfl rfl (fun w S a r=>?_) kk
 have kx:=bl (σ:=⟨n,tm,hp⟩) r hx
 have ky:=bl (σ:=⟨n,tm,hp⟩) r hy
 have kz:=bl (σ:=⟨n,tm,hp⟩) r hz
 obtain ⟨nb,hb,ex⟩:=kx.jY
 obtain ⟨L,c,M',yX,cC,p1,p2,p3,p4,p5,p6,p7,p8⟩:=qs (dD.inj P kt) r.hp u.qN
 obtain rfl:yX=nb:=by rw [p4] at hb;exact aa hb
 have ju:=dD.find (P:=P) (t:=kt) (g:=gk) ky cC.toList (M'.map bk) (by simpa using p6.symm) (fun j k' e h1 h2=>by
  rw [al] at h1
  cases hm:M'[j]? with
  | none=>rw [hm] at h1;cases h1
  | some q=>rw [hm] at h1;rw [← aa h1];exact (p7 j q e hm h2).1)
 obtain ⟨Rr,iW,g1,g2,g3,g4,g5,g6,g7⟩:=p3
 obtain rfl:Rr=yX:=by rw [p4] at g1;exact (aa g1).symm
 obtain rfl:iW=cC:=by rw [p5] at g2;exact (Obj.map.inj (aa g2)).1.symm
 have Zv:L.length=M'.length:=by have:=congrArg f0 p2;simpa using this
 have Vi:∀ (j:Nat) (x:me) (e:K×V),L[j]? =some x→M'[j]? =some e→x.k=gk e.1∧x.v=gv e.2:=by
  intro j x e h1 h2
  have:(L.map me.kv)[j]? =(M'.map fun e=>(gk e.1,gv e.2))[j]?:=by rw [p2]
  rw [al,al,h1,h2] at this
  exact f9 (aa this)
 rcases nE (gv:=gv) (w:=w) (S:=S) (k:=key) M' iW.toList 0 p6.symm (fun j e m h1 h2=>(p7 j e m h1 h2).2) with ⟨q1,q2⟩ | ⟨v',j,val,q1,q2,q3,q4⟩
 ·
  have hw:=ur (ob:=.map (iW.push ⟨a.eval y,a.eval z,c⟩) (c+1)) r.hp u p4 p5 id id (fun k1=>by
   refine ⟨L++[⟨gk key,gv v,c⟩],c+1,?_,Rr,iW.push ⟨a.eval y,a.eval z,c⟩,p4,uq p5,by simp [g3],?_,?_,?_,?_⟩
   ·rw [bp,p2]
    refine d1 ?_ ((sv key v (mj M key)).symm.map _)
    rw [wj (by rw [← je p1 p8];exact q1)]
    exact List.perm_append_comm.trans (ck _ (p1.map _))
   ·intro i e m he hm
    rw [Array.getElem?_push] at hm
    rcases b9 i L.length with hi | hi
    ·rw [dd hi] at he
     rw [if_neg (by omega)] at hm
     obtain ⟨s1,s2,s3⟩:=g4 i e m he hm
     exact ⟨s1,s2.mono k1,s3.mono k1⟩
    ·have Ii:i=L.length:=by
      have:=(ap.1 he).1
      simp at this;omega
     subst Ii
     rw [if_pos g3.symm] at hm
     simp at he
     obtain rfl:=aa hm
     subst he
     exact ⟨rfl,ky.mono k1,by rw [pM] at kz;exact kz.mono k1⟩
   ·intro e he
    rcases bo.1 he with h | h
    ·have:=g5 e h;omega
    ·simp at h;subst h;simp
   ·rw [bp,b5]
    refine ⟨g6,by simp,fun a1 ha b1 C6 C9=>?_⟩
    simp at C6
    subst C6
    obtain ⟨e,he,rfl⟩:=aH.1 ha
    have:=g5 e he
    omega
   ·rw [bp,b5]
    refine ⟨g7,by simp,fun a1 ha b1 C6 C9=>?_⟩
    simp at C6
    subst C6
    obtain ⟨e,he,rfl⟩:=aH.1 ha
    obtain ⟨j,hj⟩:=cl he
    have zw:j < M'.length:=by rw [← Zv];exact (ap.1 hj).1
    have:=(Vi j e M'[j] hj (a7 zw)).1
    rw [this] at C9
    exact (ph.1 q1) M'[j] (ci zw) (dD.inj P kt _ _ C9))
  refine ⟨_,S,?_,r.heap hw.2.2 hw.1,hw.2.1⟩
  simp [execOp,Instr.mapUpdate,ex,run_underlying (aC.h (P:=P) (t:=t)),cY p5,dD.check (P:=P) (t:=kt) ky,ju,q2,uG _ p5]
 ·
  have zw:j < iW.toList.length:=by rw [p6];exact (ap.1 q4).1
  have CJ:j < iW.size:=by simpa using zw
  have WO:iW.toList[j]? =some iW[j]:=by simp [CJ]
  have G4:=(p7 j _ _ q4 WO).1
  have Pj:Instr.sameBits 10000 iW[j].key (a.eval y)=true:=dD.bits (P:=P) (t:=kt) G4 ky
  have Cn:j < L.length:=by omega
  have hw:=ur (ob:=.map (iW.modify j fun e=>{e with key:=a.eval y,val:=a.eval z}) c) r.hp u p4 p5 id id (fun k1=>by
   refine ⟨L.set j ⟨gk key,gv v,L[j].born⟩,c,?_,Rr,_,p4,uq p5,by simp [g3],?_,?_,?_,?_⟩
   ·rw [cK]
    refine d1 ?_ ((sv key v (mj M key)).symm.map _)
    have e1:(L.map me.kv).set j (gk key,gv v)=(M'.set j (key,v)).map fun e=>(gk e.1,gv e.2):=by rw [p2,cK]
    show ((L.map me.kv).set j (gk key,gv v)).Perm _
    rw [e1]
    refine List.Perm.map _ ?_
    have Uu:j < M'.length:=by omega
    have e2:M'=M'.take j++(key,v') :: M'.drop (j+1):=by
     have:=d4 j M'
     rw [List.drop_eq_getElem_cons Uu] at this
     have hq:M'[j]=(key,v'):=by rw [a7 Uu] at q4;exact aa q4
     rw [hq] at this
     exact this.symm
    have e3:M'.set j (key,v)=M'.take j++(key,v) :: M'.drop (j+1):=by
     rw [List.set_eq_take_append_cons_drop,if_pos Uu]
    rw [e3]
    refine cJ.trans (ck _ ?_)
    have e4:mj M' key=M'.take j++M'.drop (j+1):=by
     have Vj:=p8
     rw [e2,bp,bv,b5,dY] at Vj
     unfold mj
     rw [e2,gq,gs]
     simp only [ne_eq,not_true_eq_false,decide_false,bO,if_false]
     rw [← e2]
     congr 1
     ·refine b6.2 fun e he=>?_
      simp only [decide_not,c6,decide_eq_false_iff_not]
      intro hk
      exact Vj.2.2 e.1 (aH.2 ⟨e,he,rfl⟩) key (by simp) hk
     ·refine b6.2 fun e he=>?_
      simp only [decide_not,c6,decide_eq_false_iff_not]
      intro hk
      exact Vj.2.1.1 (aH.2 ⟨e,he,hk⟩)
    rw [← e4]
    exact p1.filter _
   ·intro i e m he hm
    rw [b8] at hm
    rw [gc] at he
    by_cases yQ:j=i
    ·subst yQ
     simp only [if_true,Cn] at he
     simp only [if_true,bc CJ,bs] at hm
     obtain rfl:=aa he
     obtain rfl:=aa hm
     refine ⟨(g4 j L[j] iW[j] (a7 Cn) (bc CJ)).1,ky.mono k1,by rw [pM] at kz;exact kz.mono k1⟩
    ·rw [if_neg yQ] at he hm
     obtain ⟨s1,s2,s3⟩:=g4 i e m he hm
     exact ⟨s1,s2.mono k1,s3.mono k1⟩
   ·intro e he
    rcases List.mem_or_eq_of_mem_set he with h | h
    ·exact g5 e h
    ·subst h;exact g5 L[j] (ci Cn)
   ·rw [cK]
    have:(L.map (·.born)).set j L[j].born=L.map (·.born):=by
     exact wk (by rw [al,a7 Cn];rfl)
    rw [this];exact g6
   ·rw [cK]
    have:(L.map (·.k)).set j (gk key)=L.map (·.k):=by
     have hk:=(Vi j L[j] _ (a7 Cn) q4).1
     exact wk (by rw [al,a7 Cn,bs,hk])
    rw [this];exact g7)
  refine ⟨_,S,?_,r.heap hw.2.2 hw.1,hw.2.1⟩
  simp [execOp,Instr.mapUpdate,ex,run_underlying (aC.h (P:=P) (t:=t)),cY p5,dD.check (P:=P) (t:=kt) ky,ju,q2,Instr.keyThatStays,CJ,Pj,uG _ p5]
theorem DQ {K V:Type} [DecidableEq K] [vU K] {gk:K→AV} {gv:V→AV} {M:List (K×V)} {key:K} {v:V} {t kt vt:TypeId} {x y z:Operand} {b:Bk} {av:AV} {cQ:Heap} [aC P t (.map kt vt)] [dD P kt gk] (hx:du tm x=some (.bV b)) (hy:du tm y=some (gk key)) (hz:du tm z=some av) (pM:av=gv v) (u:mF hp b (.mp (M.map fun e=>(gk e.1,gv e.2))) b (.mp ((ca M key v).map fun e=>(gk e.1,gv e.2))) cQ)
 (kk:ae P all rest ⟨n,tm,cQ⟩ Q):ae P all (⟨none,.insert t x y z,ty,pos,af,none⟩ :: rest) ⟨n,tm,hp⟩ Q:=by
 intro w S a r
 have:=vk (all:=all) (rest:=rest) (ty:=ty) (pos:=pos) (af:=af) (t:=t) (kt:=kt) (vt:=vt) (gk:=gk) (gv:=gv) hx hy hz pM u kk w S a r
 unfold wpList at this ⊢
 exact this
end rules
def AN (L:List me) (c:Nat) (seen:List Nat) (rest:List (AV×AV)):Prop:=((L.filter (fun e=>!seen.contains e.born)).map me.kv).Perm rest
def XV (L:List me) (seen:List Nat) (e:AV×AV):Prop:=∃ x∈L,seen.getLast? =some x.born∧x.kv=e
theorem find_born {L:List me} (hn:(L.map (·.born)).Nodup) {x:me} (hx:x∈L) {w:World} {S:Nat→Prop} {cC:Array MapEntry} (hl:cC.size=L.length) (h:∀ (i:Nat) e m,L[i]? =some e→cC[i]? =some m→m.born=e.born∧At w S e.k m.key∧At w S e.v m.val):
 ∃ m,cC.find? (·.born==x.born)=some m∧At w S x.k m.key∧At w S x.v m.val:=by
 obtain ⟨j,hj⟩:=cl hx
 have zw:j < L.length:=(ap.1 hj).1
 have CJ:j < cC.size:=by omega
 have qo:=h j x cC[j] hj (bc CJ)
 cases hf:cC.find? (·.born==x.born) with
 | none=>
   rw [Array.find?_eq_none] at hf
   exact absurd (by simpa using qo.1) (hf cC[j] (c7 CJ))
 | some m=>
   have hb:m.born=x.born:=by have:=Array.find?_some hf;simpa using this
   have hm:=Array.mem_of_find?_eq_some hf
   obtain ⟨i,hi,rfl⟩:=c8 hm
   have qQ:i < L.length:=by omega
   have Nc:=(h i L[i] cC[i] (a7 qQ) (bc hi)).1
   have yQ:i=j:=by
    have e1:(L.map (·.born))[i]? =some x.born:=by rw [al,a7 qQ,bs,← Nc,hb]
    have e2:(L.map (·.born))[j]? =some x.born:=by rw [al,hj];rfl
    exact (gt (by simpa using qQ) hn).1 (e1.trans e2.symm)
   subst yQ
   exact ⟨_,rfl,qo.2⟩
theorem IG {P:Program} {w:World} {r m c:Nat} {seen:Array Nat} {cC Bz:Array MapEntry} {ty:TypeId} (g:w.heap[r]? =some (.mapIter (some m) c seen c)) (p:w.heap[m]? =some (.map cC c)) (Sn:(!seen.isEmpty&&!cC.isEmpty&&cC.all (fun e=>decide (e.born≥c)))=false)
 (hl:(cC.filter fun e=>!seen.contains e.born)=Bz) (ho:Bz.filter (fun e=>decide (e.born < c))=Bz) (hn:Bz.filter (fun e=>decide (e.born≥c))=#[]):
 (Instr.next (.pointer (some ⟨r,0,none⟩)) false ty).run P w=((choose (.mapNext ((if Bz.isEmpty then #[none] else #[])++(Bz++#[]).map some).size)).run P w).andThen fun i w'=>
  (match ((if Bz.isEmpty then #[none] else #[])++(Bz++#[]).map some)[i]? with
  | some (some e)=>(do setObj r (.mapIter (some m) c (seen.push e.born) c);pure (.tuple #[.bool true,e.key,e.val]):Sem Value)
  | some none=>pure (.tuple #[.bool false])
  | none=>stuck "Next: no such candidate").run P w':=by
 subst hl
 unfold Instr.next
 simp only [Sem.run_bind,Cm g,cY p,Result.andThen_ok,Sn,ho,hn,bO,if_false,Sem.run_pure]
 rfl
section rules
variable {P:Program} {all:Array Oper} {rest:List Oper} {n:Nat} {tm:List (Nat×AV)} {hp:Heap} {Q:St→Prop} {d:Nat} {ty:TypeId} {pos:String} {af:Array Edge}
theorem Sp {E:Type} {enc:E→AV×AV} {M:List E} {t kt vt:TypeId} {x:Operand} {b:Bk} {cQ:List me→Nat→Heap} [aC P t (.map kt vt)] (hx:du tm x=some (.bV b)) (u:∀ L c,mF hp b (.mp (M.map enc)) b (.LJ L c) (cQ L c)) (hn:ai d n=true)
 (kk:∀ bi L c,(L.map me.kv).Perm (M.map enc)→AN L c [] (M.map enc)→ae P all rest ⟨n,(d,.ptr bi 0) :: tm,(bi,.Km b c []) :: cQ L c⟩ Q):ae P all (⟨some d,.range t x,ty,pos,af,none⟩ :: rest) ⟨n,tm,hp⟩ Q:=by
 refine ae.HY rfl fun w S a r=>?_
 obtain ⟨nb,hb,ex⟩:=(bl (σ:=⟨n,tm,hp⟩) r hx).jY
 have f:=(u [] 0).qN
 obtain ⟨L,c,mC,hH⟩:=r.hp.holds _ f.mem
 have Vh:=hH
 obtain ⟨yX,cC,g1,g2,g3,_⟩:=hH
 obtain rfl:yX=nb:=by rw [g1] at hb;exact aa hb
 obtain ⟨r1,e1,k1⟩:=sS r.hp (u L c) (G8 w b.cH) id id Vh (.inl rfl)
 have hh:Holds (w.alloc (.mapIter (some yX) c #[] c)) S ⟨some w.heap.size,0⟩ (.Km b c []):=⟨w.heap.size,yX,rfl,hb,by show (w.heap.push _)[w.heap.size]? =_;simp⟩
 obtain ⟨r2,e2,k2⟩:=pg r1 (Ext.alloc w (.mapIter (some yX) c #[] c)) id hh (.inr ⟨_,rfl,a6 _⟩)
 refine ⟨.pointer (some ⟨w.heap.size,0,none⟩),w.alloc (.mapIter (some yX) c #[] c),S,_,?_,(r.heap k2 r2).put hn (.ptr _ _ _ rfl),e1.trans e2,kk ⟨some w.heap.size,0⟩ L c mC ?_⟩
 ·simp [execOp,Instr.range,ex,run_underlying (aC.h (P:=P) (t:=t)),cY g2]
 ·unfold AN
  have e:L.filter (fun e=>!([]:List Nat).contains e.born)=L:=b6.2 (fun _ _=>by simp)
  rw [e];exact mC
theorem Sq {L:List me} {c:Nat} {seen:List Nat} {x:Operand} {bi bm:Bk} {e:AV×AV} {k v:AV} (hx:du tm x=some (.ptr bi 0)) (fi:mh hp bi (.Km bm c seen)) (fm:mh hp bm (.LJ L c)) (hc:XV L seen e) (hk:e.1=k) (hv:e.2=v):
 QV P ⟨some d,.entry x,ty,pos,af,none⟩ ⟨n,tm,hp⟩ (.lM [k,v]):=by
 intro w S a r
 obtain ⟨ni,hi,ex⟩:=(bl (σ:=⟨n,tm,hp⟩) r hx).sR
 obtain ⟨Vk,nm,g1,g2,g3⟩:=r.hp.holds _ fi.mem
 obtain rfl:Vk=ni:=by rw [g1] at hi;exact aa hi
 obtain ⟨Uv,cC,p1,p2,p3,p4,p5,p6,_⟩:=r.hp.holds _ fm.mem
 obtain rfl:Uv=nm:=by rw [p1] at g2;exact aa g2
 obtain ⟨y,hy,hs,WQ⟩:=hc
 obtain ⟨m,m1,m2,m3⟩:=find_born p6 hy p3 p4
 have hbk:seen.toArray.back? =some y.born:=by rw [← hs];simp [List.getLast?_eq_getElem?,Array.back?]
 subst WQ
 refine ⟨.tuple #[m.key,m.val],fun w1 e1=>?_,?_⟩
 ·simp [execOp,Instr.entry,ex,Cm (e1.heap g3),cY (e1.heap p2),hbk,m1]
 ·rw [← hk,← hv];exact .lM _ _ rfl (pd m2 m3)
theorem Vl {E:Type} {enc:E→AV×AV} {R:List E} {L:List me} {c:Nat} {seen:List Nat} {x:Operand} {bi bm:Bk} {cQ:List Nat→Heap} (hx:du tm x=some (.ptr bi 0)) (hI:AN L c seen (R.map enc)) (fm:mh hp bm (.LJ L c)) (u:∀ s,mF hp bi (.Km bm c seen) bi (.Km bm c s) (cQ s)) (hn:ai d n=true)
 (k0:R=[]→ae P all rest ⟨n,(d,.lM [.bool false]) :: tm,hp⟩ Q)
 (k1:∀ e R' s,R.Perm (e :: R')→R'.length < R.length→AN L c s (R'.map enc)→XV L s (enc e)→ae P all rest ⟨n,(d,.lM [.bool true,(enc e).1,(enc e).2]) :: tm,cQ s⟩ Q):ae P all (⟨some d,.next x false,ty,pos,af,none⟩ :: rest) ⟨n,tm,hp⟩ Q:=by
 refine ae.HY rfl fun w S a r=>?_
 obtain ⟨ni,hi,ex⟩:=(bl (σ:=⟨n,tm,hp⟩) r hx).sR
 obtain ⟨Vk,nm,g1,g2,g3⟩:=r.hp.holds _ (u []).qN.mem
 obtain rfl:Vk=ni:=by rw [g1] at hi;exact aa hi
 obtain ⟨Uv,cC,p1,p2,p3,p4,p5,p6,_⟩:=r.hp.holds _ fm.mem
 obtain rfl:Uv=nm:=by rw [p1] at g2;exact aa g2
 have DR:∀ m∈cC,m.born < c:=by
  intro m hm
  obtain ⟨i,hi,rfl⟩:=c8 hm
  have qQ:i < L.length:=by omega
  have:=(p4 i L[i] cC[i] (a7 qQ) (bc hi)).1
  rw [this];exact p5 _ (ci qQ)
 have Sn:(!seen.toArray.isEmpty&&!cC.isEmpty&&cC.all (fun e=>decide (e.born≥c)))=false:=by
  by_cases h0:cC.isEmpty=true
  ·simp [h0]
  ·have h1:0 < cC.size:=by
    have:cC.size≠0:=by simpa [gI] using h0
    omega
   have:cC.all (fun e=>decide (e.born≥c))=false:=by
    rw [Bool.eq_false_iff]
    intro lE
    rw [Array.all_eq_true] at lE
    have:=lE 0 h1
    have hb:=DR cC[0] (c7 h1)
    simp at this;omega
   simp [this]
 have hold:(cC.filter fun e=>!seen.toArray.contains e.born).filter (fun e=>decide (e.born < c))=cC.filter fun e=>!seen.toArray.contains e.born:=by
  rw [Array.filter_eq_self]
  intro m hm
  simpa using DR m (da.1 hm).1
 have wb:(cC.filter fun e=>!seen.toArray.contains e.born).filter (fun e=>decide (e.born≥c))=#[]:=by
  rw [Array.filter_eq_empty_iff]
  intro m hm
  have:=DR m (da.1 hm).1
  simp;omega
 generalize Sr:(cC.filter fun e=>!seen.toArray.contains e.born)=Bz at hold wb
 have lK:∀ m∈Bz,∃ y∈L,(seen.contains y.born=false)∧m.born=y.born∧At w S y.k m.key∧At w S y.v m.val:=by
  intro m hm
  rw [← Sr] at hm
  obtain ⟨h1,h2⟩:=da.1 hm
  obtain ⟨i,hi,rfl⟩:=c8 h1
  have qQ:i < L.length:=by omega
  have hh:=p4 i L[i] cC[i] (a7 qQ) (bc hi)
  refine ⟨L[i],ci qQ,?_,hh⟩
  rw [← hh.1];simpa using h2
 have hex:∀ y∈L,seen.contains y.born=false→∃ m,m∈Bz:=by
  intro y hy hs
  obtain ⟨j,hj⟩:=cl hy
  have zw:j < L.length:=(ap.1 hj).1
  have CJ:j < cC.size:=by omega
  refine ⟨cC[j],?_⟩
  rw [← Sr,da]
  refine ⟨c7 CJ,?_⟩
  rw [(p4 j y cC[j] hj (bc CJ)).1]
  simpa using hs
 by_cases hz:Bz.size=0
 ·
  have hR:R=[]:=by
   cases R with
   | nil=>rfl
   | cons e R'=>
     unfold AN at hI
     have hm:enc e∈(L.filter (fun e=>!seen.contains e.born)).map me.kv:=hI.mem_iff.2 (by simp)
     obtain ⟨y,hy,_⟩:=aH.1 hm
     obtain ⟨hy1,hy2⟩:=d2.1 hy
     obtain ⟨m,hm⟩:=hex y hy1 (by simpa using hy2)
     obtain ⟨i,hi,_⟩:=c8 hm
     omega
  obtain rfl:Bz=#[]:=d9 hz
  refine ⟨.tuple #[.bool false],w,S,_,?_,r.put hn (.lM _ _ rfl ?_),kT.refl _ _ _,k0 hR⟩
  ·have hop:(Instr.next (a.eval x) false ty).run P w=.ok (.tuple #[.bool false]) w:=by
    rw [ex,IG (P:=P) (ty:=ty) g3 p2 Sn Sr hold wb]
    simp [run_choose,Question.forced]
   simp [execOp,hop]
  ·intro i c' v h1 h2
   cases i with
   | zero=>simp at h1 h2;subst h1;subst h2;exact .bool _
   | succ i=>simp at h1
 ·obtain ⟨i,w1,hch,qQ,hE⟩:∃ i w1,(choose (.mapNext Bz.size)).run P w=.ok i w1∧i < Bz.size∧(w1=w∨w1=w.drew):=by
   by_cases hf:(Question.mapNext Bz.size).forced=true
   ·refine ⟨0,w,?_,by omega,.inl rfl⟩
    rw [run_choose,if_pos hf]
   ·have hc:=run_choose P w (Question.mapNext Bz.size)
    rw [if_neg hf] at hc
    exact ⟨_,w.drew,hc,b7 _ (by omega:0 < Bz.size),.inr rfl⟩
  have ext:Ext w w1:=by
   rcases hE with rfl | rfl
   ·exact Ext.refl _
   ·exact Ext.LK w (w.drawn+1) (Nat.le_succ _)
  obtain ⟨y,hy,Zw,hb,hk,hv⟩:=lK Bz[i] (c7 qQ)
  have um:∀ z∈L,z.born=y.born→z=y:=by
   intro z hz hzb
   obtain ⟨i1,h1⟩:=cl hz
   obtain ⟨i2,h2⟩:=cl hy
   have aa9:i1 < L.length:=(ap.1 h1).1
   have:i1=i2:=(gt (by simpa using aa9) p6).1 (by rw [al,al,h1,h2,bs,bs,hzb])
   subst this
   rw [h1] at h2;exact aa h2
  unfold AN at hI
  have hyR:y.kv∈R.map enc:=hI.mem_iff.1 (aH.2 ⟨y,d2.2 ⟨hy,by simpa using Zw⟩,rfl⟩)
  obtain ⟨pre,post,WL⟩:=ft (d2.2 ⟨hy,(by simpa using Zw:(!seen.contains y.born)=true)⟩:y∈L.filter (fun e=>!seen.contains e.born))
  have aaA:L.filter (fun e=>!(seen++[y.born]).contains e.born)=pre++post:=by
   have e1:L.filter (fun e=>!(seen++[y.born]).contains e.born)=(L.filter (fun e=>!seen.contains e.born)).filter (fun e=>decide (e.born≠y.born)):=by
    rw [List.filter_filter]
    apply List.filter_congr
    intro e he
    simp only [List.contains_eq_mem,bo,aw,ne_eq,decide_not]
    by_cases q1:e.born∈seen<;>by_cases q2:e.born=y.born<;>simp [q1,q2]
   have Vm:((L.filter (fun e=>!seen.contains e.born)).map (·.born)).Nodup:=p6.sublist ((List.filter_sublist).map _)
   rw [WL,bp,bv,b5,dY] at Vm
   rw [e1,WL,gq,gs]
   simp only [ne_eq,not_true_eq_false,decide_false,bO,if_false]
   congr 1
   ·refine b6.2 fun e he=>?_
    simp only [decide_not,c6,decide_eq_false_iff_not]
    intro hk
    exact Vm.2.2 e.born (aH.2 ⟨e,he,rfl⟩) y.born (by simp) hk
   ·refine b6.2 fun e he=>?_
    simp only [decide_not,c6,decide_eq_false_iff_not]
    intro hk
    exact Vm.2.1.1 (aH.2 ⟨e,he,hk⟩)
  have hP:(y.kv :: (pre++post).map me.kv).Perm (R.map enc):=by
   refine d1 ?_ hI
   rw [WL]
   simp only [bp,bv]
   exact cJ.symm
  obtain ⟨R2,hR2,XW⟩:=ry enc _ _ hP
  cases R2 with
  | nil=>simp at XW
  | cons e R'=>
    obtain ⟨RC,LN⟩:=List.cons.inj (by simpa using XW)
    have hw1:w1.heap[Vk]? =some (.mapIter (some Uv) c seen.toArray c):=ext.heap g3
    have hIt:AN L c (seen++[y.born]) (R'.map enc):=by unfold AN;rw [aaA,← LN];simp
    have r1:=r.ext ext
    have hw:=ur (ob:=.mapIter (some Uv) c (seen++[y.born]).toArray c) r1.hp (u (seen++[y.born])) g1 hw1 id id (fun k1=>⟨Vk,Uv,g1,g2,uq hw1⟩)
    have aaB:kT w S hp w1 S hp:=kT.ext (fun n hn=>r.hp.slt n hn) ext
    refine ⟨.tuple #[.bool true,Bz[i].key,Bz[i].val],zi w1 Vk (.mapIter (some Uv) c (seen++[y.born]).toArray c),S,_,?_,(r1.heap hw.2.2 hw.1).put hn (.lM _ _ rfl (MO (.bool _) ?_ ?_)),aaB.trans hw.2.1,k1 e R' (seen++[y.born]) hR2.symm (by have:=hR2.length_eq;simp at this;omega) hIt ⟨y,hy,by simp,RC⟩⟩
    ·have hlz:Bz.isEmpty=false:=by
      have:Bz.size≠0:=hz
      simpa [gI] using this
     have hop:(Instr.next (a.eval x) false ty).run P w=.ok (.tuple #[.bool true,Bz[i].key,Bz[i].val]) (zi w1 Vk (.mapIter (some Uv) c (seen++[y.born]).toArray c)):=by
      rw [ex,IG (P:=P) (ty:=ty) g3 p2 Sn Sr hold wb]
      have jc:((if Bz.isEmpty=true then #[none] else #[])++(Bz++#[]).map some)=Bz.map some:=by simp [hlz]
      rw [jc,Array.size_map,hch]
      simp [qQ,hb,IE _ hw1]
     simp [execOp,hop]
    ·rw [← RC]
     exact (hk.mono (fun n hn=>⟨hn,ext.same n (r.hp.slt n hn)⟩)).mono hw.2.2
    ·rw [← RC]
     exact (hv.mono (fun n hn=>⟨hn,ext.same n (r.hp.slt n hn)⟩)).mono hw.2.2
end rules
theorem aj.Vn {n:Nat} {tm:List (Nat×AV)} {hp cQ:Heap} {T:St→Prop} {b:Bk} {L:List me} {c:Nat} {es:List (AV×AV)} (hL:(L.map me.kv).Perm es) (u:mF hp b (.LJ L c) b (.mp es) cQ) (k:aj ⟨n,tm,cQ⟩ T):aj ⟨n,tm,hp⟩ T:=by
 refine aj.step (Ar:=⟨n,tm,cQ⟩) (fun w S a r=>?_) k
 have hH:uy w S b L c:=r.hp.holds _ u.qN.mem
 obtain ⟨r1,e1,k1⟩:=sS r.hp u (G8 w b.cH) id id ⟨L,c,hL,hH⟩ (.inl rfl)
 exact ⟨_,S,rfl,r.heap k1 r1,e1⟩
theorem aK {α β:Type} {o:Option α} {f:α→Option β} {r:β} {C:Prop} (h:o.bind f=some r) (k:∀ v,o=some v→f v=some r→C):C:=
 let ⟨v,h1,h2⟩:=bnd h;k v h1 h2
def FY:Heap→Nat→Option ((Bk×Ob)×Heap)
 | [],_=>none
 | e :: h,0=>some (e,h)
 | e :: h,i+1=>match FY h i with
   | some (x,h')=>some (x,e :: h')
   | none=>none
def DS:Heap→List Nat→Option Heap
 | _,[]=>some []
 | h,i :: r=>match FY h i with
   | some (e,h')=>match DS h' r with
     | some t=>some (e :: t)
     | none=>none
   | none=>none
theorem FZ:∀ {h:Heap} {i:Nat} {e:Bk×Ob} {h':Heap},FY h i=some (e,h')→x7 h e.1 e.2 h'
 | [],_,_,_,hh=>by simp [FY] at hh
 | x :: h,0,e,h',hh=>by
   simp only [FY,bX,g8] at hh
   obtain ⟨rfl,rfl⟩:=hh
   exact .here
 | x :: h,i+1,e,h',hh=>by
   simp only [FY] at hh
   split at hh
   ·rename_i y h1 h2
    simp only [bX,g8] at hh
    obtain ⟨rfl,rfl⟩:=hh
    exact .next (FZ h2)
   ·cases hh
theorem AO:∀ {l:List Nat} {h t:Heap},DS h l=some t→HS h t
 | [],h,t,hh=>by
   simp only [DS,bX] at hh
   subst hh;exact .nil
 | i :: r,h,t,hh=>by
   simp only [DS] at hh
   split at hh
   ·rename_i e h' h1
    split at hh
    ·rename_i t' h2
     obtain rfl:=aa hh
     exact .cons (FZ h1) (AO h2)
    ·cases hh
   ·cases hh
def Pk (tm:List (Nat×AV)):List Nat→Option (List (Nat×AV))
 | []=>some []
 | s :: r=>match lk tm s with
   | some av=>match Pk tm r with
     | some l=>some ((s,av) :: l)
     | none=>none
   | none=>none
theorem IH {tm:List (Nat×AV)}:∀ {l:List Nat} {sb:List (Nat×AV)},Pk tm l=some sb→FI tm sb
 | [],sb,h=>by
   simp only [Pk,bX] at h
   subst h;exact True.intro
 | s :: r,sb,h=>by
   simp only [Pk] at h
   split at h
   ·rename_i av h1
    split at h
    ·rename_i t' h2
     obtain rfl:=aa h
     exact ⟨h1,IH h2⟩
    ·cases h
   ·cases h
theorem aj.lq {n:Nat} {tm sb:List (Nat×AV)} {hp cQ:Heap} {T:St→Prop} (is:List Nat) (h:T ⟨n,sb,cQ⟩) (ht:Pk tm (sb.map bk)=some sb) (hs:DS hp is=some cQ):aj ⟨n,tm,hp⟩ T:=
 aj.XC (IH ht) (AO hs) (aj.here h)
theorem mh.p0 {b:Bk} {o:Ob} {h:Heap}:mh ((b,o) :: h) b o:=.here
theorem mF.p0 {b b':Bk} {o o':Ob} {h:Heap}:mF ((b,o) :: h) b o b' o' ((b',o') :: h):=.here
theorem x7.p0 {b:Bk} {o:Ob} {h:Heap}:x7 ((b,o) :: h) b o (h):=.here
theorem mh.p1 {e0:Bk×Ob} {b:Bk} {o:Ob} {h:Heap}:mh (e0 :: (b,o) :: h) b o:=.next .p0
theorem mF.p1 {e0:Bk×Ob} {b b':Bk} {o o':Ob} {h:Heap}:mF (e0 :: (b,o) :: h) b o b' o' (e0 :: (b',o') :: h):=.next .p0
theorem x7.p1 {e0:Bk×Ob} {b:Bk} {o:Ob} {h:Heap}:x7 (e0 :: (b,o) :: h) b o (e0 :: h):=.next .p0
theorem mh.p2 {e0 e1:Bk×Ob} {b:Bk} {o:Ob} {h:Heap}:mh (e0 :: e1 :: (b,o) :: h) b o:=.next .p1
theorem mF.p2 {e0 e1:Bk×Ob} {b b':Bk} {o o':Ob} {h:Heap}:mF (e0 :: e1 :: (b,o) :: h) b o b' o' (e0 :: e1 :: (b',o') :: h):=.next .p1
theorem x7.p2 {e0 e1:Bk×Ob} {b:Bk} {o:Ob} {h:Heap}:x7 (e0 :: e1 :: (b,o) :: h) b o (e0 :: e1 :: h):=.next .p1
theorem mh.p3 {e0 e1 e2:Bk×Ob} {b:Bk} {o:Ob} {h:Heap}:mh (e0 :: e1 :: e2 :: (b,o) :: h) b o:=.next .p2
theorem mF.p3 {e0 e1 e2:Bk×Ob} {b b':Bk} {o o':Ob} {h:Heap}:mF (e0 :: e1 :: e2 :: (b,o) :: h) b o b' o' (e0 :: e1 :: e2 :: (b',o') :: h):=.next .p2
theorem x7.p3 {e0 e1 e2:Bk×Ob} {b:Bk} {o:Ob} {h:Heap}:x7 (e0 :: e1 :: e2 :: (b,o) :: h) b o (e0 :: e1 :: e2 :: h):=.next .p2
theorem mh.p4 {e0 e1 e2 e3:Bk×Ob} {b:Bk} {o:Ob} {h:Heap}:mh (e0 :: e1 :: e2 :: e3 :: (b,o) :: h) b o:=.next .p3
theorem mF.p4 {e0 e1 e2 e3:Bk×Ob} {b b':Bk} {o o':Ob} {h:Heap}:mF (e0 :: e1 :: e2 :: e3 :: (b,o) :: h) b o b' o' (e0 :: e1 :: e2 :: e3 :: (b',o') :: h):=.next .p3
theorem x7.p4 {e0 e1 e2 e3:Bk×Ob} {b:Bk} {o:Ob} {h:Heap}:x7 (e0 :: e1 :: e2 :: e3 :: (b,o) :: h) b o (e0 :: e1 :: e2 :: e3 :: h):=.next .p3
theorem mh.p5 {e0 e1 e2 e3 e4:Bk×Ob} {b:Bk} {o:Ob} {h:Heap}:mh (e0 :: e1 :: e2 :: e3 :: e4 :: (b,o) :: h) b o:=.next .p4
theorem mF.p5 {e0 e1 e2 e3 e4:Bk×Ob} {b b':Bk} {o o':Ob} {h:Heap}:mF (e0 :: e1 :: e2 :: e3 :: e4 :: (b,o) :: h) b o b' o' (e0 :: e1 :: e2 :: e3 :: e4 :: (b',o') :: h):=.next .p4
theorem x7.p5 {e0 e1 e2 e3 e4:Bk×Ob} {b:Bk} {o:Ob} {h:Heap}:x7 (e0 :: e1 :: e2 :: e3 :: e4 :: (b,o) :: h) b o (e0 :: e1 :: e2 :: e3 :: e4 :: h):=.next .p4
theorem mh.p6 {e0 e1 e2 e3 e4 e5:Bk×Ob} {b:Bk} {o:Ob} {h:Heap}:mh (e0 :: e1 :: e2 :: e3 :: e4 :: e5 :: (b,o) :: h) b o:=.next .p5
theorem mF.p6 {e0 e1 e2 e3 e4 e5:Bk×Ob} {b b':Bk} {o o':Ob} {h:Heap}:mF (e0 :: e1 :: e2 :: e3 :: e4 :: e5 :: (b,o) :: h) b o b' o' (e0 :: e1 :: e2 :: e3 :: e4 :: e5 :: (b',o') :: h):=.next .p5
theorem x7.p6 {e0 e1 e2 e3 e4 e5:Bk×Ob} {b:Bk} {o:Ob} {h:Heap}:x7 (e0 :: e1 :: e2 :: e3 :: e4 :: e5 :: (b,o) :: h) b o (e0 :: e1 :: e2 :: e3 :: e4 :: e5 :: h):=.next .p5
theorem mh.p7 {e0 e1 e2 e3 e4 e5 e6:Bk×Ob} {b:Bk} {o:Ob} {h:Heap}:mh (e0 :: e1 :: e2 :: e3 :: e4 :: e5 :: e6 :: (b,o) :: h) b o:=.next .p6
theorem mF.p7 {e0 e1 e2 e3 e4 e5 e6:Bk×Ob} {b b':Bk} {o o':Ob} {h:Heap}:mF (e0 :: e1 :: e2 :: e3 :: e4 :: e5 :: e6 :: (b,o) :: h) b o b' o' (e0 :: e1 :: e2 :: e3 :: e4 :: e5 :: e6 :: (b',o') :: h):=.next .p6
theorem x7.p7 {e0 e1 e2 e3 e4 e5 e6:Bk×Ob} {b:Bk} {o:Ob} {h:Heap}:x7 (e0 :: e1 :: e2 :: e3 :: e4 :: e5 :: e6 :: (b,o) :: h) b o (e0 :: e1 :: e2 :: e3 :: e4 :: e5 :: e6 :: h):=.next .p6
section rules
variable {P:Program} {all:Array Oper} {rest:List Oper} {n:Nat} {tm:List (Nat×AV)} {hp:Heap} {Q:St→Prop} {d:Nat} {ty:TypeId} {pos:String} {af:Array Edge}
theorem rM {x:Operand} {av:AV} (hx:du tm x=some av) (hn:ai d n=true) (k:ae P all rest ⟨n,(d,av) :: tm,hp⟩ Q):ae P all (⟨some d,.move x,ty,pos,af,none⟩ :: rest) ⟨n,tm,hp⟩ Q:=ae.qv (aT hx) hn k
theorem rA {x:Operand} {av:AV} (hx:du tm x=some av) (hn:ai d n=true) (k:ae P all rest ⟨n,(d,av) :: tm,hp⟩ Q):ae P all (⟨some d,.assign x,ty,pos,af,none⟩ :: rest) ⟨n,tm,hp⟩ Q:=ae.qv (bQ hx) hn k
theorem rF {x:Operand} {s:TypeId} {j off:Nat} {b:Bk} {o o':Nat} [nQ P s j off] (hx:du tm x=some (.ptr b o)) (ho:o+off=o') (hn:ai d n=true) (k:ae P all rest ⟨n,(d,.ptr b o') :: tm,hp⟩ Q):ae P all (⟨some d,.fieldAddr s x j,ty,pos,af,none⟩ :: rest) ⟨n,tm,hp⟩ Q:=ae.qv (ax hx ho) hn k
theorem rL {t:TypeId} {D:TypeDesc} {x:Operand} {b:Bk} {o:Nat} {cs:List AV} {av:AV} [aC P t D] (hD:TypeDesc.js D=false) (hx:du tm x=some (.ptr b o)) (f:mh hp b (.cells cs)) (ho:cs[o]? =some av) (hn:ai d n=true) (k:ae P all rest ⟨n,(d,av) :: tm,hp⟩ Q):ae P all (⟨some d,.load t x,ty,pos,af,none⟩ :: rest) ⟨n,tm,hp⟩ Q:=ae.qv (aM hD hx f ho) hn k
theorem rT {c x y:Operand} {av:AV} (hc:du tm c=some (.bool true)) (hx:du tm x=some av) (hn:ai d n=true) (k:ae P all rest ⟨n,(d,av) :: tm,hp⟩ Q):ae P all (⟨some d,.pick c x y,ty,pos,af,none⟩ :: rest) ⟨n,tm,hp⟩ Q:=ae.qv (gx hc hx) hn k
theorem rE {c x y:Operand} {av:AV} (hc:du tm c=some (.bool false)) (hx:du tm y=some av) (hn:ai d n=true) (k:ae P all rest ⟨n,(d,av) :: tm,hp⟩ Q):ae P all (⟨some d,.pick c x y,ty,pos,af,none⟩ :: rest) ⟨n,tm,hp⟩ Q:=ae.qv (eA hc hx) hn k
theorem rX {x:Operand} {i:Nat} {vs:List AV} {av:AV} (hx:du tm x=some (.lM vs)) (hi:vs[i]? =some av) (hn:ai d n=true) (k:ae P all rest ⟨n,(d,av) :: tm,hp⟩ Q):ae P all (⟨some d,.extract x i,ty,pos,af,none⟩ :: rest) ⟨n,tm,hp⟩ Q:=ae.qv (jG hx hi) hn k
theorem rN (h:Q ⟨n,tm,hp⟩):ae P all [] ⟨n,tm,hp⟩ Q:=ae.nil h
theorem rG {op:Op} {j:Nat} {want b:Bool} {s:Nat} (hj:(all[j]?).bind (·.dst)=some s) (hs:lk tm s=some (.bool b)) (hb:b=!want) (hn:ai d n=true) (k:ae P all rest ⟨n,(d,.raw undef) :: tm,hp⟩ Q):ae P all (⟨some d,op,ty,pos,af,some (j,want)⟩ :: rest) ⟨n,tm,hp⟩ Q:=ae.au hj hs hb hn k
theorem rY {op:Op} {j:Nat} {want b:Bool} {s:Nat} (hj:(all[j]?).bind (·.dst)=some s) (hs:lk tm s=some (.bool b)) (hb:b=want) (k:ae P all (⟨some d,op,ty,pos,af,none⟩ :: rest) ⟨n,tm,hp⟩ Q):ae P all (⟨some d,op,ty,pos,af,some (j,want)⟩ :: rest) ⟨n,tm,hp⟩ Q:=ae.ay hj hs hb k
end rules
section rules
variable {P:Program} {R:St→Prop} {k:List It} {σ:St}
theorem tS {x y:Code} (h:ab P R (.code x :: .code y :: k) σ):ab P R (.code (.seq x y) :: k) σ:=ab.seq h
theorem tR {id:Nat} {l:List Oper} (h:ae P l.toArray l σ (ab P R k)):ab P R (.code (.region id l.toArray false) :: k) σ:=ab.region h
theorem aL {id:Nat} {l:List Oper} {y:Code} (h:ae P l.toArray l σ (ab P R (.code y :: k))):ab P R (.code (.seq (.region id l.toArray false) y) :: k) σ:=ab.seq (ab.region h)
theorem tK (h:ab P R k σ):ab P R (.code .skip :: k) σ:=ab.skip h
end rules
end Go.Eng
