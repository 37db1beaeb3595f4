/- The engine: abstract values, the symbolic heap, one rule for each operation. No program in sight. -/
import Derived.Test.YthamhifbccpcpaaGreatDoorEngC
import Derived.Laws.BytesArg
import Derived.Shelf.SlSortCmp.NoneTotal
set_option linter.unusedVariables false
set_option linter.unusedSectionVars false
namespace Go.Eng
open Go
variable [bI]
def depth:Nat:=100000
section rules
variable {P:Program} {all:Array Oper} {rest:List Oper} {n:Nat} {tm:List (Nat×AV)} {hp:Heap} {Q:St→Prop} {d:Nat} {ty:TypeId} {pos:String} {af:Array Edge}
theorem yb {f:FuncId} {x:Operand} {args:List Operand} {ts:Array TypeId} {sy l l':List AV} {R:AV} [bD P f] (hx:dt tm x=some (.func (.func f) sy)) (hl:BB tm args=some l) (c:Pu P f l' R) (co:u6 hp (l++sy) l') (hn:Nat.blt d n=true) (hR:R.UN=true)
 (kk:ai P all rest ⟨n,(d,R) :: tm,hp⟩ Q):ai P all (⟨some d,.call {callee:=.value x,args:=args.toArray,argTypes:=ts},ty,pos,af,none⟩ :: rest) ⟨n,tm,hp⟩ Q:=by
 refine ai.HN rfl fun w S a r=>?_
 obtain ⟨cv,e1,e2,e3⟩:=(bn (σ:=⟨n,tm,hp⟩) r hx).zF
 refine ⟨f,_,tD a w e1,?_⟩
 obtain ⟨g1,g2⟩:=rJ (σ:=⟨n,tm,hp⟩) r hl
 obtain ⟨g3,g4⟩:=u6.at r.hp co (vs:=args.map a.eval++cv.toList) (by simp [g1,e2]) (rH g1 g2 (by simpa using e3))
 refine (c w (SB S hp) _ (tE (fun m hm=>hm.elim (r.hp.slt m) fun h=>r.hp.lt h) (fun g o ho=>⟨.inl (r.hp.jC g o ho).1,(r.hp.jC g o ho).2⟩)) (by simpa using g3) g4).mono ?_
 rintro e w' ⟨v,rr,h',S',rfl,hq,h3,h4,h5⟩
 subst hq
 have ex:=h5.Fc
 exact ⟨v,S,⟨n,(d,rr) :: tm,hp⟩,rfl,(r.ext ex).put hn (JK h3 hR),kT.ext r.hp.slt ex,kk⟩
end rules
theorem Ig {w:World} {S:Nat→Prop} {hp dG:Heap} {b:Bk} {sz k:Nat} {xs:List AV} (r:du w S hp) (u:pB hp b (.arr sz xs) b (.arr sz (xs.take k)) dG):du w S dG∧kT w S hp w S dG:=by
 obtain ⟨pre,post,e1,e2⟩:=u.split
 subst e1;subst e2
 have hblk:∀ n,Has (pre++(b,Ob.arr sz (xs.take k)) :: post) n↔Has (pre++(b,Ob.arr sz xs) :: post) n:=by
  intro n
  constructor<;>rintro ⟨x,hx,hb⟩<;>rcases bG.1 hx with rfl | hx
  ·exact ⟨(b,.arr sz xs),bG.2 (.inl rfl),hb⟩
  ·exact ⟨x,bG.2 (.inr hx),hb⟩
  ·exact ⟨(b,.arr sz (xs.take k)),bG.2 (.inl rfl),hb⟩
  ·exact ⟨x,bG.2 (.inr hx),hb⟩
 refine ⟨⟨?_,?_,?_,r.slt,r.jC⟩,⟨rfl,rfl,rfl,Nat.le_refl _,fun n hn=>⟨hn,rfl⟩,fun n _ _=>⟨rfl,id⟩,fun n hn=>.inl ((hblk n).1 hn),fun _=>Nat.le_refl _⟩⟩
 ·have:=r.nodup
  simpa [List.flatMap_append,List.flatMap_cons,eb,Ob.more] using this
 ·intro x hx
  rcases bG.1 hx with rfl | hx
  ·obtain ⟨h0,h1,h2⟩:=r.holds (b,.arr sz xs) (bG.2 (.inl rfl))
   refine ⟨fun x hx=>h0 x (List.mem_of_mem_take hx),Nat.le_trans (by simp only [List.length_take];omega) h1,h2.imp id ?_⟩
   rintro ⟨n,vs,E,g1,g2,g3,g4⟩
   refine ⟨n,vs,E,g1,g2,g3,fun i c v hc hv=>?_⟩
   have hp:∃ t,flat xs=flat (xs.take k)++t:=⟨flat (xs.drop k),by
    show xs.flatMap AV.cells=(xs.take k).flatMap AV.cells++(xs.drop k).flatMap AV.cells
    rw [← List.flatMap_append,List.take_append_drop]⟩
   obtain ⟨t,ht⟩:=hp
   refine g4 i c v ?_ hv
   rw [ht,List.getElem?_append_left (List.getElem?_eq_some_iff.1 hc).1]
   exact hc
  ·exact r.holds x (bG.2 (.inr hx))
 ·intro x hx n hn
  rcases bG.1 hx with rfl | hx
  ·have:=r.sep (b,.arr sz xs) (bG.2 (.inl rfl)) n hn
   exact ⟨fun h=>(this.1 h).elim,fun h=>h.elim⟩
  ·exact r.sep x (bG.2 (.inr hx)) n hn
theorem ak.take {n k:Nat} {tm:List (Nat×AV)} {hp dG:Heap} {T:St→Prop} {b:Bk} {sz:Nat} {xs:List AV} (u:pB hp b (.arr sz xs) b (.arr sz (xs.take k)) dG) (kk:ak ⟨n,tm,dG⟩ T):ak ⟨n,tm,hp⟩ T:=by
 refine ak.step (CK:=⟨n,tm,dG⟩) (fun w S a r=>?_) kk
 obtain ⟨g1,g2⟩:=Ig r.hp u
 exact ⟨_,S,rfl,⟨r.size,r.defers,r.tm,g1⟩,g2⟩
section rules
variable {P:Program} {all:Array Oper} {rest:List Oper} {n:Nat} {tm:List (Nat×AV)} {hp:Heap} {Q:St→Prop} {d:Nat} {ty:TypeId} {pos:String} {af:Array Edge}
theorem zR {α:Type} {Xs V:List α} {L H:Int} (h:xm Xs L H=some V):V.length=H.toNat - L.toNat∧L.toNat+V.length≤Xs.length∧V=(Xs.drop L.toNat).take V.length:=by
 obtain ⟨⟨h0,h1,h2⟩,rfl⟩:=tF h
 have:((Xs.drop L.toNat).take (H.toNat - L.toNat)).length=H.toNat - L.toNat:=by simp;omega
 refine ⟨this,by rw [this];omega,by rw [this]⟩
theorem mW {α:Type} {Xs Zs:List α} {t e:TypeId} {i:TypeInfo} {x:Operand} {lo hi:Option Operand} {l h:Option Int} {sz:Nat} {b:Bk} {L H:Int} [aR P t (.slice e)] [bf P e i] (hx:dt tm x=some (.sl sz b 0 Xs.length)) (jH:Nat.beq i.size sz=true) (hl:PW tm lo l) (hh:PW tm hi h)
 (eL:sB l=L) (eH:rK Xs.length h=H) (hv:xm Xs L H=some Zs):QV P ⟨some d,.slice t x lo hi none,ty,pos,af,none⟩ ⟨n,tm,hp⟩ (.sl sz b L.toNat Zs.length):=by
 obtain ⟨⟨h0,h1,h2⟩,_⟩:=tF hv
 have hlen:=(zR hv).1
 subst eL;subst eH
 have:=Dn (P:=P) (d:=d) (ty:=ty) (pos:=pos) (af:=af) (n:=n) (tm:=tm) (hp:=hp) (t:=t) (e:=e) hx jH hl hh h0 h1 h2
 rw [Nat.zero_add] at this
 rw [hlen];exact this
theorem ak.NX {α:Type} {g:α→AV} {Xs V:List α} {H:Int} {T:St→Prop} {b:Bk} {sz:Nat} {dG:Heap} (hv:xm Xs 0 H=some V) (u:pB hp b (.arr sz (Xs.map g)) b (.arr sz (V.map g)) dG) (kk:ak ⟨n,tm,dG⟩ T):ak ⟨n,tm,hp⟩ T:=by
 refine ak.take (k:=V.length) (xs:=Xs.map g) (b:=b) (sz:=sz) ?_ kk
 rw [← List.map_take]
 have:=(zR hv).2.2
 simp only [Int.toNat_zero,List.drop_zero] at this
 rw [← this];exact u
end rules
inductive JX (hp:Heap):AV→AV→Prop
 | co {a a':AV} (c:Co hp a a'):JX hp a a'
 | agg (cs pC:List AV) (hl:pC.length=cs.length) (h:∀ (i:Nat) c c',cs[i]? =some c→pC[i]? =some c'→JX hp c c'):JX hp (.agg cs) (.agg pC)
 | lA (cs pC:List AV) (hl:pC.length=cs.length) (h:∀ (i:Nat) c c',cs[i]? =some c→pC[i]? =some c'→JX hp c c'):JX hp (.lA cs) (.lA pC)
 | list (sz:Nat) (xs ys:List AV) (hn:ys.length=xs.length) (hl:(flat ys).length=(flat xs).length) (he:∀ y∈ys,El sz y) (h:∀ (i:Nat) c c',(flat xs)[i]? =some c→(flat ys)[i]? =some c'→JX hp c c'):JX hp (.list sz xs) (.list sz ys)
inductive JY (hp:Heap):List AV→List AV→Prop
 | nil:JY hp [] []
 | cons {a a':AV} {l l':List AV} (c:JX hp a a') (k:JY hp l l'):JY hp (a :: l) (a' :: l')
theorem JY.each {hp:Heap}:∀ {l l':List AV},JY hp l l'→l'.length=l.length∧∀ (i:Nat) c c',l[i]? =some c→l'[i]? =some c'→JX hp c c'
 | [],_,.nil=>⟨rfl,fun i c c' h=>by simp at h⟩
 | _ :: _,_,.cons c k=>by
   obtain ⟨g1,g2⟩:=JY.each k
   refine ⟨by simp [g1],fun i c1 c2 h1 h2=>?_⟩
   match i with
   | 0=>simp at h1 h2;subst h1;subst h2;assumption
   | i+1=>exact g2 i c1 c2 (by simpa using h1) (by simpa using h2)
theorem JX.VZ {hp:Heap} {sz:Nat} {xs ys:List AV} (k:JY hp (flat xs) (flat ys)) (hn:Nat.beq ys.length xs.length=true) (he:zL sz ys=true):JX hp (.list sz xs) (.list sz ys):=
 .list sz xs ys (Nat.eq_of_beq_eq_true hn) k.each.1 (oX he) k.each.2
theorem JX.at {w:World} {S:Nat→Prop} {hp:Heap} {a a':AV} {v:Value} (c:JX hp a a') (r:du w S hp) (h:At w S a v):At w S a' v:=by
 induction c generalizing v with
 | co c=>exact c.at r h
 | agg cs pC hl _ ih=>
   cases h with
   | agg _ vs h1 h2=>
     refine .agg pC vs (by rw [hl,h1]) (fun i c v hc hv=>?_)
     have hi:i < cs.length:=by rw [← hl];exact (List.getElem?_eq_some_iff.1 hc).1
     exact ih i cs[i] c (by simp [hi]) hc (h2 i _ _ (by simp [hi]) hv)
 | lA cs pC hl _ ih=>
   cases h with
   | lA _ vs h1 h2=>
     refine .lA pC vs (by rw [hl,h1]) (fun i c v hc hv=>?_)
     have hi:i < cs.length:=by rw [← hl];exact (List.getElem?_eq_some_iff.1 hc).1
     exact ih i cs[i] c (by simp [hi]) hc (h2 i _ _ (by simp [hi]) hv)
 | list sz xs ys hn hl he _ ih=>
   cases h with
   | list _ _ a cap vs g1 g2 g3 g4 g5=>
     rw [← hn]
     refine .list sz ys a cap vs he (by rw [hl,g2]) (fun i c v hc hv=>?_) g4 (by rw [hn];exact g5)
     have hi:i < (flat xs).length:=by rw [← hl];exact (List.getElem?_eq_some_iff.1 hc).1
     exact ih i (flat xs)[i] c (by simp [hi]) hc (g3 i _ _ (by simp [hi]) hv)
theorem ak.cox {n s:Nat} {tm:List (Nat×AV)} {hp:Heap} {T:St→Prop} {av dF:AV} (hs:lk tm s=some av) (c:JX hp av dF) (k:ak ⟨n,(s,dF) :: tm,hp⟩ T):ak ⟨n,tm,hp⟩ T:=by
 refine ak.step (CK:=⟨n,(s,dF) :: tm,hp⟩) (fun w S a r=>⟨_,S,rfl,⟨r.size,r.defers,fun t av h=>?_,r.hp⟩,kT.refl _ _ _⟩) k
 simp only [lk] at h
 split at h
 ·rename_i hb
  obtain rfl:s=t:=by simpa using hb
  obtain rfl:=Option.some.inj h
  obtain ⟨v,h1,h2⟩:=r.tm s _ hs
  exact ⟨v,h1,c.at r.hp h2⟩
 ·exact r.tm t av h
def dm {R:Type} (n:Nat) (len:R→Nat) (x:Option R):Option R:=x.bind fun r=>if len r=n then some r else none
theorem gl {R:Type} {n:Nat} {len:R→Nat} {x:Option R} {r:R} (h:dm n len x=some r):x=some r:=by
 unfold dm at h
 cases x with
 | none=>cases h
 | some y=>
   simp only [Option.bind_some] at h
   split at h
   ·exact h
   ·cases h
theorem bO {R:Type} {n:Nat} {len:R→Nat} {x:Option R} {r:R} (h:dm n len x=some r):len r=n:=by
 unfold dm at h
 cases x with
 | none=>cases h
 | some y=>
   simp only [Option.bind_some] at h
   split at h
   ·rename_i hh;obtain rfl:=Option.some.inj h;exact hh
   ·cases h
def Tl {α:Type} (z:α) (l c:Int):Option (List α):=if 0≤l∧l≤c∧c≤1000000000 then some (List.replicate l.toNat z) else none
theorem DE {sz:Nat} {x:AV} (h:x.cells.length=sz):∀ (k i:Nat),i < k * sz→(flat (List.replicate k x))[i]? =x.cells[i % sz]?
 | 0,i,hi=>by simp at hi
 | k+1,i,hi=>by
   rw [List.replicate_succ,show flat (x :: List.replicate k x)=x.cells++flat (List.replicate k x) from rfl]
   by_cases lh:i < sz
   ·rw [List.getElem?_append_left (by omega),Nat.mod_eq_of_lt lh]
   ·rw [List.getElem?_append_right (by omega),h,DE h k (i - sz) (by rw [Nat.add_mul] at hi;omega)]
    rw [Nat.mod_eq_sub_mod (a:=i) (by omega)]
section rules
variable {P:Program} {all:Array Oper} {rest:List Oper} {n:Nat} {tm:List (Nat×AV)} {hp:Heap} {Q:St→Prop} {d:Nat} {ty:TypeId} {pos:String} {af:Array Edge}
theorem BM {α:Type} {g:α→AV} {Z:α} {Xs:List α} {t e:TypeId} {i:TypeInfo} {z:Value} {x y:Operand} {k k':IntKind} {l c:Int} {sz:Nat} [aR P t (.slice e)] [bf P e i] (hx:dt tm x=some (.int k l)) (hy:dt tm y=some (.int k' c)) (hz:i.zero=some z) (hg:EJ z=g Z) (hs:i.size=sz) (zK:UL sz (g Z)=true) (yY:Nat.blt 0 sz=true) (hb:Nat.ble i.bytes 65536=true)
 (hn:Nat.blt d n=true) (hm:Tl Z l c=some Xs) (kk:∀ b:Bk,ai P all rest ⟨n,(d,.sl sz b 0 Xs.length) :: tm,(b,.arr sz (Xs.map g)) :: hp⟩ Q):ai P all (⟨some d,.makeSlice t x y,ty,pos,af,none⟩ :: rest) ⟨n,tm,hp⟩ Q:=by
 subst hs
 have yY:0 < i.size:=Nat.lt_of_lt_of_le (Nat.lt_of_succ_le (Nat.le_of_ble_eq_true yY)) (Nat.le_refl _)
 have hb:=Nat.le_of_ble_eq_true hb
 unfold Tl at hm
 split at hm
 ·rename_i hc
  obtain rfl:=Option.some.inj hm
  obtain ⟨c0,c1,c2⟩:=hc
  refine ai.LD rfl fun w S a r=>?_
  have e1:=(bn (σ:=⟨n,tm,hp⟩) r hx).eh
  have e2:=(bn (σ:=⟨n,tm,hp⟩) r hy).eh
  have hE:=Di zK
  obtain ⟨hl,vl⟩:=pE w S z (by rw [hg];exact hE.2)
  rw [hg] at hl vl
  have Hx:z.cells.size=i.size:=by rw [← hl];exact hE.1
  obtain ⟨vs,VY⟩:∃ vs:Array Value,vs=(Array.range (c.toNat * i.size)).map (z.cells[· % z.cells.size]!):=⟨_,rfl⟩
  have jH:vs.size=c.toNat * i.size:=by rw [VY];simp
  have JW:∀ (j:Nat) (v:Value),vs[j]? =some v→z.cells[j % i.size]? =some v:=by
   intro j v hv
   rw [VY] at hv
   simp only [Array.getElem?_map,Option.map_eq_some_iff] at hv
   obtain ⟨q,hq,rfl⟩:=hv
   have:q=j:=by
    rw [Array.getElem?_eq_some_iff] at hq
    obtain ⟨h1,h2⟩:=hq
    simpa using h2.symm
   subst this
   rw [Hx]
   have lh:q % i.size < z.cells.size:=by rw [Hx];exact Nat.mod_lt _ yY
   simp [lh]
  have e0:=Ext.alloc w (.cells vs e)
  have YR:(List.replicate l.toNat Z).map g=List.replicate l.toNat (g Z):=by simp
  have hh:Holds (w.alloc (.cells vs e)) S ⟨some w.heap.size,c.toNat⟩ (.arr i.size ((List.replicate l.toNat Z).map g)):=by
   rw [YR]
   refine ⟨fun x hx=>by rw [List.eq_of_mem_replicate hx];exact hE,by simp;omega,.inr ⟨w.heap.size,vs,e,rfl,?_,jH,fun j cc v LU hv=>?_⟩⟩
   ·show (w.heap.push _)[w.heap.size]? =_
    simp
   ·have Ge:j < (flat (List.replicate l.toNat (g Z))).length:=(List.getElem?_eq_some_iff.1 LU).1
    rw [bQ (fun x hx=>by rw [List.eq_of_mem_replicate hx];exact hE)] at Ge
    rw [DE hE.1 _ _ (by simpa using Ge)] at LU
    exact (vl _ _ _ LU (JW j v hv)).mono fun m hm=>⟨hm,e0.same m (r.hp.slt m hm)⟩
  obtain ⟨k1,k2,k3⟩:=sW r.hp e0 id hh (.inr ⟨_,rfl,Nat.le_refl _⟩)
  refine ⟨.slice (some ⟨w.heap.size,0,none⟩) l.toNat c.toNat,w.alloc (.cells vs e),S,_,?_,(r.heap k3 k1).put hn ?_,k2,kk ⟨some w.heap.size,c.toNat⟩⟩
  ·have w1:IntKind.i64.wrap l=l:=AU ⟨by omega,by omega⟩
   have w2:IntKind.i64.wrap c=c:=AU ⟨by omega,by omega⟩
   have hbc:(i.bytes:Int) * c≤65536 * 1000000000:=Int.mul_le_mul (by omega) (by omega) (by omega) (by omega)
   have f1:decide (c < 0)=false:=decide_eq_false (by omega)
   have f2:decide (((i.bytes:Int) * c) > 2 ^ 48)=false:=decide_eq_false (by omega)
   have f3:decide (l < 0)=false:=decide_eq_false (by omega)
   have f4:decide (l > c)=false:=decide_eq_false (by omega)
   have xi:¬ c.toNat * i.bytes > roomBytes:=by
    have:c.toNat * i.bytes≤1000000000 * 65536:=Nat.mul_le_mul (by omega) hb
    unfold roomBytes;omega
   have a1:∀ (k:IntKind) (x:Int) (w:World),(asInt (.int k x)).run P w=.ok x w:=fun k x w=>by simp [asInt,asIntOf]
   simp only [execOp,Instr.makeSlice,Sem.run_bind,run_underlying (aR.h (P:=P) (t:=t)),Result.andThen_ok,e1,e2,a1,typeInfo,sizeOf,run_program,bf.h (P:=P) (t:=e),Sem.run_pure,w1,w2,f1,f2,f3,f4,Bool.or_self,Bool.false_eq_true,if_false,askRoom,if_neg xi]
   by_cases h0:c.toNat * i.size=0
   ·rw [if_pos h0]
    have hv0:vs=#[]:=by apply Array.eq_empty_of_size_eq_zero;omega
    simp only [Sem.run_bind,Sem.run_pure,Result.andThen_ok,h0,qI,hv0]
    rw [show Array.range 0=#[] from rfl]
    simp
   ·rw [if_neg h0]
    simp only [Sem.run_bind,Result.andThen_ok,Sem.run_pure,zeroValue,typeInfo,run_program,bf.h (P:=P) (t:=e),hz,qI,← VY]
  ·have:=At.sl (w:=w.alloc (.cells vs e)) (S:=S) i.size ⟨some w.heap.size,c.toNat⟩ 0 l.toNat w.heap.size c.toNat rfl (by omega) (by simp)
   simpa using this
 ·cases hm
end rules
end Go.Eng
set_option linter.unusedSimpArgs false
namespace Go.Eng
open Go Go.Sort Go.Proofs
variable [bI]
structure NY (P:Program) (f:FuncId) (k:Nat):Prop where
 some_:∀ (enc:Nat→List Value) (_:∀ x,(enc x).length=k) (_:∀ x,∀ v∈enc x,v.oneCell'=true) (cf:Nat→Nat→Int) (_:SWO (ltOf cf)) (g:Nat) (cb:Array Value) (cd off cap:Nat) (d:Array Nat) (w:World)
  (_:∀ args w,(callFunc g args).run P w=.ok (.enter g args) w) (_:CmpLays P g cb enc k cf cd off d.size w) (_:HoldsK enc k w cd off d) (_:cd < w.heap.size) (_:d.size < 4611686018427387904),
  Calls P f #[.slice (some ⟨cd,off,none⟩) d.size cap,.func (.func g) #[] cb] w fun e w'=>
   e=.returned (.tuple #[])∧∃ n os,w'=sortWorldK enc k w cd off n (pdq (ltOf cf) d 0 d.size (Lib.bitLen d.size) true true) os
 none_:∀ (p:Option Addr) (cap:Nat) (fv:Value) (w:World),Calls P f #[.slice p 0 cap,fv] w fun e w'=>e=.returned (.tuple #[])∧w'=w
def xj {α:Type} (x:α) (r:List α) (i:Nat):α:=(x :: r).getD i x
def yr {α:Type} (f:α→α→Option Int) (x:α) (r:List α) (i j:Nat):Int:=(f (xj x r i) (xj x r j)).getD 0
noncomputable def DF {α:Type} (f:α→α→Option Int):List α→Option (List α)
 | []=>some []
 | x :: r=>@ite _ (r.length+1 < 4611686018427387904∧(∀ a∈x :: r,∀ b∈x :: r,∃ u,f a b=some u)∧SWO (ltOf (yr f x r))) (Classical.propDecidable _)
     (some ((pdq (ltOf (yr f x r)) (Array.range (r.length+1)) 0 (r.length+1) (Lib.bitLen (r.length+1)) true true).toList.map (xj x r))) none
theorem DG {α:Type} (f:α→α→Option Int) (x:α) (r:List α):DF f (x :: r)=@ite _ (r.length+1 < 4611686018427387904∧(∀ a∈x :: r,∀ b∈x :: r,∃ u,f a b=some u)∧SWO (ltOf (yr f x r))) (Classical.propDecidable _)
 (some ((pdq (ltOf (yr f x r)) (Array.range (r.length+1)) 0 (r.length+1) (Lib.bitLen (r.length+1)) true true).toList.map (xj x r))) none:=rfl
theorem k8 {α:Type} (x:α) (r:List α) (i:Nat):xj x r i∈x :: r:=by
 unfold xj
 rw [List.getD_eq_getElem?_getD]
 rcases h:(x :: r)[i]? with _ | y
 ·simp
 ·exact List.mem_of_getElem? h
theorem zc (enc:Nat→List Value) (k:Nat) (w:World) (cd off m:Nat) (dk:Array Nat) (os:Array Obj) {n:Nat} (hn:n < w.heap.size) (wF:n≠cd):(sortWorldK enc k w cd off m dk os).heap[n]? =w.heap[n]?:=by
 unfold sortWorldK putRowK putRow
 rw [heap_grow_old _ _ (by simpa [mapBlock] using hn)]
 simp only [mapBlock,heap_ahead,Array.getElem?_modify]
 rw [if_neg (fun h=>wF h.symm)]
theorem DH (enc:Nat→List Value) (k:Nat) (w:World) (cd off m:Nat) (dk:Array Nat) (os:Array Obj):w.heap.size≤(sortWorldK enc k w cd off m dk os).heap.size:=by
 unfold sortWorldK putRowK
 simp
theorem L4 (enc:Nat→List Value) (k:Nat) (w:World) (cd m:Nat) (dk:Array Nat) (os:Array Obj) {vs:Array Value} {E:TypeId} (hb:w.heap[cd]? =some (.cells vs E (0,0))):(sortWorldK enc k w cd 0 m dk os).heap[cd]? =some (.cells (putCells id 0 (flatK enc k dk) vs) E (0,0)):=by
 have lh:cd < w.heap.size:=by
  rcases Nat.lt_or_ge cd w.heap.size with h | h
  ·exact h
  ·simp [Array.getElem?_eq_none h] at hb
 unfold sortWorldK putRowK putRow
 rw [heap_grow_old _ _ (by simpa [mapBlock] using lh)]
 simp only [mapBlock,heap_ahead,Array.getElem?_modify]
 rw [if_pos trivial,hb]
 rfl
theorem Ext.grown {w w':World} (hd:bI.dr) (e:Ext w w'):∃ q os,w'=grow (w.drewN q) os:=by
 refine ⟨w'.drawn - w.drawn,w'.heap.extract w.heap.size w'.heap.size,?_⟩
 obtain ⟨h',t',d',o',DI⟩:=w'
 have e1:=e.os;have e2:=e.tape;have e3:=e.output;have e4:=e.drawn hd;have e5:=e.size;have e6:=e.same
 simp only at e1 e2 e3 e4 e5 e6
 subst e1 e2 e3
 unfold grow World.drewN
 simp only [World.mk.injEq,and_true,true_and]
 refine ⟨?_,by omega⟩
 apply Array.ext_getElem?
 intro i
 by_cases hi:i < w.heap.size
 ·rw [e6 i hi,Array.getElem?_append_left hi]
 ·rw [Array.getElem?_append_right (by omega),Array.getElem?_extract]
  by_cases h2:i < h'.size
  ·rw [if_pos (by omega)]
   congr 1;omega
  ·rw [if_neg (by omega),Array.getElem?_eq_none (by omega)]
theorem DJ {P:Program} {T:Type} {g:T→AV} {f:FuncId} {k:Nat} (K:NY P f k) (Sh:Nat.blt 0 k=true) {gf:FuncId} [bD P gf] {C:List AV} {fn:T→T→Option Int} (V0:∀ {x y:T} {u:Int},fn x y=some u→@Pu oI P gf (g x :: g y :: C) (I u))
 (YS:∀ x,g x=.agg (g x).cells) {Xs Ys:List T} {b:Bk} (h:DF fn Xs=some Ys):aM P f [.sl k b 0 Xs.length,.func (.func gf) C] [(b,.arr k (Xs.map g))] (T0 [(b,.arr k (Ys.map g))] (.lA [])):=by
 have Sh:0 < k:=Nat.lt_of_lt_of_le (Nat.lt_of_succ_le (Nat.le_of_ble_eq_true Sh)) (Nat.le_refl _)
 intro w S vs r hl ha
 obtain ⟨v0,v1,rfl⟩:∃ v0 v1,vs=#[v0,v1]:=by
  match vs,hl with
  | ⟨[v0,v1]⟩,_=>exact ⟨v0,v1,rfl⟩
 have a0:=ha 0 _ v0 rfl rfl
 have a1:=ha 1 _ v1 rfl rfl
 obtain ⟨oa,cap,rfl,e2⟩:=a0.uZ
 obtain ⟨cv,rfl,Dh,hca⟩:=a1.zF
 match Xs,h with
 | [],h=>
   obtain rfl:=Option.some.inj h
   refine (K.none_ oa cap _ w).mono ?_
   rintro e w' ⟨rfl,rfl⟩
   exact ⟨_,.lA [],_,S,rfl,⟨rfl,rfl⟩,.lA [] #[] rfl (fun i c v hc=>by simp at hc),r,kT.refl _ _ _⟩
 | x :: xr,h=>
   rw [DG] at h
   by_cases hc:(xr.length+1 < 4611686018427387904∧(∀ a∈x :: xr,∀ b∈x :: xr,∃ u,fn a b=some u)∧SWO (ltOf (yr fn x xr)))
   ·rw [if_pos hc] at h
    obtain rfl:=Option.some.inj h
    obtain ⟨hlen,YT,hO⟩:=hc
    obtain ⟨h0,h1,h2⟩:=r.holds _ (List.mem_singleton.2 rfl)
    simp only [List.length_map,List.length_cons] at h1
    rcases h2 with ⟨_,Nq⟩ | ⟨m,row,E,hb,DB,jH,vl⟩
    ·have V1:b.cap=0:=Nq
     omega
    rcases e2 with ⟨hn,_,_,_,_⟩ | ⟨m',Ci,rfl,hle,YU⟩ | ⟨m',ad,_,_,UO,_⟩
    ·rw [hn] at hb;cases hb
    ·obtain rfl:m'=m:=by rw [Ci] at hb;exact Option.some.inj hb
     have Tm:m' < w.heap.size:=by
      rcases Nat.lt_or_ge m' w.heap.size with h | h
      ·exact h
      ·simp [Array.getElem?_eq_none h] at DB
     have nS:¬ S m':=fun hs=>by have:=(r.sep _ (List.mem_singleton.2 rfl) m' (lV hb)).1 hs;exact this
     let ix:Nat→Nat:=fun i=>if i < xr.length+1 then i else 0
     have XE:∀ i,ix i < xr.length+1:=fun i=>by simp only [ix];split<;>omega
     have YV:∀ i,(x :: xr)[ix i]? =some (xj x xr i):=by
      intro i
      simp only [ix,xj,List.getD_eq_getElem?_getD]
      split
      ·rename_i hi
       rw [List.getElem?_eq_getElem (by simpa using hi)];simp
      ·rename_i hi
       rw [List.getElem?_eq_none (l:=x :: xr) (i:=i) (by simp;omega)];simp
     have UQ:(xr.length+1) * k≤row.size:=by rw [jH];exact Nat.mul_le_mul_right k h1
     let enc:Nat→List Value:=fun i=>(row.toList.drop (ix i * k)).take k
     have QG:∀ i,(enc i).length=k:=by
      intro i
      have:ix i * k+k≤row.size:=by
       have:=Nat.mul_le_mul_right k (show ix i+1≤xr.length+1 from XE i)
       rw [Nat.add_mul,Nat.one_mul] at this
       omega
      simp only [enc,List.length_take,List.length_drop,Array.length_toList];omega
     have V2:∀ i j,j < k→(enc i)[j]? =row[ix i * k+j]?:=by
      intro i j hj
      simp only [enc,List.getElem?_take,if_pos hj,List.getElem?_drop,Array.getElem?_toList]
     have H8:∀ i j,j < k→(flat ((x :: xr).map g))[ix i * k+j]? =(g (xj x xr i)).cells[j]?:=by
      intro i j hj
      exact tA h0 (by rw [List.getElem?_map,YV i];rfl) j hj
     have Dh:∀ i,(g (xj x xr i)).cells.length=k:=fun i=>(h0 _ (List.mem_map.2 ⟨_,k8 x xr i,rfl⟩)).1
     have AX:∀ i,∀ c∈(g (xj x xr i)).cells,c.one=true:=fun i=>(h0 _ (List.mem_map.2 ⟨_,k8 x xr i,rfl⟩)).2
     have Tn:∀ i,mS w S (g (xj x xr i)).cells (enc i).toArray:=by
      intro i j c v hc hv
      have hj:j < k:=by rw [← Dh i];exact (List.getElem?_eq_some_iff.1 hc).1
      refine vl (ix i * k+j) c v (by rw [H8 i j hj];exact hc) ?_
      rw [← V2 i j hj]
      simpa using hv
     have YW:∀ i,∀ v∈enc i,v.oneCell'=true:=by
      intro i v hv
      obtain ⟨j,hj,rfl⟩:=List.getElem_of_mem hv
      have hjk:j < k:=by rw [QG i] at hj;exact hj
      have UT:j < (g (xj x xr i)).cells.length:=by rw [Dh i];exact hjk
      exact (Tn i j (g (xj x xr i)).cells[j] (enc i)[j] (by simp [UT]) (by simp [hj])).Nc (AX i _ (List.getElem_mem UT))
     have xn:∀ (d:Array Nat) (t:Nat),t < d.size * k→(flatK enc k d)[t]! =(enc d[t / k]!)[t % k]!:=fun d t ht=>get_flatK enc k d t ht
     have V3:HoldsK enc k w m' 0 (Array.range (xr.length+1)):=by
      intro j hj
      rw [size_flatK,Array.size_range] at hj
      have hdiv:j / k < xr.length+1:=(Nat.div_lt_iff_lt_mul Sh).2 hj
      have QH:j % k < k:=Nat.mod_lt _ Sh
      have QI:j < row.size:=by omega
      have e1:(flatK enc k (Array.range (xr.length+1)))[j]! =row[j]:=by
       rw [xn _ _ (by simpa using hj)]
       have:(Array.range (xr.length+1))[j / k]! =j / k:=by
        rw [getElem!_pos _ _ (by simpa using hdiv)];simp
       rw [this]
       have hv:=V2 (j / k) (j % k) QH
       have:ix (j / k)=j / k:=by simp only [ix];rw [if_pos hdiv]
       rw [this,Nat.div_add_mod'] at hv
       rw [Array.getElem?_eq_getElem QI] at hv
       rw [List.getElem!_eq_getElem?_getD,hv];rfl
      constructor
      ·simp only [World.cell?,DB,id,e1,Nat.zero_add,Option.isSome_none,Bool.false_eq_true,if_false]
       rw [Array.getElem?_eq_getElem QI]
      ·simp [World.frozen?,DB]
     have YX:CmpLays P gf cv enc k (yr fn x xr) m' 0 (Array.range (xr.length+1)).size w:=by
      intro mm os dk hdk i j
      obtain ⟨u,hu⟩:=YT _ (k8 x xr i) _ (k8 x xr j)
      have hW:∀ n,S n→S n∧(sortWorldK enc k w m' 0 mm dk os).heap[n]? =w.heap[n]?:=fun n hs=>
       ⟨hs,zc enc k w m' 0 mm dk os (r.slt n hs) (fun e=>nS (e▸hs))⟩
      have Si:mS (sortWorldK enc k w m' 0 mm dk os) S (g (xj x xr i) :: g (xj x xr j) :: C) (#[.agg (enc i).toArray,.agg (enc j).toArray]++cv):=by
       intro q c v hc hv
       have ag:∀ i,At (sortWorldK enc k w m' 0 mm dk os) S (g (xj x xr i)) (.agg (enc i).toArray):=fun i=>by
        rw [YS (xj x xr i)]
        exact .agg _ _ (by rw [Dh i];simp [QG i]) (fun a c v hc hv=>((Tn i) a c v hc hv).mono hW)
       match q with
       | 0=>
         rw [Array.getElem?_append_left (by simp)] at hv
         simp at hc hv;subst hc;subst hv;exact ag i
       | 1=>
         rw [Array.getElem?_append_left (by simp)] at hv
         simp at hc hv;subst hc;subst hv;exact ag j
       | q+2=>
         simp only [List.getElem?_cons_succ] at hc
         rw [Array.getElem?_append_right (by simp)] at hv
         simp only [List.size_toArray,List.length_cons,List.length_nil,Nat.add_sub_cancel] at hv
         exact (hca q c v hc (by simpa using hv)).mono hW
      refine (V0 hu _ S _ (@tE oI _ _ (fun n hn=>Nat.lt_of_lt_of_le (r.slt n hn) (DH _ _ _ _ _ _ _ _)) (fun g o ho=>⟨(r.jC g o ho).1,E4 (hW g (r.jC g o ho).1).2 (r.jC g o ho).2⟩)) (by simp [Dh,‹C.length=cv.size›];omega) Si).mono ?_
      rintro e w' ⟨v,rr,h',S',rfl,hq,h3,h4,h5⟩
      obtain rfl:=hq
      rw [h3.eh]
      refine ⟨?_,@Ext.grown oI _ _ trivial (@kT.Fc oI _ _ _ _ _ h5)⟩
      unfold yr
      rw [hu];rfl
     have XF:(Array.range (xr.length+1)).size=xr.length+1:=Array.size_range
     have Sj:=K.some_ enc QG YW (yr fn x xr) hO gf cv m' 0 cap (Array.range (xr.length+1)) w (fun args w=>vP gf args w) YX V3 Tm (by rw [XF];exact hlen)
     rw [XF] at Sj
     simp only [Nat.zero_mul]
     refine Sj.mono ?_
     rintro e w' ⟨rfl,q,os,rfl⟩
     have V4:=pdq_sorts (ltOf (yr fn x xr)) hO (Array.range (xr.length+1)) 0 (xr.length+1) (Lib.bitLen (xr.length+1)) true true (Nat.zero_le _) (by rw [XF];exact Nat.le_refl _) (Or.inl rfl)
     generalize BL:pdq (ltOf (yr fn x xr)) (Array.range (xr.length+1)) 0 (xr.length+1) (Lib.bitLen (xr.length+1)) true true=d' at V4 ⊢
     have QJ:d'.size=xr.length+1:=by rw [V4.1.1,XF]
     have hW:∀ n,S n→S n∧(sortWorldK enc k w m' 0 q d' os).heap[n]? =w.heap[n]?:=fun n hs=>
      ⟨hs,zc enc k w m' 0 q d' os (r.slt n hs) (fun e=>nS (e▸hs))⟩
     have Tp:∀ y∈(d'.toList.map (xj x xr)).map g,El k y:=by
      intro y hy
      simp only [List.mem_map] at hy
      obtain ⟨z,⟨i,_,rfl⟩,rfl⟩:=hy
      exact h0 _ (List.mem_map.2 ⟨_,k8 x xr i,rfl⟩)
     have hh:Go.Eng.Holds (sortWorldK enc k w m' 0 q d' os) S b (.arr k ((d'.toList.map (xj x xr)).map g)):=by
      refine ⟨Tp,by simp [QJ];omega,.inr ⟨m',_,E,hb,L4 enc k w m' q d' os DB,by simp [putCells,jH],?_⟩⟩
      intro j c v hc hv
      have Ge:j < (xr.length+1) * k:=by
       have:=(List.getElem?_eq_some_iff.1 hc).1
       rw [bQ Tp] at this
       simpa [QJ] using this
      have hdiv:j / k < xr.length+1:=(Nat.div_lt_iff_lt_mul Sh).2 Ge
      have QH:j % k < k:=Nat.mod_lt _ Sh
      have QI:j < row.size:=by omega
      have hdj:(d'.toList.map (xj x xr))[j / k]? =some (xj x xr d'[j / k]!):=by
       rw [List.getElem?_map,Array.getElem?_toList,Array.getElem?_eq_getElem (by omega),getElem!_pos d' (j / k) (by omega)];rfl
      have Qf:(g (xj x xr d'[j / k]!)).cells[j % k]? =some c:=by
       rw [← tA (sz:=k) Tp (i:=j / k) (x:=g (xj x xr d'[j / k]!)) (by rw [List.getElem?_map,hdj];rfl) (j % k) QH,Nat.div_add_mod']
       exact hc
      have YY:(enc d'[j / k]!)[j % k]? =some v:=by
       simp only [putCells,Array.getElem?_mapIdx,Array.getElem?_eq_getElem QI,Option.map_some,Option.some.injEq] at hv
       rw [if_pos ⟨Nat.zero_le _,by rw [size_flatK,QJ];omega⟩,Nat.sub_zero,xn d' j (by rw [QJ];exact Ge)] at hv
       have lh:j % k < (enc d'[j / k]!).length:=by rw [QG];exact QH
       rw [List.getElem?_eq_getElem lh,← hv]
       simp only [id,getElem!_pos (enc d'[j / k]!) (j % k) lh]
      exact (Tn _ _ _ _ Qf (by simpa using YY)).mono hW
     have NZ:=DH enc k w m' 0 q d' os
     refine ⟨_,.lA [],_,S,rfl,⟨rfl,rfl⟩,.lA [] #[] rfl (fun i c v hc=>by simp at hc),⟨r.nodup,fun e he=>by rw [List.mem_singleton] at he;subst he;exact hh,fun e he n hn=>?_,fun n hn=>Nat.lt_of_lt_of_le (r.slt n hn) NZ,fun g o ho=>⟨(r.jC g o ho).1,E4 (hW g (r.jC g o ho).1).2 (r.jC g o ho).2⟩⟩,?_⟩
     ·rw [List.mem_singleton] at he;subst he
      replace hn:=(xb rfl).1 hn
      rw [hb] at hn
      obtain rfl:=Option.some.inj hn
      exact ⟨fun hs=>(nS hs).elim,fun hf=>hf.elim⟩
     ·refine ⟨rfl,rfl,rfl,NZ,hW,fun n hn YZ=>⟨zc enc k w m' 0 q d' os hn (fun e=>YZ ⟨_,List.mem_singleton.2 rfl,by rw [e];exact lV hb⟩),id⟩,?_,?_⟩
      ·rintro n ⟨e,he,wE⟩
       rw [List.mem_singleton] at he;subst he
       exact .inl ⟨_,List.mem_singleton.2 rfl,wE⟩
      ·intro _
       show w.drawn≤(sortWorldK enc k w m' 0 q d' os).drawn
       show w.drawn≤w.drawn+q
       omega
    ·simp at UO
   ·rw [if_neg hc] at h;cases h
end Go.Eng
namespace Go.Eng
open Go
variable [bI]
def vU {α:Type} (xs:List α) (L:Int) (n:Nat) (j:Int):Option α:=if 0≤L∧0≤j∧j < n then idx xs (L+j) else none
theorem qL {α:Type} {xs:List α} {L:Int} {n:Nat} {j:Int} {x:α} (h:vU xs L n j=some x):(0≤L∧0≤j∧j < n)∧idx xs (L+j)=some x:=by
 unfold vU at h
 split at h
 ·rename_i hc;exact ⟨hc,h⟩
 ·cases h
def Fm {α:Type} (xs:List α) (L:Int) (n:Nat) (z:α):List α:=xs.take L.toNat++List.replicate n z++xs.drop (L.toNat+n)
theorem vV {α:Type} {xs v:List α} {L H:Int} {z:α} (h:xm xs L H=some v):(Fm xs L v.length z).length=xs.length:=by
 obtain ⟨⟨h0,h1,h2⟩,_⟩:=tF h
 have:=(zR h).1
 unfold Fm
 simp only [List.length_append,List.length_take,List.length_replicate,List.length_drop]
 omega
section rules
variable {P:Program} {all:Array Oper} {rest:List Oper} {n:Nat} {tm:List (Nat×AV)} {hp:Heap} {Q:St→Prop} {d:Nat} {ty:TypeId} {pos:String} {af:Array Edge}
theorem pb {α:Type} {Xs:List α} {el:α} {t e:TypeId} {i:TypeInfo} {x y:Operand} {k:IntKind} {j L:Int} {sz m:Nat} {b:Bk} [aR P t (.slice e)] [bf P e i] (hx:dt tm x=some (.sl sz b L.toNat m)) (jH:Nat.beq i.size sz=true) (hy:dt tm y=some (.int k j))
 (hv:vU Xs L m j=some el):QV P ⟨some d,.indexAddr t x y,ty,pos,af,none⟩ ⟨n,tm,hp⟩ (.qp sz b (L+j).toNat 0):=by
 obtain ⟨⟨h0,h1,h2⟩,h3⟩:=qL hv
 have h:=yZ (P:=P) (d:=d) (ty:=ty) (pos:=pos) (af:=af) (n:=n) (tm:=tm) (hp:=hp) (t:=t) (e:=e) hx jH hy ⟨h1,h2⟩
 rw [show (L+j).toNat=L.toNat+j.toNat by omega]
 exact h
theorem Fo {x:Operand} {t e:TypeId} {sz off len:Nat} {b:Bk} [aR P t (.slice e)] (hx:dt tm x=some (.sl sz b off len)):QV P ⟨some d,.call {callee:=.builtin .len,args:=#[x],argTypes:=#[t]},ty,pos,af,none⟩ ⟨n,tm,hp⟩ (.int .i64 (len:Nat)):=tB hx
theorem QK {t e:TypeId} {i:TypeInfo} {z:Value} {x:Operand} {b:Bk} {L N sz:Nat} {xs:List AV} {zx:AV} {dG:Heap} [aR P t (.slice e)] [bf P e i] (hx:dt tm x=some (.sl sz b L N)) (hz:i.zero=some z) (UU:EJ z=zx) (jH:Nat.beq i.size sz=true) (zK:UL sz zx=true) (yY:Nat.blt 0 sz=true) (hL:L+N≤xs.length)
 (u:pB hp b (.arr sz xs) b (.arr sz (xs.take L++List.replicate N zx++xs.drop (L+N))) dG) (kk:ai P all rest ⟨n,tm,dG⟩ Q):
 ai P all (⟨none,.call {callee:=.builtin .clear,args:=#[x],argTypes:=#[t]},ty,pos,af,none⟩ :: rest) ⟨n,tm,hp⟩ Q:=by
 have jH:=Nat.eq_of_beq_eq_true jH
 have yY:0 < sz:=Nat.lt_of_lt_of_le (Nat.lt_of_succ_le (Nat.le_of_ble_eq_true yY)) (Nat.le_refl _)
 have hE:=Di zK
 refine ai.LD rfl fun w S a r=>?_
 obtain ⟨oa,cap,e1,e2⟩:=(bn (σ:=⟨n,tm,hp⟩) r hx).uZ
 rcases Nat.eq_zero_or_pos N with h0 | h0
 ·subst h0
  have Fp:xs.take L++List.replicate 0 zx++xs.drop (L+0)=xs:=by simp
  rw [Fp] at u
  obtain ⟨p,q,Tq,Y0⟩:=u.split
  obtain rfl:dG=hp:=by rw [Tq,Y0]
  refine ⟨.tuple #[],w,S,⟨n,tm,dG⟩,?_,r,kT.refl _ _ _,kk⟩
  cases oa<;>simp [execOp,e1,resolve,invoke,builtin,Builtin.clear_,run_underlying (aR.h (P:=P) (t:=t))]
 ·rcases e2 with ⟨_,_,hl,_,_⟩ | ⟨m,hb,rfl,h1,h2⟩ | ⟨_,_,_,_,hl,_⟩
  ·omega
  ·obtain ⟨g0,g1,⟨g2,_⟩ | ⟨m',vs,E,g2,g3,g4,g5⟩⟩:=qH r.hp (.inl u.nO)
   ·rw [g2] at hb;cases hb
   obtain rfl:m'=m:=by rw [g2] at hb;exact Option.some.inj hb
   obtain ⟨zl,zat⟩:=pE w S z (by rw [UU];exact hE.2)
   rw [UU] at zl zat
   have Hx:z.cells.size=sz:=by rw [← zl];exact hE.1
   have XG:∀ y∈List.replicate N zx,El sz y:=fun y hy=>by rw [List.eq_of_mem_replicate hy];exact hE
   have Qh:(Builtin.zeroCells z.cells N).size=N * sz:=by rw [size_zeroCells,Hx]
   have R6:(flat (List.replicate N zx)).length=(Builtin.zeroCells z.cells N).size:=by rw [bQ XG,Qh];simp
   have V5:mS w S (flat (List.replicate N zx)) (Builtin.zeroCells z.cells N):=by
    intro j c v hc hv
    have hj:j < N * sz:=by
     have:=(List.getElem?_eq_some_iff.1 hc).1
     rw [bQ XG] at this;simpa using this
    rw [DE hE.1 N j hj] at hc
    refine zat (j % sz) c v hc ?_
    unfold Builtin.zeroCells at hv
    simp only [Array.getElem?_map,Option.map_eq_some_iff] at hv
    obtain ⟨q,hq,rfl⟩:=hv
    have:q=j:=by
     rw [Array.getElem?_eq_some_iff] at hq
     obtain ⟨k1,k2⟩:=hq
     simpa using k2.symm
    subst this
    rw [Hx]
    have lh:q % sz < z.cells.size:=by rw [Hx];exact Nat.mod_lt _ yY
    simp [lh]
   have AX:=xg R6 V5 (fun c hc=>by
    unfold flat at hc
    rw [List.mem_flatMap] at hc
    obtain ⟨y,hy,hcy⟩:=hc
    exact (XG y hy).2 c hcy)
   have Jz:=bQ g0
   have hmul:(L+N) * sz≤xs.length * sz:=Nat.mul_le_mul_right _ hL
   have NG:xs.length * sz≤b.cap * sz:=Nat.mul_le_mul_right _ g1
   rw [Nat.add_mul] at hmul
   have yX:=run_storeCells_at (P:=P) m' (L * sz) E (Builtin.zeroCells z.cells N).toList 0 vs w g3 (by simp [Qh];omega) AX
   simp only [Nat.add_zero] at yX
   have H8:flat (xs.take L++List.replicate N zx++xs.drop (L+N))=(flat xs).take (L * sz)++flat (List.replicate N zx)++(flat xs).drop (L * sz+(flat (List.replicate N zx)).length):=by
    rw [mT,mT,AZ xs L g0,AY xs (L+N) g0,R6,Qh,Nat.add_mul]
   have Dz:=fun (w':World) (ha:mS w' S (flat xs) vs) (hb:mS w' S (flat (List.replicate N zx)) (Builtin.zeroCells z.cells N))=>KI (L * sz) (by rw [Jz,g4];exact NG) ha R6 hb (by rw [R6,Qh,Jz];omega)
   have NH:(vs.toList.take (L * sz)++(Builtin.zeroCells z.cells N).toList++vs.toList.drop (L * sz+(Builtin.zeroCells z.cells N).toList.length)).toArray.size=b.cap * sz:=by
    simp [Qh];omega
   generalize (vs.toList.take (L * sz)++(Builtin.zeroCells z.cells N).toList++vs.toList.drop (L * sz+(Builtin.zeroCells z.cells N).toList.length)).toArray=E6 at yX Dz NH
   have c:GB w (w.setRow m' E6) b.cd:=⟨⟨rfl,rfl,rfl,by simp,fun k hk wF=>setRow_other w m' k _ (fun e=>wF (by rw [g2,e]))⟩,fun _=>Nat.le_refl _⟩
   have k1:∀ n,S n→S n∧(w.setRow m' E6).heap[n]? =w.heap[n]?:=by
    intro k hk
    refine ⟨hk,setRow_other w m' k _ (fun e=>?_)⟩
    subst e
    exact (r.hp.sep _ u.nO.mem k (lV g2)).1 hk
   have hh:=qY r.hp u c id id ⟨fun y hy=>?_,by simp;omega,.inr ⟨m',E6,E,g2,setRow_heap w m' vs _ E _ g3,NH,by rw [H8];exact Dz _ (g5.mono k1) (V5.mono k1)⟩⟩ (.inl rfl)
   ·refine ⟨.tuple #[],w.setRow m' E6,S,⟨n,tm,dG⟩,?_,r.heap hh.2.2 hh.1,hh.2.1,kk⟩
    obtain ⟨N',rfl⟩:∃ k,N=k+1:=⟨N - 1,by omega⟩
    simp [execOp,e1,resolve,invoke,builtin,Builtin.clear_,run_underlying (aR.h (P:=P) (t:=t)),zeroValue,typeInfo,bf.h (P:=P) (t:=e),hz,yX]
   ·rcases List.mem_append.1 hy with h | h
    ·rcases List.mem_append.1 h with h | h
     ·exact g0 y (List.mem_of_mem_take h)
     ·exact XG y h
    ·exact g0 y (List.mem_of_mem_drop h)
  ·omega
theorem Gv {α:Type} {g:α→AV} {Z:α} {Xs V:List α} {H:Int} {t e:TypeId} {i:TypeInfo} {z:Value} {x:Operand} {b:Bk} {L:Int} {sz:Nat} {dG:Heap} [aR P t (.slice e)] [bf P e i] (hx:dt tm x=some (.sl sz b L.toNat V.length)) (hz:i.zero=some z) (UU:EJ z=g Z) (jH:Nat.beq i.size sz=true) (zK:UL sz (g Z)=true) (yY:Nat.blt 0 sz=true) (hv:xm Xs L H=some V)
 (u:pB hp b (.arr sz (Xs.map g)) b (.arr sz ((Fm Xs L V.length Z).map g)) dG) (kk:ai P all rest ⟨n,tm,dG⟩ Q):
 ai P all (⟨none,.call {callee:=.builtin .clear,args:=#[x],argTypes:=#[t]},ty,pos,af,none⟩ :: rest) ⟨n,tm,hp⟩ Q:=by
 obtain ⟨⟨h0,h1,h2⟩,_⟩:=tF hv
 have hlen:=(zR hv).1
 refine QK (xs:=Xs.map g) hx hz UU jH zK yY (by simp;omega) ?_ kk
 have:(Fm Xs L V.length Z).map g=(Xs.map g).take L.toNat++List.replicate V.length (g Z)++(Xs.map g).drop (L.toNat+V.length):=by
  unfold Fm
  simp
 rw [← this]
 exact u
end rules
end Go.Eng
namespace Go.Eng
open Go Go.Sort Go.Proofs
variable [bI]
structure KT {α:Type} [Inhabited α] (P:Program) (f:FuncId) (enc:α→Value) (Cp:List α→List α):Prop where
 some_:∀ (cd off cap:Nat) (zs:List α) (w:World),Sort.Holds enc w cd off zs.toArray→cd < w.heap.size→zs.length < 4611686018427387904→Calls P f #[.slice (some ⟨cd,off,none⟩) zs.length cap] w fun e w'=>
  e=.returned (.tuple #[])∧∃ n os,w'=grow (putRow enc (Sort.ahead w n) cd off (Cp zs).toArray) os
 none_:∀ (p:Option Addr) (cap:Nat) (w:World),Calls P f #[.slice p 0 cap] w fun e w'=>e=.returned (.tuple #[])∧w'=w
def BN {α:Type} (Cp:List α→List α) (xs:List α):Option (List α):=if xs.length < 4611686018427387904 then some (Cp xs) else none
theorem Fq {α:Type} [Inhabited α] (enc:α→Value) (w:World) (cd off m:Nat) (dk:Array α) (os:Array Obj) {n:Nat} (hn:n < w.heap.size) (wF:n≠cd):(grow (putRow enc (Sort.ahead w m) cd off dk) os).heap[n]? =w.heap[n]?:=by
 unfold putRow
 rw [heap_grow_old _ _ (by simpa [mapBlock] using hn)]
 simp only [mapBlock,heap_ahead,Array.getElem?_modify]
 rw [if_neg (fun h=>wF h.symm)]
theorem N0 {α:Type} [Inhabited α] (enc:α→Value) (w:World) (cd m:Nat) (dk:Array α) (os:Array Obj) {vs:Array Value} {E:TypeId} (hb:w.heap[cd]? =some (.cells vs E (0,0))):(grow (putRow enc (Sort.ahead w m) cd 0 dk) os).heap[cd]? =some (.cells (putCells enc 0 dk vs) E (0,0)):=by
 have lh:cd < w.heap.size:=by
  rcases Nat.lt_or_ge cd w.heap.size with h | h
  ·exact h
  ·simp [Array.getElem?_eq_none h] at hb
 unfold putRow
 rw [heap_grow_old _ _ (by simpa [mapBlock] using lh)]
 simp only [mapBlock,heap_ahead,Array.getElem?_modify]
 rw [if_pos trivial,hb]
 rfl
theorem A2 {α:Type} {g:α→AV} (hc:∀ x,(g x).cells=[g x]):∀ xs:List α,flat (xs.map g)=xs.map g
 | []=>rfl
 | x :: r=>by rw [List.map_cons,jD,hc,A2 hc r];rfl
theorem BO {P:Program} {α:Type} [Inhabited α] {f:FuncId} {enc:α→Value} {Cp:List α→List α} (K:KT P f enc Cp) {g:α→AV} (hg:∀ {w:World} {S:Nat→Prop} {x:α} {v:Value},At w S (g x) v→v=enc x) (Y1:∀ (w:World) (S:Nat→Prop) (x:α),At w S (g x) (enc x)) (hc:∀ x,(g x).cells=[g x])
 (hlen:∀ xs,(Cp xs).length=xs.length) (AX:∀ x,(g x).one=true) {Xs Ys:List α} {b:Bk} (h:BN Cp Xs=some Ys):aM P f [.sl 1 b 0 Xs.length] [(b,.arr 1 (Xs.map g))] (T0 [(b,.arr 1 (Ys.map g))] (.lA [])):=by
 unfold BN at h
 split at h
 ·rename_i jH
  obtain rfl:=Option.some.inj h
  intro w S vs r hl ha
  obtain ⟨v0,rfl⟩:∃ v0,vs=#[v0]:=by
   match vs,hl with
   | ⟨[v0]⟩,_=>exact ⟨v0,rfl⟩
  have a0:=ha 0 _ v0 rfl rfl
  obtain ⟨oa,cap,rfl,e2⟩:=a0.uZ
  have Tp:∀ (zs:List α),∀ y∈zs.map g,El 1 y:=by
   intro zs y hy
   obtain ⟨x,_,rfl⟩:=List.mem_map.1 hy
   exact ⟨by rw [hc];rfl,fun c LU=>by rw [hc] at LU;rw [List.mem_singleton.1 LU];exact AX x⟩
  have S9:Xs.length=0→Cp Xs=Xs:=fun h0=>by
   have h1:=hlen Xs
   have e1:Xs=[]:=List.eq_nil_of_length_eq_zero h0
   rw [e1]
   apply List.eq_nil_of_length_eq_zero
   rw [hlen];rfl
  rcases Nat.eq_zero_or_pos Xs.length with h0 | h0
  ·have hK:=K.none_ oa cap w
   rw [← h0] at hK
   refine hK.mono ?_
   rintro e w' ⟨rfl,rfl⟩
   rw [S9 h0]
   exact ⟨_,.lA [],_,S,rfl,⟨rfl,rfl⟩,.lA [] #[] rfl (fun i c v hc=>by simp at hc),r,kT.refl _ _ _⟩
  ·obtain ⟨_,h1,h2⟩:=r.holds _ (List.mem_singleton.2 rfl)
   simp only [List.length_map] at h1
   rcases h2 with ⟨_,Nq⟩ | ⟨m,row,E,hb,DB,UQ,vl⟩
   ·have V1:b.cap=0:=Nq
    omega
   rcases e2 with ⟨hn,_,_,_,_⟩ | ⟨m',Ci,rfl,hle,YU⟩ | ⟨m',ad,_,_,UO,_⟩
   ·rw [hn] at hb;cases hb
   ·obtain rfl:m'=m:=by rw [Ci] at hb;exact Option.some.inj hb
    have Tm:m' < w.heap.size:=by
     rcases Nat.lt_or_ge m' w.heap.size with h | h
     ·exact h
     ·simp [Array.getElem?_eq_none h] at DB
    have nS:¬ S m':=fun hs=>by have:=(r.sep _ (List.mem_singleton.2 rfl) m' (lV hb)).1 hs;exact this
    have afE:row.size=b.cap:=by rw [UQ];exact Nat.mul_one _
    rw [A2 hc] at vl
    have hH:Sort.Holds enc w m' 0 Xs.toArray:=by
     intro j hj
     have M3:j < Xs.length:=by simpa using hj
     have QI:j < row.size:=by omega
     have hv:=hg (vl j (g Xs[j]) row[j] (by simp [M3]) (by simp [QI]))
     constructor
     ·simp only [World.cell?,DB,Nat.zero_add,Option.isSome_none,Bool.false_eq_true,if_false]
      rw [Array.getElem?_eq_getElem QI,hv]
      simp [M3]
     ·simp [World.frozen?,DB]
    simp only [Nat.zero_mul]
    refine (K.some_ m' 0 cap Xs w hH Tm jH).mono ?_
    rintro e w' ⟨rfl,q,os,rfl⟩
    have hW:∀ n,S n→S n∧(grow (putRow enc (Sort.ahead w q) m' 0 (Cp Xs).toArray) os).heap[n]? =w.heap[n]?:=fun n hs=>
     ⟨hs,Fq enc w m' 0 q _ os (r.slt n hs) (fun e=>nS (e▸hs))⟩
    have NZ:w.heap.size≤(grow (putRow enc (Sort.ahead w q) m' 0 (Cp Xs).toArray) os).heap.size:=by simp
    have Tr:=hlen Xs
    have hh:Go.Eng.Holds (grow (putRow enc (Sort.ahead w q) m' 0 (Cp Xs).toArray) os) S b (.arr 1 ((Cp Xs).map g)):=by
     refine ⟨Tp _,by simp;omega,.inr ⟨m',_,E,hb,N0 enc w m' q _ os DB,by simp [putCells,UQ],?_⟩⟩
     rw [A2 hc]
     intro j c v UT hv
     have Ge:j < (Cp Xs).length:=by have:=(List.getElem?_eq_some_iff.1 UT).1;simpa using this
     have QI:j < row.size:=by omega
     rw [List.getElem?_map,List.getElem?_eq_getElem Ge] at UT
     obtain rfl:=Option.some.inj UT
     simp only [putCells,Array.getElem?_mapIdx,Array.getElem?_eq_getElem QI,Option.map_some,Option.some.injEq] at hv
     rw [if_pos ⟨Nat.zero_le _,by simp;omega⟩] at hv
     rw [← hv]
     have:(Cp Xs).toArray[j - 0]! =(Cp Xs)[j]:=by simp [Ge]
     rw [this]
     exact Y1 _ _ _
    refine ⟨_,.lA [],_,S,rfl,⟨rfl,rfl⟩,.lA [] #[] rfl (fun i c v hc=>by simp at hc),⟨r.nodup,fun e he=>by rw [List.mem_singleton] at he;subst he;exact hh,fun e he n hn=>?_,fun n hn=>Nat.lt_of_lt_of_le (r.slt n hn) NZ,fun g o ho=>⟨(r.jC g o ho).1,E4 (hW g (r.jC g o ho).1).2 (r.jC g o ho).2⟩⟩,?_⟩
    ·rw [List.mem_singleton] at he;subst he
     replace hn:=(xb rfl).1 hn
     rw [hb] at hn
     obtain rfl:=Option.some.inj hn
     exact ⟨fun hs=>(nS hs).elim,fun hf=>hf.elim⟩
    ·refine ⟨rfl,rfl,rfl,NZ,hW,fun n hn YZ=>⟨Fq enc w m' 0 q _ os hn (fun e=>YZ ⟨_,List.mem_singleton.2 rfl,by rw [e];exact lV hb⟩),id⟩,?_,?_⟩
     ·rintro n ⟨e,he,wE⟩
      rw [List.mem_singleton] at he;subst he
      exact .inl ⟨_,List.mem_singleton.2 rfl,wE⟩
     ·intro _
      show w.drawn≤w.drawn+q
      omega
   ·omega
 ·cases h
def zd (xs:List Int):List Int:=xs.mergeSort fun x y=>decide (x≤y)
def DK (xs:List (List UInt8)):List (List UInt8):=xs.mergeSort fun x y=>decide (x≤y)
theorem Ih {P:Program} {f:FuncId} (K:KT P f (Value.int .i64) zd) {Xs Ys:List Int} {b:Bk} (h:BN zd Xs=some Ys):aM P f [.sl 1 b 0 Xs.length] [(b,.arr 1 (Xs.map I))] (T0 [(b,.arr 1 (Ys.map I))] (.lA [])):=
 BO K (g:=I) (fun h=>h.eh) (fun w S x=>.int _ _) (fun _=>rfl) (fun xs=>List.length_mergeSort _) (fun _=>rfl) h
end Go.Eng
namespace Go.Eng
open Go
variable [bI]
def AV.N1:AV→Bool
 | .sl _ _ _ _=>true
 | .ptr _ _=>true
 | .agg cs=>HU cs
 | v=>v.Gh
def L5:List AV→Bool
 | []=>true
 | c :: r=>c.N1&&L5 r
def AV.V6:AV→Bool
 | .lA cs=>L5 cs
 | .agg cs=>L5 cs
 | v=>v.N1
theorem CN {w:World} {S S':Nat→Prop} {av:AV} {v:Value} (h:At w S av v) (hn:av.N1=true):At w S' av v:=by
 cases h with
 | agg cs vs hl h=>exact .agg cs vs hl fun i c u hc hu=>xk (h i c u hc hu) (xl hn c (List.mem_of_getElem? hc))
 | sl sz b off len n cap hb h1 h2=>exact .sl sz b off len n cap hb h1 h2
 | Dd sz b hb=>exact .Dd sz b hb
 | Qa sz b off n ad hb=>exact .Qa sz b off n ad hb
 | ptr b o n hb=>exact .ptr b o n hb
 | int k n=>exact .int k n
 | bool b=>exact .bool b
 | str s=>exact .str s
 | nil=>exact .nil
 | raw v=>exact .raw v
 | _=>simp [AV.N1,AV.Gh] at hn
theorem zS:∀ {cs:List AV},L5 cs=true→∀ c∈cs,c.N1=true
 | [],_,c,hc=>by simp at hc
 | x :: r,h,c,hc=>by
   simp only [L5,Bool.and_eq_true] at h
   rcases List.mem_cons.1 hc with rfl | hc
   ·exact h.1
   ·exact zS h.2 c hc
theorem Ts {w:World} {S S':Nat→Prop} {av:AV} {v:Value} (h:At w S av v) (hn:av.V6=true):At w S' av v:=by
 cases av with
 | lA cs=>
   cases h with
   | lA _ vs hl h=>exact .lA cs vs hl fun i c u hc hu=>CN (h i c u hc hu) (zS hn c (List.mem_of_getElem? hc))
 | agg cs=>
   cases h with
   | agg _ vs hl h=>exact .agg cs vs hl fun i c u hc hu=>CN (h i c u hc hu) (zS hn c (List.mem_of_getElem? hc))
 | _=>exact CN h hn
def Ob.BP:Ob→Prop
 | .cells cs=>L5 cs=true
 | .arr _ xs=>∀ x∈xs,HU x.cells=true
 | _=>False
inductive JZ:Heap→Prop
 | nil:JZ []
 | cons {b:Bk} {o:Ob} {h:Heap} (c:o.BP) (k:JZ h):JZ ((b,o) :: h)
theorem JZ.mem {h:Heap} (k:JZ h):∀ e∈h,e.2.BP:=by
 induction k with
 | nil=>intro e he;simp at he
 | cons c k ih=>
   intro e he
   rcases List.mem_cons.1 he with rfl | he
   ·exact c
   ·exact ih e he
theorem BP.gq {α:Type} {g:α→AV} {sz:Nat} {Xs:List α} (h:∀ x,HU (g x).cells=true):(Ob.arr sz (Xs.map g)).BP:=fun x hx=>by
 obtain ⟨y,_,rfl⟩:=List.mem_map.1 hx
 exact h y
theorem Holds.V6 {w:World} {S S':Nat→Prop} {b:Bk} {o:Ob} (h:Holds w S b o) (hn:o.BP):Holds w S' b o:=by
 cases o with
 | cells cs=>
   obtain ⟨h0,n,vs,E,h1,h2,h3,h4⟩:=h
   exact ⟨h0,n,vs,E,h1,h2,h3,fun i c v hc hv=>CN (h4 i c v hc hv) (zS hn c (List.mem_of_getElem? hc))⟩
 | arr sz xs=>
   obtain ⟨h0,h1,h2⟩:=h
   refine ⟨h0,h1,h2.imp id ?_⟩
   rintro ⟨n,vs,E,g1,g2,g3,g4⟩
   refine ⟨n,vs,E,g1,g2,g3,fun i c v hc hv=>xk (g4 i c v hc hv) ?_⟩
   have hm:=List.mem_of_getElem? hc
   unfold flat at hm
   rw [List.mem_flatMap] at hm
   obtain ⟨x,hx,Yq⟩:=hm
   exact xl (hn x hx) c Yq
 | AL _ _=>exact hn.elim
 | mp _=>exact hn.elim
 | Ch _ _=>exact hn.elim
 | Vv _ _ _=>exact hn.elim
 | Bz _ _ _=>exact hn.elim
 | da _=>exact hn.elim
 | UG _ _ _ _=>exact hn.elim
 | Vw _ _=>exact hn.elim
 | Vx _=>exact hn.elim
section rules
variable {P:Program} {all:Array Oper} {rest:List Oper} {n:Nat} {tm:List (Nat×AV)} {hp:Heap} {Q:St→Prop} {d:Nat} {ty:TypeId} {pos:String} {af:Array Edge}
theorem QL {f:FuncId} {args:List Operand} {ts:Array TypeId} {l l':List AV} {h0 hr:Heap} {Qc:AV→Heap→Prop} [bD P f] (hl:BB tm args=some l) (c:aM P f l' h0 Qc) (co:u6 hr l l') (hs:hp.Perm (h0++hr)) (hn:Nat.blt d n=true)
 (kk:∀ r h',Qc r h'→r.V6=true∧JZ h'∧ai P all rest ⟨n,(d,r) :: tm,h'++hr⟩ Q):ai P all (⟨some d,.call {callee:=.value (.func f),args:=args.toArray,argTypes:=ts},ty,pos,af,none⟩ :: rest) ⟨n,tm,hp⟩ Q:=by
 refine ai.HN rfl fun w S a r=>⟨f,_,oe a w,?_⟩
 obtain ⟨g1,g2⟩:=rJ (σ:=⟨n,tm,hp⟩) r hl
 have rp:=r.hp.perm hs
 have Tt:du w S hr:=rp.sub (List.sublist_append_right _ _)
 have Sk:du w S h0:=rp.sub (List.sublist_append_left _ _)
 obtain ⟨g3,g4⟩:=u6.at Tt co g1 g2
 have Tu:∀ m,Has h0 m→¬ Has hr m:=by
  rintro m ⟨x,hx,QM⟩ ⟨y,hy,hym⟩
  have:=rp.nodup
  rw [List.flatMap_append,List.nodup_append] at this
  exact this.2.2 m (List.mem_flatMap.2 ⟨x,hx,QM⟩) m (List.mem_flatMap.2 ⟨y,hy,hym⟩) rfl
 have rh:du w (SB S hr) h0:=by
  refine ⟨Sk.nodup,fun e he=>(Sk.holds e he).mono (fun m hm=>⟨.inl hm,rfl⟩) (fun m _=>rfl),fun e he m hm=>?_,fun m hm=>?_,fun g o ho=>⟨.inl (Sk.jC g o ho).1,(Sk.jC g o ho).2⟩⟩
  ·constructor
   ·rintro (h | h)
    ·exact (Sk.sep e he m hm).1 h
    ·exact (Tu m ⟨e,he,hm⟩ h).elim
   ·exact fun h=>.inl ((Sk.sep e he m hm).2 h)
  ·rcases hm with h | h
   ·exact Sk.slt m h
   ·exact Tt.lt h
 refine (c w (SB S hr) _ rh (by simpa using g3) g4).mono ?_
 rintro e w' ⟨v,res,h',S',rfl,hq,h3,h4,h5⟩
 obtain ⟨k1,k2,k3⟩:=kk res h' hq
 have Y2:∀ m,S m→(S' m∧(Has hr m→S m))∧w'.heap[m]? =w.heap[m]?:=fun m hm=>⟨⟨(h5.keep m (.inl hm)).1,fun _=>hm⟩,(h5.keep m (.inl hm)).2⟩
 have A0:du w' (fun m=>S' m∧(Has hr m→S m)) (h'++hr):=by
  refine ⟨?_,?_,?_,fun m hm=>h4.slt m hm.1,fun g o ho=>⟨⟨(h4.jC g o ho).1,fun _=>(Sk.jC g o ho).1⟩,(h4.jC g o ho).2⟩⟩
  ·rw [List.flatMap_append,List.nodup_append]
   refine ⟨h4.nodup,Tt.nodup,fun x hx y hy Jy=>?_⟩
   subst Jy
   obtain ⟨e1,SX,Nl⟩:=List.mem_flatMap.1 hx
   obtain ⟨e2,Nd,L6⟩:=List.mem_flatMap.1 hy
   rcases h5.new x ⟨e1,SX,Nl⟩ with h | h
   ·exact Tu x h ⟨e2,Nd,L6⟩
   ·have:=Tt.lt ⟨e2,Nd,L6⟩;omega
  ·intro e he
   rcases List.mem_append.1 he with he | he
   ·exact (h4.holds e he).V6 (k2.mem e he)
   ·exact (Tt.holds e he).mono Y2 (fun m hm=>(h5.keep m (.inr ⟨e,he,hm⟩)).2)
  ·intro e he m hm
   rcases List.mem_append.1 he with he | he
   ·rw [← h4.sep e he m hm]
    refine ⟨fun h=>h.1,fun h=>⟨h,fun hh=>?_⟩⟩
    rcases h5.new m ⟨e,he,hm⟩ with h6 | h6
    ·exact (Tu m h6 hh).elim
    ·have:=Tt.lt hh;omega
   ·rw [← Tt.sep e he m hm]
    exact ⟨fun h=>h.2 ⟨e,he,hm⟩,fun h=>⟨(h5.keep m (.inl h)).1,fun _=>h⟩⟩
 have QN:∀ m,Has hp m↔Has h0 m∨Has hr m:=by
  intro m
  constructor
  ·rintro ⟨x,hx,hb⟩
   rcases List.mem_append.1 (hs.mem_iff.1 hx) with h | h
   ·exact .inl ⟨x,h,hb⟩
   ·exact .inr ⟨x,h,hb⟩
  ·rintro (⟨x,hx,hb⟩ | ⟨x,hx,hb⟩)
   ·exact ⟨x,hs.mem_iff.2 (List.mem_append_left _ hx),hb⟩
   ·exact ⟨x,hs.mem_iff.2 (List.mem_append_right _ hx),hb⟩
 refine ⟨v,fun m=>S' m∧(Has hr m→S m),⟨n,(d,res) :: tm,h'++hr⟩,rfl,(r.heap Y2 A0).put hn (Ts h3 k1),?_,k3⟩
 refine ⟨h5.os,h5.tape,h5.output,h5.size,Y2,fun m hm hh=>?_,fun m hm=>?_,h5.drawn⟩
 ·have n0:¬ Has h0 m:=fun h=>hh ((QN m).2 (.inl h))
  have nr:¬ Has hr m:=fun h=>hh ((QN m).2 (.inr h))
  obtain ⟨q1,q2⟩:=h5.other m hm n0
  refine ⟨q1,fun h=>?_⟩
  rcases q2 h.1 with h | h
  ·exact h
  ·exact (nr h).elim
 ·obtain ⟨x,hx,hb⟩:=hm
  rcases List.mem_append.1 hx with hx | hx
  ·rcases h5.new m ⟨x,hx,hb⟩ with h | h
   ·exact .inl ((QN m).2 (.inl h))
   ·exact .inr h
  ·exact .inl ((QN m).2 (.inr ⟨x,hx,hb⟩))
theorem fO {Dy:Type} {f:FuncId} {args:List Operand} {ts:Array TypeId} {l l':List AV} {h0 hr:Heap} {H H':Dy→Heap} {V:Dy→AV} [bD P f] (hl:BB tm args=some l) (c:aM P f l' h0 (T1 H V)) (hs:KN hp h0 hr) (co:u6 hr l l') (ha:∀ b,uC (H b) hr=some (H' b)) (hV:∀ b,(V b).V6=true) (hH:∀ b,JZ (H b)) (hn:Nat.blt d n=true)
 (kk:∀ b,ai P all rest ⟨n,(d,V b) :: tm,H' b⟩ Q):ai P all (⟨some d,.call {callee:=.value (.func f),args:=args.toArray,argTypes:=ts},ty,pos,af,none⟩ :: rest) ⟨n,tm,hp⟩ Q:=
 QL hl c co hs.perm hn (fun r h' ⟨b,e1,e2⟩=>by subst e1;subst e2;rw [pJ (ha b)];exact ⟨hV b,hH b,kk b⟩)
end rules
class zD (K:Type) where
 lt:K→K→Bool
instance:zD Int:=⟨fun a b=>decide (a < b)⟩
instance:zD Bool:=⟨fun a b=>!a&&b⟩
instance:zD (List UInt8):=⟨fun a b=>Op.bytesLess a b⟩
section plain
variable {K V:Type}
def lJ [DecidableEq K] (m:List (K×V)) (k:K):List (K×V):=m.filter (fun e=>decide (e.1≠k))
def yu [zD K] (k:K) (v:V):List (K×V)→List (K×V)
 | []=>[(k,v)]
 | e :: r=>if zD.lt e.1 k=true then e :: yu k v r else (k,v) :: e :: r
def rP [DecidableEq K] [zD K] (m:List (K×V)) (k:K) (v:V):List (K×V):=yu k v (lJ m k)
def ca [DecidableEq K]:List (K×V)→K→Option V
 | [],_=>none
 | e :: r,k=>if e.1=k then some e.2 else ca r k
def vu [DecidableEq K] (m:List (K×V)) (k:K) (z:V):Option V:=some ((ca m k).getD z)
def KU [DecidableEq K] (m:List (K×V)) (k:K) (z:V):Option (V×Bool):=some ((ca m k).getD z,(ca m k).isSome)
theorem vv [zD K] (k:K) (v:V):∀ (m:List (K×V)),(yu k v m).Perm ((k,v) :: m)
 | []=>List.Perm.refl _
 | e :: r=>by
   unfold yu
   split
   ·exact (List.Perm.cons e (vv k v r)).trans (List.Perm.swap _ _ _)
   ·exact List.Perm.refl _
theorem vW {α β:Type} (f:α→β):∀ (l:List β) (M:List α),l.Perm (M.map f)→∃ M':List α,M'.Perm M∧l=M'.map f
 | [],M,h=>by
   have:=h.nil_eq
   rw [eq_comm,List.map_eq_nil_iff] at this
   subst this;exact ⟨[],List.Perm.refl _,rfl⟩
 | x :: t,M,h=>by
   have hx:x∈M.map f:=h.mem_iff.1 (by simp)
   obtain ⟨e,he,rfl⟩:=List.mem_map.1 hx
   obtain ⟨p,q,rfl⟩:=List.append_of_mem he
   have h2:(f e :: t).Perm (f e :: (p++q).map f):=h.trans (by rw [List.map_append,List.map_cons,List.map_append];exact List.perm_middle)
   obtain ⟨M',h3,rfl⟩:=vW f t (p++q) (List.Perm.cons_inv h2)
   exact ⟨e :: M',(List.Perm.cons e h3).trans List.perm_middle.symm,rfl⟩
theorem DL [DecidableEq K] {k:K} {v:V}:∀ {m:List (K×V)},ca m k=some v→(k,v)∈m
 | [],h=>by cases h
 | e :: r,h=>by
   unfold ca at h
   split at h
   ·rename_i hk
    obtain rfl:=Option.some.inj h
    subst hk;simp
   ·exact List.mem_cons_of_mem _ (DL h)
theorem xo [DecidableEq K] {k:K} {v:V}:∀ {m:List (K×V)},(m.map Prod.fst).Nodup→(k,v)∈m→ca m k=some v
 | [],_,h=>by simp at h
 | e :: r,hn,h=>by
   rw [List.map_cons,List.nodup_cons] at hn
   unfold ca
   rcases List.mem_cons.1 h with rfl | h
   ·simp
   ·rw [if_neg (fun hk=>hn.1 (List.mem_map.2 ⟨_,h,hk.symm⟩))]
    exact xo hn.2 h
theorem qM [DecidableEq K] {k:K}:∀ {m:List (K×V)},ca m k=none↔∀ e∈m,e.1≠k
 | []=>by simp [ca]
 | e :: r=>by
   unfold ca
   split
   ·rename_i hk;simp [hk]
   ·rename_i hk
    rw [qM (m:=r)]
    simp [hk]
theorem A3 [DecidableEq K] {m m':List (K×V)} (hp:m'.Perm m) (hn:(m'.map Prod.fst).Nodup) (k:K):ca m' k=ca m k:=by
 have VW:(m.map Prod.fst).Nodup:=(hp.map _).nodup_iff.1 hn
 cases h:ca m' k with
 | none=>
   symm
   rw [qM] at h ⊢
   exact fun e he=>h e (hp.mem_iff.2 he)
 | some v=>exact (xo VW (hp.mem_iff.1 (DL h))).symm
theorem A4 [DecidableEq K] {m:List (K×V)} {k:K} (h:ca m k=none):lJ m k=m:=by
 rw [qM] at h
 unfold lJ
 exact List.filter_eq_self.2 fun e he=>by simpa using h e he
end plain
noncomputable def xp {E A:Type} (es:List E) (g:List E→Option A):Option A:=
 open Classical in if h:∃ r,∀ p,p.Perm es→g p=some r then some h.choose else none
theorem J0 {E A:Type} {es:List E} {g:List E→Option A} {r:A} (h:xp es g=some r):∀ p,p.Perm es→g p=some r:=by
 unfold xp at h
 split at h
 ·rename_i hx
  obtain rfl:=Option.some.inj h
  exact hx.choose_spec
 ·cases h
theorem N2 {E A:Type} {es:List E} {g:List E→Option A} {r:A} (h:∀ p,p.Perm es→g p=some r):xp es g=some r:=by
 unfold xp
 have hx:∃ r,∀ p,p.Perm es→g p=some r:=⟨r,h⟩
 rw [dif_pos hx]
 have:=hx.choose_spec es (List.Perm.refl _)
 rw [h es (List.Perm.refl _)] at this
 exact this.symm
def qE {E S A:Type} (b:E→S→Option (S⊕A)) (f:S→Option A):List E→S→Option A
 | [],s=>f s
 | e :: p,s=>(b e s).bind (after (qE b f p))
theorem KV {E S A:Type} {b:E→S→Option (S⊕A)} {f:S→Option A} {rest lj:List E} {e:E} {s:S} {a:A} (h:∀ p,p.Perm rest→qE b f p s=some a) (hp:rest.Perm (e :: lj)):
 ∃ z,b e s=some z∧(∀ y,z=.inl y→∀ p,p.Perm lj→qE b f p y=some a)∧∀ a',z=.inr a'→a'=a:=by
 have h1:=h (e :: lj) hp.symm
 unfold qE at h1
 obtain ⟨z,hz,h2⟩:=NA h1
 refine ⟨z,hz,fun y hy p hq=>?_,fun a' ha=>?_⟩
 ·have h3:=h (e :: p) ((List.Perm.cons e hq).trans hp.symm)
  unfold qE at h3
  rw [hz,hy] at h3
  exact h3
 ·rw [ha] at h2
  exact Option.some.inj h2
theorem QO {E S A:Type} {b:E→S→Option (S⊕A)} {f:S→Option A} {rest:List E} {s:S} {a:A} (h:∀ p,p.Perm rest→qE b f p s=some a) (hn:rest=[]):f s=some a:=by
 subst hn;exact h [] (List.Perm.refl _)
theorem ab.CO {P:Program} {R:St→Prop} {k:List It} {σ:St} {body:Code} {E S A:Type} (b:E→S→Option (S⊕A)) (f:S→Option A) (mk:List E→S→St→Prop) {a:A} {KW:List E} {s0:S} (h:xp KW (fun p=>qE b f p s0)=some a) (h0:ak σ (mk KW s0))
 (hs:∀ rest s σ (J:St→Prop),mk rest s σ→(∀ p,p.Perm rest→qE b f p s=some a)→(∀ lj s' aL,lj.length < rest.length→(∀ p,p.Perm lj→qE b f p s'=some a)→ak aL (mk lj s')→J aL)→ab P R (.code body :: .stop J :: k) σ):
 ab P R (.code (.loop body) :: k) σ:=by
 refine ab.R7 (fun m σ=>∃ rest s,rest.length=m∧(∀ p,p.Perm rest→qE b f p s=some a)∧mk rest s σ) KW.length (h0.mono fun aL YH=>⟨KW,s0,rfl,J0 h,YH⟩) ?_
 rintro m CK ⟨rest,s,hm,hH,cT⟩
 refine hs rest s CK _ cT hH (fun lj s' aL hl Tv hi=>⟨lj.length,by omega,hi.mono fun JN hk=>⟨lj,s',rfl,Tv,hk⟩⟩)
def DM {K:Type} [DecidableEq K] (k:K):List K→List MapEntry→Nat→Option (Nat×Value)
 | k' :: ks,e :: es,i=>if k'=k then some (i,e.val) else DM k ks es (i+1)
 | _,_,_=>none
class nB (P:Program) (t:TypeId) {K:Type} [DecidableEq K] (g:K→AV):Prop where
 inj:∀ a b,g a=g b→a=b
 check:∀ {w:World} {S:Nat→Prop} {k:K} {v:Value},At w S (g k) v→∀ (b:Bool) (w1:World),(Instr.checkKey b 10000 t v).run P w1=.ok () w1
 find:∀ {w:World} {S:Nat→Prop} {k:K} {v:Value},At w S (g k) v→∀ (es:List MapEntry) (ks:List K),ks.length=es.length→(∀ (i:Nat) k' e,ks[i]? =some k'→es[i]? =some e→At w S (g k') e.key)→∀ w1:World,(Instr.findKey t v es).run P w1=.ok (DM k ks es 0) w1
 bits:∀ {w:World} {S:Nat→Prop} {k:K} {v u:Value},At w S (g k) v→At w S (g k) u→Instr.sameBits 10000 v u=true
theorem yc {K:Type} [DecidableEq K] {d:TypeDesc} {v:Value} {k:K} {q:K→Value→Prop} (hq:∀ k' u,q k' u→Instr.sameNow d v u=some (decide (k'=k))):∀ (es:List MapEntry) (ks:List K) (i:Nat),ks.length=es.length→(∀ (i:Nat) k' e,ks[i]? =some k'→es[i]? =some e→q k' e.key)→Instr.findNow d v es i=some (DM k ks es i)
 | [],[],i,_,_=>rfl
 | [],k' :: ks,i,hl,_=>by simp at hl
 | e :: es,[],i,hl,_=>by simp at hl
 | e :: es,k' :: ks,i,hl,h=>by
   unfold Instr.findNow DM
   rw [hq k' e.key (h 0 k' e rfl rfl)]
   by_cases hk:k'=k
   ·simp [hk]
   ·simp only [hk,decide_false,if_false]
    exact yc hq es ks (i+1) (by simpa using hl) (fun i k' e h1 h2=>h (i+1) k' e (by simpa using h1) (by simpa using h2))
theorem N3 (a b:ByteArray):((a==b)=true)↔a=b:=by
 cases a with
 | mk a=>
   cases b with
   | mk b=>
     show (a==b)=true↔_
     rw [beq_iff_eq]
     exact ⟨fun h=>by rw [h],fun h=>by cases h;rfl⟩
theorem nB.int {P:Program} {t:TypeId} {q:IntKind} (h:P.underlying t=some (.int q)):nB P t (K:=Int) (fun n=>AV.int q n) where
 inj a b h:=by simpa using h
 check:=fun {w S k v} hv b w1=>by
  rw [hv.eh]
  have key:∀ n:Nat,(Instr.checkKey b (n+1) t (Value.int q k)).run P w1=.ok () w1:=fun n=>by simp [Instr.checkKey,run_underlying h]
  exact key 9999
 find:=fun {w S k v} hv es ks hl hk w1=>by
  rw [hv.eh]
  have hf:=yc (d:=(.int q)) (v:=(Value.int q k)) (k:=k) (q:=fun k' u=>u=(Value.int q k')) (fun k' u hu=>by subst hu;simp only [Instr.sameNow,if_true];congr 1;rw [Bool.eq_iff_iff];simp;exact eq_comm) es ks 0 hl (fun i k' e h1 h2=>(hk i k' e h1 h2).eh)
  simp [Instr.findKey,run_underlying h,hf]
 bits:=fun {w S k v u} h1 h2=>by rw [h1.eh,h2.eh];simp [Instr.sameBits]
theorem nB.bool {P:Program} {t:TypeId} (h:P.underlying t=some .bool):nB P t (K:=Bool) AV.bool where
 inj a b h:=by simpa using h
 check:=fun {w S k v} hv b w1=>by
  rw [hv.pD]
  have key:∀ n:Nat,(Instr.checkKey b (n+1) t (Value.bool k)).run P w1=.ok () w1:=fun n=>by simp [Instr.checkKey,run_underlying h]
  exact key 9999
 find:=fun {w S k v} hv es ks hl hk w1=>by
  rw [hv.pD]
  have hf:=yc (d:=.bool) (v:=(Value.bool k)) (k:=k) (q:=fun k' u=>u=(Value.bool k')) (fun k' u hu=>by subst hu;simp only [Instr.sameNow];congr 1;rw [Bool.eq_iff_iff];simp;exact eq_comm) es ks 0 hl (fun i k' e h1 h2=>(hk i k' e h1 h2).pD)
  simp [Instr.findKey,run_underlying h,hf]
 bits:=fun {w S k v u} h1 h2=>by rw [h1.pD,h2.pD];simp [Instr.sameBits]
theorem nB.str {P:Program} {t:TypeId} (h:P.underlying t=some .string):nB P t (K:=List UInt8) AV.str where
 inj a b h:=by simpa using h
 check:=fun {w S k v} hv b w1=>by
  rw [hv.iF]
  have key:∀ n:Nat,(Instr.checkKey b (n+1) t (Value.string ⟨k.toArray⟩)).run P w1=.ok () w1:=fun n=>by simp [Instr.checkKey,run_underlying h]
  exact key 9999
 find:=fun {w S k v} hv es ks hl hk w1=>by
  rw [hv.iF]
  have hf:=yc (d:=.string) (v:=(Value.string ⟨k.toArray⟩)) (k:=k) (q:=fun k' u=>u=(Value.string ⟨k'.toArray⟩)) (fun k' u hu=>by subst hu;simp only [Instr.sameNow];congr 1;rw [Bool.eq_iff_iff,N3];simp;exact eq_comm) es ks 0 hl (fun i k' e h1 h2=>(hk i k' e h1 h2).iF)
  simp [Instr.findKey,run_underlying h,hf]
 bits:=fun {w S k v u} h1 h2=>by rw [h1.iF,h2.iF];simp only [Instr.sameBits];exact (N3 _ _).2 rfl
instance {P:Program} {t:TypeId} [h:aR P t (.int .i64)]:nB P t (K:=Int) I:=nB.int h.h
instance {P:Program} {t:TypeId} [h:aR P t .bool]:nB P t (K:=Bool) AV.bool:=nB.bool h.h
instance {P:Program} {t:TypeId} [h:aR P t .string]:nB P t (K:=List UInt8) AV.str:=nB.str h.h
theorem lK {P:Program} {w:World} {r:Nat} {es:Array MapEntry} {c:Nat} (h:w.heap[r]? =some (.map es c)):(getObj r).run P w=.ok (.map es c) w:=by
 simp only [getObj,Sem.run,h]
theorem BQ {P:Program} {w:World} {r:Nat} {m:Option Nat} {a b:Nat} {s:Array Nat} (h:w.heap[r]? =some (.mapIter m a s b)):(getObj r).run P w=.ok (.mapIter m a s b) w:=by
 simp only [getObj,Sem.run,h]
def yv (w:World) (r:Nat) (o:Obj):World:={w with heap:=w.heap.setIfInBounds r o}
theorem DN {P:Program} {w:World} {r:Nat} {es:Array MapEntry} {c:Nat} (o:Obj) (h:w.heap[r]? =some (.map es c)):(setObj r o).run P w=.ok () (yv w r o):=by
 simp only [setObj,Sem.run,h];rfl
theorem Ii {P:Program} {w:World} {r:Nat} {m:Option Nat} {a b:Nat} {s:Array Nat} (o:Obj) (h:w.heap[r]? =some (.mapIter m a s b)):(setObj r o).run P w=.ok () (yv w r o):=by
 simp only [setObj,Sem.run,h];rfl
theorem A5 {w:World} {r:Nat} {o o':Obj} (h:w.heap[r]? =some o'):(yv w r o).heap[r]? =some o:=by
 have lh:r < w.heap.size:=(Array.getElem?_eq_some_iff.1 h).1
 simp [yv,Array.getElem?_setIfInBounds,lh]
theorem DO {w:World} {r k:Nat} {o:Obj} (h:k≠r):(yv w r o).heap[k]? =w.heap[k]?:=by
 simp [yv,Array.getElem?_setIfInBounds,Ne.symm h]
theorem QP {w:World} {r:Nat} {o:Obj} {x:Option Nat} (hx:x=some r):GB w (yv w r o) x:=
 ⟨⟨rfl,rfl,rfl,by simp [yv],fun k hk wF=>DO (fun e=>wF (by rw [hx,e]))⟩,fun _=>Nat.le_refl _⟩
theorem CP (w:World) (x:Option Nat):GB w w x:=⟨⟨rfl,rfl,rfl,Nat.le_refl _,fun _ _ _=>rfl⟩,fun _=>Nat.le_refl _⟩
theorem Ext.heap {w w':World} {n:Nat} {o:Obj} (e:Ext w w') (h:w.heap[n]? =some o):w'.heap[n]? =some o:=by
 rw [e.same n (Array.getElem?_eq_some_iff.1 h).1];exact h
theorem At.zT {w:World} {S:Nat→Prop} {b:Bk} {v:Value} (h:At w S (.ph b) v):∃ n,b.cd=some n∧v=.map (some n):=by cases h with | ph _ n hb=>exact ⟨n,hb,rfl⟩
theorem Tw (w:World) (S:Nat→Prop) (z:Value) (h1:mB (EJ z).cells=true):At w S (EJ z) z:=by
 by_cases hz:∃ cs,z=.agg cs
 ·obtain ⟨cs,rfl⟩:=hz
  obtain ⟨h2,h3⟩:=pE w S (.agg cs) (ec h1)
  exact .agg _ _ h2 h3
 ·have Qh:EJ z=RU z:=by
   cases z<;>first | rfl | (exact (hz ⟨_,rfl⟩).elim)
  rw [Qh];exact F6 w S z
theorem zU {K V:Type} {gk:K→AV} {gv:V→AV} {w:World} {S:Nat→Prop} {hp:Heap} {b:Bk} {M:List (K×V)} (Ij:∀ a b,gk a=gk b→a=b) (r:du w S hp) (f:nU hp b (.mp (M.map fun e=>(gk e.1,gv e.2)))):
 ∃ (L:List nA) (c:Nat) (M':List (K×V)) (n:Nat) (gy:Array MapEntry),M'.Perm M∧L.map nA.kv=M'.map (fun e=>(gk e.1,gv e.2))∧vM w S b L c∧b.cd=some n∧w.heap[n]? =some (.map gy c)∧gy.toList.length=M'.length∧
   (∀ (i:Nat) e m,M'[i]? =some e→gy.toList[i]? =some m→At w S (gk e.1) m.key∧At w S (gv e.2) m.val)∧(M'.map Prod.fst).Nodup:=by
 obtain ⟨L,c,nP,hH⟩:=r.holds _ f.mem
 obtain ⟨M',h1,h2⟩:=vW _ _ _ nP
 have Tv:=hH
 obtain ⟨n,gy,g1,g2,g3,g4,g5,g6,g7⟩:=hH
 have hlen:L.length=M'.length:=by have:=congrArg List.length h2;simpa using this
 refine ⟨L,c,M',n,gy,h1,h2,Tv,g1,g2,by rw [Array.length_toList,g3,hlen],fun i e m he hm=>?_,?_⟩
 ·have:(L.map nA.kv)[i]? =some (gk e.1,gv e.2):=by rw [h2,List.getElem?_map,he];rfl
  rw [List.getElem?_map] at this
  cases hL:L[i]? with
  | none=>rw [hL] at this;cases this
  | some x=>
    rw [hL] at this
    have hx:(x.k,x.v)=(gk e.1,gv e.2):=Option.some.inj this
    obtain ⟨q1,q2⟩:=Prod.mk.inj hx
    have:=g4 i x m hL (by simpa using hm)
    rw [q1,q2] at this
    exact this.2
 ·have hk:L.map (·.k)=(M'.map Prod.fst).map gk:=by
   have:=congrArg (List.map Prod.fst) h2
   simpa [List.map_map,Function.comp_def,nA.kv] using this
  rw [hk] at g7
  exact (List.pairwise_map.1 g7).imp (fun h e=>h (by rw [e]))
theorem Ik {α:Type} {l:List α} {j:Nat} {x:α} (h:l[j]? =some x):l.set j x=l:=by
 apply List.ext_getElem?
 intro i
 rw [List.getElem?_set]
 by_cases BI:j=i
 ·subst BI
  have:=(List.getElem?_eq_some_iff.1 h).1
  rw [if_pos rfl,if_pos this,h]
 ·simp [BI]
theorem CQ {K V:Type} [DecidableEq K] {gv:V→AV} {w:World} {S:Nat→Prop} {k:K}:∀ (M:List (K×V)) (es:List MapEntry) (i:Nat),M.length=es.length→(∀ (j:Nat) e m,M[j]? =some e→es[j]? =some m→At w S (gv e.2) m.val)→
 (ca M k=none∧DM k (M.map Prod.fst) es i=none)∨∃ v j val,ca M k=some v∧DM k (M.map Prod.fst) es i=some (i+j,val)∧At w S (gv v) val∧M[j]? =some (k,v)
 | [],[],i,_,_=>.inl ⟨rfl,rfl⟩
 | [],m :: es,i,hl,_=>by simp at hl
 | e :: M,[],i,hl,_=>by simp at hl
 | e :: M,m :: es,i,hl,h=>by
   unfold ca
   simp only [List.map_cons,DM]
   by_cases hk:e.1=k
   ·simp only [hk,if_true]
    refine .inr ⟨e.2,0,m.val,rfl,rfl,h 0 e m rfl rfl,?_⟩
    subst hk;rfl
   ·simp only [hk,if_false]
    rcases CQ M es (i+1) (by simpa using hl) (fun j e' m' h1 h2=>h (j+1) e' m' (by simpa using h1) (by simpa using h2)) with ⟨h1,h2⟩ | ⟨v,j,val,h1,h2,h3,h4⟩
    ·exact .inl ⟨h1,h2⟩
    ·exact .inr ⟨v,j+1,val,h1,by rw [h2];congr 2;omega,h3,by simpa using h4⟩
section rules
variable {P:Program} {all:Array Oper} {rest:List Oper} {n:Nat} {tm:List (Nat×AV)} {hp:Heap} {Q:St→Prop} {d:Nat} {ty:TypeId} {pos:String} {af:Array Edge}
theorem Fs {t:TypeId} (hn:Nat.blt d n=true) (kk:∀ b:Bk,ai P all rest ⟨n,(d,.ph b) :: tm,(b,.mp []) :: hp⟩ Q):ai P all (⟨some d,.makeMap t none,ty,pos,af,none⟩ :: rest) ⟨n,tm,hp⟩ Q:=by
 refine ai.LD rfl fun w S a r=>?_
 have hh:Holds (w.alloc (.map #[] 0)) S ⟨some w.heap.size,0⟩ (.mp []):=⟨[],0,List.Perm.refl _,w.heap.size,#[],rfl,by show (w.heap.push _)[w.heap.size]? =_;simp,rfl,by simp,by simp,by simp,by simp⟩
 obtain ⟨k1,k2,k3⟩:=sW r.hp (Ext.alloc w (.map #[] 0)) id hh (.inr ⟨_,rfl,Nat.le_refl _⟩)
 exact ⟨.map (some w.heap.size),w.alloc (.map #[] 0),S,_,by simp [execOp,Instr.makeMap],(r.heap k3 k1).put hn (.ph _ _ rfl),k2,kk ⟨some w.heap.size,0⟩⟩
theorem L7 {K V:Type} [DecidableEq K] {gk:K→AV} {gv:V→AV} {M:List (K×V)} {key:K} {Z:V} {v:V×Bool} {t kt vt:TypeId} {i:TypeInfo} {z:Value} {x y:Operand} {b:Bk} {av:AV} [aR P t (.map kt vt)] [bf P vt i] [nB P kt gk] (hx:dt tm x=some (.ph b)) (hy:dt tm y=some (gk key)) (f:nU hp b (.mp (M.map fun e=>(gk e.1,gv e.2)))) (hz:i.zero=some z) (UU:EJ z=gv Z) (h1:mB (EJ z).cells=true) (h:KU M key Z=some v) (tC:gv v.1=av):
 QV P ⟨some d,.lookup t x y true,ty,pos,af,none⟩ ⟨n,tm,hp⟩ (.lA [av,.bool v.2]):=by
 intro w S a r
 have kx:=bn (σ:=⟨n,tm,hp⟩) r hx
 have ky:=bn (σ:=⟨n,tm,hp⟩) r hy
 obtain ⟨nb,hb,ex⟩:=kx.zT
 obtain ⟨L,c,M',M4,gy,p1,p2,p3,p4,p5,p6,p7,p8⟩:=zU (nB.inj P kt) r.hp f
 obtain rfl:M4=nb:=by rw [p4] at hb;exact Option.some.inj hb
 unfold KU at h
 have hv:=Option.some.inj h
 rw [← A3 p1 p8] at hv
 have BR:=nB.find (P:=P) (t:=kt) (g:=gk) ky gy.toList (M'.map Prod.fst) (by simpa using p6.symm) (fun j k' e h1 h2=>by
  rw [List.getElem?_map] at h1
  cases hm:M'[j]? with
  | none=>rw [hm] at h1;cases h1
  | some q=>rw [hm] at h1;rw [← Option.some.inj h1];exact (p7 j q e hm h2).1)
 rcases CQ (gv:=gv) (w:=w) (S:=S) (k:=key) M' gy.toList 0 p6.symm (fun j e m h1 h2=>(p7 j e m h1 h2).2) with ⟨q1,q2⟩ | ⟨v',j,val,q1,q2,q3,_⟩
 ·refine ⟨.tuple #[z,.bool false],fun w1 e1=>?_,?_⟩
  ·simp [execOp,Instr.lookup,ex,run_underlying (aR.h (P:=P) (t:=t)),lK (e1.heap p5),nB.check (P:=P) (t:=kt) ky,BR,q2,zeroValue,typeInfo,bf.h (P:=P) (t:=vt),hz]
  ·rw [← tC,← hv,q1]
   refine .lA _ _ rfl (F9 ?_ (.bool _))
   rw [Option.getD_none,← UU];exact Tw w S z h1
 ·refine ⟨.tuple #[val,.bool true],fun w1 e1=>?_,?_⟩
  ·simp [execOp,Instr.lookup,ex,run_underlying (aR.h (P:=P) (t:=t)),lK (e1.heap p5),nB.check (P:=P) (t:=kt) ky,BR,q2]
  ·rw [← tC,← hv,q1]
   exact .lA _ _ rfl (F9 q3 (.bool _))
theorem A6 {w:World} {S:Nat→Prop} {hp dG:Heap} {b:Bk} {m:Nat} {o o':Ob} {ob old:Obj} (r:du w S hp) (u:pB hp b o b o' dG) (hb:b.cd=some m) (ho:w.heap[m]? =some old) (hf:¬ o.BA) (Yu:¬ o'.BA) (hh:(∀ n,S n→S n∧(yv w m ob).heap[n]? =w.heap[n]?)→Holds (yv w m ob) S b o') (hm:o'.more=[]:=by rfl):
 du (yv w m ob) S dG∧kT w S hp (yv w m ob) S dG∧∀ n,S n→S n∧(yv w m ob).heap[n]? =w.heap[n]?:=by
 have k1:∀ n,S n→S n∧(yv w m ob).heap[n]? =w.heap[n]?:=fun k hk=>⟨hk,DO (fun e=>by
  subst e
  exact hf ((r.sep _ u.nO.mem _ (lV hb)).1 hk))⟩
 exact qY r u (QP hb) hf Yu (hh k1) (.inl rfl) hm
theorem BS {K V:Type} [DecidableEq K] [zD K] {gk:K→AV} {gv:V→AV} {M:List (K×V)} {key:K} {v:V} {t kt vt:TypeId} {x y z:Operand} {b:Bk} {av:AV} {dG:Heap} [aR P t (.map kt vt)] [nB P kt gk] (hx:dt tm x=some (.ph b)) (hy:dt tm y=some (gk key)) (hz:dt tm z=some av) (tC:av=gv v) (u:pB hp b (.mp (M.map fun e=>(gk e.1,gv e.2))) b (.mp ((rP M key v).map fun e=>(gk e.1,gv e.2))) dG)
 (kk:ai P all rest ⟨n,tm,dG⟩ Q):ai P all (⟨none,.mapUpdate t x y z,ty,pos,af,none⟩ :: rest) ⟨n,tm,hp⟩ Q:=by
 refine ai.act rfl rfl (fun w S a r=>?_) kk
 have kx:=bn (σ:=⟨n,tm,hp⟩) r hx
 have ky:=bn (σ:=⟨n,tm,hp⟩) r hy
 have kz:=bn (σ:=⟨n,tm,hp⟩) r hz
 obtain ⟨nb,hb,ex⟩:=kx.zT
 obtain ⟨L,c,M',M4,gy,p1,p2,p3,p4,p5,p6,p7,p8⟩:=zU (nB.inj P kt) r.hp u.nO
 obtain rfl:M4=nb:=by rw [p4] at hb;exact Option.some.inj hb
 have BR:=nB.find (P:=P) (t:=kt) (g:=gk) ky gy.toList (M'.map Prod.fst) (by simpa using p6.symm) (fun j k' e h1 h2=>by
  rw [List.getElem?_map] at h1
  cases hm:M'[j]? with
  | none=>rw [hm] at h1;cases h1
  | some q=>rw [hm] at h1;rw [← Option.some.inj h1];exact (p7 j q e hm h2).1)
 obtain ⟨Y3,xq,g1,g2,g3,g4,g5,g6,g7⟩:=p3
 obtain rfl:Y3=M4:=by rw [p4] at g1;exact (Option.some.inj g1).symm
 obtain rfl:xq=gy:=by rw [p5] at g2;exact (Obj.map.inj (Option.some.inj g2)).1.symm
 have hLM:L.length=M'.length:=by have:=congrArg List.length p2;simpa using this
 have XH:∀ (j:Nat) (x:nA) (e:K×V),L[j]? =some x→M'[j]? =some e→x.k=gk e.1∧x.v=gv e.2:=by
  intro j x e h1 h2
  have:(L.map nA.kv)[j]? =(M'.map fun e=>(gk e.1,gv e.2))[j]?:=by rw [p2]
  rw [List.getElem?_map,List.getElem?_map,h1,h2] at this
  exact Prod.mk.inj (Option.some.inj this)
 rcases CQ (gv:=gv) (w:=w) (S:=S) (k:=key) M' xq.toList 0 p6.symm (fun j e m h1 h2=>(p7 j e m h1 h2).2) with ⟨q1,q2⟩ | ⟨v',j,val,q1,q2,q3,q4⟩
 ·
  have hw:=A6 (ob:=.map (xq.push ⟨a.eval y,a.eval z,c⟩) (c+1)) r.hp u p4 p5 id id (fun k1=>by
   refine ⟨L++[⟨gk key,gv v,c⟩],c+1,?_,Y3,xq.push ⟨a.eval y,a.eval z,c⟩,p4,A5 p5,by simp [g3],?_,?_,?_,?_⟩
   ·rw [List.map_append,p2]
    refine List.Perm.trans ?_ ((vv key v (lJ M key)).symm.map _)
    rw [A4 (by rw [← A3 p1 p8];exact q1)]
    exact List.perm_append_comm.trans (List.Perm.cons _ (p1.map _))
   ·intro i e m he hm
    rw [Array.getElem?_push] at hm
    rcases Nat.lt_or_ge i L.length with hi | hi
    ·rw [List.getElem?_append_left hi] at he
     rw [if_neg (by omega)] at hm
     obtain ⟨s1,s2,s3⟩:=g4 i e m he hm
     exact ⟨s1,s2.mono k1,s3.mono k1⟩
    ·have LM:i=L.length:=by
      have:=(List.getElem?_eq_some_iff.1 he).1
      simp at this;omega
     subst LM
     rw [if_pos g3.symm] at hm
     simp at he
     obtain rfl:=Option.some.inj hm
     subst he
     exact ⟨rfl,ky.mono k1,by rw [tC] at kz;exact kz.mono k1⟩
   ·intro e he
    rcases List.mem_append.1 he with h | h
    ·have:=g5 e h;omega
    ·simp at h;subst h;simp
   ·rw [List.map_append,List.nodup_append]
    refine ⟨g6,by simp,fun a1 ha b1 Nl uz=>?_⟩
    simp at Nl
    subst Nl
    obtain ⟨e,he,rfl⟩:=List.mem_map.1 ha
    have:=g5 e he
    omega
   ·rw [List.map_append,List.nodup_append]
    refine ⟨g7,by simp,fun a1 ha b1 Nl uz=>?_⟩
    simp at Nl
    subst Nl
    obtain ⟨e,he,rfl⟩:=List.mem_map.1 ha
    obtain ⟨j,hj⟩:=List.getElem?_of_mem he
    have Ge:j < M'.length:=by rw [← hLM];exact (List.getElem?_eq_some_iff.1 hj).1
    have:=(XH j e M'[j] hj (List.getElem?_eq_getElem Ge)).1
    rw [this] at uz
    exact (qM.1 q1) M'[j] (List.getElem_mem Ge) (nB.inj P kt _ _ uz))
  refine ⟨_,S,?_,r.heap hw.2.2 hw.1,hw.2.1⟩
  simp [execOp,Instr.mapUpdate,ex,run_underlying (aR.h (P:=P) (t:=t)),lK p5,nB.check (P:=P) (t:=kt) ky,BR,q2,DN _ p5]
 ·
  have Ge:j < xq.toList.length:=by rw [p6];exact (List.getElem?_eq_some_iff.1 q4).1
  have KK:j < xq.size:=by simpa using Ge
  have hm0:xq.toList[j]? =some xq[j]:=by simp [KK]
  have Sh:=(p7 j _ _ q4 hm0).1
  have V7:Instr.sameBits 10000 xq[j].key (a.eval y)=true:=nB.bits (P:=P) (t:=kt) Sh ky
  have UW:j < L.length:=by omega
  have hw:=A6 (ob:=.map (xq.modify j fun e=>{e with key:=a.eval y,val:=a.eval z}) c) r.hp u p4 p5 id id (fun k1=>by
   refine ⟨L.set j ⟨gk key,gv v,L[j].born⟩,c,?_,Y3,_,p4,A5 p5,by simp [g3],?_,?_,?_,?_⟩
   ·rw [List.map_set]
    refine List.Perm.trans ?_ ((vv key v (lJ M key)).symm.map _)
    have e1:(L.map nA.kv).set j (gk key,gv v)=(M'.set j (key,v)).map fun e=>(gk e.1,gv e.2):=by rw [p2,List.map_set]
    show ((L.map nA.kv).set j (gk key,gv v)).Perm _
    rw [e1]
    refine List.Perm.map _ ?_
    have Y4:j < M'.length:=by omega
    have e2:M'=M'.take j++(key,v') :: M'.drop (j+1):=by
     have:=List.take_append_drop j M'
     rw [List.drop_eq_getElem_cons Y4] at this
     have hq:M'[j]=(key,v'):=by rw [List.getElem?_eq_getElem Y4] at q4;exact Option.some.inj q4
     rw [hq] at this
     exact this.symm
    have e3:M'.set j (key,v)=M'.take j++(key,v) :: M'.drop (j+1):=by
     rw [List.set_eq_take_append_cons_drop,if_pos Y4]
    rw [e3]
    refine List.perm_middle.trans (List.Perm.cons _ ?_)
    have e4:lJ M' key=M'.take j++M'.drop (j+1):=by
     have Y5:=p8
     rw [e2,List.map_append,List.map_cons,List.nodup_append,List.nodup_cons] at Y5
     unfold lJ
     rw [e2,List.filter_append,List.filter_cons]
     simp only [ne_eq,not_true_eq_false,decide_false,Bool.false_eq_true,if_false]
     rw [← e2]
     congr 1
     ·refine List.filter_eq_self.2 fun e he=>?_
      simp only [decide_not,Bool.not_eq_true',decide_eq_false_iff_not]
      intro hk
      exact Y5.2.2 e.1 (List.mem_map.2 ⟨e,he,rfl⟩) key (by simp) hk
     ·refine List.filter_eq_self.2 fun e he=>?_
      simp only [decide_not,Bool.not_eq_true',decide_eq_false_iff_not]
      intro hk
      exact Y5.2.1.1 (List.mem_map.2 ⟨e,he,hk⟩)
    rw [← e4]
    exact p1.filter _
   ·intro i e m he hm
    rw [Array.getElem?_modify] at hm
    rw [List.getElem?_set] at he
    by_cases BI:j=i
    ·subst BI
     simp only [if_true,UW] at he
     simp only [if_true,Array.getElem?_eq_getElem KK,Option.map_some] at hm
     obtain rfl:=Option.some.inj he
     obtain rfl:=Option.some.inj hm
     refine ⟨(g4 j L[j] xq[j] (List.getElem?_eq_getElem UW) (Array.getElem?_eq_getElem KK)).1,ky.mono k1,by rw [tC] at kz;exact kz.mono k1⟩
    ·rw [if_neg BI] at he hm
     obtain ⟨s1,s2,s3⟩:=g4 i e m he hm
     exact ⟨s1,s2.mono k1,s3.mono k1⟩
   ·intro e he
    rcases List.mem_or_eq_of_mem_set he with h | h
    ·exact g5 e h
    ·subst h;exact g5 L[j] (List.getElem_mem UW)
   ·rw [List.map_set]
    have:(L.map (·.born)).set j L[j].born=L.map (·.born):=by
     exact Ik (by rw [List.getElem?_map,List.getElem?_eq_getElem UW];rfl)
    rw [this];exact g6
   ·rw [List.map_set]
    have:(L.map (·.k)).set j (gk key)=L.map (·.k):=by
     have hk:=(XH j L[j] _ (List.getElem?_eq_getElem UW) q4).1
     exact Ik (by rw [List.getElem?_map,List.getElem?_eq_getElem UW,Option.map_some,hk])
    rw [this];exact g7)
  refine ⟨_,S,?_,r.heap hw.2.2 hw.1,hw.2.1⟩
  simp [execOp,Instr.mapUpdate,ex,run_underlying (aR.h (P:=P) (t:=t)),lK p5,nB.check (P:=P) (t:=kt) ky,BR,q2,Instr.keyThatStays,KK,V7,DN _ p5]
end rules
def wJ (L:List nA) (c:Nat) (seen:List Nat) (rest:List (AV×AV)):Prop:=((L.filter (fun e=>!seen.contains e.born)).map nA.kv).Perm rest
def V8 (L:List nA) (seen:List Nat) (e:AV×AV):Prop:=∃ x∈L,seen.getLast? =some x.born∧x.kv=e
theorem find_born {L:List nA} (hn:(L.map (·.born)).Nodup) {x:nA} (hx:x∈L) {w:World} {S:Nat→Prop} {gy:Array MapEntry} (hl:gy.size=L.length) (h:∀ (i:Nat) e m,L[i]? =some e→gy[i]? =some m→m.born=e.born∧At w S e.k m.key∧At w S e.v m.val):
 ∃ m,gy.find? (·.born==x.born)=some m∧At w S x.k m.key∧At w S x.v m.val:=by
 obtain ⟨j,hj⟩:=List.getElem?_of_mem hx
 have Ge:j < L.length:=(List.getElem?_eq_some_iff.1 hj).1
 have KK:j < gy.size:=by omega
 have vl:=h j x gy[j] hj (Array.getElem?_eq_getElem KK)
 cases hf:gy.find? (·.born==x.born) with
 | none=>
   rw [Array.find?_eq_none] at hf
   exact absurd (by simpa using vl.1) (hf gy[j] (Array.getElem_mem KK))
 | some m=>
   have hb:m.born=x.born:=by have:=Array.find?_some hf;simpa using this
   have hm:=Array.mem_of_find?_eq_some hf
   obtain ⟨i,hi,rfl⟩:=Array.getElem_of_mem hm
   have qJ:i < L.length:=by omega
   have L6:=(h i L[i] gy[i] (List.getElem?_eq_getElem qJ) (Array.getElem?_eq_getElem hi)).1
   have BI:i=j:=by
    have e1:(L.map (·.born))[i]? =some x.born:=by rw [List.getElem?_map,List.getElem?_eq_getElem qJ,Option.map_some,← L6,hb]
    have e2:(L.map (·.born))[j]? =some x.born:=by rw [List.getElem?_map,hj];rfl
    exact (List.getElem?_inj (by simpa using qJ) hn).1 (e1.trans e2.symm)
   subst BI
   exact ⟨_,rfl,vl.2⟩
theorem Il {P:Program} {w:World} {r m c:Nat} {seen:Array Nat} {gy AO:Array MapEntry} {ty:TypeId} (g:w.heap[r]? =some (.mapIter (some m) c seen c)) (p:w.heap[m]? =some (.map gy c)) (QQ:(!seen.isEmpty&&!gy.isEmpty&&gy.all (fun e=>decide (e.born≥c)))=false)
 (hl:(gy.filter fun e=>!seen.contains e.born)=AO) (ho:AO.filter (fun e=>decide (e.born < c))=AO) (hn:AO.filter (fun e=>decide (e.born≥c))=#[]):
 (Instr.next (.pointer (some ⟨r,0,none⟩)) false ty).run P w=((choose (.mapNext ((if AO.isEmpty then #[none] else #[])++(AO++#[]).map some).size)).run P w).andThen fun i w'=>
  (match ((if AO.isEmpty then #[none] else #[])++(AO++#[]).map some)[i]? with
  | some (some e)=>(do setObj r (.mapIter (some m) c (seen.push e.born) c);pure (.tuple #[.bool true,e.key,e.val]):Sem Value)
  | some none=>pure (.tuple #[.bool false])
  | none=>stuck "Next: no such candidate").run P w':=by
 subst hl
 unfold Instr.next
 simp only [Sem.run_bind,BQ g,lK p,Result.andThen_ok,QQ,ho,hn,Bool.false_eq_true,if_false,Sem.run_pure]
 rfl
section rules
variable {P:Program} {all:Array Oper} {rest:List Oper} {n:Nat} {tm:List (Nat×AV)} {hp:Heap} {Q:St→Prop} {d:Nat} {ty:TypeId} {pos:String} {af:Array Edge}
theorem CR {E:Type} {enc:E→AV×AV} {M:List E} {t kt vt:TypeId} {x:Operand} {b:Bk} {dG:List nA→Nat→Heap} [aR P t (.map kt vt)] (hx:dt tm x=some (.ph b)) (u:∀ L c,pB hp b (.mp (M.map enc)) b (.Ch L c) (dG L c)) (hn:Nat.blt d n=true)
 (kk:∀ bi L c,(L.map nA.kv).Perm (M.map enc)→wJ L c [] (M.map enc)→ai P all rest ⟨n,(d,.ptr bi 0) :: tm,(bi,.Bz b c []) :: dG L c⟩ Q):ai P all (⟨some d,.range t x,ty,pos,af,none⟩ :: rest) ⟨n,tm,hp⟩ Q:=by
 refine ai.LD rfl fun w S a r=>?_
 obtain ⟨nb,hb,ex⟩:=(bn (σ:=⟨n,tm,hp⟩) r hx).zT
 have f:=(u [] 0).nO
 obtain ⟨L,c,nP,hH⟩:=r.hp.holds _ f.mem
 have Tv:=hH
 obtain ⟨M4,gy,g1,g2,g3,_⟩:=hH
 obtain rfl:M4=nb:=by rw [g1] at hb;exact Option.some.inj hb
 obtain ⟨r1,e1,k1⟩:=qY r.hp (u L c) (CP w b.cd) id id Tv (.inl rfl)
 have hh:Holds (w.alloc (.mapIter (some M4) c #[] c)) S ⟨some w.heap.size,0⟩ (.Bz b c []):=⟨w.heap.size,M4,rfl,hb,by show (w.heap.push _)[w.heap.size]? =_;simp⟩
 obtain ⟨r2,e2,k2⟩:=sW r1 (Ext.alloc w (.mapIter (some M4) c #[] c)) id hh (.inr ⟨_,rfl,Nat.le_refl _⟩)
 refine ⟨.pointer (some ⟨w.heap.size,0,none⟩),w.alloc (.mapIter (some M4) c #[] c),S,_,?_,(r.heap k2 r2).put hn (.ptr _ _ _ rfl),e1.trans e2,kk ⟨some w.heap.size,0⟩ L c nP ?_⟩
 ·simp [execOp,Instr.range,ex,run_underlying (aR.h (P:=P) (t:=t)),lK g2]
 ·unfold wJ
  have e:L.filter (fun e=>!([]:List Nat).contains e.born)=L:=List.filter_eq_self.2 (fun _ _=>by simp)
  rw [e];exact nP
theorem CS {L:List nA} {c:Nat} {seen:List Nat} {x:Operand} {bi bm:Bk} {e:AV×AV} {k v:AV} (hx:dt tm x=some (.ptr bi 0)) (fi:nU hp bi (.Bz bm c seen)) (fm:nU hp bm (.Ch L c)) (hc:V8 L seen e) (hk:e.1=k) (hv:e.2=v):
 QV P ⟨some d,.entry x,ty,pos,af,none⟩ ⟨n,tm,hp⟩ (.lA [k,v]):=by
 intro w S a r
 obtain ⟨ni,hi,ex⟩:=(bn (σ:=⟨n,tm,hp⟩) r hx).sV
 obtain ⟨Tx,nm,g1,g2,g3⟩:=r.hp.holds _ fi.mem
 obtain rfl:Tx=ni:=by rw [g1] at hi;exact Option.some.inj hi
 obtain ⟨Sl,gy,p1,p2,p3,p4,p5,p6,_⟩:=r.hp.holds _ fm.mem
 obtain rfl:Sl=nm:=by rw [p1] at g2;exact Option.some.inj g2
 obtain ⟨y,hy,hs,XI⟩:=hc
 obtain ⟨m,m1,m2,m3⟩:=find_born p6 hy p3 p4
 have hbk:seen.toArray.back? =some y.born:=by rw [← hs];simp [List.getLast?_eq_getElem?,Array.back?]
 subst XI
 refine ⟨.tuple #[m.key,m.val],fun w1 e1=>?_,?_⟩
 ·simp [execOp,Instr.entry,ex,BQ (e1.heap g3),lK (e1.heap p2),hbk,m1]
 ·rw [← hk,← hv];exact .lA _ _ rfl (F9 m2 m3)
theorem Gw {E:Type} {enc:E→AV×AV} {R:List E} {L:List nA} {c:Nat} {seen:List Nat} {x:Operand} {bi bm:Bk} {dG:List Nat→Heap} (hx:dt tm x=some (.ptr bi 0)) (hI:wJ L c seen (R.map enc)) (fm:nU hp bm (.Ch L c)) (u:∀ s,pB hp bi (.Bz bm c seen) bi (.Bz bm c s) (dG s)) (hn:Nat.blt d n=true)
 (k0:R=[]→ai P all rest ⟨n,(d,.lA [.bool false]) :: tm,hp⟩ Q)
 (k1:∀ e R' s,R.Perm (e :: R')→R'.length < R.length→wJ L c s (R'.map enc)→V8 L s (enc e)→ai P all rest ⟨n,(d,.lA [.bool true,(enc e).1,(enc e).2]) :: tm,dG s⟩ Q):ai P all (⟨some d,.next x false,ty,pos,af,none⟩ :: rest) ⟨n,tm,hp⟩ Q:=by
 refine ai.LD rfl fun w S a r=>?_
 obtain ⟨ni,hi,ex⟩:=(bn (σ:=⟨n,tm,hp⟩) r hx).sV
 obtain ⟨Tx,nm,g1,g2,g3⟩:=r.hp.holds _ (u []).nO.mem
 obtain rfl:Tx=ni:=by rw [g1] at hi;exact Option.some.inj hi
 obtain ⟨Sl,gy,p1,p2,p3,p4,p5,p6,_⟩:=r.hp.holds _ fm.mem
 obtain rfl:Sl=nm:=by rw [p1] at g2;exact Option.some.inj g2
 have N4:∀ m∈gy,m.born < c:=by
  intro m hm
  obtain ⟨i,hi,rfl⟩:=Array.getElem_of_mem hm
  have qJ:i < L.length:=by omega
  have:=(p4 i L[i] gy[i] (List.getElem?_eq_getElem qJ) (Array.getElem?_eq_getElem hi)).1
  rw [this];exact p5 _ (List.getElem_mem qJ)
 have QQ:(!seen.toArray.isEmpty&&!gy.isEmpty&&gy.all (fun e=>decide (e.born≥c)))=false:=by
  by_cases h0:gy.isEmpty=true
  ·simp [h0]
  ·have h1:0 < gy.size:=by
    have:gy.size≠0:=by simpa [Array.isEmpty] using h0
    omega
   have:gy.all (fun e=>decide (e.born≥c))=false:=by
    rw [Bool.eq_false_iff]
    intro mC
    rw [Array.all_eq_true] at mC
    have:=mC 0 h1
    have hb:=N4 gy[0] (Array.getElem_mem h1)
    simp at this;omega
   simp [this]
 have hold:(gy.filter fun e=>!seen.toArray.contains e.born).filter (fun e=>decide (e.born < c))=gy.filter fun e=>!seen.toArray.contains e.born:=by
  rw [Array.filter_eq_self]
  intro m hm
  simpa using N4 m (Array.mem_filter.1 hm).1
 have JQ:(gy.filter fun e=>!seen.toArray.contains e.born).filter (fun e=>decide (e.born≥c))=#[]:=by
  rw [Array.filter_eq_empty_iff]
  intro m hm
  have:=N4 m (Array.mem_filter.1 hm).1
  simp;omega
 generalize QR:(gy.filter fun e=>!seen.toArray.contains e.born)=AO at hold JQ
 have u5:∀ m∈AO,∃ y∈L,(seen.contains y.born=false)∧m.born=y.born∧At w S y.k m.key∧At w S y.v m.val:=by
  intro m hm
  rw [← QR] at hm
  obtain ⟨h1,h2⟩:=Array.mem_filter.1 hm
  obtain ⟨i,hi,rfl⟩:=Array.getElem_of_mem h1
  have qJ:i < L.length:=by omega
  have hh:=p4 i L[i] gy[i] (List.getElem?_eq_getElem qJ) (Array.getElem?_eq_getElem hi)
  refine ⟨L[i],List.getElem_mem qJ,?_,hh⟩
  rw [← hh.1];simpa using h2
 have hex:∀ y∈L,seen.contains y.born=false→∃ m,m∈AO:=by
  intro y hy hs
  obtain ⟨j,hj⟩:=List.getElem?_of_mem hy
  have Ge:j < L.length:=(List.getElem?_eq_some_iff.1 hj).1
  have KK:j < gy.size:=by omega
  refine ⟨gy[j],?_⟩
  rw [← QR,Array.mem_filter]
  refine ⟨Array.getElem_mem KK,?_⟩
  rw [(p4 j y gy[j] hj (Array.getElem?_eq_getElem KK)).1]
  simpa using hs
 by_cases hz:AO.size=0
 ·
  have hR:R=[]:=by
   cases R with
   | nil=>rfl
   | cons e R'=>
     unfold wJ at hI
     have hm:enc e∈(L.filter (fun e=>!seen.contains e.born)).map nA.kv:=hI.mem_iff.2 (by simp)
     obtain ⟨y,hy,_⟩:=List.mem_map.1 hm
     obtain ⟨hy1,Y6⟩:=List.mem_filter.1 hy
     obtain ⟨m,hm⟩:=hex y hy1 (by simpa using Y6)
     obtain ⟨i,hi,_⟩:=Array.getElem_of_mem hm
     omega
  obtain rfl:AO=#[]:=Array.eq_empty_of_size_eq_zero hz
  refine ⟨.tuple #[.bool false],w,S,_,?_,r.put hn (.lA _ _ rfl ?_),kT.refl _ _ _,k0 hR⟩
  ·have Y7:(Instr.next (a.eval x) false ty).run P w=.ok (.tuple #[.bool false]) w:=by
    rw [ex,Il (P:=P) (ty:=ty) g3 p2 QQ QR hold JQ]
    simp [run_choose,Question.forced]
   simp [execOp,Y7]
  ·intro i c' v h1 h2
   cases i with
   | zero=>simp at h1 h2;subst h1;subst h2;exact .bool _
   | succ i=>simp at h1
 ·obtain ⟨i,w1,hch,qJ,hE⟩:∃ i w1,(choose (.mapNext AO.size)).run P w=.ok i w1∧i < AO.size∧(w1=w∨w1=w.drew):=by
   by_cases hf:(Question.mapNext AO.size).forced=true
   ·refine ⟨0,w,?_,by omega,.inl rfl⟩
    rw [run_choose,if_pos hf]
   ·have hc:=run_choose P w (Question.mapNext AO.size)
    rw [if_neg hf] at hc
    exact ⟨_,w.drew,hc,Nat.mod_lt _ (by omega:0 < AO.size),.inr rfl⟩
  have ext:Ext w w1:=by
   rcases hE with rfl | rfl
   ·exact Ext.refl _
   ·exact Ext.HL w (w.drawn+1) (Nat.le_succ _)
  obtain ⟨y,hy,hys,hb,hk,hv⟩:=u5 AO[i] (Array.getElem_mem qJ)
  have xf:∀ z∈L,z.born=y.born→z=y:=by
   intro z hz hzb
   obtain ⟨i1,h1⟩:=List.getElem?_of_mem hz
   obtain ⟨i2,h2⟩:=List.getElem?_of_mem hy
   have Y8:i1 < L.length:=(List.getElem?_eq_some_iff.1 h1).1
   have:i1=i2:=(List.getElem?_inj (by simpa using Y8) p6).1 (by rw [List.getElem?_map,List.getElem?_map,h1,h2,Option.map_some,Option.map_some,hzb])
   subst this
   rw [h1] at h2;exact Option.some.inj h2
  unfold wJ at hI
  have hyR:y.kv∈R.map enc:=hI.mem_iff.1 (List.mem_map.2 ⟨y,List.mem_filter.2 ⟨hy,by simpa using hys⟩,rfl⟩)
  obtain ⟨pre,post,Tf⟩:=List.append_of_mem (List.mem_filter.2 ⟨hy,(by simpa using hys:(!seen.contains y.born)=true)⟩:y∈L.filter (fun e=>!seen.contains e.born))
  have Ty:L.filter (fun e=>!(seen++[y.born]).contains e.born)=pre++post:=by
   have e1:L.filter (fun e=>!(seen++[y.born]).contains e.born)=(L.filter (fun e=>!seen.contains e.born)).filter (fun e=>decide (e.born≠y.born)):=by
    rw [List.filter_filter]
    apply List.filter_congr
    intro e he
    simp only [List.contains_eq_mem,List.mem_append,List.mem_singleton,ne_eq,decide_not]
    by_cases q1:e.born∈seen<;>by_cases q2:e.born=y.born<;>simp [q1,q2]
   have Tz:((L.filter (fun e=>!seen.contains e.born)).map (·.born)).Nodup:=p6.sublist ((List.filter_sublist).map _)
   rw [Tf,List.map_append,List.map_cons,List.nodup_append,List.nodup_cons] at Tz
   rw [e1,Tf,List.filter_append,List.filter_cons]
   simp only [ne_eq,not_true_eq_false,decide_false,Bool.false_eq_true,if_false]
   congr 1
   ·refine List.filter_eq_self.2 fun e he=>?_
    simp only [decide_not,Bool.not_eq_true',decide_eq_false_iff_not]
    intro hk
    exact Tz.2.2 e.born (List.mem_map.2 ⟨e,he,rfl⟩) y.born (by simp) hk
   ·refine List.filter_eq_self.2 fun e he=>?_
    simp only [decide_not,Bool.not_eq_true',decide_eq_false_iff_not]
    intro hk
    exact Tz.2.1.1 (List.mem_map.2 ⟨e,he,hk⟩)
  have hP:(y.kv :: (pre++post).map nA.kv).Perm (R.map enc):=by
   refine List.Perm.trans ?_ hI
   rw [Tf]
   simp only [List.map_append,List.map_cons]
   exact List.perm_middle.symm
  obtain ⟨R2,hR2,V9⟩:=vW enc _ _ hP
  cases R2 with
  | nil=>simp at V9
  | cons e R'=>
    obtain ⟨SX,Nd⟩:=List.cons.inj (by simpa using V9)
    have L8:w1.heap[Tx]? =some (.mapIter (some Sl) c seen.toArray c):=ext.heap g3
    have hIt:wJ L c (seen++[y.born]) (R'.map enc):=by unfold wJ;rw [Ty,← Nd];simp
    have r1:=r.ext ext
    have hw:=A6 (ob:=.mapIter (some Sl) c (seen++[y.born]).toArray c) r1.hp (u (seen++[y.born])) g1 L8 id id (fun k1=>⟨Tx,Sl,g1,g2,A5 L8⟩)
    have Y9:kT w S hp w1 S hp:=kT.ext (fun n hn=>r.hp.slt n hn) ext
    refine ⟨.tuple #[.bool true,AO[i].key,AO[i].val],yv w1 Tx (.mapIter (some Sl) c (seen++[y.born]).toArray c),S,_,?_,(r1.heap hw.2.2 hw.1).put hn (.lA _ _ rfl (LF (.bool _) ?_ ?_)),Y9.trans hw.2.1,k1 e R' (seen++[y.born]) hR2.symm (by have:=hR2.length_eq;simp at this;omega) hIt ⟨y,hy,by simp,SX⟩⟩
    ·have hlz:AO.isEmpty=false:=by
      have:AO.size≠0:=hz
      simpa [Array.isEmpty] using this
     have Y7:(Instr.next (a.eval x) false ty).run P w=.ok (.tuple #[.bool true,AO[i].key,AO[i].val]) (yv w1 Tx (.mapIter (some Sl) c (seen++[y.born]).toArray c)):=by
      rw [ex,Il (P:=P) (ty:=ty) g3 p2 QQ QR hold JQ]
      have jH:((if AO.isEmpty=true then #[none] else #[])++(AO++#[]).map some)=AO.map some:=by simp [hlz]
      rw [jH,Array.size_map,hch]
      simp [qJ,hb,Ii _ L8]
     simp [execOp,Y7]
    ·rw [← SX]
     exact (hk.mono (fun n hn=>⟨hn,ext.same n (r.hp.slt n hn)⟩)).mono hw.2.2
    ·rw [← SX]
     exact (hv.mono (fun n hn=>⟨hn,ext.same n (r.hp.slt n hn)⟩)).mono hw.2.2
end rules
theorem ak.Gx {n:Nat} {tm:List (Nat×AV)} {hp dG:Heap} {T:St→Prop} {b:Bk} {L:List nA} {c:Nat} {es:List (AV×AV)} (hL:(L.map nA.kv).Perm es) (u:pB hp b (.Ch L c) b (.mp es) dG) (k:ak ⟨n,tm,dG⟩ T):ak ⟨n,tm,hp⟩ T:=by
 refine ak.step (CK:=⟨n,tm,dG⟩) (fun w S a r=>?_) k
 have hH:vM w S b L c:=r.hp.holds _ u.nO.mem
 obtain ⟨r1,e1,k1⟩:=qY r.hp u (CP w b.cd) id id ⟨L,c,hL,hH⟩ (.inl rfl)
 exact ⟨_,S,rfl,r.heap k1 r1,e1⟩
theorem aF {α β:Type} {o:Option α} {f:α→Option β} {r:β} {C:Prop} (h:o.bind f=some r) (k:∀ v,o=some v→f v=some r→C):C:=
 let ⟨v,h1,h2⟩:=NA h;k v h1 h2
def Ft:Heap→Nat→Option ((Bk×Ob)×Heap)
 | [],_=>none
 | e :: h,0=>some (e,h)
 | e :: h,i+1=>match Ft h i with
   | some (x,h')=>some (x,e :: h')
   | none=>none
def DP:Heap→List Nat→Option Heap
 | _,[]=>some []
 | h,i :: r=>match Ft h i with
   | some (e,h')=>match DP h' r with
     | some t=>some (e :: t)
     | none=>none
   | none=>none
theorem Fu:∀ {h:Heap} {i:Nat} {e:Bk×Ob} {h':Heap},Ft h i=some (e,h')→yW h e.1 e.2 h'
 | [],_,_,_,hh=>by simp [Ft] at hh
 | x :: h,0,e,h',hh=>by
   simp only [Ft,Option.some.injEq,Prod.mk.injEq] at hh
   obtain ⟨rfl,rfl⟩:=hh
   exact .here
 | x :: h,i+1,e,h',hh=>by
   simp only [Ft] at hh
   split at hh
   ·rename_i y h1 h2
    simp only [Option.some.injEq,Prod.mk.injEq] at hh
    obtain ⟨rfl,rfl⟩:=hh
    exact .next (Fu h2)
   ·cases hh
theorem zV:∀ {l:List Nat} {h t:Heap},DP h l=some t→HS h t
 | [],h,t,hh=>by
   simp only [DP,Option.some.injEq] at hh
   subst hh;exact .nil
 | i :: r,h,t,hh=>by
   simp only [DP] at hh
   split at hh
   ·rename_i e h' h1
    split at hh
    ·rename_i t' h2
     obtain rfl:=Option.some.inj hh
     exact .cons (Fu h1) (zV h2)
    ·cases hh
   ·cases hh
def N5 (tm:List (Nat×AV)):List Nat→Option (List (Nat×AV))
 | []=>some []
 | s :: r=>match lk tm s with
   | some av=>match N5 tm r with
     | some l=>some ((s,av) :: l)
     | none=>none
   | none=>none
theorem Im {tm:List (Nat×AV)}:∀ {l:List Nat} {qq:List (Nat×AV)},N5 tm l=some qq→Fb tm qq
 | [],qq,h=>by
   simp only [N5,Option.some.injEq] at h
   subst h;exact True.intro
 | s :: r,qq,h=>by
   simp only [N5] at h
   split at h
   ·rename_i av h1
    split at h
    ·rename_i t' h2
     obtain rfl:=Option.some.inj h
     exact ⟨h1,Im h2⟩
    ·cases h
   ·cases h
theorem ak.lq {n:Nat} {tm qq:List (Nat×AV)} {hp dG:Heap} {T:St→Prop} (is:List Nat) (h:T ⟨n,qq,dG⟩) (ht:N5 tm (qq.map Prod.fst)=some qq) (hs:DP hp is=some dG):ak ⟨n,tm,hp⟩ T:=
 ak.VK (Im ht) (zV hs) (ak.here h)
theorem nU.p0 {b:Bk} {o:Ob} {h:Heap}:nU ((b,o) :: h) b o:=.here
theorem pB.p0 {b b':Bk} {o o':Ob} {h:Heap}:pB ((b,o) :: h) b o b' o' ((b',o') :: h):=.here
theorem yW.p0 {b:Bk} {o:Ob} {h:Heap}:yW ((b,o) :: h) b o (h):=.here
theorem nU.p1 {e0:Bk×Ob} {b:Bk} {o:Ob} {h:Heap}:nU (e0 :: (b,o) :: h) b o:=.next .p0
theorem pB.p1 {e0:Bk×Ob} {b b':Bk} {o o':Ob} {h:Heap}:pB (e0 :: (b,o) :: h) b o b' o' (e0 :: (b',o') :: h):=.next .p0
theorem yW.p1 {e0:Bk×Ob} {b:Bk} {o:Ob} {h:Heap}:yW (e0 :: (b,o) :: h) b o (e0 :: h):=.next .p0
theorem nU.p2 {e0:Bk×Ob} {e1:Bk×Ob} {b:Bk} {o:Ob} {h:Heap}:nU (e0 :: e1 :: (b,o) :: h) b o:=.next .p1
theorem pB.p2 {e0:Bk×Ob} {e1:Bk×Ob} {b b':Bk} {o o':Ob} {h:Heap}:pB (e0 :: e1 :: (b,o) :: h) b o b' o' (e0 :: e1 :: (b',o') :: h):=.next .p1
theorem yW.p2 {e0:Bk×Ob} {e1:Bk×Ob} {b:Bk} {o:Ob} {h:Heap}:yW (e0 :: e1 :: (b,o) :: h) b o (e0 :: e1 :: h):=.next .p1
theorem nU.p3 {e0:Bk×Ob} {e1:Bk×Ob} {e2:Bk×Ob} {b:Bk} {o:Ob} {h:Heap}:nU (e0 :: e1 :: e2 :: (b,o) :: h) b o:=.next .p2
theorem pB.p3 {e0:Bk×Ob} {e1:Bk×Ob} {e2:Bk×Ob} {b b':Bk} {o o':Ob} {h:Heap}:pB (e0 :: e1 :: e2 :: (b,o) :: h) b o b' o' (e0 :: e1 :: e2 :: (b',o') :: h):=.next .p2
theorem yW.p3 {e0:Bk×Ob} {e1:Bk×Ob} {e2:Bk×Ob} {b:Bk} {o:Ob} {h:Heap}:yW (e0 :: e1 :: e2 :: (b,o) :: h) b o (e0 :: e1 :: e2 :: h):=.next .p2
theorem nU.p4 {e0:Bk×Ob} {e1:Bk×Ob} {e2:Bk×Ob} {e3:Bk×Ob} {b:Bk} {o:Ob} {h:Heap}:nU (e0 :: e1 :: e2 :: e3 :: (b,o) :: h) b o:=.next .p3
theorem pB.p4 {e0:Bk×Ob} {e1:Bk×Ob} {e2:Bk×Ob} {e3:Bk×Ob} {b b':Bk} {o o':Ob} {h:Heap}:pB (e0 :: e1 :: e2 :: e3 :: (b,o) :: h) b o b' o' (e0 :: e1 :: e2 :: e3 :: (b',o') :: h):=.next .p3
theorem yW.p4 {e0:Bk×Ob} {e1:Bk×Ob} {e2:Bk×Ob} {e3:Bk×Ob} {b:Bk} {o:Ob} {h:Heap}:yW (e0 :: e1 :: e2 :: e3 :: (b,o) :: h) b o (e0 :: e1 :: e2 :: e3 :: h):=.next .p3
theorem nU.p5 {e0:Bk×Ob} {e1:Bk×Ob} {e2:Bk×Ob} {e3:Bk×Ob} {e4:Bk×Ob} {b:Bk} {o:Ob} {h:Heap}:nU (e0 :: e1 :: e2 :: e3 :: e4 :: (b,o) :: h) b o:=.next .p4
theorem yW.p5 {e0:Bk×Ob} {e1:Bk×Ob} {e2:Bk×Ob} {e3:Bk×Ob} {e4:Bk×Ob} {b:Bk} {o:Ob} {h:Heap}:yW (e0 :: e1 :: e2 :: e3 :: e4 :: (b,o) :: h) b o (e0 :: e1 :: e2 :: e3 :: e4 :: h):=.next .p4
theorem nU.p6 {e0:Bk×Ob} {e1:Bk×Ob} {e2:Bk×Ob} {e3:Bk×Ob} {e4:Bk×Ob} {e5:Bk×Ob} {b:Bk} {o:Ob} {h:Heap}:nU (e0 :: e1 :: e2 :: e3 :: e4 :: e5 :: (b,o) :: h) b o:=.next .p5
section rules
variable {P:Program} {all:Array Oper} {rest:List Oper} {n:Nat} {tm:List (Nat×AV)} {hp:Heap} {Q:St→Prop} {d:Nat} {ty:TypeId} {pos:String} {af:Array Edge}
theorem rM {x:Operand} {av:AV} (hx:dt tm x=some av) (hn:Nat.blt d n=true) (k:ai P all rest ⟨n,(d,av) :: tm,hp⟩ Q):ai P all (⟨some d,.move x,ty,pos,af,none⟩ :: rest) ⟨n,tm,hp⟩ Q:=ai.qv (ay hx) hn k
theorem rA {x:Operand} {av:AV} (hx:dt tm x=some av) (hn:Nat.blt d n=true) (k:ai P all rest ⟨n,(d,av) :: tm,hp⟩ Q):ai P all (⟨some d,.assign x,ty,pos,af,none⟩ :: rest) ⟨n,tm,hp⟩ Q:=ai.qv (bY hx) hn k
theorem rF {x:Operand} {s:TypeId} {j off:Nat} {b:Bk} {o o':Nat} [o9 P s j off] (hx:dt tm x=some (.ptr b o)) (ho:o+off=o') (hn:Nat.blt d n=true) (k:ai P all rest ⟨n,(d,.ptr b o') :: tm,hp⟩ Q):ai P all (⟨some d,.fieldAddr s x j,ty,pos,af,none⟩ :: rest) ⟨n,tm,hp⟩ Q:=ai.qv (aC hx ho) hn k
theorem rL {t:TypeId} {D:TypeDesc} {x:Operand} {b:Bk} {o:Nat} {cs:List AV} {av:AV} [aR P t D] (hD:TypeDesc.lH D=false) (hx:dt tm x=some (.ptr b o)) (f:nU hp b (.cells cs)) (ho:cs[o]? =some av) (hn:Nat.blt d n=true) (k:ai P all rest ⟨n,(d,av) :: tm,hp⟩ Q):ai P all (⟨some d,.load t x,ty,pos,af,none⟩ :: rest) ⟨n,tm,hp⟩ Q:=ai.qv (aJ hD hx f ho) hn k
theorem rT {c x y:Operand} {av:AV} (hc:dt tm c=some (.bool true)) (hx:dt tm x=some av) (hn:Nat.blt d n=true) (k:ai P all rest ⟨n,(d,av) :: tm,hp⟩ Q):ai P all (⟨some d,.pick c x y,ty,pos,af,none⟩ :: rest) ⟨n,tm,hp⟩ Q:=ai.qv (il hc hx) hn k
theorem rE {c x y:Operand} {av:AV} (hc:dt tm c=some (.bool false)) (hx:dt tm y=some av) (hn:Nat.blt d n=true) (k:ai P all rest ⟨n,(d,av) :: tm,hp⟩ Q):ai P all (⟨some d,.pick c x y,ty,pos,af,none⟩ :: rest) ⟨n,tm,hp⟩ Q:=ai.qv (dR hc hx) hn k
theorem rX {x:Operand} {i:Nat} {vs:List AV} {av:AV} (hx:dt tm x=some (.lA vs)) (hi:vs[i]? =some av) (hn:Nat.blt d n=true) (k:ai P all rest ⟨n,(d,av) :: tm,hp⟩ Q):ai P all (⟨some d,.extract x i,ty,pos,af,none⟩ :: rest) ⟨n,tm,hp⟩ Q:=ai.qv (LG hx hi) hn k
theorem rN (h:Q ⟨n,tm,hp⟩):ai P all [] ⟨n,tm,hp⟩ Q:=ai.nil h
theorem rG {op:Op} {j:Nat} {want b:Bool} {s:Nat} (hj:(all[j]?).bind (·.dst)=some s) (hs:lk tm s=some (.bool b)) (hb:b=!want) (hn:Nat.blt d n=true) (k:ai P all rest ⟨n,(d,.raw undef) :: tm,hp⟩ Q):ai P all (⟨some d,op,ty,pos,af,some (j,want)⟩ :: rest) ⟨n,tm,hp⟩ Q:=ai.az hj hs hb hn k
theorem rY {op:Op} {j:Nat} {want b:Bool} {s:Nat} (hj:(all[j]?).bind (·.dst)=some s) (hs:lk tm s=some (.bool b)) (hb:b=want) (k:ai P all (⟨some d,op,ty,pos,af,none⟩ :: rest) ⟨n,tm,hp⟩ Q):ai P all (⟨some d,op,ty,pos,af,some (j,want)⟩ :: rest) ⟨n,tm,hp⟩ Q:=ai.aB hj hs hb k
end rules
section rules
variable {P:Program} {R:St→Prop} {k:List It} {σ:St}
theorem tS {x y:Code} (h:ab P R (.code x :: .code y :: k) σ):ab P R (.code (.seq x y) :: k) σ:=ab.seq h
theorem tR {id:Nat} {l:List Oper} (h:ai P l.toArray l σ (ab P R k)):ab P R (.code (.region id l.toArray false) :: k) σ:=ab.region h
theorem aN {id:Nat} {l:List Oper} {y:Code} (h:ai P l.toArray l σ (ab P R (.code y :: k))):ab P R (.code (.seq (.region id l.toArray false) y) :: k) σ:=ab.seq (ab.region h)
theorem tK (h:ab P R k σ):ab P R (.code .skip :: k) σ:=ab.skip h
end rules
end Go.Eng
