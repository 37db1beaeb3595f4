/- The engine: abstract values, the symbolic heap, one rule for each operation. No program in sight. -/
import Derived.Test.YtipbfaojbmendaaGreatDoorEngA
open Array renaming replicate→bi,getElem?_eq_some_iff→bW,all_eq_true_iff_forall_mem→b3
open Bool renaming and_eq_true→ap,or_eq_true→cp
open List renaming getElem?_append_right→a6,mem_range→a7,getElem?_append_left→be,getD_eq_getElem?_getD→bm,getElem?_take→bp,getElem?_drop→bu,Perm.refl→bv,getElem?_eq_some_iff→bx,any_eq_true→bU,all_eq_true→bX,mem_filter→b4,count_replicate→b7,sublist_cons_self→b8,mem_of_mem_drop→b9,take_zero→cb,nil_append→cc,append_assoc→ce,sublist_append_right→cf,Perm.cons→ci,mem_append_left→cl,getElem?_eq_none→cv,replicate→cz
open Nat renaming blt→aa,beq→ag,ble→ai,lt_or_ge→al,min_eq_right→aw,eq_of_beq_eq_true→aL,le_refl→a8,min_eq_left→bo,le_of_ble_eq_true→bz,lt_of_lt_of_le→bG,lt_trichotomy→b6,zero_mul→ca,testBit_or→cn
open Option renaming some.inj→ac,getD_some→bP,bind_some→b5,map_some→cy
set_option linter.unusedVariables false
set_option linter.unusedSectionVars false
namespace Go.Eng
open Go
variable [ck]
theorem B1 {tm:List (Nat×AV)}:∀ {parts:List (Nat×Operand)} {k:Nat} {xs:List AV},Mj tm parts k=some xs→xs.length=parts.length
 | [],k,xs,h=>by simp [Mj] at h;subst h;rfl
 | (i,x) :: parts,k,xs,h=>by
   simp only [Mj] at h
   split at h
   ·rename_i a l h1 h2 h3
    obtain rfl:=ac h
    simp [B1 h3]
   ·cases h
section rules
variable {P:Program} {all:Array Oper} {rest:List Oper} {n:Nat} {tm:List (Nat×AV)} {hp:Heap} {Q:St→Prop} {d:Nat} {ty:TypeId} {pos:String} {af:Array Edge}
theorem Dn {t e:TypeId} {i:TypeInfo} {z:Value} {len:Nat} {parts:List (Nat×Operand)} {xs:List AV} [aF P t (.slice e)] [aZ P e i] (hz:i.zero=some z) (hl:Mj tm parts 0=some xs) (hlen:ag parts.length len=true) (zF:Au i.size xs=true)
 (PB:ai (len * i.size) 16777216=true) (hn:aa d n=true) (kk:ae P all rest ⟨n,(d,.list i.size xs) :: tm,hp⟩ Q):ae P all (⟨some d,.buildSlice t len parts.toArray,ty,pos,af,none⟩ :: rest) ⟨n,tm,hp⟩ Q:=by
 refine EU hz hl hlen zF PB hn (fun b=>ae.ghost (aq.freeze .here (aq.co (s:=d) (av:=.sl i.size b 0 len) (by simp [lk]) (.yD i.size b len xs .here ?_) ?_)))
 ·rw [B1 hl];exact (aL hlen).symm
 ·refine aq.step (Df:=⟨n,(d,.list i.size xs) :: tm,hp⟩) (fun w S a r=>⟨_,S,rfl,r.less ⟨rfl,fun s av h=>?_,b8 _ _⟩,lr.less (lr.refl w S _) fun _ hm=>hm.sub (b8 _ _)⟩) (aq.here kk)
  simp only [lk] at h ⊢
  split at h
  ·exact h
  ·exact h
inductive RH (tm:List (Nat×AV)):Option Operand→Option Int→Prop
 | none:RH tm none none
 | some (x:Operand) (k:IntKind) (i:Int) (h:dh tm x=some (.int k i)):RH tm (some x) (some i)
def na:Option Int→Int
 | none=>0
 | some i=>i
def oh (len:Nat):Option Int→Int
 | none=>len
 | some i=>i
theorem Iu {w:World} {S:Nat→Prop} {σ:St} {a:Act} (r:ey w S σ a) {lo hi:Option Operand} {l h:Option Int} (hl:RH σ.tm lo l) (hh:RH σ.tm hi h) (O3:Bool) (len cap:Nat) (h0:0≤na l) (h1:na l≤oh len h) (h2:oh len h≤len) (hc:len≤cap) (w':World):
 (Instr.sliceBounds O3 len cap (lo.map a.eval) (hi.map a.eval) none).run P w'=.ok ((na l).toNat,(oh len h).toNat,cap) w':=by
 cases hl with
 | none=>
   cases hh with
   | none=>simp [Instr.sliceBounds,na,oh]
   | some x k i hx=>
     simp only [na,oh] at *
     have:i≤(cap:Int):=by omega
     simp [Instr.sliceBounds,Instr.sliceBound,(bt r hx).ez,asIntOf,h1,this]
 | some x k i hx=>
   cases hh with
   | none=>
     simp only [na,oh] at *
     simp [Instr.sliceBounds,Instr.sliceBound,(bt r hx).ez,asIntOf,h0,h1]
   | some y k' i' hy=>
     simp only [na,oh] at *
     have e1:i'≤(cap:Int):=by omega
     have e2:0≤i':=by omega
     have e3:i≤(i'.toNat:Int):=by omega
     simp [Instr.sliceBounds,Instr.sliceBound,(bt r hx).ez,(bt r hy).ez,asIntOf,h0,e1,e2]
     intro ew
     omega
theorem EW {t e:TypeId} {i:TypeInfo} {x:Operand} {lo hi:Option Operand} {l h:Option Int} {sz:Nat} {xs:List AV} [aF P t (.slice e)] [aZ P e i] (hx:dh tm x=some (.list sz xs)) (lp:ag i.size sz=true) (hl:RH tm lo l) (hh:RH tm hi h) (h0:0≤na l) (h1:na l≤oh xs.length h) (h2:oh xs.length h≤xs.length):
 QV P ⟨some d,.slice t x lo hi none,ty,pos,af,none⟩ ⟨n,tm,hp⟩ (.list sz ((xs.drop (na l).toNat).take ((oh xs.length h).toNat - (na l).toNat))):=by
 intro w S a r
 obtain rfl:i.size=sz:=aL lp
 obtain ⟨oa,cap,vs,e1,e2,e3,e4,e5,e6⟩:=(bt (σ:=⟨n,tm,hp⟩) r hx).wb
 have hlen:((xs.drop (na l).toNat).take ((oh xs.length h).toNat - (na l).toNat)).length=(oh xs.length h).toNat - (na l).toNat:=by simp;omega
 refine ⟨.slice (if cap=(na l).toNat then oa else oa.map (·.add ((na l).toNat * i.size))) ((oh xs.length h).toNat - (na l).toNat) (cap - (na l).toNat),fun w1 _=>?_,?_⟩
 ·have hb:=Iu (P:=P) (σ:=⟨n,tm,hp⟩) r hl hh true xs.length cap h0 h1 h2 e6 w1
  simp [execOp,Instr.sliceAt,run_underlying (aF.h (P:=P) (t:=t)),Instr.slice,e1,hb,sizeOf,typeInfo,aZ.h (P:=P) (t:=e)]
 ·have hm:∀ y∈(xs.drop (na l).toNat).take ((oh xs.length h).toNat - (na l).toNat),El i.size y:=fun y hy=>e2 y (b9 (List.mem_of_mem_take hy))
  have DO:flat ((xs.drop (na l).toNat).take ((oh xs.length h).toNat - (na l).toNat))=((flat xs).drop ((na l).toNat * i.size)).take (((oh xs.length h).toNat - (na l).toNat) * i.size):=by
   rw [zM _ _ (fun y hy=>e2 y (b9 hy)),zL _ _ e2]
  have:=At.list (w:=w) (S:=S) i.size ((xs.drop (na l).toNat).take ((oh xs.length h).toNat - (na l).toNat)) (if cap=(na l).toNat then oa else oa.map (·.add ((na l).toNat * i.size))) (cap - (na l).toNat)
   ((vs.drop ((na l).toNat * i.size)).take (((oh xs.length h).toNat - (na l).toNat) * i.size)) hm (by rw [DO];simp [e3]) (fun j c u hc hu=>?_) (fun j u hu=>?_) (by rw [hlen];omega)
  ·rw [hlen] at this;exact this
  ·rw [DO] at hc
   simp only [bp,bu] at hc hu
   split at hu
   ·rename_i ew;rw [if_pos ew] at hc;exact e4 _ c u hc hu
   ·cases hu
  ·simp only [bp,bu] at hu
   split at hu
   ·rename_i ew
    obtain ⟨ad,rfl,g1,g2,g3⟩:=e5 _ u hu
    have Ba:0 < (oh xs.length h).toNat - (na l).toNat:=by
     rcases Nat.eq_zero_or_pos ((oh xs.length h).toNat - (na l).toNat) with hz | hz
     ·rw [hz] at ew;simp at ew
     ·exact hz
    rw [if_neg (by omega)]
    obtain ⟨bk,of,sp⟩:=ad
    simp only at g1 g2;subst g1
    refine ⟨⟨bk,of+(na l).toNat * i.size,none⟩,by simp [mN],rfl,g2,?_⟩
    simpa [Nat.add_assoc] using g3
   ·cases hu
theorem jQ {src dst:TypeId} {D:TypeDesc} {x:Operand} {k k':IntKind} {i:Int} [aF P src D] [aF P dst (.int k')] (hx:dh tm x=some (.int k i)):QV P ⟨some d,.convert src dst x,ty,pos,af,none⟩ ⟨n,tm,hp⟩ (.int k' (k'.wrap i)):=by
 intro w S a r
 refine ⟨.int k' (k'.wrap i),fun w1 _=>?_,.int _ _⟩
 simp only [execOp,convert,(bt (σ:=⟨n,tm,hp⟩) r hx).ez,Sem.run_bind,run_underlying (aF.h (P:=P) (t:=src)),run_underlying (aF.h (P:=P) (t:=dst)),Result.andThen_ok]
 cases D<;>simp [Conv.intToInt]
end rules
theorem Gp {sz:Nat} {x y:AV}:∀ {xs:List AV} {q:Nat},(∀ x∈xs,El sz x)→El sz y→xs[q]? =some x→flat (xs.set q y)=(flat xs).take (q * sz)++y.cells++(flat xs).drop (q * sz+sz)
 | [],q,_,_,h=>by simp at h
 | z :: xs,0,hs,hy,h=>by
   have hz:=(hs z (by simp)).1
   rw [List.set_cons_zero,jG,jG]
   simp only [ca,cb,cc,Nat.zero_add]
   rw [List.drop_left' hz]
 | z :: xs,q+1,hs,hy,h=>by
   have hz:=(hs z (by simp)).1
   simp only [List.getElem?_cons_succ] at h
   rw [List.set_cons_succ,jG,jG,Gp (fun a ha=>hs a (by simp [ha])) hy h]
   have e1:(q+1) * sz=sz+q * sz:=by rw [Nat.add_mul,Nat.one_mul];omega
   rw [e1,List.take_append,List.take_of_length_le (l:=z.cells) (by omega),hz,Nat.add_sub_cancel_left,List.drop_append,List.drop_of_length_le (l:=z.cells) (by omega),hz]
   rw [show sz+q * sz+sz - sz=q * sz+sz from by omega]
   simp [ce]
theorem PK {w:World} {S:Nat→Prop} {cs new:List AV} {vs r6:Array Value} (o:Nat) (hl:cs.length≤vs.size) (h:pY w S cs vs) (JK:new.length=r6.size) (h':pY w S new r6) (ho:o+new.length≤cs.length):
 pY w S (cs.take o++new++cs.drop (o+new.length)) (vs.toList.take o++r6.toList++vs.toList.drop (o+r6.toList.length)).toArray:=by
 intro i c v hc hv
 simp only [List.getElem?_toArray] at hc hv
 have l1:(cs.take o).length=o:=by simp;omega
 have l2:(vs.toList.take o).length=o:=by simp;omega
 have l3:r6.toList.length=new.length:=by simp [JK]
 rw [ce] at hc hv
 by_cases h1:i < o
 ·rw [be (by omega)] at hc hv
  rw [bp,if_pos h1] at hc hv
  exact h i c v hc (by simpa using hv)
 ·rw [a6 (by omega)] at hc hv
  rw [l1] at hc
  rw [l2] at hv
  by_cases h2:i - o < new.length
  ·rw [be (by omega)] at hc hv
   exact h' (i - o) c v hc (by simpa using hv)
  ·rw [a6 (by omega)] at hc hv
   rw [l3] at hv
   rw [bu] at hc hv
   rw [show o+new.length+(i - o - new.length)=i from by omega] at hc hv
   exact h i c v hc (by simpa using hv)
section rules
variable {P:Program} {all:Array Oper} {rest:List Oper} {n:Nat} {tm:List (Nat×AV)} {hp:Heap} {Q:St→Prop} {d:Nat} {ty:TypeId} {pos:String} {af:Array Edge}
theorem Av.refl (l:List AV):Av hp l l:=by
 induction l with
 | nil=>exact .nil
 | cons a l ih=>exact .cons (.refl a) ih
def Pu (P:Program) (f:FuncId) (args:List AV) (R:AV):Prop:=aY P f args [] (fun r _=>r=R)
theorem bl {f:FuncId} {args:List Operand} {ts:Array TypeId} {l l':List AV} {R:AV} [cq P f] (hl:A8 tm args=some l) (c:Pu P f l' R) (co:Av hp l l') (hn:aa d n=true)
 (kk:ae P all rest ⟨n,(d,R) :: tm,hp⟩ Q):ae P all (⟨some d,.call {callee:=.value (.func f),args:=args.toArray,argTypes:=ts},ty,pos,af,none⟩ :: rest) ⟨n,tm,hp⟩ Q:=by
 refine JL hl c co hn (fun r h' hr=>?_)
 subst hr
 exact ae.weaken (aS:=⟨n,(d,r) :: tm,hp⟩) ⟨rfl,fun _ _ h=>h,cf _ _⟩ kk
theorem gb {f:FuncId} {args:List Operand} {ts:Array TypeId} {l l':List AV} {R:AV} [cq P f] (hl:A8 tm args=some l) (c:Pu P f l' R) (co:sP hp l l') (hn:aa d n=true) (hR:R.Vo=true)
 (kk:ae P all rest ⟨n,(d,R) :: tm,hp⟩ Q):ae P all (⟨some d,.call {callee:=.value (.func f),args:=args.toArray,argTypes:=ts},ty,pos,af,none⟩ :: rest) ⟨n,tm,hp⟩ Q:=
 PJ hl c co hn (fun r h' hr=>by subst hr;exact ⟨hR,kk⟩)
theorem B2 {f:FuncId} {x:Operand} {args:List Operand} {ts:Array TypeId} {zI l l':List AV} {R:AV} [cq P f] (hx:dh tm x=some (.func (.func f) zI)) (hl:A8 tm args=some l) (c:Pu P f l' R) (co:Av hp (l++zI) l') (hn:aa d n=true)
 (kk:ae P all rest ⟨n,(d,R) :: tm,hp⟩ Q):ae P all (⟨some d,.call {callee:=.value x,args:=args.toArray,argTypes:=ts},ty,pos,af,none⟩ :: rest) ⟨n,tm,hp⟩ Q:=by
 refine PG hx hl c co (bv _) hn (fun r h' hr=>?_)
 subst hr
 exact ae.weaken (aS:=⟨n,(d,r) :: tm,hp⟩) ⟨rfl,fun _ _ h=>h,cf _ _⟩ kk
end rules
inductive RV (P:Program) (σ:St):ResultVar→AV→Prop
 | tmp (t:Nat) (av:AV) (h:lk σ.tm t=some av):RV P σ (.tmp t) av
 | all (p ty:Nat) (b:Bk) (cs:List AV) (D:TypeDesc) (i:TypeInfo) (h:lk σ.tm p=some (.ptr b 0)) (f:mb σ.hp b (.cells cs)) (hu:P.underlying ty=some D) (hi:P.info? ty=some i) (hD:TypeDesc.jN D=true) (hs:ag cs.length i.size=true):RV P σ (.cell p ty) (.agg cs)
 | one (p ty:Nat) (b:Bk) (cs:List AV) (av:AV) (D:TypeDesc) (h:lk σ.tm p=some (.ptr b 0)) (f:mb σ.hp b (.cells cs)) (hu:P.underlying ty=some D) (hD:TypeDesc.jN D=false) (hs:cs[0]? =some av):RV P σ (.cell p ty) av
def B3 (tmps:Array Value):ResultVar→Sem Value
 | .tmp t=>pure (tmps.getD t undef)
 | .cell a t=>do loadVar t (← asAddr (tmps.getD a undef))
theorem RV.run {P:Program} {σ:St} {rv:ResultVar} {av:AV} (h:RV P σ rv av) {w:World} {S:Nat→Prop} {a:Act} (r:ey w S σ a):∃ v,(B3 a.tmps rv).run P w=.ok v w∧At w S av v:=by
 cases h with
 | tmp t av h=>
   obtain ⟨v,h1,h2⟩:=r.tm t _ h
   exact ⟨v,by simp [B3,h1],h2⟩
 | all p ty b cs D i h f hu hi hD hs=>
   obtain ⟨v,h1,h2⟩:=r.tm p _ h
   obtain ⟨m,e1,rfl⟩:=h2.tA
   obtain ⟨_,m',vs,E,g1,g2,g3,g4⟩:=sG r.hp f
   obtain rfl:m'=m:=by rw [g1] at e1;exact ac e1
   have hlen:vs.toList.length=i.size:=by simp [g3];exact aL hs
   refine ⟨.agg vs,?_,.agg cs vs g3.symm g4⟩
   have:=iZ (P:=P) hu hD hi (w:=w) (ad:=⟨m',0,none⟩) (vs:=vs.toList) hlen (fun j v hv=>by rw [mN,mR g2];simpa using hv)
   simp [B3,h1,asAddr,this]
 | one p ty b cs av D h f hu hD hs=>
   obtain ⟨v,h1,h2⟩:=r.tm p _ h
   obtain ⟨m,e1,rfl⟩:=h2.tA
   obtain ⟨_,m',vs,E,g1,g2,g3,g4⟩:=sG r.hp f
   obtain rfl:m'=m:=by rw [g1] at e1;exact ac e1
   have ew:0 < vs.size:=by rw [g3];exact (bx.1 hs).1
   have hv:vs[0]? =some vs[0]:=by simp [ew]
   refine ⟨vs[0],?_,g4 0 av _ hs hv⟩
   have:=oE (P:=P) hu hD (w:=w) (ad:=⟨m',0,none⟩) (v:=vs[0]) (by rw [mR g2,hv])
   simp [B3,h1,asAddr,this]
inductive Rs (P:Program) (σ:St):List ResultVar→List AV→Prop
 | nil:Rs P σ [] []
 | cons {v:ResultVar} {l:List ResultVar} {a:AV} {as:List AV} (h:RV P σ v a) (k:Rs P σ l as):Rs P σ (v :: l) (a :: as)
def Aw:List AV→AV
 | [a]=>a
 | as=>.ma as
theorem Rs.run {P:Program} {σ:St} {w:World} {S:Nat→Prop} {a:Act} (r:ey w S σ a):∀ {l:List ResultVar} {as:List AV},Rs P σ l as→∃ vs,(l.mapM (B3 a.tmps)).run P w=.ok vs w∧as.length=vs.length∧∀ (i:Nat) c v,as[i]? =some c→vs[i]? =some v→At w S c v
 | [],_,.nil=>⟨[],by simp,rfl,fun i c v hc=>by simp at hc⟩
 | x :: l,_,.cons (a:=av) (as:=as) h k=>by
   obtain ⟨v,h1,h2⟩:=h.run r
   obtain ⟨vs,g1,g2,g3⟩:=Rs.run r k
   refine ⟨v :: vs,by simp [h1,g1],by simp [g2],fun i c u hc hu=>?_⟩
   match i with
   | 0=>simp at hc hu;subst hc;subst hu;exact h2
   | i+1=>exact g3 i c u (by simpa using hc) (by simpa using hu)
theorem Gq {P:Program} {fn:Func} {l:List ResultVar} {σ:St} {as:List AV} (hf:fn.results=l.toArray) (h:Rs P σ l as) {w:World} {S:Nat→Prop} {a:Act} (r:ey w S σ a):∃ v,(results fn a.tmps).run P w=.ok v w∧At w S (Aw as) v:=by
 obtain ⟨vs,g1,g2,g3⟩:=h.run r
 have hm:results fn a.tmps=(do let vs ← Functor.map List.toArray (l.mapM (B3 a.tmps));pure (if h:vs.size=1 then vs[0] else .tuple vs)):=by
  have Yo:(fun (x:ResultVar)=>(match x with | .tmp t=>pure (a.tmps.getD t undef) | .cell p t=>do loadVar t (← asAddr (a.tmps.getD p undef)):Sem Value))=B3 a.tmps:=by
   funext x
   cases x<;>rfl
  unfold results
  rw [hf,List.mapM_toArray]
  rw [← Yo]
  rfl
 refine ⟨if h:vs.toArray.size=1 then vs.toArray[0] else .tuple vs.toArray,?_,?_⟩
 ·rw [hm,Sem.run_bind,Sem.run_map,g1]
  rfl
 ·clear h hm g1
  match as,vs,g2,g3 with
  | [],[],_,_=>simp [Aw];exact .ma [] _ rfl (fun i c v hc=>by simp at hc)
  | [x],[v],_,g3=>simp [Aw];exact g3 0 x v rfl rfl
  | x :: y :: as,v :: u :: vs,hl,g3=>simp [Aw];exact .ma _ _ (by simpa using hl) (fun i c v hc hv=>g3 i c v hc (by simpa using hv))
theorem aY.Vp {P:Program} {f:FuncId} {fn:Func} {c:Code} {args:List AV} {h:Heap} {Q:AV→Heap→Prop} {n:Nat} {l:List ResultVar} (hf:P.funcs[f]? =some fn) (hb:fn.body=some c) (hn:fn.ntmps=n) (SG:fn.results=l.toArray)
 (hle:ai args.length n=true) (kk:ab P (fun σ=>aq σ (fun aS=>∃ as,Rs P aS l as∧Q (Aw as) aS.hp)) [.code c] ⟨n,Pt args 0,h⟩):aY P f args h Q:=by
 intro w S vs hr hl ha
 refine calls_of_wp hf hb ?_
 have r0:ey w S ⟨n,Pt args 0,h⟩ {tmps:=vs++bi (fn.ntmps - vs.size) undef,defers:=[]}:=by
  have:=bz hle
  refine ⟨by simp [hn];omega,rfl,fun s av hs=>?_,hr⟩
  obtain ⟨_,h2⟩:=Mf args 0 s av hs
  simp only [Nat.sub_zero] at h2
  have ew:s < args.length:=(bx.1 h2).1
  have Vq:s < vs.size:=by omega
  refine ⟨vs[s],by simp [Array.getElem?_append,Vq],ha s av _ h2 (by simp [Vq])⟩
 refine wp_mono (kk w S _ r0) ?_
 rintro e a' w' ⟨aS,S',h1,h2,h3⟩
 have fin:aq aS (fun KT=>∃ as,Rs P KT l as∧Q (Aw as) KT.hp)→a'.defers=[]∧∃ v,(results fn a'.tmps).run P w'=.ok v w'∧∃ v' r h' S',(Ending.returned v:Ending)=.returned v'∧Q r h'∧At w' S' r v'∧cY w' S' h'∧lr w S h w' S' h':=by
  intro hi
  obtain ⟨JH,S2,⟨as,Yp,hq⟩,g2,g3⟩:=hi w' S' a' h2
  obtain ⟨v,Xj,Yq⟩:=Gq SG Yp g2
  exact ⟨g2.defers,v,Xj,v,Aw as,JH.hp,S2,rfl,hq,Yq,g2.hp,h3.trans g3⟩
 cases e with
 | normal=>exact fin h1
 | ret=>exact fin h1
 | exit id=>exact h1.elim
 | goto l=>exact h1.elim
 | panic c=>exact h1.elim
 | outgrown=>exact h1.elim
inductive HS:Heap→Heap→Prop
 | nil {h:Heap}:HS h []
 | cons {h h1 t:Heap} {b:Bk} {o:Ob} (u:xA h b o h1) (k:HS h1 t):HS h ((b,o) :: t)
theorem HS.perm {h t:Heap} (s:HS h t):∃ r,h.Perm (t++r):=by
 induction s with
 | nil=>exact ⟨_,bv _⟩
 | cons u k ih=>
   obtain ⟨r,hr⟩:=ih
   exact ⟨r,u.perm.trans (ci _ hr)⟩
theorem aq.Vr {n:Nat} {tm pZ:List (Nat×AV)} {hp dE:Heap} {T:St→Prop} (h:DT tm pZ) (hs:HS hp dE) (k:aq ⟨n,pZ,dE⟩ T):aq ⟨n,tm,hp⟩ T:=by
 obtain ⟨r,hr⟩:=hs.perm
 refine aq.step (Df:=⟨n,pZ,dE⟩) (fun w S a rel=>⟨_,S,rfl,⟨rel.size,rel.defers,fun s av hh=>rel.tm s av (h.lk s av hh),(rel.hp.perm hr).sub (List.sublist_append_left _ _)⟩,lr.less (lr.refl w S hp) fun m hm=>?_⟩) k
 obtain ⟨e,he,hb⟩:=hm
 exact ⟨e,hr.mem_iff.2 (cl _ he),hb⟩
abbrev I (n:Int):AV:=.int .i64 n
section rules
variable {P:Program} {all:Array Oper} {rest:List Oper} {n:Nat} {tm:List (Nat×AV)} {hp:Heap} {Q:St→Prop} {d:Nat} {ty:TypeId} {pos:String} {af:Array Edge}
theorem KU {t e:TypeId} {i:TypeInfo} {z:Value} {x y:Operand} {src:AV} {b:Bk} {len sz:Nat} {xs ys:List AV} {dE:Bk→Heap} [aF P t (.slice e)] [aZ P e i] (hx:dh tm x=some (.sl sz b 0 len)) (hy:dh tm y=some src) (hz:i.zero=some z)
 (Is:ag z.cells.size i.size=true) (lp:ag i.size sz=true) (h0:aa 0 sz=true) (hn:aa d n=true) (UG:ai i.bytes 65536=true) (hs:Src hp sz src ys) (u:∀ b',nC hp b (.arr sz xs) b' (.arr sz (xs++ys)) (dE b')) (hlen:len=xs.length)
 (hb:xs.length+ys.length≤1000000000)
 (kk:∀ b':Bk,ae P all rest ⟨n,(d,.sl sz b' 0 (len+ys.length)) :: tm,dE b'⟩ Q):ae P all (⟨some d,.call {callee:=.builtin .append,args:=#[x,y],argTypes:=#[t,t]},ty,pos,af,none⟩ :: rest) ⟨n,tm,hp⟩ Q:=by
 refine Ml hx hy hz Is lp h0 hn hs u hlen ?_ (by omega) kk
 have h1:=bz UG
 have:=Nat.mul_le_mul hb h1
 omega
end rules
def qg:List AV→Option (List AV)
 | []=>some []
 | x :: r=>match qg r with
   | some l=>some (x :: l)
   | none=>none
theorem lB:∀ {l l':List AV},qg l=some l'→l=l'
 | [],l',h=>by simp [qg] at h;exact h.symm
 | x :: r,l',h=>by
   simp only [qg] at h
   split at h
   ·rename_i l hl
    obtain rfl:=ac h
    rw [lB hl]
   ·cases h
def Mp:List AV→Nat→Option (List (Nat×AV))
 | [],_=>some []
 | x :: r,i=>match Mp r (i+1) with
   | some l=>some ((i,x) :: l)
   | none=>none
theorem JM:∀ {l:List AV} {i:Nat} {l':List (Nat×AV)},Mp l i=some l'→Pt l i=l'
 | [],i,l',h=>by simp [Mp] at h;simpa [Pt] using h
 | x :: r,i,l',h=>by
   simp only [Mp] at h
   split at h
   ·rename_i l hl
    obtain rfl:=ac h
    rw [Pt,JM hl]
   ·cases h
class lC (P:Program) (t:TypeId) (sz:outParam Nat):Prop where
 h:∃ i,P.info? t=some i∧i.size=sz
theorem aY.ch {P:Program} {f:FuncId} {fn:Func} {c:Code} {args:List AV} {h:Heap} {Q:AV→Heap→Prop} {n:Nat} {l:List ResultVar} {tm:List (Nat×AV)} (hf:P.funcs[f]? =some fn) (hb:fn.body=some c) (hn:fn.ntmps=n) (SG:fn.results=l.toArray)
 (htm:Mp args 0=some tm) (hle:ai args.length n=true) (kk:ab P (fun σ=>aq σ (fun aS=>∃ rs,Rs P aS l rs∧Q (Aw rs) aS.hp)) [.code c] ⟨n,tm,h⟩):aY P f args h Q:=
 aY.Vp hf hb hn SG hle (by rw [JM htm];exact kk)
section rules
variable {P:Program} {all:Array Oper} {rest:List Oper} {n:Nat} {tm:List (Nat×AV)} {hp:Heap} {Q:St→Prop} {d:Nat} {ty:TypeId} {pos:String} {af:Array Edge}
theorem eA {x:Operand} {E:TypeId} {av:AV} {cs:List AV} (hx:dh tm x=some av) (hc:qg av.cells=some cs) (h1:jq cs=true) (hn:aa d n=true)
 (kk:∀ b:Bk,ae P all rest ⟨n,(d,.ptr b 0) :: tm,(b,.cells cs) :: hp⟩ Q):ae P all (⟨some d,.box E x,ty,pos,af,none⟩ :: rest) ⟨n,tm,hp⟩ Q:=by
 obtain rfl:=lB hc
 exact Vi hx h1 hn kk
theorem bY {E:TypeId} {i:TypeInfo} {z:Value} {cs:List AV} [aZ P E i] (hz:i.zero=some z) (hc:qg (zE z).cells=some cs) (h1:jq cs=true) (hn:aa d n=true)
 (kk:∀ b:Bk,ae P all rest ⟨n,(d,.ptr b 0) :: tm,(b,.cells cs) :: hp⟩ Q):ae P all (⟨some d,.alloc E,ty,pos,af,none⟩ :: rest) ⟨n,tm,hp⟩ Q:=by
 obtain rfl:=lB hc
 exact Px hz h1 hn kk
theorem aB {x:Operand} {s:TypeId} {j off:Nat} {b:Bk} {o o':Nat} [l0 P s j off] (hx:dh tm x=some (.ptr b o)) (ho:o+off=o'):QV P ⟨some d,.fieldAddr s x j,ty,pos,af,none⟩ ⟨n,tm,hp⟩ (.ptr b o'):=by
 subst ho
 exact Gg hx
theorem bn {x:Operand} {s:TypeId} {j off:Nat} {cs jP:List AV} [l0 P s j off] (hx:dh tm x=some (.cw cs)) (hc:qg (cs.drop off)=some jP):QV P ⟨some d,.fieldAddr s x j,ty,pos,af,none⟩ ⟨n,tm,hp⟩ (.cw jP):=by
 obtain rfl:=lB hc
 exact ES hx
theorem aP {t:TypeId} {D:TypeDesc} {i:TypeInfo} {x:Operand} {b:Bk} {o:Nat} {cs jP:List AV} [aF P t D] [aZ P t i] (hD:TypeDesc.jN D=true) (hx:dh tm x=some (.ptr b o)) (f:mb hp b (.cells cs)) (ho:ai (o+i.size) cs.length=true) (hc:qg ((cs.drop o).take i.size)=some jP):
 QV P ⟨some d,.load t x,ty,pos,af,none⟩ ⟨n,tm,hp⟩ (.agg jP):=by
 obtain rfl:=lB hc
 exact A9 hD hx f ho
theorem nD {t:TypeId} {D:TypeDesc} {i:TypeInfo} {x:Operand} {cs jP:List AV} [aF P t D] [aZ P t i] (hD:TypeDesc.jN D=true) (hx:dh tm x=some (.cw cs)) (ho:ai i.size cs.length=true) (hc:qg (cs.take i.size)=some jP):
 QV P ⟨some d,.load t x,ty,pos,af,none⟩ ⟨n,tm,hp⟩ (.agg jP):=by
 obtain rfl:=lB hc
 exact zJ hD hx ho
theorem da {t:TypeId} {i:TypeInfo} {z:Value} {parts:List (Nat×Operand)} {l:List (Nat×AV)} {cs jP:List AV} {pl:List (Nat×Nat)} [aZ P t i] [jO P t pl] (hz:i.zero=some z) (hl:UF tm parts=some l) (h1:jq (zE z).cells=true)
 (hc:DQ pl (zE z).cells l=some cs) (EX:qg cs=some jP):QV P ⟨some d,.build t parts.toArray,ty,pos,af,none⟩ ⟨n,tm,hp⟩ (.agg jP):=by
 obtain rfl:=lB EX
 exact Pz hz hl h1 hc
theorem aI {t:TypeId} {i:TypeInfo} {x y:Operand} {b:Bk} {o:Nat} {cs jP:List AV} {av:AV} {dE:Heap} [aZ P t i] (hx:dh tm x=some (.ptr b o)) (hy:dh tm y=some av) (h1:jq av.cells=true) (lp:ag av.cells.length i.size=true)
 (u:nC hp b (.cells cs) b (.cells jP) dE) (hc:qg (nX cs o av.cells)=some jP) (ho:ai (o+av.cells.length) cs.length=true) (kk:ae P all rest ⟨n,tm,dE⟩ Q):ae P all (⟨none,.store t x y,ty,pos,af,none⟩ :: rest) ⟨n,tm,hp⟩ Q:=by
 obtain rfl:=lB hc
 exact Gh hx hy h1 lp u ho kk
theorem bf {t e:TypeId} {i:TypeInfo} {z:Value} {len sz:Nat} {parts:List (Nat×Operand)} {xs:List AV} [aF P t (.slice e)] [aZ P e i] [lC P e sz] (hz:i.zero=some z) (hl:Mj tm parts 0=some xs) (hlen:ag parts.length len=true) (zF:Au i.size xs=true)
 (PB:ai (len * i.size) 16777216=true) (hn:aa d n=true) (kk:ae P all rest ⟨n,(d,.list sz xs) :: tm,hp⟩ Q):ae P all (⟨some d,.buildSlice t len parts.toArray,ty,pos,af,none⟩ :: rest) ⟨n,tm,hp⟩ Q:=by
 obtain ⟨i',h1,h2⟩:=lC.h (P:=P) (t:=e)
 obtain rfl:i'=i:=by rw [aZ.h (P:=P) (t:=e)] at h1;exact (ac h1).symm
 subst h2
 exact Dn hz hl hlen zF PB hn kk
end rules
structure Grow (w:World) (S:Nat→Prop) (w':World) (S':Nat→Prop):Prop where
 ext:Ext w w'
 up:∀ n,S n→S' n
 down:∀ n,n < w.heap.size→S' n→S n
 slt:∀ n,S' n→n < w'.heap.size
theorem Grow.refl {w:World} {S:Nat→Prop} (h:∀ n,S n→n < w.heap.size):Grow w S w S:=⟨Ext.refl w,fun _ h=>h,fun _ _ h=>h,h⟩
theorem Grow.trans {a b c:World} {S T U:Nat→Prop} (h:Grow a S b T) (k:Grow b T c U):Grow a S c U:=
 ⟨h.ext.trans k.ext,fun n hn=>k.up n (h.up n hn),fun n hn hs=>h.down n hn (k.down n (bG hn h.ext.size) hs),k.slt⟩
theorem Grow.lz {w w':World} {S S':Nat→Prop} (g:Grow w S w' S') (h:∀ n,S n→n < w.heap.size):∀ n,S n→S' n∧w'.heap[n]? =w.heap[n]?:=fun n hn=>⟨g.up n hn,g.ext.same n (h n hn)⟩
theorem cY.grow {w w':World} {S S':Nat→Prop} {h:Heap} (r:cY w S h) (g:Grow w S w' S'):cY w' S' h where
 nodup:=r.nodup
 holds e he:=(r.holds e he).mono (g.lz r.slt) (fun n hn=>g.ext.same n (r.lt ⟨e,he,hn⟩))
 sep e he n hn:=by
  rw [← r.sep e he n hn]
  exact ⟨g.down n (r.lt ⟨e,he,hn⟩),g.up n⟩
 slt:=g.slt
 ib t o ho:=⟨(g.lz r.slt t (r.ib t o ho).1).1,BR (g.lz r.slt t (r.ib t o ho).1).2 (r.ib t o ho).2⟩
theorem Grow.evo {w w':World} {S S':Nat→Prop} (g:Grow w S w' S') (h:∀ n,S n→n < w.heap.size) (hp:Heap):lr w S hp w' S' hp:=
 ⟨g.ext.os,g.ext.tape,g.ext.output,g.ext.size,g.lz h,fun n hn _=>⟨g.ext.same n hn,g.down n hn⟩,fun _ hn=>.inl hn,g.ext.drawn⟩
def looks (all:Array Oper) (o:Oper):List Nat:=
 (o.op.operands.toList.filterMap fun | .tmp t=>some t | _=>none)++(match o.guard with | some (g,_)=>((all[g]?).bind (·.dst)).toList | none=>[])
abbrev Env:=Nat→Option AV
def EY (w:World) (S:Nat→Prop) (ls:List Nat) (e:Env) (a:Act):Prop:=∀ s∈ls,∀ av,e s=some av→∃ v,a.tmps[s]? =some v∧At w S av v
def MV (P:Program) (all:Array Oper) (n:Nat) (o:Oper) (e:Env) (hp:Heap) (av:AV):Prop:=
 ∀ w S a,a.tmps.size=n→a.defers=[]→cY w S hp→EY w S (looks all o) e a→∀ (K:Act→World→Prop) (Q:Exit→Act→World→Prop),
   (∀ v w' S',Grow w S w' S'→At w' S' av v→K (a.put o.dst v) w')→o.wp P a w K Q
def xC (e:Env) (d:Option Nat) (av:AV):Env:=match d with
 | some d=>fun s=>if d=s then some av else e s
 | none=>e
def oK (all:Array Oper) (o:Oper) (e:Env) (b:Bool):Prop:=
 match o.guard with
 | none=>b=true
 | some (j,want)=>∃ s,(all[j]?).bind (·.dst)=some s∧((∃ c,e s=some (.bool c)∧b=(c==want))∨(e s=some (.raw undef)∧b=false))
inductive PL (P:Program) (all:Array Oper) (n:Nat) (hp:Heap):List Oper→Env→Env→Prop
 | nil (e:Env):PL P all n hp [] e e
 | run {o:Oper} {l:List Oper} {e e':Env} {av:AV} (hg:oK all o e true) (h:MV P all n o e hp av) (hd:∀ d,o.dst=some d→d < n) (k:PL P all n hp l (xC e o.dst av) e'):PL P all n hp (o :: l) e e'
 | pass {o:Oper} {l:List Oper} {e e':Env} (hg:oK all o e false) (hd:∀ d,o.dst=some d→d < n) (k:PL P all n hp l (xC e o.dst (.raw undef)) e'):PL P all n hp (o :: l) e e'
def RI (P:Program) (all:Array Oper) (n:Nat) (hp:Heap) (o:Oper) (e:Env) (av:AV):Prop:=
 (∀ d,o.dst=some d→d < n)∧((oK all o e true∧MV P all n o e hp av)∨(oK all o e false∧av=.raw undef))
theorem PL.Iv {P:Program} {all:Array Oper} {n:Nat} {hp:Heap} {l:List Oper} {e e':Env} (h:PL P all n hp l e e'):
 ∃ (mY:Nat→AV) (en:Nat→Env),en 0=e∧en l.length=e'∧∀ i o,l[i]? =some o→RI P all n hp o (en i) (mY i)∧en (i+1)=xC (en i) o.dst (mY i):=by
 induction h with
 | nil e=>exact ⟨fun _=>.nil,fun _=>e,rfl,rfl,fun i o h=>by simp at h⟩
 | @run o l e e' av hg hm hd k ih=>
   obtain ⟨mY,en,h0,h1,h2⟩:=ih
   refine ⟨fun i=>match i with | 0=>av | i+1=>mY i,fun i=>match i with | 0=>e | i+1=>en i,rfl,h1,fun i o' ho=>?_⟩
   match i with
   | 0=>simp at ho;subst ho;exact ⟨⟨hd,.inl ⟨hg,hm⟩⟩,h0⟩
   | i+1=>exact h2 i o' (by simpa using ho)
 | @pass o l e e' hg hd k ih=>
   obtain ⟨mY,en,h0,h1,h2⟩:=ih
   refine ⟨fun i=>match i with | 0=>.raw undef | i+1=>mY i,fun i=>match i with | 0=>e | i+1=>en i,rfl,h1,fun i o' ho=>?_⟩
   match i with
   | 0=>simp at ho;subst ho;exact ⟨⟨hd,.inr ⟨hg,rfl⟩⟩,h0⟩
   | i+1=>exact h2 i o' (by simpa using ho)
def waits (o:Oper) (i:Nat):Bool:=o.after.toList.any fun e=>Region.binds .any e&&ag e.on i
def Ax (all:Array Oper) (oi oj:Oper):Bool:=
 match oi.dst,oj.dst with
 | some d,some d'=>(looks all oj).contains d||(looks all oi).contains d'||ag d d'
 | some d,none=>(looks all oj).contains d
 | none,some d'=>(looks all oi).contains d'
 | none,none=>false
inductive Ay (all:Array Oper):Nat→Nat→Prop
 | one {j i:Nat} {oj:Oper} (hj:all[j]? =some oj) (hw:waits oj i=true):Ay all j i
 | step {j k i:Nat} {oj:Oper} (hj:all[j]? =some oj) (hw:waits oj k=true) (h:Ay all k i):Ay all j i
def EZ (acc:List Nat):List Edge→Nat→Nat
 | [],m=>m
 | e :: r,m=>EZ acc r (match Region.binds .any e with
   | true=>m||| (1 <<< e.on)||| acc.getD e.on 0
   | false=>m)
def Mq:List Oper→List Nat→List Nat
 | [],acc=>acc
 | o :: r,acc=>Mq r (acc++[EZ acc o.after.toList 0])
def KV (all:Array Oper):List Nat:=Mq all.toList []
theorem Az {acc:List Nat} {i:Nat}:∀ (es:List Edge) (m:Nat),(EZ acc es m).testBit i=true→m.testBit i=true∨∃ e∈es,Region.binds .any e=true∧(e.on=i∨(acc.getD e.on 0).testBit i=true)
 | [],m,h=>.inl h
 | e :: r,m,h=>by
   simp only [EZ] at h
   rcases Az r _ h with h | ⟨e',he,hb,hh⟩
   ·split at h
    ·rename_i hb
     rw [cn,cn,cp,cp] at h
     rcases h with (h | h) | h
     ·exact .inl h
     ·refine .inr ⟨e,by simp,hb,.inl ?_⟩
      rw [Nat.one_shiftLeft,Nat.testBit_two_pow] at h
      simpa using h
     ·exact .inr ⟨e,by simp,hb,.inr h⟩
    ·exact .inl h
   ·exact .inr ⟨e',by simp [he],hb,hh⟩
theorem B4 {all:Array Oper}:∀ (l:List Oper) (acc:List Nat) (pre:List Oper),all.toList=pre++l→acc.length=pre.length→(∀ j i,(acc.getD j 0).testBit i=true→Ay all j i)→∀ j i,((Mq l acc).getD j 0).testBit i=true→Ay all j i
 | [],acc,pre,_,_,h=>h
 | o :: r,acc,pre,hl,hlen,h=>by
   refine B4 r _ (pre++[o]) (by simpa using hl) (by simp [hlen]) (fun j i hb=>?_)
   rcases al j acc.length with hj | hj
   ·refine h j i ?_
    rw [bm,be hj] at hb
    rw [bm]
    exact hb
   ·by_cases Xn:j=acc.length
    ·rw [bm,a6 hj,Xn] at hb
     simp only [Nat.sub_self,List.getElem?_cons_zero,bP] at hb
     have O4:all[j]? =some o:=by
      rw [← Array.getElem?_toList,hl,a6 (by omega),Xn,hlen];simp
     rcases Az _ _ hb with hz | ⟨e,he,hbd,hh⟩
     ·simp at hz
     ·have hw:waits o e.on=true:=by
       simp only [waits,bU,ap]
       exact ⟨e,he,hbd,by simp⟩
      rcases hh with hh | hh
      ·subst hh;exact .one O4 hw
      ·exact .step O4 hw (h _ _ hh)
    ·rw [bm,a6 hj,cv (by simp;omega)] at hb
     simp at hb
theorem oT {all:Array Oper} {j i:Nat} (h:((KV all).getD j 0).testBit i=true):Ay all j i:=
 B4 all.toList [] [] (by simp) rfl (fun j i h=>by simp at h) j i h
def Gr (all:Array Oper) (m:Nat) (A:List Nat):Bool:=
 (List.range all.size).all fun j=>match all[j]? with
  | none=>true
  | some oj=>(oj.after.all fun e=>!Region.binds .any e||aa e.on j)&&(List.range j).all fun i=>match all[i]? with
    | none=>true
    | some oi=>if aa j m then !Ax all oi oj||(A.getD j 0).testBit i else (A.getD j 0).testBit i
def vz (all:Array Oper) (m:Nat):Prop:=∃ A,KV all=A∧Gr all m A=true
theorem kZ {all:Array Oper} {m:Nat} (h:vz all m) {i j:Nat} {oi oj:Oper} (hj:all[j]? =some oj) (hi:all[i]? =some oi) (yz:i < j):(j < m→Ax all oi oj=true→Ay all j i)∧(m≤j→Ay all j i):=by
 obtain ⟨A,hA,h⟩:=h
 subst hA
 have E0:j < all.size:=(bW.1 hj).1
 simp only [Gr,bX,a7] at h
 have h1:=h j E0
 rw [hj] at h1
 simp only [ap,bX,a7] at h1
 have h2:=h1.2 i yz
 rw [hi] at h2
 simp only at h2
 refine ⟨fun hm hc=>?_,fun hm=>?_⟩
 ·rw [if_pos (by simpa using hm)] at h2
  exact oT (by simpa [hc] using h2)
 ·rw [if_neg (by simp;omega)] at h2
  exact oT h2
theorem x7 {all:Array Oper} {m:Nat} (h:vz all m) {j:Nat} {oj:Oper} (hj:all[j]? =some oj) {e:Edge} (he:e∈oj.after) (hb:Region.binds .any e=true):e.on < j:=by
 obtain ⟨A,hA,h⟩:=h
 have E0:j < all.size:=(bW.1 hj).1
 simp only [Gr,bX,a7] at h
 have h1:=h j E0
 rw [hj] at h1
 simp only [ap,b3] at h1
 have:=h1.1 e he
 simpa [hb] using this
theorem tC {all:Array Oper} {listed:Array Bool} {i j:Nat} {oj:Oper} (hj:all[j]? =some oj) (hr:j∈Region.ready .any all listed) (hw:waits oj i=true):listed.getD i false=true:=by
 simp only [Region.ready,b4,a7,hj,cy,bP,ap,b3] at hr
 simp only [waits,bU,ap] at hw
 obtain ⟨e,he,hb,Vs⟩:=hw
 have:=hr.2.2 e (by simpa using he)
 rw [hb] at this
 obtain rfl:e.on=i:=aL Vs
 simpa using this
def mf (all:Array Oper) (listed:Array Bool):Prop:=∀ k i o,listed.getD k false=true→all[k]? =some o→waits o i=true→listed.getD i false=true
theorem mf.PM {all:Array Oper} {listed:Array Bool} (c:mf all listed) {j i:Nat} (h:Ay all j i) (hl:listed.getD j false=true):listed.getD i false=true:=by
 induction h with
 | one hj hw=>exact c _ _ _ hl hj hw
 | step hj hw _ ih=>exact ih (c _ _ _ hl hj hw)
theorem mf.ready {all:Array Oper} {listed:Array Bool} (c:mf all listed) {j i:Nat} (h:Ay all j i) (hr:j∈Region.ready .any all listed):listed.getD i false=true:=by
 cases h with
 | one hj hw=>exact tC hj hr hw
 | step hj hw h=>exact c.PM h (tC hj hr hw)
theorem xg {all:Array Oper} {listed:Array Bool} {j:Nat} (hr:j∈Region.ready .any all listed):j < all.size∧listed.getD j true=false:=by
 simp only [Region.ready,b4,a7,ap] at hr
 exact ⟨hr.1,by simpa using hr.2.1⟩
theorem zN {all:Array Oper} {m:Nat} (h:vz all m) {listed:Array Bool} (hl:listed.size=all.size) (hr:Region.ready .any all listed=[]):∀ i,i < all.size→listed.getD i false=true:=by
 intro i
 induction i using Nat.strongRecOn with
 | _ i ih=>
   intro hi
   cases hv:listed.getD i false with
   | true=>rfl
   | false=>
     exfalso
     have:i∈Region.ready .any all listed:=by
      simp only [Region.ready,b4,a7,ap]
      have SH:i < listed.size:=by omega
      refine ⟨hi,?_,?_⟩
      ·simp [SH] at hv ⊢;exact hv
      ·have AA:all[i]? =some all[i]:=by simp [hi]
       rw [AA]
       simp only [cy,bP,b3]
       intro e he
       cases hb:Region.binds .any e with
       | false=>simp
       | true=>
         have ew:=x7 h AA he hb
         simp [ih e.on ew (by omega)]
     rw [hr] at this
     simp at this
section order
variable {P:Program} {all:Array Oper} {n m:Nat} {hp:Heap}
def cur (all:Array Oper) (mY:Nat→AV) (e:Env) (listed:Array Bool):Nat→Env
 | 0=>e
 | k+1=>if listed.getD k false then xC (cur all mY e listed k) ((all[k]?).bind (·.dst)) (mY k) else cur all mY e listed k
theorem mS {e:Env} {d:Option Nat} {av:AV} {s:Nat} (h:d≠some s):xC e d av s=e s:=by
 cases d with
 | none=>rfl
 | some d=>simp only [xC];rw [if_neg (fun e=>h (by rw [e]))]
theorem pf {e:Env} {av:AV} {s:Nat}:xC e (some s) av s=some av:=by simp [xC]
theorem x8 {oi oj:Oper} {s:Nat} (hd:oi.dst=some s) (hs:s∈looks all oj):Ax all oi oj=true:=by
 unfold Ax
 rw [hd]
 cases hj:oj.dst<;>simp [hs]
theorem AB {oi oj:Oper} {s:Nat} (hd:oj.dst=some s) (hs:s∈looks all oi):Ax all oi oj=true:=by
 unfold Ax
 rw [hd]
 cases hi:oi.dst<;>simp [hs]
theorem DU {oi oj:Oper} {s:Nat} (hi:oi.dst=some s) (hj:oj.dst=some s):Ax all oi oj=true:=by
 unfold Ax
 rw [hi,hj]
 simp
structure O5 (all:Array Oper) (m:Nat) (listed:Array Bool):Prop where
 size:listed.size=all.size
 head:∀ k,listed.getD k false=true→k < m
 closed:∀ k i o,listed.getD k false=true→all[k]? =some o→waits o i=true→listed.getD i false=true
theorem Bx {listed:Array Bool} {i:Nat} (h:listed.getD i true=false):listed.getD i false=false:=by
 by_cases hi:i < listed.size
 ·simp [hi] at h ⊢;exact h
 ·simp [hi]
variable {mY:Nat→AV} {en:Nat→Env} {e:Env}
theorem Mr (hB:vz all m) {listed:Array Bool} (L:O5 all m listed) (h0:en 0=e) (hs:∀ i o,i < m→all[i]? =some o→en (i+1)=xC (en i) o.dst (mY i)) (hm:m≤all.size)
 {i:Nat} {o:Oper} (ho:all[i]? =some o) (Dg:i < m) (xD:listed.getD i false=false) (hr:∀ j,Ay all i j→listed.getD j false=true) {s:Nat} (O6:s∈looks all o):∀ k,k≤all.size→cur all mY e listed k s=en (min k i) s:=by
 intro k
 induction k with
 | zero=>intro _;simp [cur,h0]
 | succ k ih=>
   intro hk
   have vK:=ih (by omega)
   have dW:all[k]? =some all[k]:=by simp [show k < all.size by omega]
   simp only [cur,dW,b5]
   rcases b6 k i with ew | heq | Iw
   ·rw [bo (by omega)] at vK
    rw [bo (by omega),hs k _ (by omega) dW]
    by_cases hd:(all[k]).dst=some s
    ·have hl:listed.getD k false=true:=hr k ((kZ hB ho dW ew).1 Dg (x8 hd O6))
     rw [if_pos hl,hd,pf,pf]
    ·rw [mS hd]
     split
     ·rw [mS hd];exact vK
     ·exact vK
   ·subst heq
    rw [xD]
    simp only [Bool.false_eq_true,if_false]
    rw [aw (by omega)]
    rw [aw (by omega)] at vK
    exact vK
   ·rw [aw (by omega)] at vK
    rw [aw (by omega)]
    by_cases hl:listed.getD k false=true
    ·by_cases hd:(all[k]).dst=some s
     ·exfalso
      have hw:=(kZ hB dW ho Iw).1 (L.head k hl) (AB hd O6)
      have:=mf.PM L.closed hw hl
      rw [xD] at this;cases this
     ·rw [if_pos hl,mS hd];exact vK
    ·rw [if_neg hl];exact vK
theorem jR {listed:Array Bool} {i k:Nat} (hi:i < listed.size):(listed.setIfInBounds i true).getD k false=(if k=i then true else listed.getD k false):=by
 by_cases hk:k < listed.size
 ·simp [hk,Array.getElem_setIfInBounds]
  by_cases h:k=i
  ·simp [h]
  ·have h':¬ i=k:=fun e=>h e.symm
   simp [h,h']
 ·have:k≠i:=by omega
  simp [hk,this]
theorem PN (hB:vz all m) {listed:Array Bool} (L:O5 all m listed) {i:Nat} {o:Oper} (ho:all[i]? =some o) (Dg:i < m) (xD:listed.getD i false=false) (s:Nat):
 ∀ k,k≤all.size→cur all mY e (listed.setIfInBounds i true) k s=(if i < k then xC (cur all mY e listed k) o.dst (mY i) s else cur all mY e listed k s):=by
 have hi:i < listed.size:=by rw [L.size];exact (bW.1 ho).1
 intro k
 induction k with
 | zero=>intro _;simp [cur]
 | succ k ih=>
   intro hk
   have vK:=ih (by omega)
   have dW:all[k]? =some all[k]:=by simp [show k < all.size by omega]
   simp only [cur,dW,b5,jR hi]
   rcases b6 k i with ew | heq | Iw
   ·rw [if_neg (by omega)] at vK
    have e1:(if k=i then true else listed.getD k false)=listed.getD k false:=if_neg (by omega)
    rw [e1,if_neg (show ¬ i < k+1 by omega)]
    by_cases hl:listed.getD k false=true
    ·rw [if_pos hl,if_pos hl]
     by_cases hd:(all[k]).dst=some s
     ·rw [hd,pf,pf]
     ·rw [mS hd,mS hd];exact vK
    ·rw [if_neg hl,if_neg hl];exact vK
   ·subst heq
    rw [if_neg (by omega)] at vK
    have e1:(if k=k then true else listed.getD k false)=true:=if_pos rfl
    rw [e1,if_pos (show k < k+1 by omega),if_pos rfl,xD,if_neg Bool.false_ne_true]
    obtain rfl:all[k]=o:=by rw [dW] at ho;exact ac ho
    by_cases hd:(all[k]).dst=some s
    ·rw [hd,pf,pf]
    ·rw [mS hd,mS hd];exact vK
   ·rw [if_pos Iw] at vK
    have e1:(if k=i then true else listed.getD k false)=listed.getD k false:=if_neg (by omega)
    rw [e1,if_pos (show i < k+1 by omega)]
    by_cases hl:listed.getD k false=true
    ·rw [if_pos hl,if_pos hl]
     by_cases hd:(all[k]).dst=some s
     ·by_cases E1:o.dst=some s
      ·exfalso
       have hw:=(kZ hB dW ho Iw).1 (L.head k hl) (DU E1 hd)
       have:=mf.PM L.closed hw hl
       rw [xD] at this;cases this
      ·rw [hd,pf,mS E1,pf]
     ·by_cases E1:o.dst=some s
      ·rw [mS hd,vK,E1,pf,pf]
      ·rw [mS hd,vK,mS E1,mS E1,mS hd]
    ·rw [if_neg hl,if_neg hl];exact vK
theorem Gs (hB:vz all m) {Q:Exit→Act→World→Prop}:∀ (fuel k:Nat) (listed:Array Bool) (a:Act) (w:World),m≤k→k+fuel=all.size→listed.size=all.size→(∀ i,i < k→listed.getD i false=true)→(∀ i,k≤i→listed.getD i false=false)→
 wpList P all Q (all.toList.drop k) a w→wpAny P .any all Q fuel listed a w:=by
 intro fuel
 induction fuel with
 | zero=>
   intro k listed a w hm hk lp h1 h2 h
   have SJ:all.toList.drop k=[]:=List.drop_eq_nil_of_le (by simp;omega)
   rw [SJ] at h
   refine ⟨?_,h⟩
   refine List.eq_nil_iff_forall_not_mem.2 fun i hi=>?_
   obtain ⟨KW,Gt⟩:=xg hi
   have:=h1 i (by omega)
   rw [Bx Gt] at this
   cases this
 | succ fuel ih=>
   intro k listed a w hm hk lp h1 h2 h
   have Yr:k < all.size:=by omega
   have dW:all[k]? =some all[k]:=by simp [Yr]
   refine ⟨fun hr=>?_,fun i hi=>?_⟩
   ·have:=zN hB lp hr k Yr
    rw [h2 k (a8 _)] at this
    cases this
   ·obtain ⟨KW,Gt⟩:=xg hi
    have AA:all[i]? =some all[i]:=by simp [KW]
    obtain rfl:i=k:=by
     rcases b6 i k with ew | heq | Iw
     ·have:=h1 i ew;rw [Bx Gt] at this;cases this
     ·exact heq
     ·have yF:mf all listed:=fun k' i' o O7 ho' H6=>by
       have ew:k' < k:=by
        rcases al k' k with h | h
        ·exact h
        ·rw [h2 k' h] at O7;cases O7
       simp only [waits,bU,ap] at H6
       obtain ⟨e',Yt,Ar,SK⟩:=H6
       have:=x7 hB ho' (by simpa using Yt) Ar
       obtain rfl:e'.on=i':=aL SK
       exact h1 _ (by omega)
      have:=yF.ready ((kZ hB AA dW Iw).2 (by omega)) hi
      rw [h2 k (a8 _)] at this;cases this
    have Ms:all.toList.drop i=all[i] :: all.toList.drop (i+1):=by
     rw [List.drop_eq_getElem_cons (by simpa using Yr)]
     simp
    rw [Ms] at h
    unfold wpList at h
    simp only [wpOp,dW]
    have next:∀ a w,wpList P all Q (all.toList.drop (i+1)) a w→wpAny P .any all Q fuel (listed.setIfInBounds i true) a w:=fun a w hh=>by
     have rP:i < listed.size:=by omega
     refine ih (i+1) (listed.setIfInBounds i true) a w (by omega) (by omega) (by simpa using lp) (fun j hj=>?_) (fun j hj=>?_) hh
     ·rw [jR rP];split
      ·rfl
      ·exact h1 j (by omega)
     ·rw [jR rP,if_neg (by omega)];exact h2 j (by omega)
    split at h
    ·rename_i hw
     rw [if_pos hw]
     exact h.imp (fun hh=>Oper.wp_mono next hh) id
    ·rename_i hw
     rw [if_neg hw]
     exact next _ _ h
theorem xh {o:Oper} {e:Env} {b:Bool} {w:World} {S:Nat→Prop} {a:Act} (hw:oK all o e b) (r:EY w S (looks all o) e a):Region.wanted o (yielded all a.tmps)=b:=by
 unfold oK at hw
 unfold Region.wanted
 cases hg:o.guard with
 | none=>rw [hg] at hw;simp only at hw;rw [hw]
 | some g=>
   obtain ⟨j,want⟩:=g
   rw [hg] at hw
   simp only at hw
   obtain ⟨s,h1,⟨c,h2,h3⟩ | ⟨h2,h3⟩⟩:=hw
   ·obtain ⟨v,g1,g2⟩:=r s (by simp [looks,hg,h1]) _ h2
    cases g2
    rw [h3]
    cases c<;>cases want<;>simp [yielded,h1,g1]
   ·obtain ⟨v,g1,g2⟩:=r s (by simp [looks,hg,h1]) _ h2
    cases g2
    rw [h3]
    simp [yielded,h1,g1,undef]
def B5 (w:World) (S:Nat→Prop) (e:Env) (a:Act):Prop:=∀ s av,e s=some av→∃ v,a.tmps[s]? =some v∧At w S av v
theorem Mt (hB:vz all m) (hm:m≤all.size) {Q:Exit→Act→World→Prop} (h0:en 0=e) (hs:∀ i o,i < m→all[i]? =some o→RI P all n hp o (en i) (mY i)∧en (i+1)=xC (en i) o.dst (mY i)) {w0:World} {S0:Nat→Prop}
 (fin:∀ a w S,a.tmps.size=n→a.defers=[]→cY w S hp→Grow w0 S0 w S→B5 w S (en m) a→wpList P all Q (all.toList.drop m) a w):
 ∀ (fuel:Nat) (listed:Array Bool) (a:Act) (w:World) (S:Nat→Prop),O5 all m listed→(listed.toList.count true)+fuel=all.size→a.tmps.size=n→a.defers=[]→cY w S hp→Grow w0 S0 w S→B5 w S (cur all mY e listed all.size) a→
   wpAny P .any all Q fuel listed a w:=by
 have Vt:∀ i o,i < m→all[i]? =some o→en (i+1)=xC (en i) o.dst (mY i):=fun i o h1 h2=>(hs i o h1 h2).2
 have done:∀ (fuel:Nat) (listed:Array Bool) (a:Act) (w:World) (S:Nat→Prop),O5 all m listed→(listed.toList.count true)+fuel=all.size→a.tmps.size=n→a.defers=[]→cY w S hp→Grow w0 S0 w S→B5 w S (cur all mY e listed all.size) a→
  (∀ i,i < m→listed.getD i false=true)→wpAny P .any all Q fuel listed a w:=by
  intro fuel listed a w S L hc lp Gu hr hg tY lf
  have Dp:∀ i,m≤i→listed.getD i false=false:=fun i hi=>by
   cases hv:listed.getD i false with
   | false=>rfl
   | true=>have:=L.head i hv;omega
  have SL:listed.toList.count true=m:=by
   have:listed.toList=cz m true++cz (all.size - m) false:=by
    apply List.ext_getElem?
    intro i
    rcases al i m with hi | hi
    ·have rP:i < listed.size:=by rw [L.size];omega
     rw [be (by simpa using hi)]
     have:=lf i hi
     simp [rP] at this
     simp [rP,hi,this]
    ·rw [a6 (by simpa using hi)]
     rcases al i listed.size with rP | rP
     ·have:=Dp i hi
      simp [rP] at this
      have h2:i - m < all.size - m:=by rw [L.size] at rP;omega
      simp [rP,h2,this]
     ·have h2:¬ i - m < all.size - m:=by rw [L.size] at rP;omega
      simp [cv (l:=listed.toList) (by simpa using rP),h2]
   rw [this,List.count_append,b7,b7]
   simp
  have SN:cur all mY e listed all.size=en m:=by
   have key:∀ k,k≤all.size→cur all mY e listed k=en (min k m):=by
    intro k
    induction k with
    | zero=>intro _;simp [cur,h0]
    | succ k ih=>
      intro hk
      have dW:all[k]? =some all[k]:=by simp [show k < all.size by omega]
      simp only [cur,dW,b5,ih (by omega)]
      rcases al k m with h | h
      ·rw [if_pos (lf k h),bo (by omega),bo (by omega),Vt k _ h dW]
      ·rw [if_neg (by rw [Dp k h];simp),aw (by omega),aw (by omega)]
   rw [key all.size (a8 _),aw hm]
  rw [SN] at tY
  exact Gs hB fuel m listed a w (a8 _) (by omega) L.size lf Dp (fin a w S lp Gu hr hg tY)
 intro fuel
 induction fuel with
 | zero=>
   intro listed a w S L hc lp Gu hr hg tY
   refine done 0 listed a w S L hc lp Gu hr hg tY (fun i hi=>?_)
   have Gv:listed.toList.count true=listed.toList.length:=by rw [Array.length_toList,L.size];omega
   have lf:=List.count_eq_length.1 Gv
   have rP:i < listed.size:=by rw [L.size];omega
   have:=lf listed[i] (by simp)
   simp [rP];exact this.symm
 | succ fuel ih=>
   intro listed a w S L hc lp Gu hr hg tY
   by_cases lf:∀ i,i < m→listed.getD i false=true
   ·exact done _ listed a w S L hc lp Gu hr hg tY lf
   ·refine ⟨fun KX=>(lf fun i hi=>zN hB L.size KX i (by omega)).elim,fun i hi=>?_⟩
    obtain ⟨KW,Gt⟩:=xg hi
    have xD:=Bx Gt
    have AA:all[i]? =some all[i]:=by simp [KW]
    have Dg:i < m:=by
     rcases al i m with h | h
     ·exact h
     ·refine (lf fun j hj=>?_).elim
      have O4:all[j]? =some all[j]:=by simp [show j < all.size by omega]
      exact mf.ready L.closed ((kZ hB AA O4 (by omega)).2 h) hi
    have rP:i < listed.size:=by rw [L.size];exact KW
    obtain ⟨⟨RB,sQ⟩,_⟩:=hs i _ Dg AA
    have u5:EY w S (looks all all[i]) (en i) a:=by
     intro s O6 av pa
     have hc:=Mr (mY:=mY) (en:=en) (e:=e) hB L h0 Vt hm AA Dg xD (fun j hj=>mf.ready L.closed hj hi) O6 all.size (a8 _)
     rw [aw (by omega)] at hc
     exact tY s av (by rw [hc];exact pa)
    have L':O5 all m (listed.setIfInBounds i true):=by
     refine ⟨by simpa using L.size,fun k hk=>?_,fun k j o hk dW hw=>?_⟩
     ·rw [jR rP] at hk
      split at hk
      ·omega
      ·exact L.head k hk
     ·rw [jR rP] at hk
      rw [jR rP]
      split
      ·rfl
      ·split at hk
       ·rename_i Yu
        subst Yu
        obtain rfl:all[k]=o:=by rw [AA] at dW;exact ac dW
        exact tC AA hi hw
       ·exact L.closed k j o hk dW hw
    have Gv:(listed.setIfInBounds i true).toList.count true+fuel=all.size:=by
     have Mu:listed[i]=false:=by simpa [rP] using xD
     have:(listed.setIfInBounds i true).toList=listed.toList.set i true:=by simp
     rw [this,List.count_set (by simpa using rP)]
     have Sz:listed.toList[i]'(by simpa using rP)=false:=by simpa using Mu
     rw [Sz]
     have e1:(if (false==true)=true then 1 else 0)=0:=rfl
     have e2:(if (true==true)=true then 1 else 0)=1:=rfl
     rw [e1,e2]
     omega
    have upd:∀ (v:Value) (w':World) (S':Nat→Prop),Grow w S w' S'→At w' S' (mY i) v→B5 w' S' (cur all mY e (listed.setIfInBounds i true) all.size) (a.put (all[i]).dst v):=by
     intro v w' S' RJ pX s av pa
     rw [PN (mY:=mY) (e:=e) hB L AA Dg xD s all.size (a8 _),if_pos (by omega)] at pa
     by_cases hd:(all[i]).dst=some s
     ·rw [hd,pf] at pa
      obtain rfl:=ac pa
      have L0:=RB s hd
      exact ⟨v,by rw [hd];simp [Act.put,lp,L0],pX⟩
     ·rw [mS hd] at pa
      obtain ⟨u,h1,h2⟩:=tY s av pa
      refine ⟨u,?_,h2.mono (RJ.lz hr.slt)⟩
      cases SO:(all[i]).dst with
      | none=>simpa [Act.put] using h1
      | some d'=>
        have Aq:d'≠s:=fun e=>hd (by rw [SO,e])
        simp [Act.put,Aq,h1]
    have Xo:∀ v,(a.put (all[i]).dst v).tmps.size=n:=fun v=>by cases (all[i]).dst<;>simp [Act.put,lp]
    have Xp:∀ v,(a.put (all[i]).dst v).defers=[]:=fun v=>by cases (all[i]).dst<;>simp [Act.put,Gu]
    simp only [wpOp,AA]
    rcases sQ with ⟨hw,Yv⟩ | ⟨hw,pa⟩
    ·rw [if_pos (xh hw u5)]
     refine .inl (Yv w S a lp Gu hr u5 _ _ (fun v w' S' RJ pX=>?_))
     exact ih _ _ _ S' L' Gv (Xo v) (Xp v) (hr.grow RJ) (hg.trans RJ) (upd v w' S' RJ pX)
    ·rw [if_neg (by rw [xh hw u5];simp)]
     refine ih _ _ _ S L' Gv (Xo _) (Xp _) hr hg (upd _ w S (Grow.refl hr.slt) ?_)
     rw [pa];exact .raw _
end order
theorem u6 (d:Nat) (av:AV) (tm:List (Nat×AV)):lk ((d,av) :: tm)=xC (lk tm) (some d) av:=by
 funext s
 simp only [lk,xC]
 by_cases h:d=s
 ·subst h;simp
 ·rw [qI h,if_neg h]
def Gw:List Nat→List (Nat×AV)→List (Nat×AV)
 | [],_=>[]
 | s :: r,tm=>match lk tm s with
   | some av=>(s,av) :: Gw r tm
   | none=>Gw r tm
theorem E2:∀ {ls:List Nat} {tm:List (Nat×AV)} {s:Nat} {av:AV},lk (Gw ls tm) s=some av→s∈ls∧lk tm s=some av
 | [],tm,s,av,h=>by simp [Gw,lk] at h
 | k :: ls,tm,s,av,h=>by
   simp only [Gw] at h
   split at h
   ·rename_i rf hk
    simp only [lk] at h
    split at h
    ·rename_i hb
     obtain rfl:k=s:=by simpa using hb
     obtain rfl:=ac h
     exact ⟨by simp,hk⟩
    ·obtain ⟨h1,h2⟩:=E2 h
     exact ⟨by simp [h1],h2⟩
   ·obtain ⟨h1,h2⟩:=E2 h
    exact ⟨by simp [h1],h2⟩
theorem sI {w:World} {S:Nat→Prop} {a:Act} {n:Nat} {hp:Heap} {ls:List Nat} {tm:List (Nat×AV)} (h1:a.tmps.size=n) (h2:a.defers=[]) (h3:cY w S hp) (h4:EY w S ls (lk tm) a):ey w S ⟨n,Gw ls tm,hp⟩ a:=
 ⟨h1,h2,fun s av h=>h4 s (E2 h).1 av (E2 h).2,h3⟩
def AM (P:Program) (all:Array Oper) (n:Nat) (hp:Heap) (l:List Oper) (tm:List (Nat×AV)) (Q:List (Nat×AV)→Prop):Prop:=∃ pZ,PL P all n hp l (lk tm) (lk pZ)∧Q pZ
section rules
variable {P:Program} {all:Array Oper} {rest:List Oper} {n:Nat} {tm:List (Nat×AV)} {hp:Heap} {Q:List (Nat×AV)→Prop} {d:Nat} {ty:TypeId} {pos:String} {af:Array Edge} {op:Op}
theorem AM.nil (h:Q tm):AM P all n hp [] tm Q:=⟨tm,.nil _,h⟩
theorem AM.mv {av:AV} (h:MV P all n ⟨some d,op,ty,pos,af,none⟩ (lk tm) hp av) (hn:aa d n=true) (k:AM P all n hp rest ((d,av) :: tm) Q):AM P all n hp (⟨some d,op,ty,pos,af,none⟩ :: rest) tm Q:=by
 obtain ⟨pZ,k1,k2⟩:=k
 refine ⟨pZ,.run rfl h (fun d' hd=>?_) (by rw [u6] at k1;exact k1),k2⟩
 obtain rfl:=ac hd
 simpa using hn
theorem AM.qv {av:AV} (q:QV P ⟨some d,op,ty,pos,af,none⟩ ⟨n,Gw (looks all ⟨some d,op,ty,pos,af,none⟩) tm,hp⟩ av) (hn:aa d n=true) (k:AM P all n hp rest ((d,av) :: tm) Q):AM P all n hp (⟨some d,op,ty,pos,af,none⟩ :: rest) tm Q:=by
 refine AM.mv (fun w S a h1 h2 h3 h4 K Q' hK=>?_) hn k
 obtain ⟨v,g1,g2⟩:=q w S a (sI h1 h2 h3 h4)
 show Oper.upon P _ a K Q' _
 rw [g1 w (Ext.refl w)]
 exact hK v w S (Grow.refl h3.slt) g2
theorem AM.aD {j:Nat} {want b:Bool} {s:Nat} (hj:(all[j]?).bind (·.dst)=some s) (hs:lk tm s=some (.bool b)) (hb:b=want)
 (k:AM P all n hp (⟨some d,op,ty,pos,af,none⟩ :: rest) tm Q):AM P all n hp (⟨some d,op,ty,pos,af,some (j,want)⟩ :: rest) tm Q:=by
 obtain ⟨pZ,k1,k2⟩:=k
 refine ⟨pZ,?_,k2⟩
 cases k1 with
 | run hg h hd k=>
   refine .run ⟨s,hj,.inl ⟨b,hs,by simp [hb]⟩⟩ ?_ hd k
   intro w S a h1 h2 h3 h4 K Q' hK
   exact h w S a h1 h2 h3 (fun t ht=>h4 t (by simp only [looks,List.append_nil] at ht ⊢;exact cl _ ht)) K Q' hK
 | pass hg hd k=>simp [oK] at hg
theorem AM.az {j:Nat} {want b:Bool} {s:Nat} (hj:(all[j]?).bind (·.dst)=some s) (hs:lk tm s=some (.bool b)) (hb:b=!want) (hn:aa d n=true)
 (k:AM P all n hp rest ((d,.raw undef) :: tm) Q):AM P all n hp (⟨some d,op,ty,pos,af,some (j,want)⟩ :: rest) tm Q:=by
 obtain ⟨pZ,k1,k2⟩:=k
 refine ⟨pZ,.pass ⟨s,hj,.inl ⟨b,hs,?_⟩⟩ (fun d' hd=>?_) (by rw [u6] at k1;exact k1),k2⟩
 ·rw [hb];cases want<;>rfl
 ·obtain rfl:=ac hd
  simpa using hn
theorem AM.aV {j:Nat} {want:Bool} {s:Nat} (hj:(all[j]?).bind (·.dst)=some s) (hs:lk tm s=some (.raw undef)) (hn:aa d n=true)
 (k:AM P all n hp rest ((d,.raw undef) :: tm) Q):AM P all n hp (⟨some d,op,ty,pos,af,some (j,want)⟩ :: rest) tm Q:=by
 obtain ⟨pZ,k1,k2⟩:=k
 refine ⟨pZ,.pass ⟨s,hj,.inr ⟨hs,rfl⟩⟩ (fun d' hd=>?_) (by rw [u6] at k1;exact k1),k2⟩
 obtain rfl:=ac hd
 simpa using hn
theorem AM.lit {l:List Oper} {s:Nat} {b c:Bool} (hs:lk tm s=some (.bool b)) (hb:b=c) (k:AM P all n hp l ((s,.bool c) :: tm) Q):AM P all n hp l tm Q:=by
 subst hb
 obtain ⟨pZ,k1,k2⟩:=k
 have:lk ((s,.bool b) :: tm)=lk tm:=by
  rw [u6]
  funext t
  simp only [xC]
  split
  ·rename_i h;subst h;exact hs.symm
  ·rfl
 rw [this] at k1
 exact ⟨pZ,k1,k2⟩
theorem AM.guard {j s:Nat} {want b:Bool} (hj:(all[j]?).bind (·.dst)=some s) (hs:lk tm s=some (.bool b)) (hn:aa d n=true) (h1:b=want→AM P all n hp (⟨some d,op,ty,pos,af,none⟩ :: rest) ((s,.bool want) :: tm) Q)
 (h2:b=!want→AM P all n hp rest ((d,.raw undef) :: (s,.bool (!want)) :: tm) Q):AM P all n hp (⟨some d,op,ty,pos,af,some (j,want)⟩ :: rest) tm Q:=by
 by_cases hb:b=want
 ·exact AM.lit hs hb (AM.aD hj (by simp [lk]) rfl (h1 hb))
 ·have Ar:b=!want:=by cases b<;>cases want<;>simp_all
  exact AM.lit hs Ar (AM.az hj (b:=!want) (by simp [lk]) rfl hn (h2 Ar))
theorem AM.dq {j s:Nat} {p:Prop} [Decidable p] (hj:(all[j]?).bind (·.dst)=some s) (hs:lk tm s=some (.bool (decide p))) (hn:aa d n=true) (h1:p→AM P all n hp (⟨some d,op,ty,pos,af,none⟩ :: rest) ((s,.bool true) :: tm) Q)
 (h2:¬ p→AM P all n hp rest ((d,.raw undef) :: (s,.bool false) :: tm) Q):AM P all n hp (⟨some d,op,ty,pos,af,some (j,true)⟩ :: rest) tm Q:=
 AM.guard hj hs hn (fun h=>h1 (of_decide_eq_true h)) (fun h=>h2 (of_decide_eq_false h))
theorem AM.ek {j s:Nat} {p:Prop} [Decidable p] (hj:(all[j]?).bind (·.dst)=some s) (hs:lk tm s=some (.bool (decide p))) (hn:aa d n=true) (h1:¬ p→AM P all n hp (⟨some d,op,ty,pos,af,none⟩ :: rest) ((s,.bool false) :: tm) Q)
 (h2:p→AM P all n hp rest ((d,.raw undef) :: (s,.bool true) :: tm) Q):AM P all n hp (⟨some d,op,ty,pos,af,some (j,false)⟩ :: rest) tm Q:=
 AM.guard hj hs hn (fun h=>h1 (of_decide_eq_false h)) (fun h=>h2 (of_decide_eq_true h))
theorem AM.kA {f:FuncId} {args:List Operand} {ts:Array TypeId} {l l':List AV} {R:AV} [cq P f](hl:A8 (Gw (looks all ⟨some d,.call {callee:=.value (.func f),args:=args.toArray,argTypes:=ts},ty,pos,af,none⟩) tm) args=some l) (c:Pu P f l' R) (co:Av hp l l') (hn:aa d n=true)
 (k:AM P all n hp rest ((d,R) :: tm) Q):AM P all n hp (⟨some d,.call {callee:=.value (.func f),args:=args.toArray,argTypes:=ts},ty,pos,af,none⟩ :: rest) tm Q:=by
 refine AM.mv (fun w S a h1 h2 h3 h4 K Q' hK=>?_) hn k
 have r:=sI h1 h2 h3 h4
 show Oper.upon P _ a K Q' _
 rw [mH]
 obtain ⟨g1,g2⟩:=sO r hl
 obtain ⟨g3,g4⟩:=Av.at r.hp co g1 g2
 refine (c w S _ (uy h3.slt h3.ib) (by simpa using g3) g4).mono ?_
 rintro e w' ⟨v,rr,h',S',rfl,rfl,k3,k4,k5⟩
 exact hK v w' S' ⟨k5.Gn,fun m hm=>(k5.lz m hm).1,fun m hm hs=>(k5.other m hm (fun ⟨x,hx,_⟩=>by simp at hx)).2 hs,k4.slt⟩ k3
theorem AM.Mv {f:FuncId} {args:List Operand} {ts:Array TypeId} {l l':List AV} {R:AV} [cq P f](hl:A8 (Gw (looks all ⟨some d,.call {callee:=.value (.func f),args:=args.toArray,argTypes:=ts},ty,pos,af,none⟩) tm) args=some l) (c:Pu P f l' R) (co:sP hp l l') (hn:aa d n=true) (hR:R.Vo=true)
 (k:AM P all n hp rest ((d,R) :: tm) Q):AM P all n hp (⟨some d,.call {callee:=.value (.func f),args:=args.toArray,argTypes:=ts},ty,pos,af,none⟩ :: rest) tm Q:=by
 refine AM.mv (fun w S a h1 h2 h3 h4 K Q' hK=>?_) hn k
 have r:=sI h1 h2 h3 h4
 show Oper.upon P _ a K Q' _
 rw [mH]
 obtain ⟨g1,g2⟩:=sO r hl
 obtain ⟨g3,g4⟩:=sP.at r.hp co g1 g2
 refine (c w (SB S hp) _ (uy (fun m hm=>hm.elim (h3.slt m) fun h=>h3.lt h) (fun g o ho=>⟨.inl (h3.ib g o ho).1,(h3.ib g o ho).2⟩)) (by simpa using g3) g4).mono ?_
 rintro e w' ⟨v,rr,h',S',rfl,rfl,k3,k4,k5⟩
 have ex:=k5.Gn
 exact hK v w' S ⟨ex,fun m hm=>hm,fun m _ hs=>hs,fun m hm=>bG (h3.slt m hm) ex.size⟩ (Mo k3 hR)
theorem AM.dt {t e:TypeId} {i:TypeInfo} {z:Value} {len sz:Nat} {parts:List (Nat×Operand)} {xs:List AV} [aF P t (.slice e)] [aZ P e i] [lC P e sz] (hz:i.zero=some z)
 (hl:Mj (Gw (looks all ⟨some d,.buildSlice t len parts.toArray,ty,pos,af,none⟩) tm) parts 0=some xs) (hlen:ag parts.length len=true) (zF:Au i.size xs=true) (PB:ai (len * i.size) 16777216=true) (hn:aa d n=true)
 (k:AM P all n hp rest ((d,.list sz xs) :: tm) Q):AM P all n hp (⟨some d,.buildSlice t len parts.toArray,ty,pos,af,none⟩ :: rest) tm Q:=by
 obtain ⟨i',KW,Gt⟩:=lC.h (P:=P) (t:=e)
 obtain rfl:i'=i:=by rw [aZ.h (P:=P) (t:=e)] at KW;exact (ac KW).symm
 subst Gt
 refine AM.mv (fun w S a h1 h2 h3 h4 K Q' hK=>?_) hn k
 have r:=sI h1 h2 h3 h4
 obtain rfl:parts.length=len:=aL hlen
 have PB:=bz PB
 obtain ⟨zz,PC⟩:∃ zz:Array Value,zz=if parts.length * i'.size=0 then #[] else z.cells:=⟨_,rfl⟩
 obtain ⟨vs,g1,g2,g3,g4⟩:=BX r i'.size parts 0 xs ((Array.range (parts.length * i'.size)).map (zz[· % zz.size]!)) hl (oJ zF) (by simp)
 simp only [ca,cb,cc] at g1
 have e0:=Ext.alloc w (.cells vs.toArray e)
 have u3:(execOp a.eval ⟨some d,.buildSlice t parts.length parts.toArray,ty,pos,af,none⟩).run P w=.ok (.value (.slice (some ⟨w.heap.size,0,none⟩) parts.length parts.length)) (w.alloc (.cells vs.toArray e)):=by
  have hm:((parts.toArray.map fun p=>(p.1,a.eval p.2))).toList=parts.map fun p=>(p.1,a.eval p.2):=by simp
  simp only [execOp,Instr.buildSlice,Sem.run_bind,run_underlying (aF.h (P:=P) (t:=t)),Result.andThen_ok,sizeOf,typeInfo,run_program,aZ.h (P:=P) (t:=e),Sem.run_pure]
  rw [if_neg (by omega)]
  by_cases h0:parts.length * i'.size=0
  ·rw [if_pos h0] at PC ⊢
   subst PC
   simp only [Sem.run_bind,Result.andThen_ok,Sem.run_pure,hm,g1,mZ]
  ·rw [if_neg h0] at PC ⊢
   subst PC
   simp only [Sem.run_bind,Result.andThen_ok,Sem.run_pure,zeroValue,typeInfo,run_program,aZ.h (P:=P) (t:=e),hz,hm,g1,mZ]
 show Oper.upon P _ a K Q' _
 rw [u3]
 have xE:(w.alloc (.cells vs.toArray e)).heap[w.heap.size]? =some (.cells vs.toArray e (0,0)):=by
  show (w.heap.push _)[w.heap.size]? =_
  simp
 refine hK _ _ (fun m=>S m∨m=w.heap.size) ⟨e0,fun m hm=>.inl hm,fun m hm hs=>hs.elim id (fun h=>by omega),fun m hm=>?_⟩ ?_
 ·rcases hm with hm | hm
  ·exact bG (h3.slt m hm) e0.size
  ·subst hm;simp
 ·have:=At.list (w:=w.alloc (.cells vs.toArray e)) (S:=fun m=>S m∨m=w.heap.size) i'.size xs (some ⟨w.heap.size,0,none⟩) parts.length vs (oJ zF) (by rw [dP (oJ zF),g2]) (fun j c u hc hu=>?_) (fun j u hu=>?_) (by omega)
  ·rw [g3] at this;exact this
  ·exact (g4 j c u hc (by simpa using hu)).mono fun m hm=>⟨.inl hm,e0.same m (h3.slt m hm)⟩
  ·refine ⟨_,rfl,rfl,.inr rfl,?_⟩
   rw [mR xE]
   simpa using hu
end rules
def Gx:Nat→List Oper→Option (List Oper×List Oper)
 | 0,l=>some ([],l)
 | m+1,o :: l=>match Gx m l with
   | some (a,b)=>some (o :: a,b)
   | none=>none
 | _+1,[]=>none
theorem xi:∀ {m:Nat} {l a b:List Oper},Gx m l=some (a,b)→l=a++b∧a.length=m
 | 0,l,a,b,h=>by simp [Gx] at h;obtain ⟨rfl,rfl⟩:=h;exact ⟨rfl,rfl⟩
 | m+1,[],a,b,h=>by simp [Gx] at h
 | m+1,o :: l,a,b,h=>by
   simp only [Gx] at h
   split at h
   ·rename_i a' b' h'
    simp only [Option.some.injEq,Prod.mk.injEq] at h
    obtain ⟨rfl,rfl⟩:=h
    obtain ⟨h1,h2⟩:=xi h'
    exact ⟨by rw [h1];rfl,by simp [h2]⟩
   ·cases h
theorem ab.di {P:Program} {R:St→Prop} {k:List It} {id n:Nat} {tm:List (Nat×AV)} {hp:Heap} {l hd tl:List Oper} (m:Nat) (hm:P.follows .mixedOrders=true) (hs:Gx m l=some (hd,tl)) {A:List Nat} (hA:KV l.toArray=A) (Yw:Gr l.toArray m A=true)
 (h:AM P l.toArray n hp hd tm (fun pZ=>ae P l.toArray tl ⟨n,pZ,hp⟩ (ab P R k))):ab P R (.code (.region id l.toArray true) :: k) ⟨n,tm,hp⟩:=by
 have hB:vz l.toArray m:=⟨A,hA,Yw⟩
 intro w S a r
 obtain ⟨hl,O8⟩:=xi hs
 obtain ⟨pZ,hA,u3⟩:=h
 obtain ⟨mY,en,e0,e1,e2⟩:=hA.Iv
 have lp:m≤l.toArray.size:=by simp [hl,O8]
 refine wp_region_any hm ?_
 have B6:Ext w {w with drawn:=w.drawn+1}:=Ext.Me w _ (Nat.le_succ _)
 have g0:Grow w S {w with drawn:=w.drawn+1} S:=⟨B6,fun _ h=>h,fun _ _ h=>h,fun n hn=>r.hp.slt n hn⟩
 have SP:∀ k,cur l.toArray mY (lk tm) (bi l.toArray.size false) k=lk tm:=by
  intro k
  induction k with
  | zero=>rfl
  | succ k ih=>
    simp only [cur,ih]
    rw [if_neg]
    rcases al k l.toArray.size with h | h
    ·simp at h;simp [h]
    ·simp at h;simp [Nat.not_lt.2 h]
 have hf:∀ k,(bi l.toArray.size false).getD k false=false:=by
  intro k
  rcases al k l.toArray.size with h | h
  ·simp at h;simp [h]
  ·simp at h;simp [Nat.not_lt.2 h]
 refine Mt (P:=P) (all:=l.toArray) (n:=n) (m:=m) (hp:=hp) (mY:=mY) (en:=en) (e:=lk tm) hB lp e0 (fun i o hi ho=>e2 i o ?_) (w0:=w) (S0:=S) (fun a' w' S' h1 h2 h3 h4 h5=>?_) l.toArray.size (bi l.toArray.size false) a _ S
  ⟨by simp,(fun k hk=>by rw [hf k] at hk;cases hk),(fun k i o hk=>by rw [hf k] at hk;cases hk)⟩ (by simp [b7]) r.size r.defers (r.hp.ext B6) g0 (by rw [SP];exact (r.ext B6).tm)
 ·have:l[i]? =some o:=by simpa using ho
  rw [hl,be (by omega)] at this
  exact this
 ·have PQ:l.toArray.toList.drop m=tl:=by
   simp only [hl,← O8]
   exact List.drop_left
  rw [PQ]
  have Ix:en m=lk pZ:=by rw [← O8];exact e1
  rw [Ix] at h5
  refine iG ?_ _ _ _ (u3.go (h:=hp) (w:=w) (S:=S) ⟨h1,h2,h5,h3⟩ (h4.evo r.hp.slt hp))
  rintro ex a2 w2 ⟨rfl,JH,S2,q1,q2,q3⟩
  exact ⟨JH,S2,q1,q2,q3⟩
theorem bnd {α β:Type} {o:Option α} {f:α→Option β} {r:β} (h:o.bind f=some r):∃ v,o=some v∧f v=some r:=by
 cases o with
 | none=>cases h
 | some v=>exact ⟨v,rfl,h⟩
theorem rk {α:Type} {p:Prop} [Decidable p] {a b x:α} (hp:p) (h:(if p then a else b)=x):a=x:=by rw [if_pos hp] at h;exact h
theorem Be {α:Type} {p:Prop} [Decidable p] {a b x:α} (hp:¬ p) (h:(if p then a else b)=x):b=x:=by rw [if_neg hp] at h;exact h
theorem tD {α:Type} {p:Bool} {a b x:α} (hp:p=false) (h:(if p=true then a else b)=x):b=x:=by rw [if_neg (by simp [hp])] at h;exact h
def r8 {X A:Type} (f:X→Option (X⊕A)):Nat→X→Option A
 | 0,_=>none
 | n+1,x=>match f x with
   | none=>none
   | some (.inl y)=>r8 f n y
   | some (.inr a)=>some a
theorem Gy {X A:Type} {f:X→Option (X⊕A)} {a:A}:∀ {n:Nat} {x:X},r8 f n x=some a→r8 f (n+1) x=some a
 | 0,x,h=>by cases h
 | n+1,x,h=>by
   unfold r8 at h ⊢
   split at h
   ·cases h
   ·exact Gy h
   ·exact h
theorem B7 {X A:Type} {f:X→Option (X⊕A)} {a:A} {x:X} {n:Nat} (h:r8 f n x=some a):∀ m,r8 f (n+m) x=some a
 | 0=>h
 | m+1=>Gy (B7 h m)
theorem KY {X A:Type} {f:X→Option (X⊕A)} {a b:A} {x:X} {n m:Nat} (h:r8 f n x=some a) (k:r8 f m x=some b):a=b:=by
 have h1:=B7 h m
 have h2:=B7 k n
 rw [Nat.add_comm] at h2
 rw [h1] at h2
 exact ac h2
open Classical in
noncomputable def iter {X A:Type} (f:X→Option (X⊕A)) (x:X):Option A:=
 if h:∃ a n,r8 f n x=some a then some h.choose else none
theorem xj {X A:Type} {f:X→Option (X⊕A)} {x:X} {a:A}:iter f x=some a↔∃ n,r8 f n x=some a:=by
 unfold iter
 constructor
 ·intro h
  split at h
  ·rename_i hx
   obtain ⟨n,hn⟩:=hx.choose_spec
   exact ⟨n,by rw [hn];exact h⟩
  ·cases h
 ·rintro ⟨n,hn⟩
  have hx:∃ a n,r8 f n x=some a:=⟨a,n,hn⟩
  rw [dif_pos hx]
  obtain ⟨m,hm⟩:=hx.choose_spec
  rw [KY hm hn]
def after {X A:Type} (k:X→Option A):X⊕A→Option A
 | .inl y=>k y
 | .inr a=>some a
theorem iter_eq {X A:Type} (f:X→Option (X⊕A)) (x:X):iter f x=(f x).bind (after (iter f)):=by
 apply Option.ext
 intro a
 rw [xj]
 constructor
 ·rintro ⟨n,hn⟩
  match n with
  | 0=>cases hn
  | n+1=>
    unfold r8 at hn
    split at hn
    ·cases hn
    ·rename_i y hy;rw [hy];exact xj.2 ⟨n,hn⟩
    ·rename_i b hb;rw [hb];exact hn
 ·intro h
  obtain ⟨s,hs,h⟩:=bnd h
  cases s with
  | inl y=>
    obtain ⟨n,hn⟩:=xj.1 h
    exact ⟨n+1,by unfold r8;rw [hs];exact hn⟩
  | inr b=>exact ⟨1,by unfold r8;rw [hs];exact h⟩
theorem cW {X A:Type} {o:Option A} {s:X⊕A} {a:A} (h:o.map .inr=some s) (hA:∀ a',s=.inr a'→a'=a):o=some a:=by
 cases o with
 | none=>cases h
 | some b=>
   have:=ac h
   rw [hA b this.symm]
@[simp] theorem bh {X A:Type} (k:X→Option A) (y:X):after k (.inl y)=k y:=rfl
@[simp] theorem UH {X A:Type} (k:X→Option A) (a:A):after k (.inr a)=some a:=rfl
theorem aW {X A:Type} (o:Option A) (k:X→Option A):(o.map Sum.inr).bind (after k)=o:=by cases o<;>rfl
def idx {α:Type} (xs:List α) (i:Int):Option α:=if 0≤i then xs[i.toNat]? else none
def app {α:Type} (xs ys:List α):Option (List α):=if xs.length+ys.length≤1000000000 then some (xs++ys) else none
def Gz {α:Type} (xs:List α) (l h:Int):Option (List α):=if 0≤l∧l≤h∧h≤xs.length then some ((xs.drop l.toNat).take (h.toNat - l.toNat)) else none
abbrev bA (i:Int):Int:=IntKind.i64.wrap i
def quo (a b:Int):Option Int:=if b=0 then none else some (bA (a.tdiv b))
def rem (a b:Int):Option Int:=if b=0 then none else some (a.tmod b)
theorem Mw {α:Type} {e:α→AV} {xs:List α} {i:Int} {x:α} (h:idx xs i=some x):Mi (xs.map e) i=some (e x):=by
 unfold idx at h;unfold Mi
 split at h
 ·rename_i h0;rw [if_pos h0,List.getElem?_map,h];rfl
 ·cases h
theorem eR {α:Type} {xs:List α} {i:Int} {x:α} (h:idx xs i=some x):0≤i∧i < xs.length∧xs[i.toNat]? =some x:=by
 unfold idx at h
 split at h
 ·rename_i h0
  have:=(bx.1 h).1
  exact ⟨h0,by omega,h⟩
 ·cases h
theorem GA {α:Type} {xs ys zs:List α} (h:app xs ys=some zs):xs.length+ys.length≤1000000000∧zs=xs++ys:=by
 unfold app at h
 split at h
 ·exact ⟨by assumption,(ac h).symm⟩
 ·cases h
theorem Mx {α:Type} {xs zs:List α} {l h:Int} (hh:Gz xs l h=some zs):(0≤l∧l≤h∧h≤xs.length)∧zs=(xs.drop l.toNat).take (h.toNat - l.toNat):=by
 unfold Gz at hh
 split at hh
 ·exact ⟨by assumption,(ac hh).symm⟩
 ·cases hh
theorem My {a b c:Int} (h:quo a b=some c):b≠0∧c=bA (a.tdiv b):=by
 unfold quo at h
 split at h
 ·cases h
 ·exact ⟨by assumption,(ac h).symm⟩
theorem Mz {a b c:Int} (h:rem a b=some c):b≠0∧c=a.tmod b:=by
 unfold rem at h
 split at h
 ·cases h
 ·exact ⟨by assumption,(ac h).symm⟩
section
variable {P:Program} {R:St→Prop} {k:List It} {σ:St}
theorem ab.cut {c:Code} (I:St→Prop) (h:ab P R (.code c :: .stop (fun aS=>aq aS I) :: k) σ) (hk:∀ aS,I aS→ab P R k aS):ab P R (.code c :: k) σ:=by
 intro w S a r
 refine wp_mono (h w S a r) ?_
 rintro e a' w' ⟨aS,S',h1,h2,h3⟩
 cases e with
 | normal=>
   obtain ⟨KT,Vd,hI,hr,he⟩:=h1 w' S' a' h2
   exact ⟨KT,Vd,hk KT hI,hr,h3.trans he⟩
 | exit id=>exact ⟨aS,S',h1,h2,h3⟩
 | goto l=>exact ⟨aS,S',h1,h2,h3⟩
 | ret=>exact ⟨aS,S',h1,h2,h3⟩
 | panic c=>exact ⟨aS,S',h1,h2,h3⟩
 | outgrown=>exact ⟨aS,S',h1,h2,h3⟩
theorem ab.dR {body:Code} {X A:Type} (f:X→Option (X⊕A)) (mk:X→St→Prop) {a:A} {x0:X} (h:iter f x0=some a) (h0:aq σ (mk x0))
 (hs:∀ x s σ (J:St→Prop),mk x σ→f x=some s→(∀ y aS,s=.inl y→aq aS (mk y)→J aS)→(∀ a',s=.inr a'→a'=a)→ab P R (.code body :: .stop J :: k) σ):
 ab P R (.code (.loop body) :: k) σ:=by
 obtain ⟨m,hm⟩:=xj.1 h
 refine ab.Vm (fun m σ=>∃ x,r8 f m x=some a∧mk x σ) m (h0.mono fun aS hσ=>⟨x0,hm,hσ⟩) ?_
 rintro m Df ⟨x,hx,gS⟩
 match m with
 | 0=>cases hx
 | m+1=>
   unfold r8 at hx
   split at hx
   ·cases hx
   ·rename_i y hy
    refine hs x _ Df _ gS hy (fun y' aS e hi=>⟨m,by omega,hi.mono fun KT hk=>⟨y',?_,hk⟩⟩) (fun a' e=>by cases e)
    have:=Sum.inl.inj e
    rw [← this];exact hx
   ·rename_i b hb
    refine hs x _ Df _ gS hb (fun y' aS e _=>by cases e) (fun a' e=>?_)
    rw [← Sum.inr.inj e];exact ac hx
end
inductive F2:Heap→Heap→Heap→Prop
 | nil {h:Heap}:F2 h [] h
 | cons {h h1 t r:Heap} {b:Bk} {o:Ob} (u:xA h b o h1) (k:F2 h1 t r):F2 h ((b,o) :: t) r
theorem F2.perm {h t r:Heap} (s:F2 h t r):h.Perm (t++r):=by
 induction s with
 | nil=>exact bv _
 | cons u k ih=>exact u.perm.trans (ci _ ih)
section rules
variable {P:Program} {all:Array Oper} {rest:List Oper} {n:Nat} {tm:List (Nat×AV)} {hp:Heap} {Q:St→Prop} {d:Nat} {ty:TypeId} {pos:String} {af:Array Edge}
theorem B8 {f:FuncId} {args:List Operand} {ts:Array TypeId} {l l':List AV} {h0 hr:Heap} {Qc:AV→Heap→Prop} [cq P f] (hl:A8 tm args=some l) (c:aY P f l' h0 Qc) (co:Av hp l l') (hs:F2 hp h0 hr) (hn:aa d n=true)
 (kk:∀ r h',Qc r h'→ae P all rest ⟨n,(d,r) :: tm,h'++hr⟩ Q):ae P all (⟨some d,.call {callee:=.value (.func f),args:=args.toArray,argTypes:=ts},ty,pos,af,none⟩ :: rest) ⟨n,tm,hp⟩ Q:=
 Mn hl c co hs.perm hn kk
theorem bS {α:Type} {g:α→AV} {Xs:List α} {el:α} {t e:TypeId} {i:TypeInfo} {x y:Operand} {k:IntKind} {j:Int} {cs:List AV} {sz:Nat} [aF P t (.slice e)] [aZ P e i] (hx:dh tm x=some (.list sz (Xs.map g))) (lp:ag i.size sz=true) (hy:dh tm y=some (.int k j))
 (hv:idx Xs j=some el) (h0:aa 0 sz=true) (hc:qg (g el).cells=some cs):QV P ⟨some d,.indexAddr t x y,ty,pos,af,none⟩ ⟨n,tm,hp⟩ (.cw cs):=by
 rw [← lB hc]
 exact ET hx lp hy (Mw hv) h0
theorem dm {α:Type} {g:α→AV} {Xs:List α} {x:Operand} {t e:TypeId} {sz:Nat} [aF P t (.slice e)] (hx:dh tm x=some (.list sz (Xs.map g))):QV P ⟨some d,.call {callee:=.builtin .len,args:=#[x],argTypes:=#[t]},ty,pos,af,none⟩ ⟨n,tm,hp⟩ (.int .i64 (Xs.length:Nat)):=by
 have h:=Il (P:=P) (d:=d) (ty:=ty) (pos:=pos) (af:=af) (n:=n) (tm:=tm) (hp:=hp) (t:=t) (e:=e) hx
 rw [List.length_map] at h
 exact h
theorem RL {k:IntKind} {xt yt:TypeId} {x y:Operand} {i j:Int} (hx:dh tm x=some (.int k i)) (hy:dh tm y=some (.int k j)) (h0:j≠0):QV P ⟨some d,.binOp .quo xt x y yt,ty,pos,af,none⟩ ⟨n,tm,hp⟩ (.int k (k.wrap (i.tdiv j))):=
 tB hx hy (v:=.int k (k.wrap (i.tdiv j))) (fun w=>by simp [binOp,Op.intDiv,h0]) (fun w S=>.int _ _)
theorem E3 {xt yt:TypeId} {x y:Operand} {i j r:Int} (hx:dh tm x=some (.int .i64 i)) (hy:dh tm y=some (.int .i64 j)) (h:quo i j=some r):QV P ⟨some d,.binOp .quo xt x y yt,ty,pos,af,none⟩ ⟨n,tm,hp⟩ (.int .i64 r):=by
 obtain ⟨h0,rfl⟩:=My h
 exact RL hx hy h0
theorem MA {k:IntKind} {xt yt:TypeId} {x y:Operand} {i j r:Int} (hx:dh tm x=some (.int k i)) (hy:dh tm y=some (.int k j)) (h:rem i j=some r):QV P ⟨some d,.binOp .rem xt x y yt,ty,pos,af,none⟩ ⟨n,tm,hp⟩ (.int k r):=by
 obtain ⟨h0,rfl⟩:=Mz h
 exact DN hx hy h0
theorem nd {x y:Operand} {t:TypeId} {s:List UInt8} {k:IntKind} {i:Int} {c:UInt8} [aF P t .string] (hx:dh tm x=some (.str s)) (hy:dh tm y=some (.int k i)) (hc:idx s i=some c):QV P ⟨some d,.index t x y,ty,pos,af,none⟩ ⟨n,tm,hp⟩ (.int .u8 (c.toNat:Int)):=
 let ⟨h0,_,h⟩:=eR hc
 Gf hx hy h0 h
theorem fO {α:Type} {g:α→AV} {Xs Ys Zs:List α} {t e:TypeId} {i:TypeInfo} {z:Value} {x y:Operand} {src:AV} {b:Bk} {len sz:Nat} {dE:Bk→Heap} [aF P t (.slice e)] [aZ P e i] (hx:dh tm x=some (.sl sz b 0 len)) (hy:dh tm y=some src) (hz:i.zero=some z)
 (Is:ag z.cells.size i.size=true) (lp:ag i.size sz=true) (h0:aa 0 sz=true) (hn:aa d n=true) (UG:ai i.bytes 65536=true) (hs:Src hp sz src (Ys.map g)) (hv:app Xs Ys=some Zs) (u:∀ b',nC hp b (.arr sz (Xs.map g)) b' (.arr sz (Zs.map g)) (dE b')) (hlen:len=Xs.length)
 (kk:∀ b':Bk,ae P all rest ⟨n,(d,.sl sz b' 0 Zs.length) :: tm,dE b'⟩ Q):ae P all (⟨some d,.call {callee:=.builtin .append,args:=#[x,y],argTypes:=#[t,t]},ty,pos,af,none⟩ :: rest) ⟨n,tm,hp⟩ Q:=by
 obtain ⟨hb,rfl⟩:=GA hv
 subst hlen
 refine KU (xs:=Xs.map g) (ys:=Ys.map g) (dE:=dE) hx hy hz Is lp h0 hn UG hs (by simpa using u) (by simp) (by simpa using hb) (fun b'=>?_)
 have:=kk b'
 simpa using this
end rules
theorem KZ {hp:Heap} {sz:Nat} {b:Bk} {α:Type} {g:α→AV} {Xs:List α} {len:Nat} (f:mb hp b (.arr sz (Xs.map g))∨mb hp b (.yD sz (Xs.map g))) (h:len=Xs.length):Src hp sz (.sl sz b 0 len) (Xs.map g):=
 .whole b len _ f (by simpa using h)
end Go.Eng
