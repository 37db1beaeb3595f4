/- The engine: abstract values, the symbolic heap, one rule for each operation. No program in sight. -/
import Derived.Test.YthfphcbipahkmaaGreatDoorEngA
open Array renaming replicate→bi,getElem?_eq_some_iff→b4,all_eq_true_iff_forall_mem→b6
open Bool renaming and_eq_true→ap,or_eq_true→cy
open List renaming getElem?_append_right→a7,mem_range→bc,getElem?_append_left→be,getD_eq_getElem?_getD→bm,getElem?_take→bp,getElem?_drop→bs,Perm.refl→bv,getElem?_eq_some_iff→bx,any_eq_true→bX,all_eq_true→b5,mem_filter→b7,count_replicate→cb,sublist_cons_self→cc,mem_of_mem_drop→ce,take_zero→ci,nil_append→ck,append_assoc→cl,sublist_append_right→cm,Perm.cons→cn,mem_append_left→cp,getElem?_eq_none→cz,replicate→cJ
open Nat renaming blt→aa,beq→ag,ble→ai,lt_or_ge→al,min_eq_right→aw,eq_of_beq_eq_true→aH,le_refl→a6,min_eq_left→bo,le_of_ble_eq_true→bz,lt_of_lt_of_le→bO,lt_trichotomy→b9,zero_mul→cf,testBit_or→cv
open Option renaming some.inj→ac,getD_some→bW,bind_some→b8,map_some→cA
set_option linter.unusedVariables false
set_option linter.unusedSectionVars false
namespace Go.Eng
open Go
variable [bU]
theorem Dv {tm:List (Nat×AV)}:∀ {parts:List (Nat×Operand)} {k:Nat} {xs:List AV},Oe tm parts k=some xs→xs.length=parts.length
 | [],k,xs,h=>by simp [Oe] at h;subst h;rfl
 | (i,x) :: parts,k,xs,h=>by
   simp only [Oe] at h
   split at h
   ·rename_i a l h1 h2 h3
    obtain rfl:=ac h
    simp [Dv h3]
   ·cases h
section rules
variable {P:Program} {all:Array Oper} {rest:List Oper} {n:Nat} {tm:List (Nat×AV)} {hp:Heap} {Q:St→Prop} {d:Nat} {ty:TypeId} {pos:String} {af:Array Edge}
theorem E4 {t e:TypeId} {i:TypeInfo} {z:Value} {len:Nat} {parts:List (Nat×Operand)} {xs:List AV} [aC P t (.slice e)] [a8 P e i] (hz:i.zero=some z) (hl:Oe tm parts 0=some xs) (hlen:ag parts.length len=true) (xv:Az i.size xs=true)
 (OC:ai (len * i.size) 16777216=true) (hn:aa d n=true) (kk:ae P all rest ⟨n,(d,.list i.size xs) :: tm,hp⟩ Q):ae P all (⟨some d,.buildSlice t len parts.toArray,ty,pos,af,none⟩ :: rest) ⟨n,tm,hp⟩ Q:=by
 refine AA hz hl hlen xv OC hn (fun b=>ae.ghost (aj.freeze .here (aj.co (s:=d) (av:=.sl i.size b 0 len) (by simp [lk]) (.Bw i.size b len xs .here ?_) ?_)))
 ·rw [Dv hl];exact (aH hlen).symm
 ·refine aj.step (Ar:=⟨n,(d,.list i.size xs) :: tm,hp⟩) (fun w S a r=>⟨_,S,rfl,r.less ⟨rfl,fun s av h=>?_,cc _ _⟩,kT.less (kT.refl w S _) fun _ hm=>hm.sub (cc _ _)⟩) (aj.here kk)
  simp only [lk] at h ⊢
  split at h
  ·exact h
  ·exact h
inductive J9 (tm:List (Nat×AV)):Option Operand→Option Int→Prop
 | none:J9 tm none none
 | some (x:Operand) (k:IntKind) (i:Int) (h:du tm x=some (.int k i)):J9 tm (some x) (some i)
def iJ:Option Int→Int
 | none=>0
 | some i=>i
def jt (len:Nat):Option Int→Int
 | none=>len
 | some i=>i
theorem zP {w:World} {S:Nat→Prop} {σ:St} {a:Act} (r:eU w S σ a) {lo hi:Option Operand} {l h:Option Int} (hl:J9 σ.tm lo l) (hh:J9 σ.tm hi h) (Rj:Bool) (len cap:Nat) (h0:0≤iJ l) (h1:iJ l≤jt len h) (h2:jt len h≤len) (hc:len≤cap) (w':World):
 (Instr.sliceBounds Rj len cap (lo.map a.eval) (hi.map a.eval) none).run P w'=.ok ((iJ l).toNat,(jt len h).toNat,cap) w':=by
 cases hl with
 | none=>
   cases hh with
   | none=>simp [Instr.sliceBounds,iJ,jt]
   | some x k i hx=>
     simp only [iJ,jt] at *
     have:i≤(cap:Int):=by omega
     simp [Instr.sliceBounds,Instr.sliceBound,(bl r hx).eE,asIntOf,h1,this]
 | some x k i hx=>
   cases hh with
   | none=>
     simp only [iJ,jt] at *
     simp [Instr.sliceBounds,Instr.sliceBound,(bl r hx).eE,asIntOf,h0,h1]
   | some y k' i' hy=>
     simp only [iJ,jt] at *
     have e1:i'≤(cap:Int):=by omega
     have e2:0≤i':=by omega
     have e3:i≤(i'.toNat:Int):=by omega
     simp [Instr.sliceBounds,Instr.sliceBound,(bl r hx).eE,(bl r hy).eE,asIntOf,h0,e1,e2]
     intro eI
     omega
theorem GL (s:List UInt8) (l h:Nat):(⟨s.toArray⟩:ByteArray).extract l h=⟨((s.drop l).take (h - l)).toArray⟩:=by
 have e:=ByteArray.data_extract (a:=(⟨s.toArray⟩:ByteArray)) (b:=l) (e:=h)
 cases hx:(⟨s.toArray⟩:ByteArray).extract l h with
 | mk da=>
   rw [hx] at e
   simp only at e
   rw [e]
   congr 1
   apply Array.ext'
   simp
theorem Ib {t:TypeId} {x:Operand} {lo hi:Option Operand} {l h:Option Int} {s:List UInt8} [aC P t .string] (hx:du tm x=some (.str s)) (hl:J9 tm lo l) (hh:J9 tm hi h) (h0:0≤iJ l) (h1:iJ l≤jt s.length h) (h2:jt s.length h≤s.length):
 QV P ⟨some d,.slice t x lo hi none,ty,pos,af,none⟩ ⟨n,tm,hp⟩ (.str ((s.drop (iJ l).toNat).take ((jt s.length h).toNat - (iJ l).toNat))):=by
 intro w S a r
 refine ⟨.string ((⟨s.toArray⟩:ByteArray).extract (iJ l).toNat (jt s.length h).toNat),fun w1 _=>?_,by rw [GL];exact .str _⟩
 have hb:=zP (P:=P) (σ:=⟨n,tm,hp⟩) r hl hh false s.length s.length h0 h1 h2 (a6 _) w1
 simp [execOp,Instr.sliceAt,run_underlying (aC.h (P:=P) (t:=t)),Instr.slice,(bl (σ:=⟨n,tm,hp⟩) r hx).eV,GD,hb]
theorem GM {t e:TypeId} {i:TypeInfo} {x:Operand} {lo hi:Option Operand} {l h:Option Int} {sz:Nat} {xs:List AV} [aC P t (.slice e)] [a8 P e i] (hx:du tm x=some (.list sz xs)) (jc:ag i.size sz=true) (hl:J9 tm lo l) (hh:J9 tm hi h) (h0:0≤iJ l) (h1:iJ l≤jt xs.length h) (h2:jt xs.length h≤xs.length):
 QV P ⟨some d,.slice t x lo hi none,ty,pos,af,none⟩ ⟨n,tm,hp⟩ (.list sz ((xs.drop (iJ l).toNat).take ((jt xs.length h).toNat - (iJ l).toNat))):=by
 intro w S a r
 obtain rfl:i.size=sz:=aH jc
 obtain ⟨oa,cap,vs,e1,e2,e3,e4,e5,e6⟩:=(bl (σ:=⟨n,tm,hp⟩) r hx).x5
 have hlen:((xs.drop (iJ l).toNat).take ((jt xs.length h).toNat - (iJ l).toNat)).length=(jt xs.length h).toNat - (iJ l).toNat:=by simp;omega
 refine ⟨.slice (if cap=(iJ l).toNat then oa else oa.map (·.add ((iJ l).toNat * i.size))) ((jt xs.length h).toNat - (iJ l).toNat) (cap - (iJ l).toNat),fun w1 _=>?_,?_⟩
 ·have hb:=zP (P:=P) (σ:=⟨n,tm,hp⟩) r hl hh true xs.length cap h0 h1 h2 e6 w1
  simp [execOp,Instr.sliceAt,run_underlying (aC.h (P:=P) (t:=t)),Instr.slice,e1,hb,sizeOf,typeInfo,a8.h (P:=P) (t:=e)]
 ·have hm:∀ y∈(xs.drop (iJ l).toNat).take ((jt xs.length h).toNat - (iJ l).toNat),El i.size y:=fun y hy=>e2 y (ce (List.mem_of_mem_take hy))
  have FD:flat ((xs.drop (iJ l).toNat).take ((jt xs.length h).toNat - (iJ l).toNat))=((flat xs).drop ((iJ l).toNat * i.size)).take (((jt xs.length h).toNat - (iJ l).toNat) * i.size):=by
   rw [wa _ _ (fun y hy=>e2 y (ce hy)),vZ _ _ e2]
  have:=At.list (w:=w) (S:=S) i.size ((xs.drop (iJ l).toNat).take ((jt xs.length h).toNat - (iJ l).toNat)) (if cap=(iJ l).toNat then oa else oa.map (·.add ((iJ l).toNat * i.size))) (cap - (iJ l).toNat)
   ((vs.drop ((iJ l).toNat * i.size)).take (((jt xs.length h).toNat - (iJ l).toNat) * i.size)) hm (by rw [FD];simp [e3]) (fun j c u hc hu=>?_) (fun j u hu=>?_) (by rw [hlen];omega)
  ·rw [hlen] at this;exact this
  ·rw [FD] at hc
   simp only [bp,bs] at hc hu
   split at hu
   ·rename_i eI;rw [if_pos eI] at hc;exact e4 _ c u hc hu
   ·cases hu
  ·simp only [bp,bs] at hu
   split at hu
   ·rename_i eI
    obtain ⟨ad,rfl,g1,g2,g3⟩:=e5 _ u hu
    have tI:0 < (jt xs.length h).toNat - (iJ l).toNat:=by
     rcases Nat.eq_zero_or_pos ((jt xs.length h).toNat - (iJ l).toNat) with hz | hz
     ·rw [hz] at eI;simp at eI
     ·exact hz
    rw [if_neg (by omega)]
    obtain ⟨bk,of,sp⟩:=ad
    simp only at g1 g2;subst g1
    refine ⟨⟨bk,of+(iJ l).toNat * i.size,none⟩,by simp [nA],rfl,g2,?_⟩
    simpa [Nat.add_assoc] using g3
   ·cases hu
theorem Kt {t e:TypeId} {i:TypeInfo} {x:Operand} {lo hi:Option Operand} {l h:Option Int} {sz off len:Nat} {b:Bk} [aC P t (.slice e)] [a8 P e i] (hx:du tm x=some (.sl sz b off len)) (jc:ag i.size sz=true) (hl:J9 tm lo l) (hh:J9 tm hi h) (h0:0≤iJ l) (h1:iJ l≤jt len h) (h2:jt len h≤len):
 QV P ⟨some d,.slice t x lo hi none,ty,pos,af,none⟩ ⟨n,tm,hp⟩ (.sl sz b (off+(iJ l).toNat) ((jt len h).toNat - (iJ l).toNat)):=by
 intro w S a r
 obtain rfl:i.size=sz:=aH jc
 obtain ⟨oa,cap,e1,e2⟩:=(bl (σ:=⟨n,tm,hp⟩) r hx).uz
 have Ku:len≤cap:=by rcases e2 with ⟨_,_,hl,_,_⟩ | ⟨m,hb,_,g1,g2⟩ | ⟨m,ad,hb,_,hl,_⟩<;>omega
 refine ⟨.slice (if cap=(iJ l).toNat then oa else oa.map (·.add ((iJ l).toNat * i.size))) ((jt len h).toNat - (iJ l).toNat) (cap - (iJ l).toNat),fun w1 _=>?_,?_⟩
 ·have hb:=zP (P:=P) (σ:=⟨n,tm,hp⟩) r hl hh true len cap h0 h1 h2 Ku w1
  simp [execOp,Instr.sliceAt,run_underlying (aC.h (P:=P) (t:=t)),Instr.slice,e1,hb,sizeOf,typeInfo,a8.h (P:=P) (t:=e)]
 ·rcases e2 with ⟨hb,ho,hln,rfl,hcp⟩ | ⟨m,hb,rfl,g1,g2⟩ | ⟨m,ad,hb,rfl,hln,hcp⟩
  ·have Ug:(iJ l).toNat=0:=by omega
   have Uh:(jt len h).toNat=0:=by omega
   rw [Ug,Uh,ho,hcp]
   exact .Ax i.size b hb
  ·by_cases zy:cap=(iJ l).toNat
   ·rw [if_pos zy]
    have hz:(jt len h).toNat - (iJ l).toNat=0:=by omega
    rw [hz,show cap - (iJ l).toNat=0 from by omega]
    exact .Oq i.size b _ m _ hb
   ·rw [if_neg zy]
    have:=At.sl (w:=w) (S:=S) i.size b (off+(iJ l).toNat) ((jt len h).toNat - (iJ l).toNat) m (cap - (iJ l).toNat) hb (by omega) (by omega)
    rw [Nat.add_mul] at this
    simpa [nA] using this
  ·have Ug:(iJ l).toNat=0:=by omega
   have Uh:(jt len h).toNat=0:=by omega
   rw [Ug,Uh,hcp,if_pos rfl]
   exact .Oq i.size b _ m ad hb
theorem wW {src dst:TypeId} {D:TypeDesc} {x:Operand} {k k':IntKind} {i:Int} [aC P src D] [aC P dst (.int k')] (hx:du tm x=some (.int k i)):QV P ⟨some d,.convert src dst x,ty,pos,af,none⟩ ⟨n,tm,hp⟩ (.int k' (k'.wrap i)):=by
 intro w S a r
 refine ⟨.int k' (k'.wrap i),fun w1 _=>?_,.int _ _⟩
 simp only [execOp,convert,(bl (σ:=⟨n,tm,hp⟩) r hx).eE,Sem.run_bind,run_underlying (aC.h (P:=P) (t:=src)),run_underlying (aC.h (P:=P) (t:=dst)),Result.andThen_ok]
 cases D<;>simp [Conv.intToInt]
end rules
theorem Ic {sz:Nat} {x y:AV}:∀ {xs:List AV} {q:Nat},(∀ x∈xs,El sz x)→El sz y→xs[q]? =some x→flat (xs.set q y)=(flat xs).take (q * sz)++y.cells++(flat xs).drop (q * sz+sz)
 | [],q,_,_,h=>by simp at h
 | z :: xs,0,hs,hy,h=>by
   have hz:=(hs z (by simp)).1
   rw [List.set_cons_zero,kI,kI]
   simp only [cf,ci,ck,Nat.zero_add]
   rw [List.drop_left' hz]
 | z :: xs,q+1,hs,hy,h=>by
   have hz:=(hs z (by simp)).1
   simp only [List.getElem?_cons_succ] at h
   rw [List.set_cons_succ,kI,kI,Ic (fun a ha=>hs a (by simp [ha])) hy h]
   have e1:(q+1) * sz=sz+q * sz:=by rw [Nat.add_mul,Nat.one_mul];omega
   rw [e1,List.take_append,List.take_of_length_le (l:=z.cells) (by omega),hz,Nat.add_sub_cancel_left,List.drop_append,List.drop_of_length_le (l:=z.cells) (by omega),hz]
   rw [show sz+q * sz+sz - sz=q * sz+sz from by omega]
   simp [cl]
theorem GN {w:World} {S:Nat→Prop} {cs new:List AV} {vs tO:Array Value} (o:Nat) (hl:cs.length≤vs.size) (h:oe w S cs vs) (FC:new.length=tO.size) (h':oe w S new tO) (ho:o+new.length≤cs.length):
 oe w S (cs.take o++new++cs.drop (o+new.length)) (vs.toList.take o++tO.toList++vs.toList.drop (o+tO.toList.length)).toArray:=by
 intro i c v hc hv
 simp only [List.getElem?_toArray] at hc hv
 have l1:(cs.take o).length=o:=by simp;omega
 have l2:(vs.toList.take o).length=o:=by simp;omega
 have l3:tO.toList.length=new.length:=by simp [FC]
 rw [cl] at hc hv
 by_cases h1:i < o
 ·rw [be (by omega)] at hc hv
  rw [bp,if_pos h1] at hc hv
  exact h i c v hc (by simpa using hv)
 ·rw [a7 (by omega)] at hc hv
  rw [l1] at hc
  rw [l2] at hv
  by_cases h2:i - o < new.length
  ·rw [be (by omega)] at hc hv
   exact h' (i - o) c v hc (by simpa using hv)
  ·rw [a7 (by omega)] at hc hv
   rw [l3] at hv
   rw [bs] at hc hv
   rw [show o+new.length+(i - o - new.length)=i from by omega] at hc hv
   exact h i c v hc (by simpa using hv)
section rules
variable {P:Program} {all:Array Oper} {rest:List Oper} {n:Nat} {tm:List (Nat×AV)} {hp:Heap} {Q:St→Prop} {d:Nat} {ty:TypeId} {pos:String} {af:Array Edge}
theorem By.refl (l:List AV):By hp l l:=by
 induction l with
 | nil=>exact .nil
 | cons a l ih=>exact .cons (.refl a) ih
def Pu (P:Program) (f:FuncId) (args:List AV) (R:AV):Prop:=aR P f args [] (fun r _=>r=R)
theorem ba {f:FuncId} {args:List Operand} {ts:Array TypeId} {l l':List AV} {R:AV} [bN P f] (hl:B9 tm args=some l) (c:Pu P f l' R) (co:By hp l l') (hn:aa d n=true)
 (kk:ae P all rest ⟨n,(d,R) :: tm,hp⟩ Q):ae P all (⟨some d,.call {callee:=.value (.func f),args:=args.toArray,argTypes:=ts},ty,pos,af,none⟩ :: rest) ⟨n,tm,hp⟩ Q:=by
 refine LP hl c co hn (fun r h' hr=>?_)
 subst hr
 exact ae.weaken (aJ:=⟨n,(d,r) :: tm,hp⟩) ⟨rfl,fun _ _ h=>h,cm _ _⟩ kk
theorem gO {f:FuncId} {args:List Operand} {ts:Array TypeId} {l l':List AV} {R:AV} [bN P f] (hl:B9 tm args=some l) (c:Pu P f l' R) (co:u7 hp l l') (hn:aa d n=true) (hR:R.Xz=true)
 (kk:ae P all rest ⟨n,(d,R) :: tm,hp⟩ Q):ae P all (⟨some d,.call {callee:=.value (.func f),args:=args.toArray,argTypes:=ts},ty,pos,af,none⟩ :: rest) ⟨n,tm,hp⟩ Q:=
 RT hl c co hn (fun r h' hr=>by subst hr;exact ⟨hR,kk⟩)
theorem tn {f:FuncId} {x:Operand} {args:List Operand} {ts:Array TypeId} {vI l l':List AV} {R:AV} [bN P f] (hx:du tm x=some (.func (.func f) vI)) (hl:B9 tm args=some l) (c:Pu P f l' R) (co:By hp (l++vI) l') (hn:aa d n=true)
 (kk:ae P all rest ⟨n,(d,R) :: tm,hp⟩ Q):ae P all (⟨some d,.call {callee:=.value x,args:=args.toArray,argTypes:=ts},ty,pos,af,none⟩ :: rest) ⟨n,tm,hp⟩ Q:=by
 refine RP hx hl c co (bv _) hn (fun r h' hr=>?_)
 subst hr
 exact ae.weaken (aJ:=⟨n,(d,r) :: tm,hp⟩) ⟨rfl,fun _ _ h=>h,cm _ _⟩ kk
end rules
inductive RV (P:Program) (σ:St):ResultVar→AV→Prop
 | tmp (t:Nat) (av:AV) (h:lk σ.tm t=some av):RV P σ (.tmp t) av
 | all (p ty:Nat) (b:Bk) (cs:List AV) (D:TypeDesc) (i:TypeInfo) (h:lk σ.tm p=some (.ptr b 0)) (f:mh σ.hp b (.cells cs)) (hu:P.underlying ty=some D) (hi:P.info? ty=some i) (hD:TypeDesc.js D=true) (hs:ag cs.length i.size=true):RV P σ (.cell p ty) (.agg cs)
 | one (p ty:Nat) (b:Bk) (cs:List AV) (av:AV) (D:TypeDesc) (h:lk σ.tm p=some (.ptr b 0)) (f:mh σ.hp b (.cells cs)) (hu:P.underlying ty=some D) (hD:TypeDesc.js D=false) (hs:cs[0]? =some av):RV P σ (.cell p ty) av
def Dw (tmps:Array Value):ResultVar→Sem Value
 | .tmp t=>pure (tmps.getD t undef)
 | .cell a t=>do loadVar t (← asAddr (tmps.getD a undef))
theorem RV.run {P:Program} {σ:St} {rv:ResultVar} {av:AV} (h:RV P σ rv av) {w:World} {S:Nat→Prop} {a:Act} (r:eU w S σ a):∃ v,(Dw a.tmps rv).run P w=.ok v w∧At w S av v:=by
 cases h with
 | tmp t av h=>
   obtain ⟨v,h1,h2⟩:=r.tm t _ h
   exact ⟨v,by simp [Dw,h1],h2⟩
 | all p ty b cs D i h f hu hi hD hs=>
   obtain ⟨v,h1,h2⟩:=r.tm p _ h
   obtain ⟨m,e1,rfl⟩:=h2.sR
   obtain ⟨_,m',vs,E,g1,g2,g3,g4⟩:=uo r.hp f
   obtain rfl:m'=m:=by rw [g1] at e1;exact ac e1
   have hlen:vs.toList.length=i.size:=by simp [g3];exact aH hs
   refine ⟨.agg vs,?_,.agg cs vs g3.symm g4⟩
   have:=jR (P:=P) hu hD hi (w:=w) (ad:=⟨m',0,none⟩) (vs:=vs.toList) hlen (fun j v hv=>by rw [nA,nB g2];simpa using hv)
   simp [Dw,h1,asAddr,this]
 | one p ty b cs av D h f hu hD hs=>
   obtain ⟨v,h1,h2⟩:=r.tm p _ h
   obtain ⟨m,e1,rfl⟩:=h2.sR
   obtain ⟨_,m',vs,E,g1,g2,g3,g4⟩:=uo r.hp f
   obtain rfl:m'=m:=by rw [g1] at e1;exact ac e1
   have eI:0 < vs.size:=by rw [g3];exact (bx.1 hs).1
   have hv:vs[0]? =some vs[0]:=by simp [eI]
   refine ⟨vs[0],?_,g4 0 av _ hs hv⟩
   have:=qp (P:=P) hu hD (w:=w) (ad:=⟨m',0,none⟩) (v:=vs[0]) (by rw [nB g2,hv])
   simp [Dw,h1,asAddr,this]
inductive Rs (P:Program) (σ:St):List ResultVar→List AV→Prop
 | nil:Rs P σ [] []
 | cons {v:ResultVar} {l:List ResultVar} {a:AV} {as:List AV} (h:RV P σ v a) (k:Rs P σ l as):Rs P σ (v :: l) (a :: as)
def Cd:List AV→AV
 | [a]=>a
 | as=>.lM as
theorem Rs.run {P:Program} {σ:St} {w:World} {S:Nat→Prop} {a:Act} (r:eU w S σ a):∀ {l:List ResultVar} {as:List AV},Rs P σ l as→∃ vs,(l.mapM (Dw a.tmps)).run P w=.ok vs w∧as.length=vs.length∧∀ (i:Nat) c v,as[i]? =some c→vs[i]? =some v→At w S c v
 | [],_,.nil=>⟨[],by simp,rfl,fun i c v hc=>by simp at hc⟩
 | x :: l,_,.cons (a:=av) (as:=as) h k=>by
   obtain ⟨v,h1,h2⟩:=h.run r
   obtain ⟨vs,g1,g2,g3⟩:=Rs.run r k
   refine ⟨v :: vs,by simp [h1,g1],by simp [g2],fun i c u hc hu=>?_⟩
   match i with
   | 0=>simp at hc hu;subst hc;subst hu;exact h2
   | i+1=>exact g3 i c u (by simpa using hc) (by simpa using hu)
theorem Ie {P:Program} {fn:Func} {l:List ResultVar} {σ:St} {as:List AV} (hf:fn.results=l.toArray) (h:Rs P σ l as) {w:World} {S:Nat→Prop} {a:Act} (r:eU w S σ a):∃ v,(results fn a.tmps).run P w=.ok v w∧At w S (Cd as) v:=by
 obtain ⟨vs,g1,g2,g3⟩:=h.run r
 have hm:results fn a.tmps=(do let vs ← Functor.map List.toArray (l.mapM (Dw a.tmps));pure (if h:vs.size=1 then vs[0] else .tuple vs)):=by
  have aa3:(fun (x:ResultVar)=>(match x with | .tmp t=>pure (a.tmps.getD t undef) | .cell p t=>do loadVar t (← asAddr (a.tmps.getD p undef)):Sem Value))=Dw a.tmps:=by
   funext x
   cases x<;>rfl
  unfold results
  rw [hf,List.mapM_toArray]
  rw [← aa3]
  rfl
 refine ⟨if h:vs.toArray.size=1 then vs.toArray[0] else .tuple vs.toArray,?_,?_⟩
 ·rw [hm,Sem.run_bind,Sem.run_map,g1]
  rfl
 ·clear h hm g1
  match as,vs,g2,g3 with
  | [],[],_,_=>simp [Cd];exact .lM [] _ rfl (fun i c v hc=>by simp at hc)
  | [x],[v],_,g3=>simp [Cd];exact g3 0 x v rfl rfl
  | x :: y :: as,v :: u :: vs,hl,g3=>simp [Cd];exact .lM _ _ (by simpa using hl) (fun i c v hc hv=>g3 i c v hc (by simpa using hv))
theorem aR.XA {P:Program} {f:FuncId} {fn:Func} {c:Code} {args:List AV} {h:Heap} {Q:AV→Heap→Prop} {n:Nat} {l:List ResultVar} (hf:P.funcs[f]? =some fn) (hb:fn.body=some c) (hn:fn.ntmps=n) (U0:fn.results=l.toArray)
 (hle:ai args.length n=true) (kk:ab P (fun σ=>aj σ (fun aJ=>∃ as,Rs P aJ l as∧Q (Cd as) aJ.hp)) [.code c] ⟨n,RE args 0,h⟩):aR P f args h Q:=by
 intro w S vs hr hl ha
 refine calls_of_wp hf hb ?_
 have r0:eU w S ⟨n,RE args 0,h⟩ {tmps:=vs++bi (fn.ntmps - vs.size) undef,defers:=[]}:=by
  have:=bz hle
  refine ⟨by simp [hn];omega,rfl,fun s av hs=>?_,hr⟩
  obtain ⟨_,h2⟩:=Ox args 0 s av hs
  simp only [Nat.sub_zero] at h2
  have eI:s < args.length:=(bx.1 h2).1
  have XB:s < vs.size:=by omega
  refine ⟨vs[s],by simp [Array.getElem?_append,XB],ha s av _ h2 (by simp [XB])⟩
 refine wp_mono (kk w S _ r0) ?_
 rintro e a' w' ⟨aJ,S',h1,h2,h3⟩
 have fin:aj aJ (fun Kv=>∃ as,Rs P Kv l as∧Q (Cd as) Kv.hp)→a'.defers=[]∧∃ v,(results fn a'.tmps).run P w'=.ok v w'∧∃ v' r h' S',(Ending.returned v:Ending)=.returned v'∧Q r h'∧At w' S' r v'∧de w' S' h'∧kT w S h w' S' h':=by
  intro hi
  obtain ⟨LM,S2,⟨as,WG,hq⟩,g2,g3⟩:=hi w' S' a' h2
  obtain ⟨v,Zf,WH⟩:=Ie U0 WG g2
  exact ⟨g2.defers,v,Zf,v,Cd as,LM.hp,S2,rfl,hq,WH,g2.hp,h3.trans g3⟩
 cases e with
 | normal=>exact fin h1
 | ret=>exact fin h1
 | exit id=>exact h1.elim
 | goto l=>exact h1.elim
 | panic c=>exact h1.elim
 | outgrown=>exact h1.elim
inductive HS:Heap→Heap→Prop
 | nil {h:Heap}:HS h []
 | cons {h h1 t:Heap} {b:Bk} {o:Ob} (u:x7 h b o h1) (k:HS h1 t):HS h ((b,o) :: t)
theorem HS.perm {h t:Heap} (s:HS h t):∃ r,h.Perm (t++r):=by
 induction s with
 | nil=>exact ⟨_,bv _⟩
 | cons u k ih=>
   obtain ⟨r,hr⟩:=ih
   exact ⟨r,u.perm.trans (cn _ hr)⟩
theorem aj.XC {n:Nat} {tm sb:List (Nat×AV)} {hp cQ:Heap} {T:St→Prop} (h:FI tm sb) (hs:HS hp cQ) (k:aj ⟨n,sb,cQ⟩ T):aj ⟨n,tm,hp⟩ T:=by
 obtain ⟨r,hr⟩:=hs.perm
 refine aj.step (Ar:=⟨n,sb,cQ⟩) (fun w S a rel=>⟨_,S,rfl,⟨rel.size,rel.defers,fun s av hh=>rel.tm s av (h.lk s av hh),(rel.hp.perm hr).sub (List.sublist_append_left _ _)⟩,kT.less (kT.refl w S hp) fun m hm=>?_⟩) k
 obtain ⟨e,he,hb⟩:=hm
 exact ⟨e,hr.mem_iff.2 (cp _ he),hb⟩
abbrev I (n:Int):AV:=.int .i64 n
section rules
variable {P:Program} {all:Array Oper} {rest:List Oper} {n:Nat} {tm:List (Nat×AV)} {hp:Heap} {Q:St→Prop} {d:Nat} {ty:TypeId} {pos:String} {af:Array Edge}
theorem MR {t e:TypeId} {i:TypeInfo} {z:Value} {x y:Operand} {src:AV} {b:Bk} {len sz:Nat} {xs ys:List AV} {cQ:Bk→Heap} [aC P t (.slice e)] [a8 P e i] (hx:du tm x=some (.sl sz b 0 len)) (hy:du tm y=some src) (hz:i.zero=some z)
 (Du:ag z.cells.size i.size=true) (jc:ag i.size sz=true) (h0:aa 0 sz=true) (hn:aa d n=true) (WI:ai i.bytes 65536=true) (hs:Src hp sz src ys) (u:∀ b',mF hp b (.arr sz xs) b' (.arr sz (xs++ys)) (cQ b')) (hlen:len=xs.length)
 (hb:xs.length+ys.length≤1000000000)
 (kk:∀ b':Bk,ae P all rest ⟨n,(d,.sl sz b' 0 (len+ys.length)) :: tm,cQ b'⟩ Q):ae P all (⟨some d,.call {callee:=.builtin .append,args:=#[x,y],argTypes:=#[t,t]},ty,pos,af,none⟩ :: rest) ⟨n,tm,hp⟩ Q:=by
 refine OD hx hy hz Du jc h0 hn hs u hlen ?_ (by omega) kk
 have h1:=bz WI
 have:=Nat.mul_le_mul hb h1
 omega
end rules
def rn:List AV→Option (List AV)
 | []=>some []
 | x :: r=>match rn r with
   | some l=>some (x :: l)
   | none=>none
theorem lQ:∀ {l l':List AV},rn l=some l'→l=l'
 | [],l',h=>by simp [rn] at h;exact h.symm
 | x :: r,l',h=>by
   simp only [rn] at h
   split at h
   ·rename_i l hl
    obtain rfl:=ac h
    rw [lQ hl]
   ·cases h
def OH:List AV→Nat→Option (List (Nat×AV))
 | [],_=>some []
 | x :: r,i=>match OH r (i+1) with
   | some l=>some ((i,x) :: l)
   | none=>none
theorem LQ:∀ {l:List AV} {i:Nat} {l':List (Nat×AV)},OH l i=some l'→RE l i=l'
 | [],i,l',h=>by simp [OH] at h;simpa [RE] using h
 | x :: r,i,l',h=>by
   simp only [OH] at h
   split at h
   ·rename_i l hl
    obtain rfl:=ac h
    rw [RE,LQ hl]
   ·cases h
class mG (P:Program) (t:TypeId) (sz:outParam Nat):Prop where
 h:∃ i,P.info? t=some i∧i.size=sz
theorem aR.bI {P:Program} {f:FuncId} {fn:Func} {c:Code} {args:List AV} {h:Heap} {Q:AV→Heap→Prop} {n:Nat} {l:List ResultVar} {tm:List (Nat×AV)} (hf:P.funcs[f]? =some fn) (hb:fn.body=some c) (hn:fn.ntmps=n) (U0:fn.results=l.toArray)
 (htm:OH args 0=some tm) (hle:ai args.length n=true) (kk:ab P (fun σ=>aj σ (fun aJ=>∃ rs,Rs P aJ l rs∧Q (Cd rs) aJ.hp)) [.code c] ⟨n,tm,h⟩):aR P f args h Q:=
 aR.XA hf hb hn U0 hle (by rw [LQ htm];exact kk)
section rules
variable {P:Program} {all:Array Oper} {rest:List Oper} {n:Nat} {tm:List (Nat×AV)} {hp:Heap} {Q:St→Prop} {d:Nat} {ty:TypeId} {pos:String} {af:Array Edge}
theorem dh {x:Operand} {E:TypeId} {av:AV} {cs:List AV} (hx:du tm x=some av) (hc:rn av.cells=some cs) (h1:ke cs=true) (hn:aa d n=true)
 (kk:∀ b:Bk,ae P all rest ⟨n,(d,.ptr b 0) :: tm,(b,.cells cs) :: hp⟩ Q):ae P all (⟨some d,.box E x,ty,pos,af,none⟩ :: rest) ⟨n,tm,hp⟩ Q:=by
 obtain rfl:=lQ hc
 exact Xu hx h1 hn kk
theorem bA {E:TypeId} {i:TypeInfo} {z:Value} {cs:List AV} [a8 P E i] (hz:i.zero=some z) (hc:rn (As z).cells=some cs) (h1:ke cs=true) (hn:aa d n=true)
 (kk:∀ b:Bk,ae P all rest ⟨n,(d,.ptr b 0) :: tm,(b,.cells cs) :: hp⟩ Q):ae P all (⟨some d,.alloc E,ty,pos,af,none⟩ :: rest) ⟨n,tm,hp⟩ Q:=by
 obtain rfl:=lQ hc
 exact RH hz h1 hn kk
theorem ax {x:Operand} {s:TypeId} {j off:Nat} {b:Bk} {o o':Nat} [nQ P s j off] (hx:du tm x=some (.ptr b o)) (ho:o+off=o'):QV P ⟨some d,.fieldAddr s x j,ty,pos,af,none⟩ ⟨n,tm,hp⟩ (.ptr b o'):=by
 subst ho
 exact H5 hx
theorem bq {x:Operand} {s:TypeId} {j off:Nat} {cs lA:List AV} [nQ P s j off] (hx:du tm x=some (.ch cs)) (hc:rn (cs.drop off)=some lA):QV P ⟨some d,.fieldAddr s x j,ty,pos,af,none⟩ ⟨n,tm,hp⟩ (.ch lA):=by
 obtain rfl:=lQ hc
 exact GG hx
theorem aP {t:TypeId} {D:TypeDesc} {i:TypeInfo} {x:Operand} {b:Bk} {o:Nat} {cs lA:List AV} [aC P t D] [a8 P t i] (hD:TypeDesc.js D=true) (hx:du tm x=some (.ptr b o)) (f:mh hp b (.cells cs)) (ho:ai (o+i.size) cs.length=true) (hc:rn ((cs.drop o).take i.size)=some lA):
 QV P ⟨some d,.load t x,ty,pos,af,none⟩ ⟨n,tm,hp⟩ (.agg lA):=by
 obtain rfl:=lQ hc
 exact CF hD hx f ho
theorem kJ {t:TypeId} {D:TypeDesc} {i:TypeInfo} {x:Operand} {cs lA:List AV} [aC P t D] [a8 P t i] (hD:TypeDesc.js D=true) (hx:du tm x=some (.ch cs)) (ho:ai i.size cs.length=true) (hc:rn (cs.take i.size)=some lA):
 QV P ⟨some d,.load t x,ty,pos,af,none⟩ ⟨n,tm,hp⟩ (.agg lA):=by
 obtain rfl:=lQ hc
 exact BB hD hx ho
theorem dc {t:TypeId} {i:TypeInfo} {z:Value} {parts:List (Nat×Operand)} {l:List (Nat×AV)} {cs lA:List AV} {pl:List (Nat×Nat)} [a8 P t i] [lJ P t pl] (hz:i.zero=some z) (hl:WE tm parts=some l) (h1:ke (As z).cells=true)
 (hc:FF pl (As z).cells l=some cs) (GO:rn cs=some lA):QV P ⟨some d,.build t parts.toArray,ty,pos,af,none⟩ ⟨n,tm,hp⟩ (.agg lA):=by
 obtain rfl:=lQ GO
 exact RJ hz hl h1 hc
theorem ar {t:TypeId} {i:TypeInfo} {x y:Operand} {b:Bk} {o:Nat} {cs lA:List AV} {av:AV} {cQ:Heap} [a8 P t i] (hx:du tm x=some (.ptr b o)) (hy:du tm y=some av) (h1:ke av.cells=true) (jc:ag av.cells.length i.size=true)
 (u:mF hp b (.cells cs) b (.cells lA) cQ) (hc:rn (pJ cs o av.cells)=some lA) (ho:ai (o+av.cells.length) cs.length=true) (kk:ae P all rest ⟨n,tm,cQ⟩ Q):ae P all (⟨none,.store t x y,ty,pos,af,none⟩ :: rest) ⟨n,tm,hp⟩ Q:=by
 obtain rfl:=lQ hc
 exact H6 hx hy h1 jc u ho kk
theorem aW {t e:TypeId} {i:TypeInfo} {z:Value} {len sz:Nat} {parts:List (Nat×Operand)} {xs:List AV} [aC P t (.slice e)] [a8 P e i] [mG P e sz] (hz:i.zero=some z) (hl:Oe tm parts 0=some xs) (hlen:ag parts.length len=true) (xv:Az i.size xs=true)
 (OC:ai (len * i.size) 16777216=true) (hn:aa d n=true) (kk:ae P all rest ⟨n,(d,.list sz xs) :: tm,hp⟩ Q):ae P all (⟨some d,.buildSlice t len parts.toArray,ty,pos,af,none⟩ :: rest) ⟨n,tm,hp⟩ Q:=by
 obtain ⟨i',h1,h2⟩:=mG.h (P:=P) (t:=e)
 obtain rfl:i'=i:=by rw [a8.h (P:=P) (t:=e)] at h1;exact (ac h1).symm
 subst h2
 exact E4 hz hl hlen xv OC hn kk
theorem kf {t e:TypeId} {i:TypeInfo} {z:Value} {len sz:Nat} {parts:List (Nat×Operand)} {xs:List AV} [aC P t (.slice e)] [a8 P e i] [mG P e sz] (hz:i.zero=some z) (hl:Oe tm parts 0=some xs) (hlen:ag parts.length len=true) (xv:Az i.size xs=true)
 (OC:ai (len * i.size) 16777216=true) (hn:aa d n=true) (kk:∀ b:Bk,ae P all rest ⟨n,(d,.sl sz b 0 len) :: tm,(b,.arr sz xs) :: hp⟩ Q):ae P all (⟨some d,.buildSlice t len parts.toArray,ty,pos,af,none⟩ :: rest) ⟨n,tm,hp⟩ Q:=by
 obtain ⟨i',h1,h2⟩:=mG.h (P:=P) (t:=e)
 obtain rfl:i'=i:=by rw [a8.h (P:=P) (t:=e)] at h1;exact (ac h1).symm
 subst h2
 exact AA hz hl hlen xv OC hn kk
end rules
structure Grow (w:World) (S:Nat→Prop) (w':World) (S':Nat→Prop):Prop where
 ext:Ext w w'
 up:∀ n,S n→S' n
 down:∀ n,n < w.heap.size→S' n→S n
 slt:∀ n,S' n→n < w'.heap.size
theorem Grow.refl {w:World} {S:Nat→Prop} (h:∀ n,S n→n < w.heap.size):Grow w S w S:=⟨Ext.refl w,fun _ h=>h,fun _ _ h=>h,h⟩
theorem Grow.trans {a b c:World} {S T U:Nat→Prop} (h:Grow a S b T) (k:Grow b T c U):Grow a S c U:=
 ⟨h.ext.trans k.ext,fun n hn=>k.up n (h.up n hn),fun n hn hs=>h.down n hn (k.down n (bO hn h.ext.size) hs),k.slt⟩
theorem Grow.mf {w w':World} {S S':Nat→Prop} (g:Grow w S w' S') (h:∀ n,S n→n < w.heap.size):∀ n,S n→S' n∧w'.heap[n]? =w.heap[n]?:=fun n hn=>⟨g.up n hn,g.ext.same n (h n hn)⟩
theorem de.grow {w w':World} {S S':Nat→Prop} {h:Heap} (r:de w S h) (g:Grow w S w' S'):de w' S' h where
 nodup:=r.nodup
 holds e he:=(r.holds e he).mono (g.mf r.slt) (fun n hn=>g.ext.same n (r.lt ⟨e,he,hn⟩))
 sep e he n hn:=by
  rw [← r.sep e he n hn]
  exact ⟨g.down n (r.lt ⟨e,he,hn⟩),g.up n⟩
 slt:=g.slt
 gh t o ho:=⟨(g.mf r.slt t (r.gh t o ho).1).1,Aw (g.mf r.slt t (r.gh t o ho).1).2 (r.gh t o ho).2⟩
theorem Grow.evo {w w':World} {S S':Nat→Prop} (g:Grow w S w' S') (h:∀ n,S n→n < w.heap.size) (hp:Heap):kT w S hp w' S' hp:=
 ⟨g.ext.os,g.ext.tape,g.ext.output,g.ext.size,g.mf h,fun n hn _=>⟨g.ext.same n hn,g.down n hn⟩,fun _ hn=>.inl hn,g.ext.drawn⟩
def looks (all:Array Oper) (o:Oper):List Nat:=
 (o.op.operands.toList.filterMap fun | .tmp t=>some t | _=>none)++(match o.guard with | some (g,_)=>((all[g]?).bind (·.dst)).toList | none=>[])
abbrev Env:=Nat→Option AV
def GP (w:World) (S:Nat→Prop) (ls:List Nat) (e:Env) (a:Act):Prop:=∀ s∈ls,∀ av,e s=some av→∃ v,a.tmps[s]? =some v∧At w S av v
def MV (P:Program) (all:Array Oper) (n:Nat) (o:Oper) (e:Env) (hp:Heap) (av:AV):Prop:=
 ∀ w S a,a.tmps.size=n→a.defers=[]→de w S hp→GP w S (looks all o) e a→∀ (K:Act→World→Prop) (Q:Exit→Act→World→Prop),
   (∀ v w' S',Grow w S w' S'→At w' S' av v→K (a.put o.dst v) w')→o.wp P a w K Q
def zf (e:Env) (d:Option Nat) (av:AV):Env:=match d with
 | some d=>fun s=>if d=s then some av else e s
 | none=>e
def qB (all:Array Oper) (o:Oper) (e:Env) (b:Bool):Prop:=
 match o.guard with
 | none=>b=true
 | some (j,want)=>∃ s,(all[j]?).bind (·.dst)=some s∧((∃ c,e s=some (.bool c)∧b=(c==want))∨(e s=some (.raw undef)∧b=false))
inductive RU (P:Program) (all:Array Oper) (n:Nat) (hp:Heap):List Oper→Env→Env→Prop
 | nil (e:Env):RU P all n hp [] e e
 | run {o:Oper} {l:List Oper} {e e':Env} {av:AV} (hg:qB all o e true) (h:MV P all n o e hp av) (hd:∀ d,o.dst=some d→d < n) (k:RU P all n hp l (zf e o.dst av) e'):RU P all n hp (o :: l) e e'
 | pass {o:Oper} {l:List Oper} {e e':Env} (hg:qB all o e false) (hd:∀ d,o.dst=some d→d < n) (k:RU P all n hp l (zf e o.dst (.raw undef)) e'):RU P all n hp (o :: l) e e'
def Ui (P:Program) (all:Array Oper) (n:Nat) (hp:Heap) (o:Oper) (e:Env) (av:AV):Prop:=
 (∀ d,o.dst=some d→d < n)∧((qB all o e true∧MV P all n o e hp av)∨(qB all o e false∧av=.raw undef))
theorem RU.Kw {P:Program} {all:Array Oper} {n:Nat} {hp:Heap} {l:List Oper} {e e':Env} (h:RU P all n hp l e e'):
 ∃ (oR:Nat→AV) (en:Nat→Env),en 0=e∧en l.length=e'∧∀ i o,l[i]? =some o→Ui P all n hp o (en i) (oR i)∧en (i+1)=zf (en i) o.dst (oR i):=by
 induction h with
 | nil e=>exact ⟨fun _=>.nil,fun _=>e,rfl,rfl,fun i o h=>by simp at h⟩
 | @run o l e e' av hg hm hd k ih=>
   obtain ⟨oR,en,h0,h1,h2⟩:=ih
   refine ⟨fun i=>match i with | 0=>av | i+1=>oR i,fun i=>match i with | 0=>e | i+1=>en i,rfl,h1,fun i o' ho=>?_⟩
   match i with
   | 0=>simp at ho;subst ho;exact ⟨⟨hd,.inl ⟨hg,hm⟩⟩,h0⟩
   | i+1=>exact h2 i o' (by simpa using ho)
 | @pass o l e e' hg hd k ih=>
   obtain ⟨oR,en,h0,h1,h2⟩:=ih
   refine ⟨fun i=>match i with | 0=>.raw undef | i+1=>oR i,fun i=>match i with | 0=>e | i+1=>en i,rfl,h1,fun i o' ho=>?_⟩
   match i with
   | 0=>simp at ho;subst ho;exact ⟨⟨hd,.inr ⟨hg,rfl⟩⟩,h0⟩
   | i+1=>exact h2 i o' (by simpa using ho)
def waits (o:Oper) (i:Nat):Bool:=o.after.toList.any fun e=>Region.binds .any e&&ag e.on i
def Ce (all:Array Oper) (oi oj:Oper):Bool:=
 match oi.dst,oj.dst with
 | some d,some d'=>(looks all oj).contains d||(looks all oi).contains d'||ag d d'
 | some d,none=>(looks all oj).contains d
 | none,some d'=>(looks all oi).contains d'
 | none,none=>false
inductive Cf (all:Array Oper):Nat→Nat→Prop
 | one {j i:Nat} {oj:Oper} (hj:all[j]? =some oj) (hw:waits oj i=true):Cf all j i
 | step {j k i:Nat} {oj:Oper} (hj:all[j]? =some oj) (hw:waits oj k=true) (h:Cf all k i):Cf all j i
def GQ (acc:List Nat):List Edge→Nat→Nat
 | [],m=>m
 | e :: r,m=>GQ acc r (match Region.binds .any e with
   | true=>m||| (1 <<< e.on)||| acc.getD e.on 0
   | false=>m)
def OI:List Oper→List Nat→List Nat
 | [],acc=>acc
 | o :: r,acc=>OI r (acc++[GQ acc o.after.toList 0])
def MS (all:Array Oper):List Nat:=OI all.toList []
theorem Cg {acc:List Nat} {i:Nat}:∀ (es:List Edge) (m:Nat),(GQ acc es m).testBit i=true→m.testBit i=true∨∃ e∈es,Region.binds .any e=true∧(e.on=i∨(acc.getD e.on 0).testBit i=true)
 | [],m,h=>.inl h
 | e :: r,m,h=>by
   simp only [GQ] at h
   rcases Cg r _ h with h | ⟨e',he,hb,hh⟩
   ·split at h
    ·rename_i hb
     rw [cv,cv,cy,cy] at h
     rcases h with (h | h) | h
     ·exact .inl h
     ·refine .inr ⟨e,by simp,hb,.inl ?_⟩
      rw [Nat.one_shiftLeft,Nat.testBit_two_pow] at h
      simpa using h
     ·exact .inr ⟨e,by simp,hb,.inr h⟩
    ·exact .inl h
   ·exact .inr ⟨e',by simp [he],hb,hh⟩
theorem Dx {all:Array Oper}:∀ (l:List Oper) (acc:List Nat) (pre:List Oper),all.toList=pre++l→acc.length=pre.length→(∀ j i,(acc.getD j 0).testBit i=true→Cf all j i)→∀ j i,((OI l acc).getD j 0).testBit i=true→Cf all j i
 | [],acc,pre,_,_,h=>h
 | o :: r,acc,pre,hl,hlen,h=>by
   refine Dx r _ (pre++[o]) (by simpa using hl) (by simp [hlen]) (fun j i hb=>?_)
   rcases al j acc.length with hj | hj
   ·refine h j i ?_
    rw [bm,be hj] at hb
    rw [bm]
    exact hb
   ·by_cases Zj:j=acc.length
    ·rw [bm,a7 hj,Zj] at hb
     simp only [Nat.sub_self,List.getElem?_cons_zero,bW] at hb
     have Rk:all[j]? =some o:=by
      rw [← Array.getElem?_toList,hl,a7 (by omega),Zj,hlen];simp
     rcases Cg _ _ hb with hz | ⟨e,he,hbd,hh⟩
     ·simp at hz
     ·have hw:waits o e.on=true:=by
       simp only [waits,bX,ap]
       exact ⟨e,he,hbd,by simp⟩
      rcases hh with hh | hh
      ·subst hh;exact .one Rk hw
      ·exact .step Rk hw (h _ _ hh)
    ·rw [bm,a7 hj,cz (by simp;omega)] at hb
     simp at hb
theorem qP {all:Array Oper} {j i:Nat} (h:((MS all).getD j 0).testBit i=true):Cf all j i:=
 Dx all.toList [] [] (by simp) rfl (fun j i h=>by simp at h) j i h
def Ig (all:Array Oper) (m:Nat) (A:List Nat):Bool:=
 (List.range all.size).all fun j=>match all[j]? with
  | none=>true
  | some oj=>(oj.after.all fun e=>!Region.binds .any e||aa e.on j)&&(List.range j).all fun i=>match all[i]? with
    | none=>true
    | some oi=>if aa j m then !Ce all oi oj||(A.getD j 0).testBit i else (A.getD j 0).testBit i
def xx (all:Array Oper) (m:Nat):Prop:=∃ A,MS all=A∧Ig all m A=true
theorem mi {all:Array Oper} {m:Nat} (h:xx all m) {i j:Nat} {oi oj:Oper} (hj:all[j]? =some oj) (hi:all[i]? =some oi) (yQ:i < j):(j < m→Ce all oi oj=true→Cf all j i)∧(m≤j→Cf all j i):=by
 obtain ⟨A,hA,h⟩:=h
 subst hA
 have CJ:j < all.size:=(b4.1 hj).1
 simp only [Ig,b5,bc] at h
 have h1:=h j CJ
 rw [hj] at h1
 simp only [ap,b5,bc] at h1
 have h2:=h1.2 i yQ
 rw [hi] at h2
 simp only at h2
 refine ⟨fun hm hc=>?_,fun hm=>?_⟩
 ·rw [if_pos (by simpa using hm)] at h2
  exact qP (by simpa [hc] using h2)
 ·rw [if_neg (by simp;omega)] at h2
  exact qP h2
theorem zQ {all:Array Oper} {m:Nat} (h:xx all m) {j:Nat} {oj:Oper} (hj:all[j]? =some oj) {e:Edge} (he:e∈oj.after) (hb:Region.binds .any e=true):e.on < j:=by
 obtain ⟨A,hA,h⟩:=h
 have CJ:j < all.size:=(b4.1 hj).1
 simp only [Ig,b5,bc] at h
 have h1:=h j CJ
 rw [hj] at h1
 simp only [ap,b6] at h1
 have:=h1.1 e he
 simpa [hb] using this
theorem vh {all:Array Oper} {listed:Array Bool} {i j:Nat} {oj:Oper} (hj:all[j]? =some oj) (hr:j∈Region.ready .any all listed) (hw:waits oj i=true):listed.getD i false=true:=by
 simp only [Region.ready,b7,bc,hj,cA,bW,ap,b6] at hr
 simp only [waits,bX,ap] at hw
 obtain ⟨e,he,hb,XD⟩:=hw
 have:=hr.2.2 e (by simpa using he)
 rw [hb] at this
 obtain rfl:e.on=i:=aH XD
 simpa using this
def nC (all:Array Oper) (listed:Array Bool):Prop:=∀ k i o,listed.getD k false=true→all[k]? =some o→waits o i=true→listed.getD i false=true
theorem nC.RW {all:Array Oper} {listed:Array Bool} (c:nC all listed) {j i:Nat} (h:Cf all j i) (hl:listed.getD j false=true):listed.getD i false=true:=by
 induction h with
 | one hj hw=>exact c _ _ _ hl hj hw
 | step hj hw _ ih=>exact ih (c _ _ _ hl hj hw)
theorem nC.ready {all:Array Oper} {listed:Array Bool} (c:nC all listed) {j i:Nat} (h:Cf all j i) (hr:j∈Region.ready .any all listed):listed.getD i false=true:=by
 cases h with
 | one hj hw=>exact vh hj hr hw
 | step hj hw h=>exact c.RW h (vh hj hr hw)
theorem yR {all:Array Oper} {listed:Array Bool} {j:Nat} (hr:j∈Region.ready .any all listed):j < all.size∧listed.getD j true=false:=by
 simp only [Region.ready,b7,bc,ap] at hr
 exact ⟨hr.1,by simpa using hr.2.1⟩
theorem BC {all:Array Oper} {m:Nat} (h:xx all m) {listed:Array Bool} (hl:listed.size=all.size) (hr:Region.ready .any all listed=[]):∀ i,i < all.size→listed.getD i false=true:=by
 intro i
 induction i using Nat.strongRecOn with
 | _ i ih=>
   intro hi
   cases hv:listed.getD i false with
   | true=>rfl
   | false=>
     exfalso
     have:i∈Region.ready .any all listed:=by
      simp only [Region.ready,b7,bc,ap]
      have U1:i < listed.size:=by omega
      refine ⟨hi,?_,?_⟩
      ·simp [U1] at hv ⊢;exact hv
      ·have Ch:all[i]? =some all[i]:=by simp [hi]
       rw [Ch]
       simp only [cA,bW,b6]
       intro e he
       cases hb:Region.binds .any e with
       | false=>simp
       | true=>
         have eI:=zQ h Ch he hb
         simp [ih e.on eI (by omega)]
     rw [hr] at this
     simp at this
section order
variable {P:Program} {all:Array Oper} {n m:Nat} {hp:Heap}
def cur (all:Array Oper) (oR:Nat→AV) (e:Env) (listed:Array Bool):Nat→Env
 | 0=>e
 | k+1=>if listed.getD k false then zf (cur all oR e listed k) ((all[k]?).bind (·.dst)) (oR k) else cur all oR e listed k
theorem oI {e:Env} {d:Option Nat} {av:AV} {s:Nat} (h:d≠some s):zf e d av s=e s:=by
 cases d with
 | none=>rfl
 | some d=>simp only [zf];rw [if_neg (fun e=>h (by rw [e]))]
theorem rq {e:Env} {av:AV} {s:Nat}:zf e (some s) av s=some av:=by simp [zf]
theorem zR {oi oj:Oper} {s:Nat} (hd:oi.dst=some s) (hs:s∈looks all oj):Ce all oi oj=true:=by
 unfold Ce
 rw [hd]
 cases hj:oj.dst<;>simp [hs]
theorem Ci {oi oj:Oper} {s:Nat} (hd:oj.dst=some s) (hs:s∈looks all oi):Ce all oi oj=true:=by
 unfold Ce
 rw [hd]
 cases hi:oi.dst<;>simp [hs]
theorem FK {oi oj:Oper} {s:Nat} (hi:oi.dst=some s) (hj:oj.dst=some s):Ce all oi oj=true:=by
 unfold Ce
 rw [hi,hj]
 simp
structure Rl (all:Array Oper) (m:Nat) (listed:Array Bool):Prop where
 size:listed.size=all.size
 head:∀ k,listed.getD k false=true→k < m
 closed:∀ k i o,listed.getD k false=true→all[k]? =some o→waits o i=true→listed.getD i false=true
theorem C8 {listed:Array Bool} {i:Nat} (h:listed.getD i true=false):listed.getD i false=false:=by
 by_cases hi:i < listed.size
 ·simp [hi] at h ⊢;exact h
 ·simp [hi]
variable {oR:Nat→AV} {en:Nat→Env} {e:Env}
theorem OJ (hB:xx all m) {listed:Array Bool} (L:Rl all m listed) (h0:en 0=e) (hs:∀ i o,i < m→all[i]? =some o→en (i+1)=zf (en i) o.dst (oR i)) (hm:m≤all.size)
 {i:Nat} {o:Oper} (ho:all[i]? =some o) (Dy:i < m) (zg:listed.getD i false=false) (hr:∀ j,Cf all i j→listed.getD j false=true) {s:Nat} (Rm:s∈looks all o):∀ k,k≤all.size→cur all oR e listed k s=en (min k i) s:=by
 intro k
 induction k with
 | zero=>intro _;simp [cur,h0]
 | succ k ih=>
   intro hk
   have xH:=ih (by omega)
   have gN:all[k]? =some all[k]:=by simp [show k < all.size by omega]
   simp only [cur,gN,b8]
   rcases b9 k i with eI | heq | Of
   ·rw [bo (by omega)] at xH
    rw [bo (by omega),hs k _ (by omega) gN]
    by_cases hd:(all[k]).dst=some s
    ·have hl:listed.getD k false=true:=hr k ((mi hB ho gN eI).1 Dy (zR hd Rm))
     rw [if_pos hl,hd,rq,rq]
    ·rw [oI hd]
     split
     ·rw [oI hd];exact xH
     ·exact xH
   ·subst heq
    rw [zg]
    simp only [Bool.false_eq_true,if_false]
    rw [aw (by omega)]
    rw [aw (by omega)] at xH
    exact xH
   ·rw [aw (by omega)] at xH
    rw [aw (by omega)]
    by_cases hl:listed.getD k false=true
    ·by_cases hd:(all[k]).dst=some s
     ·exfalso
      have hw:=(mi hB gN ho Of).1 (L.head k hl) (Ci hd Rm)
      have:=nC.RW L.closed hw hl
      rw [zg] at this;cases this
     ·rw [if_pos hl,oI hd];exact xH
    ·rw [if_neg hl];exact xH
theorem kV {listed:Array Bool} {i k:Nat} (hi:i < listed.size):(listed.setIfInBounds i true).getD k false=(if k=i then true else listed.getD k false):=by
 by_cases hk:k < listed.size
 ·simp [hk,Array.getElem_setIfInBounds]
  by_cases h:k=i
  ·simp [h]
  ·have h':¬ i=k:=fun e=>h e.symm
   simp [h,h']
 ·have:k≠i:=by omega
  simp [hk,this]
theorem RX (hB:xx all m) {listed:Array Bool} (L:Rl all m listed) {i:Nat} {o:Oper} (ho:all[i]? =some o) (Dy:i < m) (zg:listed.getD i false=false) (s:Nat):
 ∀ k,k≤all.size→cur all oR e (listed.setIfInBounds i true) k s=(if i < k then zf (cur all oR e listed k) o.dst (oR i) s else cur all oR e listed k s):=by
 have hi:i < listed.size:=by rw [L.size];exact (b4.1 ho).1
 intro k
 induction k with
 | zero=>intro _;simp [cur]
 | succ k ih=>
   intro hk
   have xH:=ih (by omega)
   have gN:all[k]? =some all[k]:=by simp [show k < all.size by omega]
   simp only [cur,gN,b8,kV hi]
   rcases b9 k i with eI | heq | Of
   ·rw [if_neg (by omega)] at xH
    have e1:(if k=i then true else listed.getD k false)=listed.getD k false:=if_neg (by omega)
    rw [e1,if_neg (show ¬ i < k+1 by omega)]
    by_cases hl:listed.getD k false=true
    ·rw [if_pos hl,if_pos hl]
     by_cases hd:(all[k]).dst=some s
     ·rw [hd,rq,rq]
     ·rw [oI hd,oI hd];exact xH
    ·rw [if_neg hl,if_neg hl];exact xH
   ·subst heq
    rw [if_neg (by omega)] at xH
    have e1:(if k=k then true else listed.getD k false)=true:=if_pos rfl
    rw [e1,if_pos (show k < k+1 by omega),if_pos rfl,zg,if_neg Bool.false_ne_true]
    obtain rfl:all[k]=o:=by rw [gN] at ho;exact ac ho
    by_cases hd:(all[k]).dst=some s
    ·rw [hd,rq,rq]
    ·rw [oI hd,oI hd];exact xH
   ·rw [if_pos Of] at xH
    have e1:(if k=i then true else listed.getD k false)=listed.getD k false:=if_neg (by omega)
    rw [e1,if_pos (show i < k+1 by omega)]
    by_cases hl:listed.getD k false=true
    ·rw [if_pos hl,if_pos hl]
     by_cases hd:(all[k]).dst=some s
     ·by_cases GR:o.dst=some s
      ·exfalso
       have hw:=(mi hB gN ho Of).1 (L.head k hl) (FK GR hd)
       have:=nC.RW L.closed hw hl
       rw [zg] at this;cases this
      ·rw [hd,rq,oI GR,rq]
     ·by_cases GR:o.dst=some s
      ·rw [oI hd,xH,GR,rq,rq]
      ·rw [oI hd,xH,oI GR,oI GR,oI hd]
    ·rw [if_neg hl,if_neg hl];exact xH
theorem Ih (hB:xx all m) {Q:Exit→Act→World→Prop}:∀ (fuel k:Nat) (listed:Array Bool) (a:Act) (w:World),m≤k→k+fuel=all.size→listed.size=all.size→(∀ i,i < k→listed.getD i false=true)→(∀ i,k≤i→listed.getD i false=false)→
 wpList P all Q (all.toList.drop k) a w→wpAny P .any all Q fuel listed a w:=by
 intro fuel
 induction fuel with
 | zero=>
   intro k listed a w hm hk jc h1 h2 h
   have OK:all.toList.drop k=[]:=List.drop_eq_nil_of_le (by simp;omega)
   rw [OK] at h
   refine ⟨?_,h⟩
   refine List.eq_nil_iff_forall_not_mem.2 fun i hi=>?_
   obtain ⟨MT,Ii⟩:=yR hi
   have:=h1 i (by omega)
   rw [C8 Ii] at this
   cases this
 | succ fuel ih=>
   intro k listed a w hm hk jc h1 h2 h
   have hks:k < all.size:=by omega
   have gN:all[k]? =some all[k]:=by simp [hks]
   refine ⟨fun hr=>?_,fun i hi=>?_⟩
   ·have:=BC hB jc hr k hks
    rw [h2 k (a6 _)] at this
    cases this
   ·obtain ⟨MT,Ii⟩:=yR hi
    have Ch:all[i]? =some all[i]:=by simp [MT]
    obtain rfl:i=k:=by
     rcases b9 i k with eI | heq | Of
     ·have:=h1 i eI;rw [C8 Ii] at this;cases this
     ·exact heq
     ·have zy:nC all listed:=fun k' i' o Rn ho' LR=>by
       have eI:k' < k:=by
        rcases al k' k with h | h
        ·exact h
        ·rw [h2 k' h] at Rn;cases Rn
       simp only [waits,bX,ap] at LR
       obtain ⟨e',he',Bx,U2⟩:=LR
       have:=zQ hB ho' (by simpa using he') Bx
       obtain rfl:e'.on=i':=aH U2
       exact h1 _ (by omega)
      have:=zy.ready ((mi hB Ch gN Of).2 (by omega)) hi
      rw [h2 k (a6 _)] at this;cases this
    have XE:all.toList.drop i=all[i] :: all.toList.drop (i+1):=by
     rw [List.drop_eq_getElem_cons (by simpa using hks)]
     simp
    rw [XE] at h
    unfold wpList at h
    simp only [wpOp,gN]
    have next:∀ a w,wpList P all Q (all.toList.drop (i+1)) a w→wpAny P .any all Q fuel (listed.setIfInBounds i true) a w:=fun a w hh=>by
     have qQ:i < listed.size:=by omega
     refine ih (i+1) (listed.setIfInBounds i true) a w (by omega) (by omega) (by simpa using jc) (fun j hj=>?_) (fun j hj=>?_) hh
     ·rw [kV qQ];split
      ·rfl
      ·exact h1 j (by omega)
     ·rw [kV qQ,if_neg (by omega)];exact h2 j (by omega)
    split at h
    ·rename_i hw
     rw [if_pos hw]
     exact h.imp (fun hh=>Oper.wp_mono next hh) id
    ·rename_i hw
     rw [if_neg hw]
     exact next _ _ h
theorem yS {o:Oper} {e:Env} {b:Bool} {w:World} {S:Nat→Prop} {a:Act} (hw:qB all o e b) (r:GP w S (looks all o) e a):Region.wanted o (yielded all a.tmps)=b:=by
 unfold qB at hw
 unfold Region.wanted
 cases hg:o.guard with
 | none=>rw [hg] at hw;simp only at hw;rw [hw]
 | some g=>
   obtain ⟨j,want⟩:=g
   rw [hg] at hw
   simp only at hw
   obtain ⟨s,h1,⟨c,h2,h3⟩ | ⟨h2,h3⟩⟩:=hw
   ·obtain ⟨v,g1,g2⟩:=r s (by simp [looks,hg,h1]) _ h2
    cases g2
    rw [h3]
    cases c<;>cases want<;>simp [yielded,h1,g1]
   ·obtain ⟨v,g1,g2⟩:=r s (by simp [looks,hg,h1]) _ h2
    cases g2
    rw [h3]
    simp [yielded,h1,g1,undef]
def Dz (w:World) (S:Nat→Prop) (e:Env) (a:Act):Prop:=∀ s av,e s=some av→∃ v,a.tmps[s]? =some v∧At w S av v
theorem OL (hB:xx all m) (hm:m≤all.size) {Q:Exit→Act→World→Prop} (h0:en 0=e) (hs:∀ i o,i < m→all[i]? =some o→Ui P all n hp o (en i) (oR i)∧en (i+1)=zf (en i) o.dst (oR i)) {w0:World} {S0:Nat→Prop}
 (fin:∀ a w S,a.tmps.size=n→a.defers=[]→de w S hp→Grow w0 S0 w S→Dz w S (en m) a→wpList P all Q (all.toList.drop m) a w):
 ∀ (fuel:Nat) (listed:Array Bool) (a:Act) (w:World) (S:Nat→Prop),Rl all m listed→(listed.toList.count true)+fuel=all.size→a.tmps.size=n→a.defers=[]→de w S hp→Grow w0 S0 w S→Dz w S (cur all oR e listed all.size) a→
   wpAny P .any all Q fuel listed a w:=by
 have XF:∀ i o,i < m→all[i]? =some o→en (i+1)=zf (en i) o.dst (oR i):=fun i o h1 h2=>(hs i o h1 h2).2
 have done:∀ (fuel:Nat) (listed:Array Bool) (a:Act) (w:World) (S:Nat→Prop),Rl all m listed→(listed.toList.count true)+fuel=all.size→a.tmps.size=n→a.defers=[]→de w S hp→Grow w0 S0 w S→Dz w S (cur all oR e listed all.size) a→
  (∀ i,i < m→listed.getD i false=true)→wpAny P .any all Q fuel listed a w:=by
  intro fuel listed a w S L hc jc HP hr hg u5 lE
  have CK:∀ i,m≤i→listed.getD i false=false:=fun i hi=>by
   cases hv:listed.getD i false with
   | false=>rfl
   | true=>have:=L.head i hv;omega
  have U3:listed.toList.count true=m:=by
   have:listed.toList=cJ m true++cJ (all.size - m) false:=by
    apply List.ext_getElem?
    intro i
    rcases al i m with hi | hi
    ·have qQ:i < listed.size:=by rw [L.size];omega
     rw [be (by simpa using hi)]
     have:=lE i hi
     simp [qQ] at this
     simp [qQ,hi,this]
    ·rw [a7 (by simpa using hi)]
     rcases al i listed.size with qQ | qQ
     ·have:=CK i hi
      simp [qQ] at this
      have h2:i - m < all.size - m:=by rw [L.size] at qQ;omega
      simp [qQ,h2,this]
     ·have h2:¬ i - m < all.size - m:=by rw [L.size] at qQ;omega
      simp [cz (l:=listed.toList) (by simpa using qQ),h2]
   rw [this,List.count_append,cb,cb]
   simp
  have U4:cur all oR e listed all.size=en m:=by
   have key:∀ k,k≤all.size→cur all oR e listed k=en (min k m):=by
    intro k
    induction k with
    | zero=>intro _;simp [cur,h0]
    | succ k ih=>
      intro hk
      have gN:all[k]? =some all[k]:=by simp [show k < all.size by omega]
      simp only [cur,gN,b8,ih (by omega)]
      rcases al k m with h | h
      ·rw [if_pos (lE k h),bo (by omega),bo (by omega),XF k _ h gN]
      ·rw [if_neg (by rw [CK k h];simp),aw (by omega),aw (by omega)]
   rw [key all.size (a6 _),aw hm]
  rw [U4] at u5
  exact Ih hB fuel m listed a w (a6 _) (by omega) L.size lE CK (fin a w S jc HP hr hg u5)
 intro fuel
 induction fuel with
 | zero=>
   intro listed a w S L hc jc HP hr hg u5
   refine done 0 listed a w S L hc jc HP hr hg u5 (fun i hi=>?_)
   have Ij:listed.toList.count true=listed.toList.length:=by rw [Array.length_toList,L.size];omega
   have lE:=List.count_eq_length.1 Ij
   have qQ:i < listed.size:=by rw [L.size];omega
   have:=lE listed[i] (by simp)
   simp [qQ];exact this.symm
 | succ fuel ih=>
   intro listed a w S L hc jc HP hr hg u5
   by_cases lE:∀ i,i < m→listed.getD i false=true
   ·exact done _ listed a w S L hc jc HP hr hg u5 lE
   ·refine ⟨fun MU=>(lE fun i hi=>BC hB L.size MU i (by omega)).elim,fun i hi=>?_⟩
    obtain ⟨MT,Ii⟩:=yR hi
    have zg:=C8 Ii
    have Ch:all[i]? =some all[i]:=by simp [MT]
    have Dy:i < m:=by
     rcases al i m with h | h
     ·exact h
     ·refine (lE fun j hj=>?_).elim
      have Rk:all[j]? =some all[j]:=by simp [show j < all.size by omega]
      exact nC.ready L.closed ((mi hB Ch Rk (by omega)).2 h) hi
    have qQ:i < listed.size:=by rw [L.size];exact MT
    obtain ⟨⟨T9,sk⟩,_⟩:=hs i _ Dy Ch
    have uB:GP w S (looks all all[i]) (en i) a:=by
     intro s Rm av pM
     have hc:=OJ (oR:=oR) (en:=en) (e:=e) hB L h0 XF hm Ch Dy zg (fun j hj=>nC.ready L.closed hj hi) Rm all.size (a6 _)
     rw [aw (by omega)] at hc
     exact u5 s av (by rw [hc];exact pM)
    have L':Rl all m (listed.setIfInBounds i true):=by
     refine ⟨by simpa using L.size,fun k hk=>?_,fun k j o hk gN hw=>?_⟩
     ·rw [kV qQ] at hk
      split at hk
      ·omega
      ·exact L.head k hk
     ·rw [kV qQ] at hk
      rw [kV qQ]
      split
      ·rfl
      ·split at hk
       ·rename_i hki
        subst hki
        obtain rfl:all[k]=o:=by rw [Ch] at gN;exact ac gN
        exact vh Ch hi hw
       ·exact L.closed k j o hk gN hw
    have Ij:(listed.setIfInBounds i true).toList.count true+fuel=all.size:=by
     have OM:listed[i]=false:=by simpa [qQ] using zg
     have:(listed.setIfInBounds i true).toList=listed.toList.set i true:=by simp
     rw [this,List.count_set (by simpa using qQ)]
     have UW:listed.toList[i]'(by simpa using qQ)=false:=by simpa using OM
     rw [UW]
     have e1:(if (false==true)=true then 1 else 0)=0:=rfl
     have e2:(if (true==true)=true then 1 else 0)=1:=rfl
     rw [e1,e2]
     omega
    have upd:∀ (v:Value) (w':World) (S':Nat→Prop),Grow w S w' S'→At w' S' (oR i) v→Dz w' S' (cur all oR e (listed.setIfInBounds i true) all.size) (a.put (all[i]).dst v):=by
     intro v w' S' Uj qo s av pM
     rw [RX (oR:=oR) (e:=e) hB L Ch Dy zg s all.size (a6 _),if_pos (by omega)] at pM
     by_cases hd:(all[i]).dst=some s
     ·rw [hd,rq] at pM
      obtain rfl:=ac pM
      have Og:=T9 s hd
      exact ⟨v,by rw [hd];simp [Act.put,jc,Og],qo⟩
     ·rw [oI hd] at pM
      obtain ⟨u,h1,h2⟩:=u5 s av pM
      refine ⟨u,?_,h2.mono (Uj.mf hr.slt)⟩
      cases U5:(all[i]).dst with
      | none=>simpa [Act.put] using h1
      | some d'=>
        have Aq:d'≠s:=fun e=>hd (by rw [U5,e])
        simp [Act.put,Aq,h1]
    have Zk:∀ v,(a.put (all[i]).dst v).tmps.size=n:=fun v=>by cases (all[i]).dst<;>simp [Act.put,jc]
    have Zl:∀ v,(a.put (all[i]).dst v).defers=[]:=fun v=>by cases (all[i]).dst<;>simp [Act.put,HP]
    simp only [wpOp,Ch]
    rcases sk with ⟨hw,hmv⟩ | ⟨hw,pM⟩
    ·rw [if_pos (yS hw uB)]
     refine .inl (hmv w S a jc HP hr uB _ _ (fun v w' S' Uj qo=>?_))
     exact ih _ _ _ S' L' Ij (Zk v) (Zl v) (hr.grow Uj) (hg.trans Uj) (upd v w' S' Uj qo)
    ·rw [if_neg (by rw [yS hw uB];simp)]
     refine ih _ _ _ S L' Ij (Zk _) (Zl _) hr hg (upd _ w S (Grow.refl hr.slt) ?_)
     rw [pM];exact .raw _
end order
theorem wX (d:Nat) (av:AV) (tm:List (Nat×AV)):lk ((d,av) :: tm)=zf (lk tm) (some d) av:=by
 funext s
 simp only [lk,zf]
 by_cases h:d=s
 ·subst h;simp
 ·rw [sQ h,if_neg h]
def GS:List Nat→List (Nat×AV)→List (Nat×AV)
 | [],_=>[]
 | s :: r,tm=>match lk tm s with
   | some av=>(s,av) :: GS r tm
   | none=>GS r tm
theorem GU:∀ {ls:List Nat} {tm:List (Nat×AV)} {s:Nat} {av:AV},lk (GS ls tm) s=some av→s∈ls∧lk tm s=some av
 | [],tm,s,av,h=>by simp [GS,lk] at h
 | k :: ls,tm,s,av,h=>by
   simp only [GS] at h
   split at h
   ·rename_i iI hk
    simp only [lk] at h
    split at h
    ·rename_i hb
     obtain rfl:k=s:=by simpa using hb
     obtain rfl:=ac h
     exact ⟨by simp,hk⟩
    ·obtain ⟨h1,h2⟩:=GU h
     exact ⟨by simp [h1],h2⟩
   ·obtain ⟨h1,h2⟩:=GU h
    exact ⟨by simp [h1],h2⟩
theorem sr {w:World} {S:Nat→Prop} {a:Act} {n:Nat} {hp:Heap} {ls:List Nat} {tm:List (Nat×AV)} (h1:a.tmps.size=n) (h2:a.defers=[]) (h3:de w S hp) (h4:GP w S ls (lk tm) a):eU w S ⟨n,GS ls tm,hp⟩ a:=
 ⟨h1,h2,fun s av h=>h4 s (GU h).1 av (GU h).2,h3⟩
def AM (P:Program) (all:Array Oper) (n:Nat) (hp:Heap) (l:List Oper) (tm:List (Nat×AV)) (Q:List (Nat×AV)→Prop):Prop:=∃ sb,RU P all n hp l (lk tm) (lk sb)∧Q sb
section rules
variable {P:Program} {all:Array Oper} {rest:List Oper} {n:Nat} {tm:List (Nat×AV)} {hp:Heap} {Q:List (Nat×AV)→Prop} {d:Nat} {ty:TypeId} {pos:String} {af:Array Edge} {op:Op}
theorem AM.nil (h:Q tm):AM P all n hp [] tm Q:=⟨tm,.nil _,h⟩
theorem AM.mv {av:AV} (h:MV P all n ⟨some d,op,ty,pos,af,none⟩ (lk tm) hp av) (hn:aa d n=true) (k:AM P all n hp rest ((d,av) :: tm) Q):AM P all n hp (⟨some d,op,ty,pos,af,none⟩ :: rest) tm Q:=by
 obtain ⟨sb,k1,k2⟩:=k
 refine ⟨sb,.run rfl h (fun d' hd=>?_) (by rw [wX] at k1;exact k1),k2⟩
 obtain rfl:=ac hd
 simpa using hn
theorem AM.qv {av:AV} (q:QV P ⟨some d,op,ty,pos,af,none⟩ ⟨n,GS (looks all ⟨some d,op,ty,pos,af,none⟩) tm,hp⟩ av) (hn:aa d n=true) (k:AM P all n hp rest ((d,av) :: tm) Q):AM P all n hp (⟨some d,op,ty,pos,af,none⟩ :: rest) tm Q:=by
 refine AM.mv (fun w S a h1 h2 h3 h4 K Q' hK=>?_) hn k
 obtain ⟨v,g1,g2⟩:=q w S a (sr h1 h2 h3 h4)
 show Oper.upon P _ a K Q' _
 rw [g1 w (Ext.refl w)]
 exact hK v w S (Grow.refl h3.slt) g2
theorem AM.ay {j:Nat} {want b:Bool} {s:Nat} (hj:(all[j]?).bind (·.dst)=some s) (hs:lk tm s=some (.bool b)) (hb:b=want)
 (k:AM P all n hp (⟨some d,op,ty,pos,af,none⟩ :: rest) tm Q):AM P all n hp (⟨some d,op,ty,pos,af,some (j,want)⟩ :: rest) tm Q:=by
 obtain ⟨sb,k1,k2⟩:=k
 refine ⟨sb,?_,k2⟩
 cases k1 with
 | run hg h hd k=>
   refine .run ⟨s,hj,.inl ⟨b,hs,by simp [hb]⟩⟩ ?_ hd k
   intro w S a h1 h2 h3 h4 K Q' hK
   exact h w S a h1 h2 h3 (fun t ht=>h4 t (by simp only [looks,List.append_nil] at ht ⊢;exact cp _ ht)) K Q' hK
 | pass hg hd k=>simp [qB] at hg
theorem AM.au {j:Nat} {want b:Bool} {s:Nat} (hj:(all[j]?).bind (·.dst)=some s) (hs:lk tm s=some (.bool b)) (hb:b=!want) (hn:aa d n=true)
 (k:AM P all n hp rest ((d,.raw undef) :: tm) Q):AM P all n hp (⟨some d,op,ty,pos,af,some (j,want)⟩ :: rest) tm Q:=by
 obtain ⟨sb,k1,k2⟩:=k
 refine ⟨sb,.pass ⟨s,hj,.inl ⟨b,hs,?_⟩⟩ (fun d' hd=>?_) (by rw [wX] at k1;exact k1),k2⟩
 ·rw [hb];cases want<;>rfl
 ·obtain rfl:=ac hd
  simpa using hn
theorem AM.aV {j:Nat} {want:Bool} {s:Nat} (hj:(all[j]?).bind (·.dst)=some s) (hs:lk tm s=some (.raw undef)) (hn:aa d n=true)
 (k:AM P all n hp rest ((d,.raw undef) :: tm) Q):AM P all n hp (⟨some d,op,ty,pos,af,some (j,want)⟩ :: rest) tm Q:=by
 obtain ⟨sb,k1,k2⟩:=k
 refine ⟨sb,.pass ⟨s,hj,.inr ⟨hs,rfl⟩⟩ (fun d' hd=>?_) (by rw [wX] at k1;exact k1),k2⟩
 obtain rfl:=ac hd
 simpa using hn
theorem AM.lit {l:List Oper} {s:Nat} {b c:Bool} (hs:lk tm s=some (.bool b)) (hb:b=c) (k:AM P all n hp l ((s,.bool c) :: tm) Q):AM P all n hp l tm Q:=by
 subst hb
 obtain ⟨sb,k1,k2⟩:=k
 have:lk ((s,.bool b) :: tm)=lk tm:=by
  rw [wX]
  funext t
  simp only [zf]
  split
  ·rename_i h;subst h;exact hs.symm
  ·rfl
 rw [this] at k1
 exact ⟨sb,k1,k2⟩
theorem AM.guard {j s:Nat} {want b:Bool} (hj:(all[j]?).bind (·.dst)=some s) (hs:lk tm s=some (.bool b)) (hn:aa d n=true) (h1:b=want→AM P all n hp (⟨some d,op,ty,pos,af,none⟩ :: rest) ((s,.bool want) :: tm) Q)
 (h2:b=!want→AM P all n hp rest ((d,.raw undef) :: (s,.bool (!want)) :: tm) Q):AM P all n hp (⟨some d,op,ty,pos,af,some (j,want)⟩ :: rest) tm Q:=by
 by_cases hb:b=want
 ·exact AM.lit hs hb (AM.ay hj (by simp [lk]) rfl (h1 hb))
 ·have Bx:b=!want:=by cases b<;>cases want<;>simp_all
  exact AM.lit hs Bx (AM.au hj (b:=!want) (by simp [lk]) rfl hn (h2 Bx))
theorem AM.dJ {j s:Nat} {p:Prop} [Decidable p] (hj:(all[j]?).bind (·.dst)=some s) (hs:lk tm s=some (.bool (decide p))) (hn:aa d n=true) (h1:p→AM P all n hp (⟨some d,op,ty,pos,af,none⟩ :: rest) ((s,.bool true) :: tm) Q)
 (h2:¬ p→AM P all n hp rest ((d,.raw undef) :: (s,.bool false) :: tm) Q):AM P all n hp (⟨some d,op,ty,pos,af,some (j,true)⟩ :: rest) tm Q:=
 AM.guard hj hs hn (fun h=>h1 (of_decide_eq_true h)) (fun h=>h2 (of_decide_eq_false h))
theorem AM.dA {j s:Nat} {p:Prop} [Decidable p] (hj:(all[j]?).bind (·.dst)=some s) (hs:lk tm s=some (.bool (decide p))) (hn:aa d n=true) (h1:¬ p→AM P all n hp (⟨some d,op,ty,pos,af,none⟩ :: rest) ((s,.bool false) :: tm) Q)
 (h2:p→AM P all n hp rest ((d,.raw undef) :: (s,.bool true) :: tm) Q):AM P all n hp (⟨some d,op,ty,pos,af,some (j,false)⟩ :: rest) tm Q:=
 AM.guard hj hs hn (fun h=>h1 (of_decide_eq_false h)) (fun h=>h2 (of_decide_eq_true h))
theorem AM.gM {f:FuncId} {args:List Operand} {ts:Array TypeId} {l l':List AV} {R:AV} [bN P f](hl:B9 (GS (looks all ⟨some d,.call {callee:=.value (.func f),args:=args.toArray,argTypes:=ts},ty,pos,af,none⟩) tm) args=some l) (c:Pu P f l' R) (co:By hp l l') (hn:aa d n=true)
 (k:AM P all n hp rest ((d,R) :: tm) Q):AM P all n hp (⟨some d,.call {callee:=.value (.func f),args:=args.toArray,argTypes:=ts},ty,pos,af,none⟩ :: rest) tm Q:=by
 refine AM.mv (fun w S a h1 h2 h3 h4 K Q' hK=>?_) hn k
 have r:=sr h1 h2 h3 h4
 show Oper.upon P _ a K Q' _
 rw [oh]
 obtain ⟨g1,g2⟩:=tj r hl
 obtain ⟨g3,g4⟩:=By.at r.hp co g1 g2
 refine (c w S _ (uC h3.slt h3.gh) (by simpa using g3) g4).mono ?_
 rintro e w' ⟨v,rr,h',S',rfl,rfl,k3,k4,k5⟩
 exact hK v w' S' ⟨k5.FJ,fun m hm=>(k5.mf m hm).1,fun m hm hs=>(k5.other m hm (fun ⟨x,hx,_⟩=>by simp at hx)).2 hs,k4.slt⟩ k3
theorem AM.GV {f:FuncId} {args:List Operand} {ts:Array TypeId} {l l':List AV} {R:AV} [bN P f](hl:B9 (GS (looks all ⟨some d,.call {callee:=.value (.func f),args:=args.toArray,argTypes:=ts},ty,pos,af,none⟩) tm) args=some l) (c:Pu P f l' R) (co:u7 hp l l') (hn:aa d n=true) (hR:R.Xz=true)
 (k:AM P all n hp rest ((d,R) :: tm) Q):AM P all n hp (⟨some d,.call {callee:=.value (.func f),args:=args.toArray,argTypes:=ts},ty,pos,af,none⟩ :: rest) tm Q:=by
 refine AM.mv (fun w S a h1 h2 h3 h4 K Q' hK=>?_) hn k
 have r:=sr h1 h2 h3 h4
 show Oper.upon P _ a K Q' _
 rw [oh]
 obtain ⟨g1,g2⟩:=tj r hl
 obtain ⟨g3,g4⟩:=u7.at r.hp co g1 g2
 refine (c w (SB S hp) _ (uC (fun m hm=>hm.elim (h3.slt m) fun h=>h3.lt h) (fun g o ho=>⟨.inl (h3.gh g o ho).1,(h3.gh g o ho).2⟩)) (by simpa using g3) g4).mono ?_
 rintro e w' ⟨v,rr,h',S',rfl,rfl,k3,k4,k5⟩
 have ex:=k5.FJ
 exact hK v w' S ⟨ex,fun m hm=>hm,fun m _ hs=>hs,fun m hm=>bO (h3.slt m hm) ex.size⟩ (OG k3 hR)
theorem AM.cI {t e:TypeId} {i:TypeInfo} {z:Value} {len sz:Nat} {parts:List (Nat×Operand)} {xs:List AV} [aC P t (.slice e)] [a8 P e i] [mG P e sz] (hz:i.zero=some z)
 (hl:Oe (GS (looks all ⟨some d,.buildSlice t len parts.toArray,ty,pos,af,none⟩) tm) parts 0=some xs) (hlen:ag parts.length len=true) (xv:Az i.size xs=true) (OC:ai (len * i.size) 16777216=true) (hn:aa d n=true)
 (k:AM P all n hp rest ((d,.list sz xs) :: tm) Q):AM P all n hp (⟨some d,.buildSlice t len parts.toArray,ty,pos,af,none⟩ :: rest) tm Q:=by
 obtain ⟨i',MT,Ii⟩:=mG.h (P:=P) (t:=e)
 obtain rfl:i'=i:=by rw [a8.h (P:=P) (t:=e)] at MT;exact (ac MT).symm
 subst Ii
 refine AM.mv (fun w S a h1 h2 h3 h4 K Q' hK=>?_) hn k
 have r:=sr h1 h2 h3 h4
 obtain rfl:parts.length=len:=aH hlen
 have OC:=bz OC
 obtain ⟨zz,RM⟩:∃ zz:Array Value,zz=if parts.length * i'.size=0 then #[] else z.cells:=⟨_,rfl⟩
 obtain ⟨vs,g1,g2,g3,g4⟩:=Dr r i'.size parts 0 xs ((Array.range (parts.length * i'.size)).map (zz[· % zz.size]!)) hl (qA xv) (by simp)
 simp only [cf,ci,ck] at g1
 have e0:=Ext.alloc w (.cells vs.toArray e)
 have vJ:(execOp a.eval ⟨some d,.buildSlice t parts.length parts.toArray,ty,pos,af,none⟩).run P w=.ok (.value (.slice (some ⟨w.heap.size,0,none⟩) parts.length parts.length)) (w.alloc (.cells vs.toArray e)):=by
  have hm:((parts.toArray.map fun p=>(p.1,a.eval p.2))).toList=parts.map fun p=>(p.1,a.eval p.2):=by simp
  simp only [execOp,Instr.buildSlice,Sem.run_bind,run_underlying (aC.h (P:=P) (t:=t)),Result.andThen_ok,sizeOf,typeInfo,run_program,a8.h (P:=P) (t:=e),Sem.run_pure]
  rw [if_neg (by omega)]
  by_cases h0:parts.length * i'.size=0
  ·rw [if_pos h0] at RM ⊢
   subst RM
   simp only [Sem.run_bind,Result.andThen_ok,Sem.run_pure,hm,g1,oS]
  ·rw [if_neg h0] at RM ⊢
   subst RM
   simp only [Sem.run_bind,Result.andThen_ok,Sem.run_pure,zeroValue,typeInfo,run_program,a8.h (P:=P) (t:=e),hz,hm,g1,oS]
 show Oper.upon P _ a K Q' _
 rw [vJ]
 have wb:(w.alloc (.cells vs.toArray e)).heap[w.heap.size]? =some (.cells vs.toArray e (0,0)):=by
  show (w.heap.push _)[w.heap.size]? =_
  simp
 refine hK _ _ (fun m=>S m∨m=w.heap.size) ⟨e0,fun m hm=>.inl hm,fun m hm hs=>hs.elim id (fun h=>by omega),fun m hm=>?_⟩ ?_
 ·rcases hm with hm | hm
  ·exact bO (h3.slt m hm) e0.size
  ·subst hm;simp
 ·have:=At.list (w:=w.alloc (.cells vs.toArray e)) (S:=fun m=>S m∨m=w.heap.size) i'.size xs (some ⟨w.heap.size,0,none⟩) parts.length vs (qA xv) (by rw [cT (qA xv),g2]) (fun j c u hc hu=>?_) (fun j u hu=>?_) (by omega)
  ·rw [g3] at this;exact this
  ·exact (g4 j c u hc (by simpa using hu)).mono fun m hm=>⟨.inl hm,e0.same m (h3.slt m hm)⟩
  ·refine ⟨_,rfl,rfl,.inr rfl,?_⟩
   rw [nB wb]
   simpa using hu
end rules
def Ik:Nat→List Oper→Option (List Oper×List Oper)
 | 0,l=>some ([],l)
 | m+1,o :: l=>match Ik m l with
   | some (a,b)=>some (o :: a,b)
   | none=>none
 | _+1,[]=>none
theorem yT:∀ {m:Nat} {l a b:List Oper},Ik m l=some (a,b)→l=a++b∧a.length=m
 | 0,l,a,b,h=>by simp [Ik] at h;obtain ⟨rfl,rfl⟩:=h;exact ⟨rfl,rfl⟩
 | m+1,[],a,b,h=>by simp [Ik] at h
 | m+1,o :: l,a,b,h=>by
   simp only [Ik] at h
   split at h
   ·rename_i a' b' h'
    simp only [Option.some.injEq,Prod.mk.injEq] at h
    obtain ⟨rfl,rfl⟩:=h
    obtain ⟨h1,h2⟩:=yT h'
    exact ⟨by rw [h1];rfl,by simp [h2]⟩
   ·cases h
theorem ab.dv {P:Program} {R:St→Prop} {k:List It} {id n:Nat} {tm:List (Nat×AV)} {hp:Heap} {l hd tl:List Oper} (m:Nat) (hm:P.follows .mixedOrders=true) (hs:Ik m l=some (hd,tl)) {A:List Nat} (hA:MS l.toArray=A) (hB0:Ig l.toArray m A=true)
 (h:AM P l.toArray n hp hd tm (fun sb=>ae P l.toArray tl ⟨n,sb,hp⟩ (ab P R k))):ab P R (.code (.region id l.toArray true) :: k) ⟨n,tm,hp⟩:=by
 have hB:xx l.toArray m:=⟨A,hA,hB0⟩
 intro w S a r
 obtain ⟨hl,RY⟩:=yT hs
 obtain ⟨sb,hA,vJ⟩:=h
 obtain ⟨oR,en,e0,e1,e2⟩:=hA.Kw
 have jc:m≤l.toArray.size:=by simp [hl,RY]
 refine wp_region_any hm ?_
 have DA:Ext w {w with drawn:=w.drawn+1}:=Ext.LK w _ (Nat.le_succ _)
 have g0:Grow w S {w with drawn:=w.drawn+1} S:=⟨DA,fun _ h=>h,fun _ _ h=>h,fun n hn=>r.hp.slt n hn⟩
 have U6:∀ k,cur l.toArray oR (lk tm) (bi l.toArray.size false) k=lk tm:=by
  intro k
  induction k with
  | zero=>rfl
  | succ k ih=>
    simp only [cur,ih]
    rw [if_neg]
    rcases al k l.toArray.size with h | h
    ·simp at h;simp [h]
    ·simp at h;simp [Nat.not_lt.2 h]
 have hf:∀ k,(bi l.toArray.size false).getD k false=false:=by
  intro k
  rcases al k l.toArray.size with h | h
  ·simp at h;simp [h]
  ·simp at h;simp [Nat.not_lt.2 h]
 refine OL (P:=P) (all:=l.toArray) (n:=n) (m:=m) (hp:=hp) (oR:=oR) (en:=en) (e:=lk tm) hB jc e0 (fun i o hi ho=>e2 i o ?_) (w0:=w) (S0:=S) (fun a' w' S' h1 h2 h3 h4 h5=>?_) l.toArray.size (bi l.toArray.size false) a _ S
  ⟨by simp,(fun k hk=>by rw [hf k] at hk;cases hk),(fun k i o hk=>by rw [hf k] at hk;cases hk)⟩ (by simp [cb]) r.size r.defers (r.hp.ext DA) g0 (by rw [U6];exact (r.ext DA).tm)
 ·have:l[i]? =some o:=by simpa using ho
  rw [hl,be (by omega)] at this
  exact this
 ·have XG:l.toArray.toList.drop m=tl:=by
   simp only [hl,← RY]
   exact List.drop_left
  rw [XG]
  have HQ:en m=lk sb:=by rw [← RY];exact e1
  rw [HQ] at h5
  refine jr ?_ _ _ _ (vJ.go (h:=hp) (w:=w) (S:=S) ⟨h1,h2,h5,h3⟩ (h4.evo r.hp.slt hp))
  rintro ex a2 w2 ⟨rfl,LM,S2,q1,q2,q3⟩
  exact ⟨LM,S2,q1,q2,q3⟩
theorem bnd {α β:Type} {o:Option α} {f:α→Option β} {r:β} (h:o.bind f=some r):∃ v,o=some v∧f v=some r:=by
 cases o with
 | none=>cases h
 | some v=>exact ⟨v,rfl,h⟩
theorem pN {α:Type} {p:Prop} [Decidable p] {a b x:α} (hp:p) (h:(if p then a else b)=x):a=x:=by rw [if_pos hp] at h;exact h
theorem AD {α:Type} {p:Prop} [Decidable p] {a b x:α} (hp:¬ p) (h:(if p then a else b)=x):b=x:=by rw [if_neg hp] at h;exact h
theorem sn {α:Type} {p:Bool} {a b x:α} (hp:p=false) (h:(if p=true then a else b)=x):b=x:=by rw [if_neg (by simp [hp])] at h;exact h
def tQ {X A:Type} (f:X→Option (X⊕A)):Nat→X→Option A
 | 0,_=>none
 | n+1,x=>match f x with
   | none=>none
   | some (.inl y)=>tQ f n y
   | some (.inr a)=>some a
theorem Il {X A:Type} {f:X→Option (X⊕A)} {a:A}:∀ {n:Nat} {x:X},tQ f n x=some a→tQ f (n+1) x=some a
 | 0,x,h=>by cases h
 | n+1,x,h=>by
   unfold tQ at h ⊢
   split at h
   ·cases h
   ·exact Il h
   ·exact h
theorem DB {X A:Type} {f:X→Option (X⊕A)} {a:A} {x:X} {n:Nat} (h:tQ f n x=some a):∀ m,tQ f (n+m) x=some a
 | 0=>h
 | m+1=>Il (DB h m)
theorem MW {X A:Type} {f:X→Option (X⊕A)} {a b:A} {x:X} {n m:Nat} (h:tQ f n x=some a) (k:tQ f m x=some b):a=b:=by
 have h1:=DB h m
 have h2:=DB k n
 rw [Nat.add_comm] at h2
 rw [h1] at h2
 exact ac h2
open Classical in
noncomputable def iter {X A:Type} (f:X→Option (X⊕A)) (x:X):Option A:=
 if h:∃ a n,tQ f n x=some a then some h.choose else none
theorem yU {X A:Type} {f:X→Option (X⊕A)} {x:X} {a:A}:iter f x=some a↔∃ n,tQ f n x=some a:=by
 unfold iter
 constructor
 ·intro h
  split at h
  ·rename_i hx
   obtain ⟨n,hn⟩:=hx.choose_spec
   exact ⟨n,by rw [hn];exact h⟩
  ·cases h
 ·rintro ⟨n,hn⟩
  have hx:∃ a n,tQ f n x=some a:=⟨a,n,hn⟩
  rw [dif_pos hx]
  obtain ⟨m,hm⟩:=hx.choose_spec
  rw [MW hm hn]
def after {X A:Type} (k:X→Option A):X⊕A→Option A
 | .inl y=>k y
 | .inr a=>some a
theorem iter_eq {X A:Type} (f:X→Option (X⊕A)) (x:X):iter f x=(f x).bind (after (iter f)):=by
 apply Option.ext
 intro a
 rw [yU]
 constructor
 ·rintro ⟨n,hn⟩
  match n with
  | 0=>cases hn
  | n+1=>
    unfold tQ at hn
    split at hn
    ·cases hn
    ·rename_i y hy;rw [hy];exact yU.2 ⟨n,hn⟩
    ·rename_i b hb;rw [hb];exact hn
 ·intro h
  obtain ⟨s,hs,h⟩:=bnd h
  cases s with
  | inl y=>
    obtain ⟨n,hn⟩:=yU.1 h
    exact ⟨n+1,by unfold tQ;rw [hs];exact hn⟩
  | inr b=>exact ⟨1,by unfold tQ;rw [hs];exact h⟩
theorem bZ {X A:Type} {o:Option A} {s:X⊕A} {a:A} (h:o.map .inr=some s) (hA:∀ a',s=.inr a'→a'=a):o=some a:=by
 cases o with
 | none=>cases h
 | some b=>
   have:=ac h
   rw [hA b this.symm]
@[simp] theorem bD {X A:Type} (k:X→Option A) (y:X):after k (.inl y)=k y:=rfl
@[simp] theorem WJ {X A:Type} (k:X→Option A) (a:A):after k (.inr a)=some a:=rfl
theorem bb {X A:Type} (o:Option A) (k:X→Option A):(o.map Sum.inr).bind (after k)=o:=by cases o<;>rfl
def idx {α:Type} (xs:List α) (i:Int):Option α:=if 0≤i then xs[i.toNat]? else none
def app {α:Type} (xs ys:List α):Option (List α):=if xs.length+ys.length≤1000000000 then some (xs++ys) else none
def Cj {α:Type} (xs:List α) (l h:Int):Option (List α):=if 0≤l∧l≤h∧h≤xs.length then some ((xs.drop l.toNat).take (h.toNat - l.toNat)) else none
abbrev bE (i:Int):Int:=IntKind.i64.wrap i
def quo (a b:Int):Option Int:=if b=0 then none else some (bE (a.tdiv b))
def rem (a b:Int):Option Int:=if b=0 then none else some (a.tmod b)
theorem ON {α:Type} {e:α→AV} {xs:List α} {i:Int} {x:α} (h:idx xs i=some x):OB (xs.map e) i=some (e x):=by
 unfold idx at h;unfold OB
 split at h
 ·rename_i h0;rw [if_pos h0,List.getElem?_map,h];rfl
 ·cases h
theorem jX {α:Type} {xs:List α} {i:Int} {x:α} (h:idx xs i=some x):0≤i∧i < xs.length∧xs[i.toNat]? =some x:=by
 unfold idx at h
 split at h
 ·rename_i h0
  have:=(bx.1 h).1
  exact ⟨h0,by omega,h⟩
 ·cases h
theorem DC {α:Type} {xs ys zs:List α} (h:app xs ys=some zs):xs.length+ys.length≤1000000000∧zs=xs++ys:=by
 unfold app at h
 split at h
 ·exact ⟨by assumption,(ac h).symm⟩
 ·cases h
theorem uD {α:Type} {xs zs:List α} {l h:Int} (hh:Cj xs l h=some zs):(0≤l∧l≤h∧h≤xs.length)∧zs=(xs.drop l.toNat).take (h.toNat - l.toNat):=by
 unfold Cj at hh
 split at hh
 ·exact ⟨by assumption,(ac hh).symm⟩
 ·cases hh
theorem OO {a b c:Int} (h:quo a b=some c):b≠0∧c=bE (a.tdiv b):=by
 unfold quo at h
 split at h
 ·cases h
 ·exact ⟨by assumption,(ac h).symm⟩
theorem OP {a b c:Int} (h:rem a b=some c):b≠0∧c=a.tmod b:=by
 unfold rem at h
 split at h
 ·cases h
 ·exact ⟨by assumption,(ac h).symm⟩
section
variable {P:Program} {R:St→Prop} {k:List It} {σ:St}
theorem ab.cut {c:Code} (I:St→Prop) (h:ab P R (.code c :: .stop (fun aJ=>aj aJ I) :: k) σ) (hk:∀ aJ,I aJ→ab P R k aJ):ab P R (.code c :: k) σ:=by
 intro w S a r
 refine wp_mono (h w S a r) ?_
 rintro e a' w' ⟨aJ,S',h1,h2,h3⟩
 cases e with
 | normal=>
   obtain ⟨Kv,Xo,hI,hr,he⟩:=h1 w' S' a' h2
   exact ⟨Kv,Xo,hk Kv hI,hr,h3.trans he⟩
 | exit id=>exact ⟨aJ,S',h1,h2,h3⟩
 | goto l=>exact ⟨aJ,S',h1,h2,h3⟩
 | ret=>exact ⟨aJ,S',h1,h2,h3⟩
 | panic c=>exact ⟨aJ,S',h1,h2,h3⟩
 | outgrown=>exact ⟨aJ,S',h1,h2,h3⟩
theorem ab.cS {body:Code} {X A:Type} (f:X→Option (X⊕A)) (mk:X→St→Prop) {a:A} {x0:X} (h:iter f x0=some a) (h0:aj σ (mk x0))
 (hs:∀ x s σ (J:St→Prop),mk x σ→f x=some s→(∀ y aJ,s=.inl y→aj aJ (mk y)→J aJ)→(∀ a',s=.inr a'→a'=a)→ab P R (.code body :: .stop J :: k) σ):
 ab P R (.code (.loop body) :: k) σ:=by
 obtain ⟨m,hm⟩:=yU.1 h
 refine ab.Uf (fun m σ=>∃ x,tQ f m x=some a∧mk x σ) m (h0.mono fun aJ hσ=>⟨x0,hm,hσ⟩) ?_
 rintro m Ar ⟨x,hx,ep⟩
 match m with
 | 0=>cases hx
 | m+1=>
   unfold tQ at hx
   split at hx
   ·cases hx
   ·rename_i y hy
    refine hs x _ Ar _ ep hy (fun y' aJ e hi=>⟨m,by omega,hi.mono fun Kv hk=>⟨y',?_,hk⟩⟩) (fun a' e=>by cases e)
    have:=Sum.inl.inj e
    rw [← this];exact hx
   ·rename_i b hb
    refine hs x _ Ar _ ep hb (fun y' aJ e _=>by cases e) (fun a' e=>?_)
    rw [← Sum.inr.inj e];exact ac hx
end
inductive HR:Heap→Heap→Heap→Prop
 | nil {h:Heap}:HR h [] h
 | cons {h h1 t r:Heap} {b:Bk} {o:Ob} (u:x7 h b o h1) (k:HR h1 t r):HR h ((b,o) :: t) r
theorem HR.perm {h t r:Heap} (s:HR h t r):h.Perm (t++r):=by
 induction s with
 | nil=>exact bv _
 | cons u k ih=>exact u.perm.trans (cn _ ih)
section rules
variable {P:Program} {all:Array Oper} {rest:List Oper} {n:Nat} {tm:List (Nat×AV)} {hp:Heap} {Q:St→Prop} {d:Nat} {ty:TypeId} {pos:String} {af:Array Edge}
theorem DD {f:FuncId} {args:List Operand} {ts:Array TypeId} {l l':List AV} {h0 hr:Heap} {Qc:AV→Heap→Prop} [bN P f] (hl:B9 tm args=some l) (c:aR P f l' h0 Qc) (co:By hp l l') (hs:HR hp h0 hr) (hn:aa d n=true)
 (kk:∀ r h',Qc r h'→ae P all rest ⟨n,(d,r) :: tm,h'++hr⟩ Q):ae P all (⟨some d,.call {callee:=.value (.func f),args:=args.toArray,argTypes:=ts},ty,pos,af,none⟩ :: rest) ⟨n,tm,hp⟩ Q:=
 OF hl c co hs.perm hn kk
theorem bH {α:Type} {g:α→AV} {Xs:List α} {el:α} {t e:TypeId} {i:TypeInfo} {x y:Operand} {k:IntKind} {j:Int} {cs:List AV} {sz:Nat} [aC P t (.slice e)] [a8 P e i] (hx:du tm x=some (.list sz (Xs.map g))) (jc:ag i.size sz=true) (hy:du tm y=some (.int k j))
 (hv:idx Xs j=some el) (h0:aa 0 sz=true) (hc:rn (g el).cells=some cs):QV P ⟨some d,.indexAddr t x y,ty,pos,af,none⟩ ⟨n,tm,hp⟩ (.ch cs):=by
 rw [← lQ hc]
 exact GH hx jc hy (ON hv) h0
theorem cE {α:Type} {g:α→AV} {Xs:List α} {x:Operand} {t e:TypeId} {sz:Nat} [aC P t (.slice e)] (hx:du tm x=some (.list sz (Xs.map g))):QV P ⟨some d,.call {callee:=.builtin .len,args:=#[x],argTypes:=#[t]},ty,pos,af,none⟩ ⟨n,tm,hp⟩ (.int .i64 (Xs.length:Nat)):=by
 have h:=Ko (P:=P) (d:=d) (ty:=ty) (pos:=pos) (af:=af) (n:=n) (tm:=tm) (hp:=hp) (t:=t) (e:=e) hx
 rw [List.length_map] at h
 exact h
theorem XH {k:IntKind} {xt yt:TypeId} {x y:Operand} {i j:Int} (hx:du tm x=some (.int k i)) (hy:du tm y=some (.int k j)) (h0:j≠0):QV P ⟨some d,.binOp .quo xt x y yt,ty,pos,af,none⟩ ⟨n,tm,hp⟩ (.int k (k.wrap (i.tdiv j))):=
 xu hx hy (v:=.int k (k.wrap (i.tdiv j))) (fun w=>by simp [binOp,Op.intDiv,h0]) (fun w S=>.int _ _)
theorem Kx {xt yt:TypeId} {x y:Operand} {i j r:Int} (hx:du tm x=some (.int .i64 i)) (hy:du tm y=some (.int .i64 j)) (h:quo i j=some r):QV P ⟨some d,.binOp .quo xt x y yt,ty,pos,af,none⟩ ⟨n,tm,hp⟩ (.int .i64 r):=by
 obtain ⟨h0,rfl⟩:=OO h
 exact XH hx hy h0
theorem OQ {k:IntKind} {xt yt:TypeId} {x y:Operand} {i j r:Int} (hx:du tm x=some (.int k i)) (hy:du tm y=some (.int k j)) (h:rem i j=some r):QV P ⟨some d,.binOp .rem xt x y yt,ty,pos,af,none⟩ ⟨n,tm,hp⟩ (.int k r):=by
 obtain ⟨h0,rfl⟩:=OP h
 exact FB hx hy h0
theorem nv {x y:Operand} {t:TypeId} {s:List UInt8} {k:IntKind} {i:Int} {c:UInt8} [aC P t .string] (hx:du tm x=some (.str s)) (hy:du tm y=some (.int k i)) (hc:idx s i=some c):QV P ⟨some d,.index t x y,ty,pos,af,none⟩ ⟨n,tm,hp⟩ (.int .u8 (c.toNat:Int)):=
 let ⟨h0,_,h⟩:=jX hc
 H3 hx hy h0 h
theorem dB {α:Type} {g:α→AV} {Xs Ys Zs:List α} {t e:TypeId} {i:TypeInfo} {z:Value} {x y:Operand} {src:AV} {b:Bk} {len sz:Nat} {cQ:Bk→Heap} [aC P t (.slice e)] [a8 P e i] (hx:du tm x=some (.sl sz b 0 len)) (hy:du tm y=some src) (hz:i.zero=some z)
 (Du:ag z.cells.size i.size=true) (jc:ag i.size sz=true) (h0:aa 0 sz=true) (hn:aa d n=true) (WI:ai i.bytes 65536=true) (hs:Src hp sz src (Ys.map g)) (hv:app Xs Ys=some Zs) (u:∀ b',mF hp b (.arr sz (Xs.map g)) b' (.arr sz (Zs.map g)) (cQ b')) (hlen:len=Xs.length)
 (kk:∀ b':Bk,ae P all rest ⟨n,(d,.sl sz b' 0 Zs.length) :: tm,cQ b'⟩ Q):ae P all (⟨some d,.call {callee:=.builtin .append,args:=#[x,y],argTypes:=#[t,t]},ty,pos,af,none⟩ :: rest) ⟨n,tm,hp⟩ Q:=by
 obtain ⟨hb,rfl⟩:=DC hv
 subst hlen
 refine MR (xs:=Xs.map g) (ys:=Ys.map g) (cQ:=cQ) hx hy hz Du jc h0 hn WI hs (by simpa using u) (by simp) (by simpa using hb) (fun b'=>?_)
 have:=kk b'
 simpa using this
end rules
theorem BD {hp:Heap} {sz:Nat} {b:Bk} {α:Type} {g:α→AV} {Xs:List α} {len:Nat} (f:mh hp b (.arr sz (Xs.map g))∨mh hp b (.Bw sz (Xs.map g))) (h:len=Xs.length):Src hp sz (.sl sz b 0 len) (Xs.map g):=
 .whole b len _ f (by simpa using h)
end Go.Eng
