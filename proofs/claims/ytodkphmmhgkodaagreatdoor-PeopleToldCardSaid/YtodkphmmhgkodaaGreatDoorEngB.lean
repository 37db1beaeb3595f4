/- The engine: abstract values, the symbolic heap, one rule for each operation. No program in sight. -/
import Derived.Test.YtodkphmmhgkodaaGreatDoorEngA
set_option linter.unusedVariables false
set_option linter.unusedSectionVars false
namespace Go.Eng
open Go
variable [bM]
theorem Bg {tm:List (Nat×AV)}:∀ {parts:List (Nat×Operand)} {k:Nat} {xs:List AV},Jn tm parts k=some xs→xs.length=parts.length
 | [],k,xs,h=>by simp [Jn] at h;subst h;rfl
 | (i,x) :: parts,k,xs,h=>by
   simp only [Jn] at h
   split at h
   ·rename_i a l h1 h2 h3
    obtain rfl:=Option.some.inj h
    simp [Bg h3]
   ·cases h
section rules
variable {P:Program} {all:Array Oper} {rest:List Oper} {n:Nat} {tm:List (Nat×AV)} {hp:Heap} {Q:St→Prop} {d:Nat} {ty:TypeId} {pos:String} {af:Array Edge}
theorem CA {t e:TypeId} {i:TypeInfo} {z:Value} {len:Nat} {parts:List (Nat×Operand)} {xs:List AV} [aP P t (.slice e)] [br P e i] (hz:i.zero=some z) (hl:Jn tm parts 0=some xs) (hlen:Nat.beq parts.length len=true) (zo:zU i.size xs=true)
 (JE:Nat.ble (len * i.size) 16777216=true) (hn:Nat.blt d n=true) (kk:ae P all rest ⟨n,(d,.list i.size xs) :: tm,hp⟩ Q):ae P all (⟨some d,.buildSlice t len parts.toArray,ty,pos,af,none⟩ :: rest) ⟨n,tm,hp⟩ Q:=by
 refine yb hz hl hlen zo JE hn (fun b=>ae.ghost (aj.freeze .here (aj.co (s:=d) (av:=.sl i.size b 0 len) (by simp [lk]) (.x3 i.size b len xs .here ?_) ?_)))
 ·rw [Bg hl];exact (Nat.eq_of_beq_eq_true hlen).symm
 ·refine aj.step (Aq:=⟨n,(d,.list i.size xs) :: tm,hp⟩) (fun w S a r=>⟨_,S,rfl,r.less ⟨rfl,fun s av h=>?_,List.sublist_cons_self _ _⟩,k9.less (k9.refl w S _) fun _ hm=>hm.sub (List.sublist_cons_self _ _)⟩) (aj.here kk)
  simp only [lk] at h ⊢
  split at h
  ·exact h
  ·exact h
inductive Jo (tm:List (Nat×AV)):Option Operand→Option Int→Prop
 | none:Jo tm none none
 | some (x:Operand) (k:IntKind) (i:Int) (h:dm tm x=some (.int k i)):Jo tm (some x) (some i)
def iK:Option Int→Int
 | none=>0
 | some i=>i
def jV (len:Nat):Option Int→Int
 | none=>len
 | some i=>i
theorem Bh {w:World} {S:Nat→Prop} {σ:St} {a:Act} (r:dO w S σ a) {lo hi:Option Operand} {l h:Option Int} (hl:Jo σ.tm lo l) (hh:Jo σ.tm hi h) (LO:Bool) (len cap:Nat) (h0:0≤iK l) (h1:iK l≤jV len h) (h2:jV len h≤len) (hc:len≤cap) (w':World):
 (Instr.sliceBounds LO len cap (lo.map a.eval) (hi.map a.eval) none).run P w'=.ok ((iK l).toNat,(jV len h).toNat,cap) w':=by
 cases hl with
 | none=>
   cases hh with
   | none=>simp [Instr.sliceBounds,iK,jV]
   | some x k i hx=>
     simp only [iK,jV] at *
     have:i≤(cap:Int):=by omega
     simp [Instr.sliceBounds,Instr.sliceBound,(bA r hx).eG,asIntOf,h1,this]
 | some x k i hx=>
   cases hh with
   | none=>
     simp only [iK,jV] at *
     simp [Instr.sliceBounds,Instr.sliceBound,(bA r hx).eG,asIntOf,h0,h1]
   | some y k' i' hy=>
     simp only [iK,jV] at *
     have e1:i'≤(cap:Int):=by omega
     have e2:0≤i':=by omega
     have e3:i≤(i'.toNat:Int):=by omega
     simp [Instr.sliceBounds,Instr.sliceBound,(bA r hx).eG,(bA r hy).eG,asIntOf,h0,e1,e2]
     intro jh
     omega
theorem DQ {t e:TypeId} {i:TypeInfo} {x:Operand} {lo hi:Option Operand} {l h:Option Int} {sz:Nat} {xs:List AV} [aP P t (.slice e)] [br P e i] (hx:dm tm x=some (.list sz xs)) (jZ:Nat.beq i.size sz=true) (hl:Jo tm lo l) (hh:Jo tm hi h) (h0:0≤iK l) (h1:iK l≤jV xs.length h) (h2:jV xs.length h≤xs.length):
 QV P ⟨some d,.slice t x lo hi none,ty,pos,af,none⟩ ⟨n,tm,hp⟩ (.list sz ((xs.drop (iK l).toNat).take ((jV xs.length h).toNat - (iK l).toNat))):=by
 intro w S a r
 obtain rfl:i.size=sz:=Nat.eq_of_beq_eq_true jZ
 obtain ⟨oa,cap,vs,e1,e2,e3,e4,e5,e6⟩:=(bA (σ:=⟨n,tm,hp⟩) r hx).vA
 have hlen:((xs.drop (iK l).toNat).take ((jV xs.length h).toNat - (iK l).toNat)).length=(jV xs.length h).toNat - (iK l).toNat:=by simp;omega
 refine ⟨.slice (if cap=(iK l).toNat then oa else oa.map (·.add ((iK l).toNat * i.size))) ((jV xs.length h).toNat - (iK l).toNat) (cap - (iK l).toNat),fun w1 _=>?_,?_⟩
 ·have hb:=Bh (P:=P) (σ:=⟨n,tm,hp⟩) r hl hh true xs.length cap h0 h1 h2 e6 w1
  simp [execOp,Instr.sliceAt,run_underlying (aP.h (P:=P) (t:=t)),Instr.slice,e1,hb,sizeOf,typeInfo,br.h (P:=P) (t:=e)]
 ·have hm:∀ y∈(xs.drop (iK l).toNat).take ((jV xs.length h).toNat - (iK l).toNat),El i.size y:=fun y hy=>e2 y (List.mem_of_mem_drop (List.mem_of_mem_take hy))
  have Hl:flat ((xs.drop (iK l).toNat).take ((jV xs.length h).toNat - (iK l).toNat))=((flat xs).drop ((iK l).toNat * i.size)).take (((jV xs.length h).toNat - (iK l).toNat) * i.size):=by
   rw [wE _ _ (fun y hy=>e2 y (List.mem_of_mem_drop hy)),wD _ _ e2]
  have:=At.list (w:=w) (S:=S) i.size ((xs.drop (iK l).toNat).take ((jV xs.length h).toNat - (iK l).toNat)) (if cap=(iK l).toNat then oa else oa.map (·.add ((iK l).toNat * i.size))) (cap - (iK l).toNat)
   ((vs.drop ((iK l).toNat * i.size)).take (((jV xs.length h).toNat - (iK l).toNat) * i.size)) hm (by rw [Hl];simp [e3]) (fun j c u hc hu=>?_) (fun j u hu=>?_) (by rw [hlen];omega)
  ·rw [hlen] at this;exact this
  ·rw [Hl] at hc
   simp only [List.getElem?_take,List.getElem?_drop] at hc hu
   split at hu
   ·rename_i jh;rw [if_pos jh] at hc;exact e4 _ c u hc hu
   ·cases hu
  ·simp only [List.getElem?_take,List.getElem?_drop] at hu
   split at hu
   ·rename_i jh
    obtain ⟨ad,rfl,g1,g2,g3⟩:=e5 _ u hu
    have vg:0 < (jV xs.length h).toNat - (iK l).toNat:=by
     rcases Nat.eq_zero_or_pos ((jV xs.length h).toNat - (iK l).toNat) with hz | hz
     ·rw [hz] at jh;simp at jh
     ·exact hz
    rw [if_neg (by omega)]
    obtain ⟨bk,of,sp⟩:=ad
    simp only at g1 g2;subst g1
    refine ⟨⟨bk,of+(iK l).toNat * i.size,none⟩,by simp [nj],rfl,g2,?_⟩
    simpa [Nat.add_assoc] using g3
   ·cases hu
theorem Gz {t e:TypeId} {i:TypeInfo} {x:Operand} {lo hi:Option Operand} {l h:Option Int} {sz off len:Nat} {b:Bk} [aP P t (.slice e)] [br P e i] (hx:dm tm x=some (.sl sz b off len)) (jZ:Nat.beq i.size sz=true) (hl:Jo tm lo l) (hh:Jo tm hi h) (h0:0≤iK l) (h1:iK l≤jV len h) (h2:jV len h≤len):
 QV P ⟨some d,.slice t x lo hi none,ty,pos,af,none⟩ ⟨n,tm,hp⟩ (.sl sz b (off+(iK l).toNat) ((jV len h).toNat - (iK l).toNat)):=by
 intro w S a r
 obtain rfl:i.size=sz:=Nat.eq_of_beq_eq_true jZ
 obtain ⟨oa,cap,e1,e2⟩:=(bA (σ:=⟨n,tm,hp⟩) r hx).uB
 have JJ:len≤cap:=by rcases e2 with ⟨_,_,hl,_,_⟩ | ⟨m,hb,_,g1,g2⟩ | ⟨m,ad,hb,_,hl,_⟩<;>omega
 refine ⟨.slice (if cap=(iK l).toNat then oa else oa.map (·.add ((iK l).toNat * i.size))) ((jV len h).toNat - (iK l).toNat) (cap - (iK l).toNat),fun w1 _=>?_,?_⟩
 ·have hb:=Bh (P:=P) (σ:=⟨n,tm,hp⟩) r hl hh true len cap h0 h1 h2 JJ w1
  simp [execOp,Instr.sliceAt,run_underlying (aP.h (P:=P) (t:=t)),Instr.slice,e1,hb,sizeOf,typeInfo,br.h (P:=P) (t:=e)]
 ·rcases e2 with ⟨hb,ho,SR,rfl,Ui⟩ | ⟨m,hb,rfl,g1,g2⟩ | ⟨m,ad,hb,rfl,SR,Ui⟩
  ·have OK:(iK l).toNat=0:=by omega
   have P9:(jV len h).toNat=0:=by omega
   rw [OK,P9,ho,Ui]
   exact .Cx i.size b hb
  ·by_cases Bd:cap=(iK l).toNat
   ·rw [if_pos Bd]
    have hz:(jV len h).toNat - (iK l).toNat=0:=by omega
    rw [hz,show cap - (iK l).toNat=0 from by omega]
    exact .L9 i.size b _ m _ hb
   ·rw [if_neg Bd]
    have:=At.sl (w:=w) (S:=S) i.size b (off+(iK l).toNat) ((jV len h).toNat - (iK l).toNat) m (cap - (iK l).toNat) hb (by omega) (by omega)
    rw [Nat.add_mul] at this
    simpa [nj] using this
  ·have OK:(iK l).toNat=0:=by omega
   have P9:(jV len h).toNat=0:=by omega
   rw [OK,P9,Ui,if_pos rfl]
   exact .L9 i.size b _ m ad hb
theorem fl {src dst:TypeId} {D:TypeDesc} {x:Operand} {k k':IntKind} {i:Int} [aP P src D] [aP P dst (.int k')] (hx:dm tm x=some (.int k i)):QV P ⟨some d,.convert src dst x,ty,pos,af,none⟩ ⟨n,tm,hp⟩ (.int k' (k'.wrap i)):=by
 intro w S a r
 refine ⟨.int k' (k'.wrap i),fun w1 _=>?_,.int _ _⟩
 simp only [execOp,convert,(bA (σ:=⟨n,tm,hp⟩) r hx).eG,Sem.run_bind,run_underlying (aP.h (P:=P) (t:=src)),run_underlying (aP.h (P:=P) (t:=dst)),Result.andThen_ok]
 cases D<;>simp [Conv.intToInt]
end rules
section
variable {P:Program} {all:Array Oper} {rest:List Oper} {σ:St} {Q:St→Prop} {dd:Option Nat} {ty:TypeId} {pos:String} {af:Array Edge}
end
theorem E5 {sz:Nat} {x y:AV}:∀ {xs:List AV} {q:Nat},(∀ x∈xs,El sz x)→El sz y→xs[q]? =some x→flat (xs.set q y)=(flat xs).take (q * sz)++y.cells++(flat xs).drop (q * sz+sz)
 | [],q,_,_,h=>by simp at h
 | z :: xs,0,hs,hy,h=>by
   have hz:=(hs z (by simp)).1
   rw [List.set_cons_zero,gI,gI]
   simp only [Nat.zero_mul,List.take_zero,List.nil_append,Nat.zero_add]
   rw [List.drop_left' hz]
 | z :: xs,q+1,hs,hy,h=>by
   have hz:=(hs z (by simp)).1
   simp only [List.getElem?_cons_succ] at h
   rw [List.set_cons_succ,gI,gI,E5 (fun a ha=>hs a (by simp [ha])) hy h]
   have e1:(q+1) * sz=sz+q * sz:=by rw [Nat.add_mul,Nat.one_mul];omega
   rw [e1,List.take_append,List.take_of_length_le (l:=z.cells) (by omega),hz,Nat.add_sub_cancel_left,List.drop_append,List.drop_of_length_le (l:=z.cells) (by omega),hz]
   rw [show sz+q * sz+sz - sz=q * sz+sz from by omega]
   simp [List.append_assoc]
theorem Hp {w:World} {S:Nat→Prop} {cs new:List AV} {vs rq:Array Value} (o:Nat) (hl:cs.length≤vs.size) (h:mR w S cs vs) (x4:new.length=rq.size) (h':mR w S new rq) (ho:o+new.length≤cs.length):
 mR w S (cs.take o++new++cs.drop (o+new.length)) (vs.toList.take o++rq.toList++vs.toList.drop (o+rq.toList.length)).toArray:=by
 intro i c v hc hv
 simp only [List.getElem?_toArray] at hc hv
 have l1:(cs.take o).length=o:=by simp;omega
 have l2:(vs.toList.take o).length=o:=by simp;omega
 have l3:rq.toList.length=new.length:=by simp [x4]
 rw [List.append_assoc] at hc hv
 by_cases h1:i < o
 ·rw [List.getElem?_append_left (by omega)] at hc hv
  rw [List.getElem?_take,if_pos h1] at hc hv
  exact h i c v hc (by simpa using hv)
 ·rw [List.getElem?_append_right (by omega)] at hc hv
  rw [l1] at hc
  rw [l2] at hv
  by_cases h2:i - o < new.length
  ·rw [List.getElem?_append_left (by omega)] at hc hv
   exact h' (i - o) c v hc (by simpa using hv)
  ·rw [List.getElem?_append_right (by omega)] at hc hv
   rw [l3] at hv
   rw [List.getElem?_drop] at hc hv
   rw [show o+new.length+(i - o - new.length)=i from by omega] at hc hv
   exact h i c v hc (by simpa using hv)
section rules
variable {P:Program} {all:Array Oper} {rest:List Oper} {n:Nat} {tm:List (Nat×AV)} {hp:Heap} {Q:St→Prop} {d:Nat} {ty:TypeId} {pos:String} {af:Array Edge}
theorem yc.refl (l:List AV):yc hp l l:=by
 induction l with
 | nil=>exact .nil
 | cons a l ih=>exact .cons (.refl a) ih
theorem rO.refl (l:List AV):rO hp l l:=by
 induction l with
 | nil=>exact .nil
 | cons a l ih=>exact .cons (.co (.refl a)) ih
def Pu (P:Program) (f:FuncId) (args:List AV) (R:AV):Prop:=aT P f args [] (fun r _=>r=R)
theorem bB {f:FuncId} {args:List Operand} {ts:Array TypeId} {l l':List AV} {R:AV} [bF P f] (hl:zS tm args=some l) (c:Pu P f l' R) (co:yc hp l l') (hn:Nat.blt d n=true)
 (kk:ae P all rest ⟨n,(d,R) :: tm,hp⟩ Q):ae P all (⟨some d,.call {callee:=.value (.func f),args:=args.toArray,argTypes:=ts},ty,pos,af,none⟩ :: rest) ⟨n,tm,hp⟩ Q:=by
 refine Mo hl c co hn (fun r h' hr=>?_)
 subst hr
 exact ae.weaken (aH:=⟨n,(d,r) :: tm,hp⟩) ⟨rfl,fun _ _ h=>h,List.sublist_append_right _ _⟩ kk
theorem lr {f:FuncId} {args:List Operand} {ts:Array TypeId} {l l':List AV} {R:AV} [bF P f] (hl:zS tm args=some l) (c:Pu P f l' R) (co:rO hp l l') (hn:Nat.blt d n=true) (hR:R.QZ=true)
 (kk:ae P all rest ⟨n,(d,R) :: tm,hp⟩ Q):ae P all (⟨some d,.call {callee:=.value (.func f),args:=args.toArray,argTypes:=ts},ty,pos,af,none⟩ :: rest) ⟨n,tm,hp⟩ Q:=
 Mr hl c co hn (fun r h' hr=>by subst hr;exact ⟨hR,kk⟩)
theorem yd {f:FuncId} {x:Operand} {args:List Operand} {ts:Array TypeId} {ra l l':List AV} {R:AV} [bF P f] (hx:dm tm x=some (.func (.func f) ra)) (hl:zS tm args=some l) (c:Pu P f l' R) (co:yc hp (l++ra) l') (hn:Nat.blt d n=true)
 (kk:ae P all rest ⟨n,(d,R) :: tm,hp⟩ Q):ae P all (⟨some d,.call {callee:=.value x,args:=args.toArray,argTypes:=ts},ty,pos,af,none⟩ :: rest) ⟨n,tm,hp⟩ Q:=by
 refine Hn hx hl c co (List.Perm.refl _) hn (fun r h' hr=>?_)
 subst hr
 exact ae.weaken (aH:=⟨n,(d,r) :: tm,hp⟩) ⟨rfl,fun _ _ h=>h,List.sublist_append_right _ _⟩ kk
end rules
inductive RV (P:Program) (σ:St):ResultVar→AV→Prop
 | tmp (t:Nat) (av:AV) (h:lk σ.tm t=some av):RV P σ (.tmp t) av
 | all (p ty:Nat) (b:Bk) (cs:List AV) (D:TypeDesc) (i:TypeInfo) (h:lk σ.tm p=some (.ptr b 0)) (f:nM σ.hp b (.cells cs)) (hu:P.underlying ty=some D) (hi:P.info? ty=some i) (hD:TypeDesc.lp D=true) (hs:Nat.beq cs.length i.size=true):RV P σ (.cell p ty) (.agg cs)
 | one (p ty:Nat) (b:Bk) (cs:List AV) (av:AV) (D:TypeDesc) (h:lk σ.tm p=some (.ptr b 0)) (f:nM σ.hp b (.cells cs)) (hu:P.underlying ty=some D) (hD:TypeDesc.lp D=false) (hs:cs[0]? =some av):RV P σ (.cell p ty) av
def Bi (tmps:Array Value):ResultVar→Sem Value
 | .tmp t=>pure (tmps.getD t undef)
 | .cell a t=>do loadVar t (← asAddr (tmps.getD a undef))
theorem RV.run {P:Program} {σ:St} {rv:ResultVar} {av:AV} (h:RV P σ rv av) {w:World} {S:Nat→Prop} {a:Act} (r:dO w S σ a):∃ v,(Bi a.tmps rv).run P w=.ok v w∧At w S av v:=by
 cases h with
 | tmp t av h=>
   obtain ⟨v,h1,h2⟩:=r.tm t _ h
   exact ⟨v,by simp [Bi,h1],h2⟩
 | all p ty b cs D i h f hu hi hD hs=>
   obtain ⟨v,h1,h2⟩:=r.tm p _ h
   obtain ⟨m,e1,rfl⟩:=h2.ta
   obtain ⟨_,m',vs,E,g1,g2,g3,g4⟩:=tU r.hp f
   obtain rfl:m'=m:=by rw [g1] at e1;exact Option.some.inj e1
   have hlen:vs.toList.length=i.size:=by simp [g3];exact Nat.eq_of_beq_eq_true hs
   refine ⟨.agg vs,?_,.agg cs vs g3.symm g4⟩
   have:=mn (P:=P) hu hD hi (w:=w) (ad:=⟨m',0,none⟩) (vs:=vs.toList) hlen (fun j v hv=>by rw [nj,pn g2];simpa using hv)
   simp [Bi,h1,asAddr,this]
 | one p ty b cs av D h f hu hD hs=>
   obtain ⟨v,h1,h2⟩:=r.tm p _ h
   obtain ⟨m,e1,rfl⟩:=h2.ta
   obtain ⟨_,m',vs,E,g1,g2,g3,g4⟩:=tU r.hp f
   obtain rfl:m'=m:=by rw [g1] at e1;exact Option.some.inj e1
   have jh:0 < vs.size:=by rw [g3];exact (List.getElem?_eq_some_iff.1 hs).1
   have hv:vs[0]? =some vs[0]:=by simp [jh]
   refine ⟨vs[0],?_,g4 0 av _ hs hv⟩
   have:=oM (P:=P) hu hD (w:=w) (ad:=⟨m',0,none⟩) (v:=vs[0]) (by rw [pn g2,hv])
   simp [Bi,h1,asAddr,this]
inductive Rs (P:Program) (σ:St):List ResultVar→List AV→Prop
 | nil:Rs P σ [] []
 | cons {v:ResultVar} {l:List ResultVar} {a:AV} {as:List AV} (h:RV P σ v a) (k:Rs P σ l as):Rs P σ (v :: l) (a :: as)
def zV:List AV→AV
 | [a]=>a
 | as=>.oL as
theorem Rs.run {P:Program} {σ:St} {w:World} {S:Nat→Prop} {a:Act} (r:dO w S σ a):∀ {l:List ResultVar} {as:List AV},Rs P σ l as→∃ vs,(l.mapM (Bi a.tmps)).run P w=.ok vs w∧as.length=vs.length∧∀ (i:Nat) c v,as[i]? =some c→vs[i]? =some v→At w S c v
 | [],_,.nil=>⟨[],by simp,rfl,fun i c v hc=>by simp at hc⟩
 | x :: l,_,.cons (a:=av) (as:=as) h k=>by
   obtain ⟨v,h1,h2⟩:=h.run r
   obtain ⟨vs,g1,g2,g3⟩:=Rs.run r k
   refine ⟨v :: vs,by simp [h1,g1],by simp [g2],fun i c u hc hu=>?_⟩
   match i with
   | 0=>simp at hc hu;subst hc;subst hu;exact h2
   | i+1=>exact g3 i c u (by simpa using hc) (by simpa using hu)
theorem E6 {P:Program} {fn:Func} {l:List ResultVar} {σ:St} {as:List AV} (hf:fn.results=l.toArray) (h:Rs P σ l as) {w:World} {S:Nat→Prop} {a:Act} (r:dO w S σ a):∃ v,(results fn a.tmps).run P w=.ok v w∧At w S (zV as) v:=by
 obtain ⟨vs,g1,g2,g3⟩:=h.run r
 have hm:results fn a.tmps=(do let vs ← Functor.map List.toArray (l.mapM (Bi a.tmps));pure (if h:vs.size=1 then vs[0] else .tuple vs)):=by
  have Uj:(fun (x:ResultVar)=>(match x with | .tmp t=>pure (a.tmps.getD t undef) | .cell p t=>do loadVar t (← asAddr (a.tmps.getD p undef)):Sem Value))=Bi a.tmps:=by
   funext x
   cases x<;>rfl
  unfold results
  rw [hf,List.mapM_toArray]
  rw [← Uj]
  rfl
 refine ⟨if h:vs.toArray.size=1 then vs.toArray[0] else .tuple vs.toArray,?_,?_⟩
 ·rw [hm,Sem.run_bind,Sem.run_map,g1]
  rfl
 ·clear h hm g1
  match as,vs,g2,g3 with
  | [],[],_,_=>simp [zV];exact .oL [] _ rfl (fun i c v hc=>by simp at hc)
  | [x],[v],_,g3=>simp [zV];exact g3 0 x v rfl rfl
  | x :: y :: as,v :: u :: vs,hl,g3=>simp [zV];exact .oL _ _ (by simpa using hl) (fun i c v hc hv=>g3 i c v hc (by simpa using hv))
theorem aT.Q0 {P:Program} {f:FuncId} {fn:Func} {c:Code} {args:List AV} {h:Heap} {Q:AV→Heap→Prop} {n:Nat} {l:List ResultVar} (hf:P.funcs[f]? =some fn) (hb:fn.body=some c) (hn:fn.ntmps=n) (OL:fn.results=l.toArray)
 (hle:Nat.ble args.length n=true) (kk:aa P (fun σ=>aj σ (fun aH=>∃ as,Rs P aH l as∧Q (zV as) aH.hp)) [.code c] ⟨n,Mc args 0,h⟩):aT P f args h Q:=by
 intro w S vs hr hl ha
 refine calls_of_wp hf hb ?_
 have r0:dO w S ⟨n,Mc args 0,h⟩ {tmps:=vs++Array.replicate (fn.ntmps - vs.size) undef,defers:=[]}:=by
  have:=Nat.le_of_ble_eq_true hle
  refine ⟨by simp [hn];omega,rfl,fun s av hs=>?_,hr⟩
  obtain ⟨_,h2⟩:=JB args 0 s av hs
  simp only [Nat.sub_zero] at h2
  have jh:s < args.length:=(List.getElem?_eq_some_iff.1 h2).1
  have Q1:s < vs.size:=by omega
  refine ⟨vs[s],by simp [Array.getElem?_append,Q1],ha s av _ h2 (by simp [Q1])⟩
 refine wp_mono (kk w S _ r0) ?_
 rintro e a' w' ⟨aH,S',h1,h2,h3⟩
 have fin:aj aH (fun Is=>∃ as,Rs P Is l as∧Q (zV as) Is.hp)→a'.defers=[]∧∃ v,(results fn a'.tmps).run P w'=.ok v w'∧∃ v' r h' S',(Ending.returned v:Ending)=.returned v'∧Q r h'∧At w' S' r v'∧cI w' S' h'∧k9 w S h w' S' h':=by
  intro hi
  obtain ⟨Hi,S2,⟨as,Uk,hq⟩,g2,g3⟩:=hi w' S' a' h2
  obtain ⟨v,SN,YM⟩:=E6 OL Uk g2
  exact ⟨g2.defers,v,SN,v,zV as,Hi.hp,S2,rfl,hq,YM,g2.hp,h3.trans g3⟩
 cases e with
 | normal=>exact fin h1
 | ret=>exact fin h1
 | exit id=>exact h1.elim
 | goto l=>exact h1.elim
 | panic c=>exact h1.elim
 | outgrown=>exact h1.elim
inductive HS:Heap→Heap→Prop
 | nil {h:Heap}:HS h []
 | cons {h h1 t:Heap} {b:Bk} {o:Ob} (u:w7 h b o h1) (k:HS h1 t):HS h ((b,o) :: t)
theorem HS.perm {h t:Heap} (s:HS h t):∃ r,h.Perm (t++r):=by
 induction s with
 | nil=>exact ⟨_,List.Perm.refl _⟩
 | cons u k ih=>
   obtain ⟨r,hr⟩:=ih
   exact ⟨r,u.perm.trans (List.Perm.cons _ hr)⟩
theorem aj.Q2 {n:Nat} {tm qj:List (Nat×AV)} {hp cN:Heap} {T:St→Prop} (h:C1 tm qj) (hs:HS hp cN) (k:aj ⟨n,qj,cN⟩ T):aj ⟨n,tm,hp⟩ T:=by
 obtain ⟨r,hr⟩:=hs.perm
 refine aj.step (Aq:=⟨n,qj,cN⟩) (fun w S a rel=>⟨_,S,rfl,⟨rel.size,rel.defers,fun s av hh=>rel.tm s av (h.lk s av hh),(rel.hp.perm hr).sub (List.sublist_append_left _ _)⟩,k9.less (k9.refl w S hp) fun m hm=>?_⟩) k
 obtain ⟨e,he,hb⟩:=hm
 exact ⟨e,hr.mem_iff.2 (List.mem_append_left _ he),hb⟩
abbrev I (n:Int):AV:=.int .i64 n
section rules
variable {P:Program} {all:Array Oper} {rest:List Oper} {n:Nat} {tm:List (Nat×AV)} {hp:Heap} {Q:St→Prop} {d:Nat} {ty:TypeId} {pos:String} {af:Array Edge}
end rules
section rules
variable {P:Program} {all:Array Oper} {rest:List Oper} {n:Nat} {tm:List (Nat×AV)} {hp:Heap} {Q:St→Prop} {d:Nat} {ty:TypeId} {pos:String} {af:Array Edge}
theorem Iu {t e:TypeId} {i:TypeInfo} {z:Value} {x y:Operand} {src:AV} {b:Bk} {len sz:Nat} {xs ys:List AV} {cN:Bk→Heap} [aP P t (.slice e)] [br P e i] (hx:dm tm x=some (.sl sz b 0 len)) (hy:dm tm y=some src) (hz:i.zero=some z)
 (Iq:Nat.beq z.cells.size i.size=true) (jZ:Nat.beq i.size sz=true) (h0:Nat.blt 0 sz=true) (hn:Nat.blt d n=true) (Q3:Nat.ble i.bytes 65536=true) (hs:Src hp sz src ys) (u:∀ b',nN hp b (.arr sz xs) b' (.arr sz (xs++ys)) (cN b')) (hlen:len=xs.length)
 (hb:xs.length+ys.length≤1000000000)
 (kk:∀ b':Bk,ae P all rest ⟨n,(d,.sl sz b' 0 (len+ys.length)) :: tm,cN b'⟩ Q):ae P all (⟨some d,.call {callee:=.builtin .append,args:=#[x,y],argTypes:=#[t,t]},ty,pos,af,none⟩ :: rest) ⟨n,tm,hp⟩ Q:=by
 refine JF hx hy hz Iq jZ h0 hn hs u hlen ?_ (by omega) kk
 have h1:=Nat.le_of_ble_eq_true Q3
 have:=Nat.mul_le_mul hb h1
 omega
end rules
def ru:List AV→Option (List AV)
 | []=>some []
 | x :: r=>match ru r with
   | some l=>some (x :: l)
   | none=>none
theorem nk:∀ {l l':List AV},ru l=some l'→l=l'
 | [],l',h=>by simp [ru] at h;exact h.symm
 | x :: r,l',h=>by
   simp only [ru] at h
   split at h
   ·rename_i l hl
    obtain rfl:=Option.some.inj h
    rw [nk hl]
   ·cases h
def JK:List AV→Nat→Option (List (Nat×AV))
 | [],_=>some []
 | x :: r,i=>match JK r (i+1) with
   | some l=>some ((i,x) :: l)
   | none=>none
theorem Hq:∀ {l:List AV} {i:Nat} {l':List (Nat×AV)},JK l i=some l'→Mc l i=l'
 | [],i,l',h=>by simp [JK] at h;simpa [Mc] using h
 | x :: r,i,l',h=>by
   simp only [JK] at h
   split at h
   ·rename_i l hl
    obtain rfl:=Option.some.inj h
    rw [Mc,Hq hl]
   ·cases h
class nh (P:Program) (t:TypeId) (sz:outParam Nat):Prop where
 h:∃ i,P.info? t=some i∧i.size=sz
theorem aT.bJ {P:Program} {f:FuncId} {fn:Func} {c:Code} {args:List AV} {h:Heap} {Q:AV→Heap→Prop} {n:Nat} {l:List ResultVar} {tm:List (Nat×AV)} (hf:P.funcs[f]? =some fn) (hb:fn.body=some c) (hn:fn.ntmps=n) (OL:fn.results=l.toArray)
 (YN:JK args 0=some tm) (hle:Nat.ble args.length n=true) (kk:aa P (fun σ=>aj σ (fun aH=>∃ rs,Rs P aH l rs∧Q (zV rs) aH.hp)) [.code c] ⟨n,tm,h⟩):aT P f args h Q:=
 aT.Q0 hf hb hn OL hle (by rw [Hq YN];exact kk)
section rules
variable {P:Program} {all:Array Oper} {rest:List Oper} {n:Nat} {tm:List (Nat×AV)} {hp:Heap} {Q:St→Prop} {d:Nat} {ty:TypeId} {pos:String} {af:Array Edge}
theorem gn {x:Operand} {E:TypeId} {av:AV} {cs:List AV} (hx:dm tm x=some av) (hc:ru av.cells=some cs) (h1:mL cs=true) (hn:Nat.blt d n=true)
 (kk:∀ b:Bk,ae P all rest ⟨n,(d,.ptr b 0) :: tm,(b,.cells cs) :: hp⟩ Q):ae P all (⟨some d,.box E x,ty,pos,af,none⟩ :: rest) ⟨n,tm,hp⟩ Q:=by
 obtain rfl:=nk hc
 exact QT hx h1 hn kk
theorem ct {E:TypeId} {i:TypeInfo} {z:Value} {cs:List AV} [br P E i] (hz:i.zero=some z) (hc:ru (CU z).cells=some cs) (h1:mL cs=true) (hn:Nat.blt d n=true)
 (kk:∀ b:Bk,ae P all rest ⟨n,(d,.ptr b 0) :: tm,(b,.cells cs) :: hp⟩ Q):ae P all (⟨some d,.alloc E,ty,pos,af,none⟩ :: rest) ⟨n,tm,hp⟩ Q:=by
 obtain rfl:=nk hc
 exact Mf hz h1 hn kk
theorem az {x:Operand} {s:TypeId} {j off:Nat} {b:Bk} {o o':Nat} [ng P s j off] (hx:dm tm x=some (.ptr b o)) (ho:o+off=o'):QV P ⟨some d,.fieldAddr s x j,ty,pos,af,none⟩ ⟨n,tm,hp⟩ (.ptr b o'):=by
 subst ho
 exact EX hx
theorem aO {x:Operand} {s:TypeId} {j off:Nat} {cs pW:List AV} [ng P s j off] (hx:dm tm x=some (.bR cs)) (hc:ru (cs.drop off)=some pW):QV P ⟨some d,.fieldAddr s x j,ty,pos,af,none⟩ ⟨n,tm,hp⟩ (.bR pW):=by
 obtain rfl:=nk hc
 exact DN hx
theorem tV {t:TypeId} {D:TypeDesc} {i:TypeInfo} {x:Operand} {cs pW:List AV} [aP P t D] [br P t i] (hD:TypeDesc.lp D=true) (hx:dm tm x=some (.bR cs)) (ho:Nat.ble i.size cs.length=true) (hc:ru (cs.take i.size)=some pW):
 QV P ⟨some d,.load t x,ty,pos,af,none⟩ ⟨n,tm,hp⟩ (.agg pW):=by
 obtain rfl:=nk hc
 exact zn hD hx ho
theorem cJ {t:TypeId} {i:TypeInfo} {z:Value} {parts:List (Nat×Operand)} {l:List (Nat×AV)} {cs pW:List AV} {pl:List (Nat×Nat)} [br P t i] [lX P t pl] (hz:i.zero=some z) (hl:P7 tm parts=some l) (h1:mL (CU z).cells=true)
 (hc:CY pl (CU z).cells l=some cs) (Jp:ru cs=some pW):QV P ⟨some d,.build t parts.toArray,ty,pos,af,none⟩ ⟨n,tm,hp⟩ (.agg pW):=by
 obtain rfl:=nk Jp
 exact Mi hz hl h1 hc
theorem aQ {t:TypeId} {i:TypeInfo} {x y:Operand} {b:Bk} {o:Nat} {cs pW:List AV} {av:AV} {cN:Heap} [br P t i] (hx:dm tm x=some (.ptr b o)) (hy:dm tm y=some av) (h1:mL av.cells=true) (jZ:Nat.beq av.cells.length i.size=true)
 (u:nN hp b (.cells cs) b (.cells pW) cN) (hc:ru (ov cs o av.cells)=some pW) (ho:Nat.ble (o+av.cells.length) cs.length=true) (kk:ae P all rest ⟨n,tm,cN⟩ Q):ae P all (⟨none,.store t x y,ty,pos,af,none⟩ :: rest) ⟨n,tm,hp⟩ Q:=by
 obtain rfl:=nk hc
 exact EY hx hy h1 jZ u ho kk
theorem bj {t e:TypeId} {i:TypeInfo} {z:Value} {len sz:Nat} {parts:List (Nat×Operand)} {xs:List AV} [aP P t (.slice e)] [br P e i] [nh P e sz] (hz:i.zero=some z) (hl:Jn tm parts 0=some xs) (hlen:Nat.beq parts.length len=true) (zo:zU i.size xs=true)
 (JE:Nat.ble (len * i.size) 16777216=true) (hn:Nat.blt d n=true) (kk:ae P all rest ⟨n,(d,.list sz xs) :: tm,hp⟩ Q):ae P all (⟨some d,.buildSlice t len parts.toArray,ty,pos,af,none⟩ :: rest) ⟨n,tm,hp⟩ Q:=by
 obtain ⟨i',h1,h2⟩:=nh.h (P:=P) (t:=e)
 obtain rfl:i'=i:=by rw [br.h (P:=P) (t:=e)] at h1;exact (Option.some.inj h1).symm
 subst h2
 exact CA hz hl hlen zo JE hn kk
theorem DR {t e:TypeId} {i:TypeInfo} {z:Value} {len sz:Nat} {parts:List (Nat×Operand)} {xs:List AV} [aP P t (.slice e)] [br P e i] [nh P e sz] (hz:i.zero=some z) (hl:Jn tm parts 0=some xs) (hlen:Nat.beq parts.length len=true) (zo:zU i.size xs=true)
 (JE:Nat.ble (len * i.size) 16777216=true) (hn:Nat.blt d n=true) (kk:∀ b:Bk,ae P all rest ⟨n,(d,.sl sz b 0 len) :: tm,(b,.arr sz xs) :: hp⟩ Q):ae P all (⟨some d,.buildSlice t len parts.toArray,ty,pos,af,none⟩ :: rest) ⟨n,tm,hp⟩ Q:=by
 obtain ⟨i',h1,h2⟩:=nh.h (P:=P) (t:=e)
 obtain rfl:i'=i:=by rw [br.h (P:=P) (t:=e)] at h1;exact (Option.some.inj h1).symm
 subst h2
 exact yb hz hl hlen zo JE hn kk
end rules
structure Grow (w:World) (S:Nat→Prop) (w':World) (S':Nat→Prop):Prop where
 ext:Ext w w'
 up:∀ n,S n→S' n
 down:∀ n,n < w.heap.size→S' n→S n
 slt:∀ n,S' n→n < w'.heap.size
theorem Grow.refl {w:World} {S:Nat→Prop} (h:∀ n,S n→n < w.heap.size):Grow w S w S:=⟨Ext.refl w,fun _ h=>h,fun _ _ h=>h,h⟩
theorem Grow.trans {a b c:World} {S T U:Nat→Prop} (h:Grow a S b T) (k:Grow b T c U):Grow a S c U:=
 ⟨h.ext.trans k.ext,fun n hn=>k.up n (h.up n hn),fun n hn hs=>h.down n hn (k.down n (Nat.lt_of_lt_of_le hn h.ext.size) hs),k.slt⟩
theorem Grow.nf {w w':World} {S S':Nat→Prop} (g:Grow w S w' S') (h:∀ n,S n→n < w.heap.size):∀ n,S n→S' n∧w'.heap[n]? =w.heap[n]?:=fun n hn=>⟨g.up n hn,g.ext.same n (h n hn)⟩
theorem cI.grow {w w':World} {S S':Nat→Prop} {h:Heap} (r:cI w S h) (g:Grow w S w' S'):cI w' S' h where
 nodup:=r.nodup
 holds e he:=(r.holds e he).mono (g.nf r.slt) (fun n hn=>g.ext.same n (r.lt ⟨e,he,hn⟩))
 sep e he n hn:=by
  rw [← r.sep e he n hn]
  exact ⟨g.down n (r.lt ⟨e,he,hn⟩),g.up n⟩
 slt:=g.slt
 iy t o ho:=⟨(g.nf r.slt t (r.iy t o ho).1).1,CQ (g.nf r.slt t (r.iy t o ho).1).2 (r.iy t o ho).2⟩
theorem Grow.Wp {w w':World} {S S':Nat→Prop} (g:Grow w S w' S') (h:∀ n,S n→n < w.heap.size) (hp:Heap):k9 w S hp w' S' hp:=
 ⟨g.ext.os,g.ext.tape,g.ext.output,g.ext.size,g.nf h,fun n hn _=>⟨g.ext.same n hn,g.down n hn⟩,fun _ hn=>.inl hn,g.ext.drawn⟩
def looks (all:Array Oper) (o:Oper):List Nat:=
 (o.op.operands.toList.filterMap fun | .tmp t=>some t | _=>none)++(match o.guard with | some (g,_)=>((all[g]?).bind (·.dst)).toList | none=>[])
abbrev Env:=Nat→Option AV
def DS (w:World) (S:Nat→Prop) (ls:List Nat) (e:Env) (a:Act):Prop:=∀ s∈ls,∀ av,e s=some av→∃ v,a.tmps[s]? =some v∧At w S av v
def MV (P:Program) (all:Array Oper) (n:Nat) (o:Oper) (e:Env) (hp:Heap) (av:AV):Prop:=
 ∀ w S a,a.tmps.size=n→a.defers=[]→cI w S hp→DS w S (looks all o) e a→∀ (K:Act→World→Prop) (Q:Exit→Act→World→Prop),
   (∀ v w' S',Grow w S w' S'→At w' S' av v→K (a.put o.dst v) w')→o.wp P a w K Q
def w8 (e:Env) (d:Option Nat) (av:AV):Env:=match d with
 | some d=>fun s=>if d=s then some av else e s
 | none=>e
def oT (all:Array Oper) (o:Oper) (e:Env) (b:Bool):Prop:=
 match o.guard with
 | none=>b=true
 | some (j,want)=>∃ s,(all[j]?).bind (·.dst)=some s∧((∃ c,e s=some (.bool c)∧b=(c==want))∨(e s=some (.raw undef)∧b=false))
inductive Ms (P:Program) (all:Array Oper) (n:Nat) (hp:Heap):List Oper→Env→Env→Prop
 | nil (e:Env):Ms P all n hp [] e e
 | run {o:Oper} {l:List Oper} {e e':Env} {av:AV} (hg:oT all o e true) (h:MV P all n o e hp av) (hd:∀ d,o.dst=some d→d < n) (k:Ms P all n hp l (w8 e o.dst av) e'):Ms P all n hp (o :: l) e e'
 | pass {o:Oper} {l:List Oper} {e e':Env} (hg:oT all o e false) (hd:∀ d,o.dst=some d→d < n) (k:Ms P all n hp l (w8 e o.dst (.raw undef)) e'):Ms P all n hp (o :: l) e e'
def NW (P:Program) (all:Array Oper) (n:Nat) (hp:Heap) (o:Oper) (e:Env) (av:AV):Prop:=
 (∀ d,o.dst=some d→d < n)∧((oT all o e true∧MV P all n o e hp av)∨(oT all o e false∧av=.raw undef))
theorem Ms.GA {P:Program} {all:Array Oper} {n:Nat} {hp:Heap} {l:List Oper} {e e':Env} (h:Ms P all n hp l e e'):
 ∃ (ni:Nat→AV) (en:Nat→Env),en 0=e∧en l.length=e'∧∀ i o,l[i]? =some o→NW P all n hp o (en i) (ni i)∧en (i+1)=w8 (en i) o.dst (ni i):=by
 induction h with
 | nil e=>exact ⟨fun _=>.nil,fun _=>e,rfl,rfl,fun i o h=>by simp at h⟩
 | @run o l e e' av hg hm hd k ih=>
   obtain ⟨ni,en,h0,h1,h2⟩:=ih
   refine ⟨fun i=>match i with | 0=>av | i+1=>ni i,fun i=>match i with | 0=>e | i+1=>en i,rfl,h1,fun i o' ho=>?_⟩
   match i with
   | 0=>simp at ho;subst ho;exact ⟨⟨hd,.inl ⟨hg,hm⟩⟩,h0⟩
   | i+1=>exact h2 i o' (by simpa using ho)
 | @pass o l e e' hg hd k ih=>
   obtain ⟨ni,en,h0,h1,h2⟩:=ih
   refine ⟨fun i=>match i with | 0=>.raw undef | i+1=>ni i,fun i=>match i with | 0=>e | i+1=>en i,rfl,h1,fun i o' ho=>?_⟩
   match i with
   | 0=>simp at ho;subst ho;exact ⟨⟨hd,.inr ⟨hg,rfl⟩⟩,h0⟩
   | i+1=>exact h2 i o' (by simpa using ho)
def waits (o:Oper) (i:Nat):Bool:=o.after.toList.any fun e=>Region.binds .any e&&Nat.beq e.on i
def zW (all:Array Oper) (oi oj:Oper):Bool:=
 match oi.dst,oj.dst with
 | some d,some d'=>(looks all oj).contains d||(looks all oi).contains d'||Nat.beq d d'
 | some d,none=>(looks all oj).contains d
 | none,some d'=>(looks all oi).contains d'
 | none,none=>false
inductive zX (all:Array Oper):Nat→Nat→Prop
 | one {j i:Nat} {oj:Oper} (hj:all[j]? =some oj) (hw:waits oj i=true):zX all j i
 | step {j k i:Nat} {oj:Oper} (hj:all[j]? =some oj) (hw:waits oj k=true) (h:zX all k i):zX all j i
def DT (acc:List Nat):List Edge→Nat→Nat
 | [],m=>m
 | e :: r,m=>DT acc r (match Region.binds .any e with
   | true=>m||| (1 <<< e.on)||| acc.getD e.on 0
   | false=>m)
def JL:List Oper→List Nat→List Nat
 | [],acc=>acc
 | o :: r,acc=>JL r (acc++[DT acc o.after.toList 0])
def Iv (all:Array Oper):List Nat:=JL all.toList []
theorem zY {acc:List Nat} {i:Nat}:∀ (es:List Edge) (m:Nat),(DT acc es m).testBit i=true→m.testBit i=true∨∃ e∈es,Region.binds .any e=true∧(e.on=i∨(acc.getD e.on 0).testBit i=true)
 | [],m,h=>.inl h
 | e :: r,m,h=>by
   simp only [DT] at h
   rcases zY r _ h with h | ⟨e',he,hb,hh⟩
   ·split at h
    ·rename_i hb
     rw [Nat.testBit_or,Nat.testBit_or,Bool.or_eq_true,Bool.or_eq_true] at h
     rcases h with (h | h) | h
     ·exact .inl h
     ·refine .inr ⟨e,by simp,hb,.inl ?_⟩
      rw [Nat.one_shiftLeft,Nat.testBit_two_pow] at h
      simpa using h
     ·exact .inr ⟨e,by simp,hb,.inr h⟩
    ·exact .inl h
   ·exact .inr ⟨e',by simp [he],hb,hh⟩
theorem Bj {all:Array Oper}:∀ (l:List Oper) (acc:List Nat) (pre:List Oper),all.toList=pre++l→acc.length=pre.length→(∀ j i,(acc.getD j 0).testBit i=true→zX all j i)→∀ j i,((JL l acc).getD j 0).testBit i=true→zX all j i
 | [],acc,pre,_,_,h=>h
 | o :: r,acc,pre,hl,hlen,h=>by
   refine Bj r _ (pre++[o]) (by simpa using hl) (by simp [hlen]) (fun j i hb=>?_)
   rcases Nat.lt_or_ge j acc.length with hj | hj
   ·refine h j i ?_
    rw [List.getD_eq_getElem?_getD,List.getElem?_append_left hj] at hb
    rw [List.getD_eq_getElem?_getD]
    exact hb
   ·by_cases Wq:j=acc.length
    ·rw [List.getD_eq_getElem?_getD,List.getElem?_append_right hj,Wq] at hb
     simp only [Nat.sub_self,List.getElem?_cons_zero,Option.getD_some] at hb
     have LP:all[j]? =some o:=by
      rw [← Array.getElem?_toList,hl,List.getElem?_append_right (by omega),Wq,hlen];simp
     rcases zY _ _ hb with hz | ⟨e,he,Qa,hh⟩
     ·simp at hz
     ·have hw:waits o e.on=true:=by
       simp only [waits,List.any_eq_true,Bool.and_eq_true]
       exact ⟨e,he,Qa,by simp⟩
      rcases hh with hh | hh
      ·subst hh;exact .one LP hw
      ·exact .step LP hw (h _ _ hh)
    ·rw [List.getD_eq_getElem?_getD,List.getElem?_append_right hj,List.getElem?_eq_none (by simp;omega)] at hb
     simp at hb
theorem o7 {all:Array Oper} {j i:Nat} (h:((Iv all).getD j 0).testBit i=true):zX all j i:=
 Bj all.toList [] [] (by simp) rfl (fun j i h=>by simp at h) j i h
def E7 (all:Array Oper) (m:Nat) (A:List Nat):Bool:=
 (List.range all.size).all fun j=>match all[j]? with
  | none=>true
  | some oj=>(oj.after.all fun e=>!Region.binds .any e||Nat.blt e.on j)&&(List.range j).all fun i=>match all[i]? with
    | none=>true
    | some oi=>if Nat.blt j m then !zW all oi oj||(A.getD j 0).testBit i else (A.getD j 0).testBit i
def uY (all:Array Oper) (m:Nat):Prop:=∃ A,Iv all=A∧E7 all m A=true
theorem kU {all:Array Oper} {m:Nat} (h:uY all m) {i j:Nat} {oi oj:Oper} (hj:all[j]? =some oj) (hi:all[i]? =some oi) (Bl:i < j):(j < m→zW all oi oj=true→zX all j i)∧(m≤j→zX all j i):=by
 obtain ⟨A,hA,h⟩:=h
 subst hA
 have NX:j < all.size:=(Array.getElem?_eq_some_iff.1 hj).1
 simp only [E7,List.all_eq_true,List.mem_range] at h
 have h1:=h j NX
 rw [hj] at h1
 simp only [Bool.and_eq_true,List.all_eq_true,List.mem_range] at h1
 have h2:=h1.2 i Bl
 rw [hi] at h2
 simp only at h2
 refine ⟨fun hm hc=>?_,fun hm=>?_⟩
 ·rw [if_pos (by simpa using hm)] at h2
  exact o7 (by simpa [hc] using h2)
 ·rw [if_neg (by simp;omega)] at h2
  exact o7 h2
theorem xG {all:Array Oper} {m:Nat} (h:uY all m) {j:Nat} {oj:Oper} (hj:all[j]? =some oj) {e:Edge} (he:e∈oj.after) (hb:Region.binds .any e=true):e.on < j:=by
 obtain ⟨A,hA,h⟩:=h
 have NX:j < all.size:=(Array.getElem?_eq_some_iff.1 hj).1
 simp only [E7,List.all_eq_true,List.mem_range] at h
 have h1:=h j NX
 rw [hj] at h1
 simp only [Bool.and_eq_true,Array.all_eq_true_iff_forall_mem] at h1
 have:=h1.1 e he
 simpa [hb] using this
theorem tc {all:Array Oper} {listed:Array Bool} {i j:Nat} {oj:Oper} (hj:all[j]? =some oj) (hr:j∈Region.ready .any all listed) (hw:waits oj i=true):listed.getD i false=true:=by
 simp only [Region.ready,List.mem_filter,List.mem_range,hj,Option.map_some,Option.getD_some,Bool.and_eq_true,Array.all_eq_true_iff_forall_mem] at hr
 simp only [waits,List.any_eq_true,Bool.and_eq_true] at hw
 obtain ⟨e,he,hb,LQ⟩:=hw
 have:=hr.2.2 e (by simpa using he)
 rw [hb] at this
 obtain rfl:e.on=i:=Nat.eq_of_beq_eq_true LQ
 simpa using this
def lZ (all:Array Oper) (listed:Array Bool):Prop:=∀ k i o,listed.getD k false=true→all[k]? =some o→waits o i=true→listed.getD i false=true
theorem lZ.Mt {all:Array Oper} {listed:Array Bool} (c:lZ all listed) {j i:Nat} (h:zX all j i) (hl:listed.getD j false=true):listed.getD i false=true:=by
 induction h with
 | one hj hw=>exact c _ _ _ hl hj hw
 | step hj hw _ ih=>exact ih (c _ _ _ hl hj hw)
theorem lZ.ready {all:Array Oper} {listed:Array Bool} (c:lZ all listed) {j i:Nat} (h:zX all j i) (hr:j∈Region.ready .any all listed):listed.getD i false=true:=by
 cases h with
 | one hj hw=>exact tc hj hr hw
 | step hj hw h=>exact c.Mt h (tc hj hr hw)
theorem wF {all:Array Oper} {listed:Array Bool} {j:Nat} (hr:j∈Region.ready .any all listed):j < all.size∧listed.getD j true=false:=by
 simp only [Region.ready,List.mem_filter,List.mem_range,Bool.and_eq_true] at hr
 exact ⟨hr.1,by simpa using hr.2.1⟩
theorem zp {all:Array Oper} {m:Nat} (h:uY all m) {listed:Array Bool} (hl:listed.size=all.size) (hr:Region.ready .any all listed=[]):∀ i,i < all.size→listed.getD i false=true:=by
 intro i
 induction i using Nat.strongRecOn with
 | _ i ih=>
   intro hi
   cases hv:listed.getD i false with
   | true=>rfl
   | false=>
     exfalso
     have:i∈Region.ready .any all listed:=by
      simp only [Region.ready,List.mem_filter,List.mem_range,Bool.and_eq_true]
      have SS:i < listed.size:=by omega
      refine ⟨hi,?_,?_⟩
      ·simp [SS] at hv ⊢;exact hv
      ·have zZ:all[i]? =some all[i]:=by simp [hi]
       rw [zZ]
       simp only [Option.map_some,Option.getD_some,Array.all_eq_true_iff_forall_mem]
       intro e he
       cases hb:Region.binds .any e with
       | false=>simp
       | true=>
         have jh:=xG h zZ he hb
         simp [ih e.on jh (by omega)]
     rw [hr] at this
     simp at this
section order
variable {P:Program} {all:Array Oper} {n m:Nat} {hp:Heap}
def cur (all:Array Oper) (ni:Nat→AV) (e:Env) (listed:Array Bool):Nat→Env
 | 0=>e
 | k+1=>if listed.getD k false then w8 (cur all ni e listed k) ((all[k]?).bind (·.dst)) (ni k) else cur all ni e listed k
theorem mS {e:Env} {d:Option Nat} {av:AV} {s:Nat} (h:d≠some s):w8 e d av s=e s:=by
 cases d with
 | none=>rfl
 | some d=>simp only [w8];rw [if_neg (fun e=>h (by rw [e]))]
theorem pr {e:Env} {av:AV} {s:Nat}:w8 e (some s) av s=some av:=by simp [w8]
theorem xH {oi oj:Oper} {s:Nat} (hd:oi.dst=some s) (hs:s∈looks all oj):zW all oi oj=true:=by
 unfold zW
 rw [hd]
 cases hj:oj.dst<;>simp [hs]
theorem z6 {oi oj:Oper} {s:Nat} (hd:oj.dst=some s) (hs:s∈looks all oi):zW all oi oj=true:=by
 unfold zW
 rw [hd]
 cases hi:oi.dst<;>simp [hs]
theorem C3 {oi oj:Oper} {s:Nat} (hi:oi.dst=some s) (hj:oj.dst=some s):zW all oi oj=true:=by
 unfold zW
 rw [hi,hj]
 simp
structure LR (all:Array Oper) (m:Nat) (listed:Array Bool):Prop where
 size:listed.size=all.size
 head:∀ k,listed.getD k false=true→k < m
 closed:∀ k i o,listed.getD k false=true→all[k]? =some o→waits o i=true→listed.getD i false=true
theorem AO {listed:Array Bool} {i:Nat} (h:listed.getD i true=false):listed.getD i false=false:=by
 by_cases hi:i < listed.size
 ·simp [hi] at h ⊢;exact h
 ·simp [hi]
variable {ni:Nat→AV} {en:Nat→Env} {e:Env}
theorem JM (hB:uY all m) {listed:Array Bool} (L:LR all m listed) (h0:en 0=e) (hs:∀ i o,i < m→all[i]? =some o→en (i+1)=w8 (en i) o.dst (ni i)) (hm:m≤all.size)
 {i:Nat} {o:Oper} (ho:all[i]? =some o) (C4:i < m) (w9:listed.getD i false=false) (hr:∀ j,zX all i j→listed.getD j false=true) {s:Nat} (EM:s∈looks all o):∀ k,k≤all.size→cur all ni e listed k s=en (min k i) s:=by
 intro k
 induction k with
 | zero=>intro _;simp [cur,h0]
 | succ k ih=>
   intro hk
   have vh:=ih (by omega)
   have vi:all[k]? =some all[k]:=by simp [show k < all.size by omega]
   simp only [cur,vi,Option.bind_some]
   rcases Nat.lt_trichotomy k i with jh | heq | JN
   ·rw [Nat.min_eq_left (by omega)] at vh
    rw [Nat.min_eq_left (by omega),hs k _ (by omega) vi]
    by_cases hd:(all[k]).dst=some s
    ·have hl:listed.getD k false=true:=hr k ((kU hB ho vi jh).1 C4 (xH hd EM))
     rw [if_pos hl,hd,pr,pr]
    ·rw [mS hd]
     split
     ·rw [mS hd];exact vh
     ·exact vh
   ·subst heq
    rw [w9]
    simp only [Bool.false_eq_true,if_false]
    rw [Nat.min_eq_right (by omega)]
    rw [Nat.min_eq_right (by omega)] at vh
    exact vh
   ·rw [Nat.min_eq_right (by omega)] at vh
    rw [Nat.min_eq_right (by omega)]
    by_cases hl:listed.getD k false=true
    ·by_cases hd:(all[k]).dst=some s
     ·exfalso
      have hw:=(kU hB vi ho JN).1 (L.head k hl) (z6 hd EM)
      have:=lZ.Mt L.closed hw hl
      rw [w9] at this;cases this
     ·rw [if_pos hl,mS hd];exact vh
    ·rw [if_neg hl];exact vh
theorem jA {listed:Array Bool} {i k:Nat} (hi:i < listed.size):(listed.setIfInBounds i true).getD k false=(if k=i then true else listed.getD k false):=by
 by_cases hk:k < listed.size
 ·simp [hk,Array.getElem_setIfInBounds]
  by_cases h:k=i
  ·simp [h]
  ·have h':¬ i=k:=fun e=>h e.symm
   simp [h,h']
 ·have:k≠i:=by omega
  simp [hk,this]
theorem Mu (hB:uY all m) {listed:Array Bool} (L:LR all m listed) {i:Nat} {o:Oper} (ho:all[i]? =some o) (C4:i < m) (w9:listed.getD i false=false) (s:Nat):
 ∀ k,k≤all.size→cur all ni e (listed.setIfInBounds i true) k s=(if i < k then w8 (cur all ni e listed k) o.dst (ni i) s else cur all ni e listed k s):=by
 have hi:i < listed.size:=by rw [L.size];exact (Array.getElem?_eq_some_iff.1 ho).1
 intro k
 induction k with
 | zero=>intro _;simp [cur]
 | succ k ih=>
   intro hk
   have vh:=ih (by omega)
   have vi:all[k]? =some all[k]:=by simp [show k < all.size by omega]
   simp only [cur,vi,Option.bind_some,jA hi]
   rcases Nat.lt_trichotomy k i with jh | heq | JN
   ·rw [if_neg (by omega)] at vh
    have e1:(if k=i then true else listed.getD k false)=listed.getD k false:=if_neg (by omega)
    rw [e1,if_neg (show ¬ i < k+1 by omega)]
    by_cases hl:listed.getD k false=true
    ·rw [if_pos hl,if_pos hl]
     by_cases hd:(all[k]).dst=some s
     ·rw [hd,pr,pr]
     ·rw [mS hd,mS hd];exact vh
    ·rw [if_neg hl,if_neg hl];exact vh
   ·subst heq
    rw [if_neg (by omega)] at vh
    have e1:(if k=k then true else listed.getD k false)=true:=if_pos rfl
    rw [e1,if_pos (show k < k+1 by omega),if_pos rfl,w9,if_neg Bool.false_ne_true]
    obtain rfl:all[k]=o:=by rw [vi] at ho;exact Option.some.inj ho
    by_cases hd:(all[k]).dst=some s
    ·rw [hd,pr,pr]
    ·rw [mS hd,mS hd];exact vh
   ·rw [if_pos JN] at vh
    have e1:(if k=i then true else listed.getD k false)=listed.getD k false:=if_neg (by omega)
    rw [e1,if_pos (show i < k+1 by omega)]
    by_cases hl:listed.getD k false=true
    ·rw [if_pos hl,if_pos hl]
     by_cases hd:(all[k]).dst=some s
     ·by_cases Iw:o.dst=some s
      ·exfalso
       have hw:=(kU hB vi ho JN).1 (L.head k hl) (C3 Iw hd)
       have:=lZ.Mt L.closed hw hl
       rw [w9] at this;cases this
      ·rw [hd,pr,mS Iw,pr]
     ·by_cases Iw:o.dst=some s
      ·rw [mS hd,vh,Iw,pr,pr]
      ·rw [mS hd,vh,mS Iw,mS Iw,mS hd]
    ·rw [if_neg hl,if_neg hl];exact vh
theorem E8 (hB:uY all m) {Q:Exit→Act→World→Prop}:∀ (fuel k:Nat) (listed:Array Bool) (a:Act) (w:World),m≤k→k+fuel=all.size→listed.size=all.size→(∀ i,i < k→listed.getD i false=true)→(∀ i,k≤i→listed.getD i false=false)→
 wpList P all Q (all.toList.drop k) a w→wpAny P .any all Q fuel listed a w:=by
 intro fuel
 induction fuel with
 | zero=>
   intro k listed a w hm hk jZ h1 h2 h
   have Ul:all.toList.drop k=[]:=List.drop_eq_nil_of_le (by simp;omega)
   rw [Ul] at h
   refine ⟨?_,h⟩
   refine List.eq_nil_iff_forall_not_mem.2 fun i hi=>?_
   obtain ⟨Bm,Hr⟩:=wF hi
   have:=h1 i (by omega)
   rw [AO Hr] at this
   cases this
 | succ fuel ih=>
   intro k listed a w hm hk jZ h1 h2 h
   have Um:k < all.size:=by omega
   have vi:all[k]? =some all[k]:=by simp [Um]
   refine ⟨fun hr=>?_,fun i hi=>?_⟩
   ·have:=zp hB jZ hr k Um
    rw [h2 k (Nat.le_refl _)] at this
    cases this
   ·obtain ⟨Bm,Hr⟩:=wF hi
    have zZ:all[i]? =some all[i]:=by simp [Bm]
    obtain rfl:i=k:=by
     rcases Nat.lt_trichotomy i k with jh | heq | JN
     ·have:=h1 i jh;rw [AO Hr] at this;cases this
     ·exact heq
     ·have Bd:lZ all listed:=fun k' i' o SU YO E9=>by
       have jh:k' < k:=by
        rcases Nat.lt_or_ge k' k with h | h
        ·exact h
        ·rw [h2 k' h] at SU;cases SU
       simp only [waits,List.any_eq_true,Bool.and_eq_true] at E9
       obtain ⟨e',Un,Ar,OM⟩:=E9
       have:=xG hB YO (by simpa using Un) Ar
       obtain rfl:e'.on=i':=Nat.eq_of_beq_eq_true OM
       exact h1 _ (by omega)
      have:=Bd.ready ((kU hB zZ vi JN).2 (by omega)) hi
      rw [h2 k (Nat.le_refl _)] at this;cases this
    have Q4:all.toList.drop i=all[i] :: all.toList.drop (i+1):=by
     rw [List.drop_eq_getElem_cons (by simpa using Um)]
     simp
    rw [Q4] at h
    unfold wpList at h
    simp only [wpOp,vi]
    have next:∀ a w,wpList P all Q (all.toList.drop (i+1)) a w→wpAny P .any all Q fuel (listed.setIfInBounds i true) a w:=fun a w hh=>by
     have tM:i < listed.size:=by omega
     refine ih (i+1) (listed.setIfInBounds i true) a w (by omega) (by omega) (by simpa using jZ) (fun j hj=>?_) (fun j hj=>?_) hh
     ·rw [jA tM];split
      ·rfl
      ·exact h1 j (by omega)
     ·rw [jA tM,if_neg (by omega)];exact h2 j (by omega)
    split at h
    ·rename_i hw
     rw [if_pos hw]
     exact h.imp (fun hh=>Oper.wp_mono next hh) id
    ·rename_i hw
     rw [if_neg hw]
     exact next _ _ h
theorem wG {o:Oper} {e:Env} {b:Bool} {w:World} {S:Nat→Prop} {a:Act} (hw:oT all o e b) (r:DS w S (looks all o) e a):Region.wanted o (yielded all a.tmps)=b:=by
 unfold oT at hw
 unfold Region.wanted
 cases hg:o.guard with
 | none=>rw [hg] at hw;simp only at hw;rw [hw]
 | some g=>
   obtain ⟨j,want⟩:=g
   rw [hg] at hw
   simp only at hw
   obtain ⟨s,h1,⟨c,h2,h3⟩ | ⟨h2,h3⟩⟩:=hw
   ·obtain ⟨v,g1,g2⟩:=r s (by simp [looks,hg,h1]) _ h2
    cases g2
    rw [h3]
    cases c<;>cases want<;>simp [yielded,h1,g1]
   ·obtain ⟨v,g1,g2⟩:=r s (by simp [looks,hg,h1]) _ h2
    cases g2
    rw [h3]
    simp [yielded,h1,g1,undef]
def Bn (w:World) (S:Nat→Prop) (e:Env) (a:Act):Prop:=∀ s av,e s=some av→∃ v,a.tmps[s]? =some v∧At w S av v
theorem JO (hB:uY all m) (hm:m≤all.size) {Q:Exit→Act→World→Prop} (h0:en 0=e) (hs:∀ i o,i < m→all[i]? =some o→NW P all n hp o (en i) (ni i)∧en (i+1)=w8 (en i) o.dst (ni i)) {w0:World} {S0:Nat→Prop}
 (fin:∀ a w S,a.tmps.size=n→a.defers=[]→cI w S hp→Grow w0 S0 w S→Bn w S (en m) a→wpList P all Q (all.toList.drop m) a w):
 ∀ (fuel:Nat) (listed:Array Bool) (a:Act) (w:World) (S:Nat→Prop),LR all m listed→(listed.toList.count true)+fuel=all.size→a.tmps.size=n→a.defers=[]→cI w S hp→Grow w0 S0 w S→Bn w S (cur all ni e listed all.size) a→
   wpAny P .any all Q fuel listed a w:=by
 have Q5:∀ i o,i < m→all[i]? =some o→en (i+1)=w8 (en i) o.dst (ni i):=fun i o h1 h2=>(hs i o h1 h2).2
 have done:∀ (fuel:Nat) (listed:Array Bool) (a:Act) (w:World) (S:Nat→Prop),LR all m listed→(listed.toList.count true)+fuel=all.size→a.tmps.size=n→a.defers=[]→cI w S hp→Grow w0 S0 w S→Bn w S (cur all ni e listed all.size) a→
  (∀ i,i < m→listed.getD i false=true)→wpAny P .any all Q fuel listed a w:=by
  intro fuel listed a w S L hc jZ GC hr hg tQ oA
  have ON:∀ i,m≤i→listed.getD i false=false:=fun i hi=>by
   cases hv:listed.getD i false with
   | false=>rfl
   | true=>have:=L.head i hv;omega
  have OO:listed.toList.count true=m:=by
   have:listed.toList=List.replicate m true++List.replicate (all.size - m) false:=by
    apply List.ext_getElem?
    intro i
    rcases Nat.lt_or_ge i m with hi | hi
    ·have tM:i < listed.size:=by rw [L.size];omega
     rw [List.getElem?_append_left (by simpa using hi)]
     have:=oA i hi
     simp [tM] at this
     simp [tM,hi,this]
    ·rw [List.getElem?_append_right (by simpa using hi)]
     rcases Nat.lt_or_ge i listed.size with tM | tM
     ·have:=ON i hi
      simp [tM] at this
      have h2:i - m < all.size - m:=by rw [L.size] at tM;omega
      simp [tM,h2,this]
     ·have h2:¬ i - m < all.size - m:=by rw [L.size] at tM;omega
      simp [List.getElem?_eq_none (l:=listed.toList) (by simpa using tM),h2]
   rw [this,List.count_append,List.count_replicate,List.count_replicate]
   simp
  have OP:cur all ni e listed all.size=en m:=by
   have key:∀ k,k≤all.size→cur all ni e listed k=en (min k m):=by
    intro k
    induction k with
    | zero=>intro _;simp [cur,h0]
    | succ k ih=>
      intro hk
      have vi:all[k]? =some all[k]:=by simp [show k < all.size by omega]
      simp only [cur,vi,Option.bind_some,ih (by omega)]
      rcases Nat.lt_or_ge k m with h | h
      ·rw [if_pos (oA k h),Nat.min_eq_left (by omega),Nat.min_eq_left (by omega),Q5 k _ h vi]
      ·rw [if_neg (by rw [ON k h];simp),Nat.min_eq_right (by omega),Nat.min_eq_right (by omega)]
   rw [key all.size (Nat.le_refl _),Nat.min_eq_right hm]
  rw [OP] at tQ
  exact E8 hB fuel m listed a w (Nat.le_refl _) (by omega) L.size oA ON (fin a w S jZ GC hr hg tQ)
 intro fuel
 induction fuel with
 | zero=>
   intro listed a w S L hc jZ GC hr hg tQ
   refine done 0 listed a w S L hc jZ GC hr hg tQ (fun i hi=>?_)
   have Fa:listed.toList.count true=listed.toList.length:=by rw [Array.length_toList,L.size];omega
   have oA:=List.count_eq_length.1 Fa
   have tM:i < listed.size:=by rw [L.size];omega
   have:=oA listed[i] (by simp)
   simp [tM];exact this.symm
 | succ fuel ih=>
   intro listed a w S L hc jZ GC hr hg tQ
   by_cases oA:∀ i,i < m→listed.getD i false=true
   ·exact done _ listed a w S L hc jZ GC hr hg tQ oA
   ·refine ⟨fun JP=>(oA fun i hi=>zp hB L.size JP i (by omega)).elim,fun i hi=>?_⟩
    obtain ⟨Bm,Hr⟩:=wF hi
    have w9:=AO Hr
    have zZ:all[i]? =some all[i]:=by simp [Bm]
    have C4:i < m:=by
     rcases Nat.lt_or_ge i m with h | h
     ·exact h
     ·refine (oA fun j hj=>?_).elim
      have LP:all[j]? =some all[j]:=by simp [show j < all.size by omega]
      exact lZ.ready L.closed ((kU hB zZ LP (by omega)).2 h) hi
    have tM:i < listed.size:=by rw [L.size];exact Bm
    obtain ⟨⟨LM,sr⟩,_⟩:=hs i _ C4 zZ
    have vH:DS w S (looks all all[i]) (en i) a:=by
     intro s EM av sn
     have hc:=JM (ni:=ni) (en:=en) (e:=e) hB L h0 Q5 hm zZ C4 w9 (fun j hj=>lZ.ready L.closed hj hi) EM all.size (Nat.le_refl _)
     rw [Nat.min_eq_right (by omega)] at hc
     exact tQ s av (by rw [hc];exact sn)
    have L':LR all m (listed.setIfInBounds i true):=by
     refine ⟨by simpa using L.size,fun k hk=>?_,fun k j o hk vi hw=>?_⟩
     ·rw [jA tM] at hk
      split at hk
      ·omega
      ·exact L.head k hk
     ·rw [jA tM] at hk
      rw [jA tM]
      split
      ·rfl
      ·split at hk
       ·rename_i Uo
        subst Uo
        obtain rfl:all[k]=o:=by rw [zZ] at vi;exact Option.some.inj vi
        exact tc zZ hi hw
       ·exact L.closed k j o hk vi hw
    have Fa:(listed.setIfInBounds i true).toList.count true+fuel=all.size:=by
     have JQ:listed[i]=false:=by simpa [tM] using w9
     have:(listed.setIfInBounds i true).toList=listed.toList.set i true:=by simp
     rw [this,List.count_set (by simpa using tM)]
     have Jm:listed.toList[i]'(by simpa using tM)=false:=by simpa using JQ
     rw [Jm]
     have e1:(if (false==true)=true then 1 else 0)=0:=rfl
     have e2:(if (true==true)=true then 1 else 0)=1:=rfl
     rw [e1,e2]
     omega
    have Wr:∀ (v:Value) (w':World) (S':Nat→Prop),Grow w S w' S'→At w' S' (ni i) v→Bn w' S' (cur all ni e (listed.setIfInBounds i true) all.size) (a.put (all[i]).dst v):=by
     intro v w' S' NY sV s av sn
     rw [Mu (ni:=ni) (e:=e) hB L zZ C4 w9 s all.size (Nat.le_refl _),if_pos (by omega)] at sn
     by_cases hd:(all[i]).dst=some s
     ·rw [hd,pr] at sn
      obtain rfl:=Option.some.inj sn
      have Q6:=LM s hd
      exact ⟨v,by rw [hd];simp [Act.put,jZ,Q6],sV⟩
     ·rw [mS hd] at sn
      obtain ⟨u,h1,h2⟩:=tQ s av sn
      refine ⟨u,?_,h2.mono (NY.nf hr.slt)⟩
      cases DU:(all[i]).dst with
      | none=>simpa [Act.put] using h1
      | some d'=>
        have sT:d'≠s:=fun e=>hd (by rw [DU,e])
        simp [Act.put,sT,h1]
    have SV:∀ v,(a.put (all[i]).dst v).tmps.size=n:=fun v=>by cases (all[i]).dst<;>simp [Act.put,jZ]
    have SX:∀ v,(a.put (all[i]).dst v).defers=[]:=fun v=>by cases (all[i]).dst<;>simp [Act.put,GC]
    simp only [wpOp,zZ]
    rcases sr with ⟨hw,Up⟩ | ⟨hw,sn⟩
    ·rw [if_pos (wG hw vH)]
     refine .inl (Up w S a jZ GC hr vH _ _ (fun v w' S' NY sV=>?_))
     exact ih _ _ _ S' L' Fa (SV v) (SX v) (hr.grow NY) (hg.trans NY) (Wr v w' S' NY sV)
    ·rw [if_neg (by rw [wG hw vH];simp)]
     refine ih _ _ _ S L' Fa (SV _) (SX _) hr hg (Wr _ w S (Grow.refl hr.slt) ?_)
     rw [sn];exact .raw _
end order
theorem wH (d:Nat) (av:AV) (tm:List (Nat×AV)):lk ((d,av) :: tm)=w8 (lk tm) (some d) av:=by
 funext s
 simp only [lk,w8]
 by_cases h:d=s
 ·subst h;simp
 ·rw [qy h,if_neg h]
def DV:List Nat→List (Nat×AV)→List (Nat×AV)
 | [],_=>[]
 | s :: r,tm=>match lk tm s with
   | some av=>(s,av) :: DV r tm
   | none=>DV r tm
theorem DW:∀ {ls:List Nat} {tm:List (Nat×AV)} {s:Nat} {av:AV},lk (DV ls tm) s=some av→s∈ls∧lk tm s=some av
 | [],tm,s,av,h=>by simp [DV,lk] at h
 | k :: ls,tm,s,av,h=>by
   simp only [DV] at h
   split at h
   ·rename_i cy hk
    simp only [lk] at h
    split at h
    ·rename_i hb
     obtain rfl:k=s:=by simpa using hb
     obtain rfl:=Option.some.inj h
     exact ⟨by simp,hk⟩
    ·obtain ⟨h1,h2⟩:=DW h
     exact ⟨by simp [h1],h2⟩
   ·obtain ⟨h1,h2⟩:=DW h
    exact ⟨by simp [h1],h2⟩
theorem o8 {w:World} {S:Nat→Prop} {a:Act} {n:Nat} {hp:Heap} {ls:List Nat} {tm:List (Nat×AV)} (h1:a.tmps.size=n) (h2:a.defers=[]) (h3:cI w S hp) (h4:DS w S ls (lk tm) a):dO w S ⟨n,DV ls tm,hp⟩ a:=
 ⟨h1,h2,fun s av h=>h4 s (DW h).1 av (DW h).2,h3⟩
def AM (P:Program) (all:Array Oper) (n:Nat) (hp:Heap) (l:List Oper) (tm:List (Nat×AV)) (Q:List (Nat×AV)→Prop):Prop:=∃ qj,Ms P all n hp l (lk tm) (lk qj)∧Q qj
section rules
variable {P:Program} {all:Array Oper} {rest:List Oper} {n:Nat} {tm:List (Nat×AV)} {hp:Heap} {Q:List (Nat×AV)→Prop} {d:Nat} {ty:TypeId} {pos:String} {af:Array Edge} {op:Op}
theorem AM.nil (h:Q tm):AM P all n hp [] tm Q:=⟨tm,.nil _,h⟩
theorem AM.mv {av:AV} (h:MV P all n ⟨some d,op,ty,pos,af,none⟩ (lk tm) hp av) (hn:Nat.blt d n=true) (k:AM P all n hp rest ((d,av) :: tm) Q):AM P all n hp (⟨some d,op,ty,pos,af,none⟩ :: rest) tm Q:=by
 obtain ⟨qj,k1,k2⟩:=k
 refine ⟨qj,.run rfl h (fun d' hd=>?_) (by rw [wH] at k1;exact k1),k2⟩
 obtain rfl:=Option.some.inj hd
 simpa using hn
theorem AM.qv {av:AV} (q:QV P ⟨some d,op,ty,pos,af,none⟩ ⟨n,DV (looks all ⟨some d,op,ty,pos,af,none⟩) tm,hp⟩ av) (hn:Nat.blt d n=true) (k:AM P all n hp rest ((d,av) :: tm) Q):AM P all n hp (⟨some d,op,ty,pos,af,none⟩ :: rest) tm Q:=by
 refine AM.mv (fun w S a h1 h2 h3 h4 K Q' hK=>?_) hn k
 obtain ⟨v,g1,g2⟩:=q w S a (o8 h1 h2 h3 h4)
 show Oper.upon P _ a K Q' _
 rw [g1 w (Ext.refl w)]
 exact hK v w S (Grow.refl h3.slt) g2
theorem AM.aI {j:Nat} {want b:Bool} {s:Nat} (hj:(all[j]?).bind (·.dst)=some s) (hs:lk tm s=some (.bool b)) (hb:b=want)
 (k:AM P all n hp (⟨some d,op,ty,pos,af,none⟩ :: rest) tm Q):AM P all n hp (⟨some d,op,ty,pos,af,some (j,want)⟩ :: rest) tm Q:=by
 obtain ⟨qj,k1,k2⟩:=k
 refine ⟨qj,?_,k2⟩
 cases k1 with
 | run hg h hd k=>
   refine .run ⟨s,hj,.inl ⟨b,hs,by simp [hb]⟩⟩ ?_ hd k
   intro w S a h1 h2 h3 h4 K Q' hK
   exact h w S a h1 h2 h3 (fun t ht=>h4 t (by simp only [looks,List.append_nil] at ht ⊢;exact List.mem_append_left _ ht)) K Q' hK
 | pass hg hd k=>simp [oT] at hg
theorem AM.aN {j:Nat} {want b:Bool} {s:Nat} (hj:(all[j]?).bind (·.dst)=some s) (hs:lk tm s=some (.bool b)) (hb:b=!want) (hn:Nat.blt d n=true)
 (k:AM P all n hp rest ((d,.raw undef) :: tm) Q):AM P all n hp (⟨some d,op,ty,pos,af,some (j,want)⟩ :: rest) tm Q:=by
 obtain ⟨qj,k1,k2⟩:=k
 refine ⟨qj,.pass ⟨s,hj,.inl ⟨b,hs,?_⟩⟩ (fun d' hd=>?_) (by rw [wH] at k1;exact k1),k2⟩
 ·rw [hb];cases want<;>rfl
 ·obtain rfl:=Option.some.inj hd
  simpa using hn
theorem AM.lit {l:List Oper} {s:Nat} {b c:Bool} (hs:lk tm s=some (.bool b)) (hb:b=c) (k:AM P all n hp l ((s,.bool c) :: tm) Q):AM P all n hp l tm Q:=by
 subst hb
 obtain ⟨qj,k1,k2⟩:=k
 have:lk ((s,.bool b) :: tm)=lk tm:=by
  rw [wH]
  funext t
  simp only [w8]
  split
  ·rename_i h;subst h;exact hs.symm
  ·rfl
 rw [this] at k1
 exact ⟨qj,k1,k2⟩
theorem AM.guard {j s:Nat} {want b:Bool} (hj:(all[j]?).bind (·.dst)=some s) (hs:lk tm s=some (.bool b)) (hn:Nat.blt d n=true) (h1:b=want→AM P all n hp (⟨some d,op,ty,pos,af,none⟩ :: rest) ((s,.bool want) :: tm) Q)
 (h2:b=!want→AM P all n hp rest ((d,.raw undef) :: (s,.bool (!want)) :: tm) Q):AM P all n hp (⟨some d,op,ty,pos,af,some (j,want)⟩ :: rest) tm Q:=by
 by_cases hb:b=want
 ·exact AM.lit hs hb (AM.aI hj (by simp [lk]) rfl (h1 hb))
 ·have Ar:b=!want:=by cases b<;>cases want<;>simp_all
  exact AM.lit hs Ar (AM.aN hj (b:=!want) (by simp [lk]) rfl hn (h2 Ar))
theorem AM.bH {j s:Nat} {p:Prop} [Decidable p] (hj:(all[j]?).bind (·.dst)=some s) (hs:lk tm s=some (.bool (decide p))) (hn:Nat.blt d n=true) (h1:p→AM P all n hp (⟨some d,op,ty,pos,af,none⟩ :: rest) ((s,.bool true) :: tm) Q)
 (h2:¬ p→AM P all n hp rest ((d,.raw undef) :: (s,.bool false) :: tm) Q):AM P all n hp (⟨some d,op,ty,pos,af,some (j,true)⟩ :: rest) tm Q:=
 AM.guard hj hs hn (fun h=>h1 (of_decide_eq_true h)) (fun h=>h2 (of_decide_eq_false h))
theorem AM.fL {f:FuncId} {args:List Operand} {ts:Array TypeId} {l l':List AV} {R:AV} [bF P f] (hl:zS (DV (looks all ⟨some d,.call {callee:=.value (.func f),args:=args.toArray,argTypes:=ts},ty,pos,af,none⟩) tm) args=some l) (c:Pu P f l' R) (co:yc hp l l') (hn:Nat.blt d n=true)
 (k:AM P all n hp rest ((d,R) :: tm) Q):AM P all n hp (⟨some d,.call {callee:=.value (.func f),args:=args.toArray,argTypes:=ts},ty,pos,af,none⟩ :: rest) tm Q:=by
 refine AM.mv (fun w S a h1 h2 h3 h4 K Q' hK=>?_) hn k
 have r:=o8 h1 h2 h3 h4
 show Oper.upon P _ a K Q' _
 rw [oz]
 obtain ⟨g1,g2⟩:=so r hl
 obtain ⟨g3,g4⟩:=yc.at r.hp co g1 g2
 refine (c w S _ (sq h3.slt h3.iy) (by simpa using g3) g4).mono ?_
 rintro e w' ⟨v,rr,h',S',rfl,rfl,k3,k4,k5⟩
 exact hK v w' S' ⟨k5.C2,fun m hm=>(k5.nf m hm).1,fun m hm hs=>(k5.other m hm (fun ⟨x,hx,_⟩=>by simp at hx)).2 hs,k4.slt⟩ k3
theorem AM.OQ {f:FuncId} {args:List Operand} {ts:Array TypeId} {l l':List AV} {R:AV} [bF P f] (hl:zS (DV (looks all ⟨some d,.call {callee:=.value (.func f),args:=args.toArray,argTypes:=ts},ty,pos,af,none⟩) tm) args=some l) (c:Pu P f l' R) (co:rO hp l l') (hn:Nat.blt d n=true) (hR:R.QZ=true)
 (k:AM P all n hp rest ((d,R) :: tm) Q):AM P all n hp (⟨some d,.call {callee:=.value (.func f),args:=args.toArray,argTypes:=ts},ty,pos,af,none⟩ :: rest) tm Q:=by
 refine AM.mv (fun w S a h1 h2 h3 h4 K Q' hK=>?_) hn k
 have r:=o8 h1 h2 h3 h4
 show Oper.upon P _ a K Q' _
 rw [oz]
 obtain ⟨g1,g2⟩:=so r hl
 obtain ⟨g3,g4⟩:=rO.at r.hp co g1 g2
 refine (c w (SB S hp) _ (sq (fun m hm=>hm.elim (h3.slt m) fun h=>h3.lt h) (fun g o ho=>⟨.inl (h3.iy g o ho).1,(h3.iy g o ho).2⟩)) (by simpa using g3) g4).mono ?_
 rintro e w' ⟨v,rr,h',S',rfl,rfl,k3,k4,k5⟩
 have ex:=k5.C2
 exact hK v w' S ⟨ex,fun m hm=>hm,fun m _ hs=>hs,fun m hm=>Nat.lt_of_lt_of_le (h3.slt m hm) ex.size⟩ (JI k3 hR)
theorem AM.bL {t e:TypeId} {i:TypeInfo} {z:Value} {len sz:Nat} {parts:List (Nat×Operand)} {xs:List AV} [aP P t (.slice e)] [br P e i] [nh P e sz] (hz:i.zero=some z)
 (hl:Jn (DV (looks all ⟨some d,.buildSlice t len parts.toArray,ty,pos,af,none⟩) tm) parts 0=some xs) (hlen:Nat.beq parts.length len=true) (zo:zU i.size xs=true) (JE:Nat.ble (len * i.size) 16777216=true) (hn:Nat.blt d n=true)
 (k:AM P all n hp rest ((d,.list sz xs) :: tm) Q):AM P all n hp (⟨some d,.buildSlice t len parts.toArray,ty,pos,af,none⟩ :: rest) tm Q:=by
 obtain ⟨i',Bm,Hr⟩:=nh.h (P:=P) (t:=e)
 obtain rfl:i'=i:=by rw [br.h (P:=P) (t:=e)] at Bm;exact (Option.some.inj Bm).symm
 subst Hr
 refine AM.mv (fun w S a h1 h2 h3 h4 K Q' hK=>?_) hn k
 have r:=o8 h1 h2 h3 h4
 obtain rfl:parts.length=len:=Nat.eq_of_beq_eq_true hlen
 have JE:=Nat.le_of_ble_eq_true JE
 obtain ⟨zz,Mk⟩:∃ zz:Array Value,zz=if parts.length * i'.size=0 then #[] else z.cells:=⟨_,rfl⟩
 obtain ⟨vs,g1,g2,g3,g4⟩:=Be r i'.size parts 0 xs ((Array.range (parts.length * i'.size)).map (zz[· % zz.size]!)) hl (qh zo) (by simp)
 simp only [Nat.zero_mul,List.take_zero,List.nil_append] at g1
 have e0:=Ext.alloc w (.cells vs.toArray e)
 have vD:(execOp a.eval ⟨some d,.buildSlice t parts.length parts.toArray,ty,pos,af,none⟩).run P w=.ok (.value (.slice (some ⟨w.heap.size,0,none⟩) parts.length parts.length)) (w.alloc (.cells vs.toArray e)):=by
  have hm:((parts.toArray.map fun p=>(p.1,a.eval p.2))).toList=parts.map fun p=>(p.1,a.eval p.2):=by simp
  simp only [execOp,Instr.buildSlice,Sem.run_bind,run_underlying (aP.h (P:=P) (t:=t)),Result.andThen_ok,sizeOf,typeInfo,run_program,br.h (P:=P) (t:=e),Sem.run_pure]
  rw [if_neg (by omega)]
  by_cases h0:parts.length * i'.size=0
  ·rw [if_pos h0] at Mk ⊢
   subst Mk
   simp only [Sem.run_bind,Result.andThen_ok,Sem.run_pure,hm,g1,uD]
  ·rw [if_neg h0] at Mk ⊢
   subst Mk
   simp only [Sem.run_bind,Result.andThen_ok,Sem.run_pure,zeroValue,typeInfo,run_program,br.h (P:=P) (t:=e),hz,hm,g1,uD]
 show Oper.upon P _ a K Q' _
 rw [vD]
 have Mv:(w.alloc (.cells vs.toArray e)).heap[w.heap.size]? =some (.cells vs.toArray e (0,0)):=by
  show (w.heap.push _)[w.heap.size]? =_
  simp
 refine hK _ _ (fun m=>S m∨m=w.heap.size) ⟨e0,fun m hm=>.inl hm,fun m hm hs=>hs.elim id (fun h=>by omega),fun m hm=>?_⟩ ?_
 ·rcases hm with hm | hm
  ·exact Nat.lt_of_lt_of_le (h3.slt m hm) e0.size
  ·subst hm;simp
 ·have:=At.list (w:=w.alloc (.cells vs.toArray e)) (S:=fun m=>S m∨m=w.heap.size) i'.size xs (some ⟨w.heap.size,0,none⟩) parts.length vs (qh zo) (by rw [c0 (qh zo),g2]) (fun j c u hc hu=>?_) (fun j u hu=>?_) (by omega)
  ·rw [g3] at this;exact this
  ·exact (g4 j c u hc (by simpa using hu)).mono fun m hm=>⟨.inl hm,e0.same m (h3.slt m hm)⟩
  ·refine ⟨_,rfl,rfl,.inr rfl,?_⟩
   rw [pn Mv]
   simpa using hu
end rules
def Fb:Nat→List Oper→Option (List Oper×List Oper)
 | 0,l=>some ([],l)
 | m+1,o :: l=>match Fb m l with
   | some (a,b)=>some (o :: a,b)
   | none=>none
 | _+1,[]=>none
theorem wI:∀ {m:Nat} {l a b:List Oper},Fb m l=some (a,b)→l=a++b∧a.length=m
 | 0,l,a,b,h=>by simp [Fb] at h;obtain ⟨rfl,rfl⟩:=h;exact ⟨rfl,rfl⟩
 | m+1,[],a,b,h=>by simp [Fb] at h
 | m+1,o :: l,a,b,h=>by
   simp only [Fb] at h
   split at h
   ·rename_i a' b' h'
    simp only [Option.some.injEq,Prod.mk.injEq] at h
    obtain ⟨rfl,rfl⟩:=h
    obtain ⟨h1,h2⟩:=wI h'
    exact ⟨by rw [h1];rfl,by simp [h2]⟩
   ·cases h
theorem aa.bS {P:Program} {R:St→Prop} {k:List It} {id n:Nat} {tm:List (Nat×AV)} {hp:Heap} {l hd tl:List Oper} (m:Nat) (hm:P.follows .mixedOrders=true) (hs:Fb m l=some (hd,tl)) {A:List Nat} (hA:Iv l.toArray=A) (Uq:E7 l.toArray m A=true)
 (h:AM P l.toArray n hp hd tm (fun qj=>ae P l.toArray tl ⟨n,qj,hp⟩ (aa P R k))):aa P R (.code (.region id l.toArray true) :: k) ⟨n,tm,hp⟩:=by
 have hB:uY l.toArray m:=⟨A,hA,Uq⟩
 intro w S a r
 obtain ⟨hl,Mw⟩:=wI hs
 obtain ⟨qj,hA,vD⟩:=h
 obtain ⟨ni,en,e0,e1,e2⟩:=hA.GA
 have jZ:m≤l.toArray.size:=by simp [hl,Mw]
 refine wp_region_any hm ?_
 have Bo:Ext w {w with drawn:=w.drawn+1}:=Ext.Jy w _ (Nat.le_succ _)
 have g0:Grow w S {w with drawn:=w.drawn+1} S:=⟨Bo,fun _ h=>h,fun _ _ h=>h,fun n hn=>r.hp.slt n hn⟩
 have OR:∀ k,cur l.toArray ni (lk tm) (Array.replicate l.toArray.size false) k=lk tm:=by
  intro k
  induction k with
  | zero=>rfl
  | succ k ih=>
    simp only [cur,ih]
    rw [if_neg]
    rcases Nat.lt_or_ge k l.toArray.size with h | h
    ·simp at h;simp [h]
    ·simp at h;simp [Nat.not_lt.2 h]
 have hf:∀ k,(Array.replicate l.toArray.size false).getD k false=false:=by
  intro k
  rcases Nat.lt_or_ge k l.toArray.size with h | h
  ·simp at h;simp [h]
  ·simp at h;simp [Nat.not_lt.2 h]
 refine JO (P:=P) (all:=l.toArray) (n:=n) (m:=m) (hp:=hp) (ni:=ni) (en:=en) (e:=lk tm) hB jZ e0 (fun i o hi ho=>e2 i o ?_) (w0:=w) (S0:=S) (fun a' w' S' h1 h2 h3 h4 h5=>?_) l.toArray.size (Array.replicate l.toArray.size false) a _ S
  ⟨by simp,(fun k hk=>by rw [hf k] at hk;cases hk),(fun k i o hk=>by rw [hf k] at hk;cases hk)⟩ (by simp [List.count_replicate]) r.size r.defers (r.hp.ext Bo) g0 (by rw [OR];exact (r.ext Bo).tm)
 ·have:l[i]? =some o:=by simpa using ho
  rw [hl,List.getElem?_append_left (by omega)] at this
  exact this
 ·have Ur:l.toArray.toList.drop m=tl:=by
   simp only [hl,← Mw]
   exact List.drop_left
  rw [Ur]
  have LS:en m=lk qj:=by rw [← Mw];exact e1
  rw [LS] at h5
  refine jl ?_ _ _ _ (vD.go (h:=hp) (w:=w) (S:=S) ⟨h1,h2,h5,h3⟩ (h4.Wp r.hp.slt hp))
  rintro ex a2 w2 ⟨rfl,Hi,S2,q1,q2,q3⟩
  exact ⟨Hi,S2,q1,q2,q3⟩
section
variable {P:Program} {all:Array Oper} {rest:List Oper} {n:Nat} {hp:Heap} {tm:List (Nat×AV)} {Q:List (Nat×AV)→Prop} {dd:Option Nat} {ty:TypeId} {pos:String} {af:Array Edge}
end
theorem Qb {α β:Type} {o:Option α} {f:α→Option β} {r:β} (h:o.bind f=some r):∃ v,o=some v∧f v=some r:=by
 cases o with
 | none=>cases h
 | some v=>exact ⟨v,rfl,h⟩
theorem sW {α:Type} {p:Prop} [Decidable p] {a b x:α} (hp:p) (h:(if p then a else b)=x):a=x:=by rw [if_pos hp] at h;exact h
theorem zq {α:Type} {p:Prop} [Decidable p] {a b x:α} (hp:¬ p) (h:(if p then a else b)=x):b=x:=by rw [if_neg hp] at h;exact h
theorem ye {α:Type} {p:Bool} {a b x:α} (hp:p=false) (h:(if p=true then a else b)=x):b=x:=by rw [if_neg (by simp [hp])] at h;exact h
def ps {X A:Type} (f:X→Option (X⊕A)):Nat→X→Option A
 | 0,_=>none
 | n+1,x=>match f x with
   | none=>none
   | some (.inl y)=>ps f n y
   | some (.inr a)=>some a
theorem Fc {X A:Type} {f:X→Option (X⊕A)} {a:A}:∀ {n:Nat} {x:X},ps f n x=some a→ps f (n+1) x=some a
 | 0,x,h=>by cases h
 | n+1,x,h=>by
   unfold ps at h ⊢
   split at h
   ·cases h
   ·exact Fc h
   ·exact h
theorem Bp {X A:Type} {f:X→Option (X⊕A)} {a:A} {x:X} {n:Nat} (h:ps f n x=some a):∀ m,ps f (n+m) x=some a
 | 0=>h
 | m+1=>Fc (Bp h m)
theorem Ix {X A:Type} {f:X→Option (X⊕A)} {a b:A} {x:X} {n m:Nat} (h:ps f n x=some a) (k:ps f m x=some b):a=b:=by
 have h1:=Bp h m
 have h2:=Bp k n
 rw [Nat.add_comm] at h2
 rw [h1] at h2
 exact Option.some.inj h2
open Classical in
noncomputable def iter {X A:Type} (f:X→Option (X⊕A)) (x:X):Option A:=
 if h:∃ a n,ps f n x=some a then some h.choose else none
theorem sf {X A:Type} {f:X→Option (X⊕A)} {x:X} {a:A}:iter f x=some a↔∃ n,ps f n x=some a:=by
 unfold iter
 constructor
 ·intro h
  split at h
  ·rename_i hx
   obtain ⟨n,hn⟩:=hx.choose_spec
   exact ⟨n,by rw [hn];exact h⟩
  ·cases h
 ·rintro ⟨n,hn⟩
  have hx:∃ a n,ps f n x=some a:=⟨a,n,hn⟩
  rw [dif_pos hx]
  obtain ⟨m,hm⟩:=hx.choose_spec
  rw [Ix hm hn]
def after {X A:Type} (k:X→Option A):X⊕A→Option A
 | .inl y=>k y
 | .inr a=>some a
theorem iter_eq {X A:Type} (f:X→Option (X⊕A)) (x:X):iter f x=(f x).bind (after (iter f)):=by
 apply Option.ext
 intro a
 rw [sf]
 constructor
 ·rintro ⟨n,hn⟩
  match n with
  | 0=>cases hn
  | n+1=>
    unfold ps at hn
    split at hn
    ·cases hn
    ·rename_i y hy;rw [hy];exact sf.2 ⟨n,hn⟩
    ·rename_i b hb;rw [hb];exact hn
 ·intro h
  obtain ⟨s,hs,h⟩:=Qb h
  cases s with
  | inl y=>
    obtain ⟨n,hn⟩:=sf.1 h
    exact ⟨n+1,by unfold ps;rw [hs];exact hn⟩
  | inr b=>exact ⟨1,by unfold ps;rw [hs];exact h⟩
theorem bT {X A:Type} {o:Option A} {s:X⊕A} {a:A} (h:o.map .inr=some s) (hA:∀ a',s=.inr a'→a'=a):o=some a:=by
 cases o with
 | none=>cases h
 | some b=>
   have:=Option.some.inj h
   rw [hA b this.symm]
@[simp] theorem cK {X A:Type} (k:X→Option A) (y:X):after k (.inl y)=k y:=rfl
@[simp] theorem Qd {X A:Type} (k:X→Option A) (a:A):after k (.inr a)=some a:=rfl
theorem bV {X A:Type} (o:Option A) (k:X→Option A):(o.map Sum.inr).bind (after k)=o:=by cases o<;>rfl
def idx {α:Type} (xs:List α) (i:Int):Option α:=if 0≤i then xs[i.toNat]? else none
def app {α:Type} (xs ys:List α):Option (List α):=if xs.length+ys.length≤1000000000 then some (xs++ys) else none
def Bq {α:Type} (xs:List α) (l h:Int):Option (List α):=if 0≤l∧l≤h∧h≤xs.length then some ((xs.drop l.toNat).take (h.toNat - l.toNat)) else none
abbrev aL (i:Int):Int:=IntKind.i64.wrap i
def quo (a b:Int):Option Int:=if b=0 then none else some (aL (a.tdiv b))
def rem (a b:Int):Option Int:=if b=0 then none else some (a.tmod b)
theorem JR {α:Type} {e:α→AV} {xs:List α} {i:Int} {x:α} (h:idx xs i=some x):JD (xs.map e) i=some (e x):=by
 unfold idx at h;unfold JD
 split at h
 ·rename_i h0;rw [if_pos h0,List.getElem?_map,h];rfl
 ·cases h
theorem fg {α:Type} {xs:List α} {i:Int} {x:α} (h:idx xs i=some x):0≤i∧i < xs.length∧xs[i.toNat]? =some x:=by
 unfold idx at h
 split at h
 ·rename_i h0
  have:=(List.getElem?_eq_some_iff.1 h).1
  exact ⟨h0,by omega,h⟩
 ·cases h
theorem yf {α:Type} {xs ys zs:List α} (h:app xs ys=some zs):xs.length+ys.length≤1000000000∧zs=xs++ys:=by
 unfold app at h
 split at h
 ·exact ⟨by assumption,(Option.some.inj h).symm⟩
 ·cases h
theorem vL {α:Type} {xs zs:List α} {l h:Int} (hh:Bq xs l h=some zs):(0≤l∧l≤h∧h≤xs.length)∧zs=(xs.drop l.toNat).take (h.toNat - l.toNat):=by
 unfold Bq at hh
 split at hh
 ·exact ⟨by assumption,(Option.some.inj hh).symm⟩
 ·cases hh
theorem JS {a b c:Int} (h:quo a b=some c):b≠0∧c=aL (a.tdiv b):=by
 unfold quo at h
 split at h
 ·cases h
 ·exact ⟨by assumption,(Option.some.inj h).symm⟩
theorem JT {a b c:Int} (h:rem a b=some c):b≠0∧c=a.tmod b:=by
 unfold rem at h
 split at h
 ·cases h
 ·exact ⟨by assumption,(Option.some.inj h).symm⟩
section
variable {P:Program} {R:St→Prop} {k:List It} {σ:St}
theorem aa.cut {c:Code} (I:St→Prop) (h:aa P R (.code c :: .stop (fun aH=>aj aH I) :: k) σ) (hk:∀ aH,I aH→aa P R k aH):aa P R (.code c :: k) σ:=by
 intro w S a r
 refine wp_mono (h w S a r) ?_
 rintro e a' w' ⟨aH,S',h1,h2,h3⟩
 cases e with
 | normal=>
   obtain ⟨Is,QN,hI,hr,he⟩:=h1 w' S' a' h2
   exact ⟨Is,QN,hk Is hI,hr,h3.trans he⟩
 | exit id=>exact ⟨aH,S',h1,h2,h3⟩
 | goto l=>exact ⟨aH,S',h1,h2,h3⟩
 | ret=>exact ⟨aH,S',h1,h2,h3⟩
 | panic c=>exact ⟨aH,S',h1,h2,h3⟩
 | outgrown=>exact ⟨aH,S',h1,h2,h3⟩
theorem aa.cw {body:Code} {X A:Type} (f:X→Option (X⊕A)) (mk:X→St→Prop) {a:A} {x0:X} (h:iter f x0=some a) (h0:aj σ (mk x0))
 (hs:∀ x s σ (J:St→Prop),mk x σ→f x=some s→(∀ y aH,s=.inl y→aj aH (mk y)→J aH)→(∀ a',s=.inr a'→a'=a)→aa P R (.code body :: .stop J :: k) σ):
 aa P R (.code (.loop body) :: k) σ:=by
 obtain ⟨m,hm⟩:=sf.1 h
 refine aa.QY (fun m σ=>∃ x,ps f m x=some a∧mk x σ) m (h0.mono fun aH YP=>⟨x0,hm,YP⟩) ?_
 rintro m Aq ⟨x,hx,fe⟩
 match m with
 | 0=>cases hx
 | m+1=>
   unfold ps at hx
   split at hx
   ·cases hx
   ·rename_i y hy
    refine hs x _ Aq _ fe hy (fun y' aH e hi=>⟨m,by omega,hi.mono fun Is hk=>⟨y',?_,hk⟩⟩) (fun a' e=>by cases e)
    have:=Sum.inl.inj e
    rw [← this];exact hx
   ·rename_i b hb
    refine hs x _ Aq _ fe hb (fun y' aH e _=>by cases e) (fun a' e=>?_)
    rw [← Sum.inr.inj e];exact Option.some.inj hx
end
inductive C5:Heap→Heap→Heap→Prop
 | nil {h:Heap}:C5 h [] h
 | cons {h h1 t r:Heap} {b:Bk} {o:Ob} (u:w7 h b o h1) (k:C5 h1 t r):C5 h ((b,o) :: t) r
theorem C5.perm {h t r:Heap} (s:C5 h t r):h.Perm (t++r):=by
 induction s with
 | nil=>exact List.Perm.refl _
 | cons u k ih=>exact u.perm.trans (List.Perm.cons _ ih)
section rules
variable {P:Program} {all:Array Oper} {rest:List Oper} {n:Nat} {tm:List (Nat×AV)} {hp:Heap} {Q:St→Prop} {d:Nat} {ty:TypeId} {pos:String} {af:Array Edge}
theorem DX {f:FuncId} {args:List Operand} {ts:Array TypeId} {l l':List AV} {h0 hr:Heap} {Qc:AV→Heap→Prop} [bF P f] (hl:zS tm args=some l) (c:aT P f l' h0 Qc) (co:yc hp l l') (hs:C5 hp h0 hr) (hn:Nat.blt d n=true)
 (kk:∀ r h',Qc r h'→ae P all rest ⟨n,(d,r) :: tm,h'++hr⟩ Q):ae P all (⟨some d,.call {callee:=.value (.func f),args:=args.toArray,argTypes:=ts},ty,pos,af,none⟩ :: rest) ⟨n,tm,hp⟩ Q:=
 JH hl c co hs.perm hn kk
theorem Hs {f:FuncId} {x:Operand} {args:List Operand} {ts:Array TypeId} {ra l l' lc:List AV} {h0 hr:Heap} {Qc:AV→Heap→Prop} [bF P f] (hx:dm tm x=some (.func (.func f) ra)) (hl:zS tm args=some l) (Q7:ru (l++ra)=some lc) (c:aT P f l' h0 Qc) (co:yc hp lc l') (hs:C5 hp h0 hr) (hn:Nat.blt d n=true)
 (kk:∀ r h',Qc r h'→ae P all rest ⟨n,(d,r) :: tm,h'++hr⟩ Q):ae P all (⟨some d,.call {callee:=.value x,args:=args.toArray,argTypes:=ts},ty,pos,af,none⟩ :: rest) ⟨n,tm,hp⟩ Q:=
 Hn hx hl c (by rw [nk Q7];exact co) hs.perm hn kk
theorem bN {α:Type} {g:α→AV} {Xs:List α} {el:α} {t e:TypeId} {i:TypeInfo} {x y:Operand} {k:IntKind} {j:Int} {cs:List AV} {sz:Nat} [aP P t (.slice e)] [br P e i] (hx:dm tm x=some (.list sz (Xs.map g))) (jZ:Nat.beq i.size sz=true) (hy:dm tm y=some (.int k j))
 (hv:idx Xs j=some el) (h0:Nat.blt 0 sz=true) (hc:ru (g el).cells=some cs):QV P ⟨some d,.indexAddr t x y,ty,pos,af,none⟩ ⟨n,tm,hp⟩ (.bR cs):=by
 rw [← nk hc]
 exact DO hx jZ hy (JR hv) h0
theorem cY {α:Type} {g:α→AV} {Xs:List α} {x:Operand} {t e:TypeId} {sz:Nat} [aP P t (.slice e)] (hx:dm tm x=some (.list sz (Xs.map g))):QV P ⟨some d,.call {callee:=.builtin .len,args:=#[x],argTypes:=#[t]},ty,pos,af,none⟩ ⟨n,tm,hp⟩ (.int .i64 (Xs.length:Nat)):=by
 have h:=Gu (P:=P) (d:=d) (ty:=ty) (pos:=pos) (af:=af) (n:=n) (tm:=tm) (hp:=hp) (t:=t) (e:=e) hx
 rw [List.length_map] at h
 exact h
theorem Q8 {k:IntKind} {xt yt:TypeId} {x y:Operand} {i j:Int} (hx:dm tm x=some (.int k i)) (hy:dm tm y=some (.int k j)) (h0:j≠0):QV P ⟨some d,.binOp .quo xt x y yt,ty,pos,af,none⟩ ⟨n,tm,hp⟩ (.int k (k.wrap (i.tdiv j))):=
 vC hx hy (v:=.int k (k.wrap (i.tdiv j))) (fun w=>by simp [binOp,Op.intDiv,h0]) (fun w S=>.int _ _)
theorem DY {xt yt:TypeId} {x y:Operand} {i j r:Int} (hx:dm tm x=some (.int .i64 i)) (hy:dm tm y=some (.int .i64 j)) (h:quo i j=some r):QV P ⟨some d,.binOp .quo xt x y yt,ty,pos,af,none⟩ ⟨n,tm,hp⟩ (.int .i64 r):=by
 obtain ⟨h0,rfl⟩:=JS h
 exact Q8 hx hy h0
theorem JU {k:IntKind} {xt yt:TypeId} {x y:Operand} {i j r:Int} (hx:dm tm x=some (.int k i)) (hy:dm tm y=some (.int k j)) (h:rem i j=some r):QV P ⟨some d,.binOp .rem xt x y yt,ty,pos,af,none⟩ ⟨n,tm,hp⟩ (.int k r):=by
 obtain ⟨h0,rfl⟩:=JT h
 exact QQ hx hy h0
theorem td {x y:Operand} {t:TypeId} {s:List UInt8} {k:IntKind} {i:Int} {c:UInt8} [aP P t .string] (hx:dm tm x=some (.str s)) (hy:dm tm y=some (.int k i)) (hc:idx s i=some c):QV P ⟨some d,.index t x y,ty,pos,af,none⟩ ⟨n,tm,hp⟩ (.int .u8 (c.toNat:Int)):=
 let ⟨h0,_,h⟩:=fg hc
 EW hx hy h0 h
theorem eK {α:Type} {g:α→AV} {Xs Ys Zs:List α} {t e:TypeId} {i:TypeInfo} {z:Value} {x y:Operand} {src:AV} {b:Bk} {len sz:Nat} {cN:Bk→Heap} [aP P t (.slice e)] [br P e i] (hx:dm tm x=some (.sl sz b 0 len)) (hy:dm tm y=some src) (hz:i.zero=some z)
 (Iq:Nat.beq z.cells.size i.size=true) (jZ:Nat.beq i.size sz=true) (h0:Nat.blt 0 sz=true) (hn:Nat.blt d n=true) (Q3:Nat.ble i.bytes 65536=true) (hs:Src hp sz src (Ys.map g)) (hv:app Xs Ys=some Zs) (u:∀ b',nN hp b (.arr sz (Xs.map g)) b' (.arr sz (Zs.map g)) (cN b')) (hlen:len=Xs.length)
 (kk:∀ b':Bk,ae P all rest ⟨n,(d,.sl sz b' 0 Zs.length) :: tm,cN b'⟩ Q):ae P all (⟨some d,.call {callee:=.builtin .append,args:=#[x,y],argTypes:=#[t,t]},ty,pos,af,none⟩ :: rest) ⟨n,tm,hp⟩ Q:=by
 obtain ⟨hb,rfl⟩:=yf hv
 subst hlen
 refine Iu (xs:=Xs.map g) (ys:=Ys.map g) (cN:=cN) hx hy hz Iq jZ h0 hn Q3 hs (by simpa using u) (by simp) (by simpa using hb) (fun b'=>?_)
 have:=kk b'
 simpa using this
end rules
theorem Iy {hp:Heap} {sz:Nat} {b:Bk} {α:Type} {g:α→AV} {Xs:List α} {len:Nat} (f:nM hp b (.arr sz (Xs.map g))∨nM hp b (.x3 sz (Xs.map g))) (h:len=Xs.length):Src hp sz (.sl sz b 0 len) (Xs.map g):=
 .whole b len _ f (by simpa using h)
end Go.Eng
