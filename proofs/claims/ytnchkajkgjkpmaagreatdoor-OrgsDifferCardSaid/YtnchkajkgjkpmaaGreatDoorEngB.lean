/- The engine: abstract values, the symbolic heap, one rule for each operation. No program in sight. -/
import Derived.Test.YtnchkajkgjkpmaaGreatDoorEngA
set_option linter.unusedVariables false
set_option linter.unusedSectionVars false
namespace Go.Eng
open Go
variable [bD]
theorem E2 {tm:List (Nat×AV)}:∀ {parts:List (Nat×Operand)} {k:Nat} {xs:List AV},NB tm parts k=some xs→xs.length=parts.length
 | [],k,xs,h=>by simp [NB] at h;subst h;rfl
 | (i,x) :: parts,k,xs,h=>by
   simp only [NB] at h
   split at h
   ·rename_i a l h1 h2 h3
    obtain rfl:=Option.some.inj h
    simp [E2 h3]
   ·cases h
section rules
variable {P:Program} {all:Array Oper} {rest:List Oper} {n:Nat} {tm:List (Nat×AV)} {hp:Heap} {Q:St→Prop} {d:Nat} {ty:TypeId} {pos:String} {af:Array Edge}
theorem GO {t e:TypeId} {i:TypeInfo} {z:Value} {len:Nat} {parts:List (Nat×Operand)} {xs:List AV} [aC P t (.slice e)] [aU P e i] (hz:i.zero=some z) (hl:NB tm parts 0=some xs) (hlen:Nat.beq parts.length len=true) (yQ:yR i.size xs=true)
 (L0:Nat.ble (len * i.size) 16777216=true) (hn:Nat.blt d n=true) (kk:ae P all rest ⟨n,(d,.list i.size xs) :: tm,hp⟩ Q):ae P all (⟨some d,.buildSlice t len parts.toArray,ty,pos,af,none⟩ :: rest) ⟨n,tm,hp⟩ Q:=by
 refine BL hz hl hlen yQ L0 hn (fun b=>ae.ghost (aj.freeze .here (aj.co (s:=d) (av:=.sl i.size b 0 len) (by simp [lk]) (.By i.size b len xs .here ?_) ?_)))
 ·rw [E2 hl];exact (Nat.eq_of_beq_eq_true hlen).symm
 ·refine aj.step (Hp:=⟨n,(d,.list i.size xs) :: tm,hp⟩) (fun w S a r=>⟨_,S,rfl,r.less ⟨rfl,fun s av h=>?_,List.sublist_cons_self _ _⟩,lD.less (lD.refl w S _) fun _ hm=>hm.sub (List.sublist_cons_self _ _)⟩) (aj.here kk)
  simp only [lk] at h ⊢
  split at h
  ·exact h
  ·exact h
inductive NF (tm:List (Nat×AV)):Option Operand→Option Int→Prop
 | none:NF tm none none
 | some (x:Operand) (k:IntKind) (i:Int) (h:dx tm x=some (.int k i)):NF tm (some x) (some i)
def pV:Option Int→Int
 | none=>0
 | some i=>i
def oJ (len:Nat):Option Int→Int
 | none=>len
 | some i=>i
theorem A3 {w:World} {S:Nat→Prop} {σ:St} {a:Act} (r:eD w S σ a) {lo hi:Option Operand} {l h:Option Int} (hl:NF σ.tm lo l) (hh:NF σ.tm hi h) (Tl:Bool) (len cap:Nat) (h0:0≤pV l) (h1:pV l≤oJ len h) (h2:oJ len h≤len) (hc:len≤cap) (w':World):
 (Instr.sliceBounds Tl len cap (lo.map a.eval) (hi.map a.eval) none).run P w'=.ok ((pV l).toNat,(oJ len h).toNat,cap) w':=by
 cases hl with
 | none=>
   cases hh with
   | none=>simp [Instr.sliceBounds,pV,oJ]
   | some x k i hx=>
     simp only [pV,oJ] at *
     have:i≤(cap:Int):=by omega
     simp [Instr.sliceBounds,Instr.sliceBound,(bj r hx).eU,asIntOf,h1,this]
 | some x k i hx=>
   cases hh with
   | none=>
     simp only [pV,oJ] at *
     simp [Instr.sliceBounds,Instr.sliceBound,(bj r hx).eU,asIntOf,h0,h1]
   | some y k' i' hy=>
     simp only [pV,oJ] at *
     have e1:i'≤(cap:Int):=by omega
     have e2:0≤i':=by omega
     have e3:i≤(i'.toNat:Int):=by omega
     simp [Instr.sliceBounds,Instr.sliceBound,(bj r hx).eU,(bj r hy).eU,asIntOf,h0,e1,e2]
     intro lV
     omega
theorem IE (s:List UInt8) (l h:Nat):(⟨s.toArray⟩:ByteArray).extract l h=⟨((s.drop l).take (h - l)).toArray⟩:=by
 have e:=ByteArray.data_extract (a:=(⟨s.toArray⟩:ByteArray)) (b:=l) (e:=h)
 cases hx:(⟨s.toArray⟩:ByteArray).extract l h with
 | mk da=>
   rw [hx] at e
   simp only at e
   rw [e]
   congr 1
   apply Array.ext'
   simp
theorem Kg {t:TypeId} {x:Operand} {lo hi:Option Operand} {l h:Option Int} {s:List UInt8} [aC P t .string] (hx:dx tm x=some (.str s)) (hl:NF tm lo l) (hh:NF tm hi h) (h0:0≤pV l) (h1:pV l≤oJ s.length h) (h2:oJ s.length h≤s.length):
 QV P ⟨some d,.slice t x lo hi none,ty,pos,af,none⟩ ⟨n,tm,hp⟩ (.str ((s.drop (pV l).toNat).take ((oJ s.length h).toNat - (pV l).toNat))):=by
 intro w S a r
 refine ⟨.string ((⟨s.toArray⟩:ByteArray).extract (pV l).toNat (oJ s.length h).toNat),fun w1 _=>?_,by rw [IE];exact .str _⟩
 have hb:=A3 (P:=P) (σ:=⟨n,tm,hp⟩) r hl hh false s.length s.length h0 h1 h2 (Nat.le_refl _) w1
 simp [execOp,Instr.sliceAt,run_underlying (aC.h (P:=P) (t:=t)),Instr.slice,(bj (σ:=⟨n,tm,hp⟩) r hx).dB,IA,hb]
theorem Mg {t e:TypeId} {i:TypeInfo} {x:Operand} {lo hi:Option Operand} {l h:Option Int} {sz off len:Nat} {b:Bk} [aC P t (.slice e)] [aU P e i] (hx:dx tm x=some (.sl sz b off len)) (j9:Nat.beq i.size sz=true) (hl:NF tm lo l) (hh:NF tm hi h) (h0:0≤pV l) (h1:pV l≤oJ len h) (h2:oJ len h≤len):
 QV P ⟨some d,.slice t x lo hi none,ty,pos,af,none⟩ ⟨n,tm,hp⟩ (.sl sz b (off+(pV l).toNat) ((oJ len h).toNat - (pV l).toNat)):=by
 intro w S a r
 obtain rfl:i.size=sz:=Nat.eq_of_beq_eq_true j9
 obtain ⟨oa,cap,e1,e2⟩:=(bj (σ:=⟨n,tm,hp⟩) r hx).wJ
 have QC:len≤cap:=by rcases e2 with ⟨_,_,hl,_,_⟩ | ⟨m,hb,_,g1,g2⟩ | ⟨m,ad,hb,_,hl,_⟩<;>omega
 refine ⟨.slice (if cap=(pV l).toNat then oa else oa.map (·.add ((pV l).toNat * i.size))) ((oJ len h).toNat - (pV l).toNat) (cap - (pV l).toNat),fun w1 _=>?_,?_⟩
 ·have hb:=A3 (P:=P) (σ:=⟨n,tm,hp⟩) r hl hh true len cap h0 h1 h2 QC w1
  simp [execOp,Instr.sliceAt,run_underlying (aC.h (P:=P) (t:=t)),Instr.slice,e1,hb,sizeOf,typeInfo,aU.h (P:=P) (t:=e)]
 ·rcases e2 with ⟨hb,ho,hln,rfl,hcp⟩ | ⟨m,hb,rfl,g1,g2⟩ | ⟨m,ad,hb,rfl,hln,hcp⟩
  ·have VU:(pV l).toNat=0:=by omega
   have VV:(oJ len h).toNat=0:=by omega
   rw [VU,VV,ho,hcp]
   exact .CP i.size b hb
  ·by_cases Hs:cap=(pV l).toNat
   ·rw [if_pos Hs]
    have hz:(oJ len h).toNat - (pV l).toNat=0:=by omega
    rw [hz,show cap - (pV l).toNat=0 from by omega]
    exact .TI i.size b _ m _ hb
   ·rw [if_neg Hs]
    have:=At.sl (w:=w) (S:=S) i.size b (off+(pV l).toNat) ((oJ len h).toNat - (pV l).toNat) m (cap - (pV l).toNat) hb (by omega) (by omega)
    rw [Nat.add_mul] at this
    simpa [pQ] using this
  ·have VU:(pV l).toNat=0:=by omega
   have VV:(oJ len h).toNat=0:=by omega
   rw [VU,VV,hcp,if_pos rfl]
   exact .TI i.size b _ m ad hb
theorem E3 {src dst:TypeId} {D:TypeDesc} {x:Operand} {k k':IntKind} {i:Int} [aC P src D] [aC P dst (.int k')] (hx:dx tm x=some (.int k i)):QV P ⟨some d,.convert src dst x,ty,pos,af,none⟩ ⟨n,tm,hp⟩ (.int k' (k'.wrap i)):=by
 intro w S a r
 refine ⟨.int k' (k'.wrap i),fun w1 _=>?_,.int _ _⟩
 simp only [execOp,convert,(bj (σ:=⟨n,tm,hp⟩) r hx).eU,Sem.run_bind,run_underlying (aC.h (P:=P) (t:=src)),run_underlying (aC.h (P:=P) (t:=dst)),Result.andThen_ok]
 cases D<;>simp [Conv.intToInt]
end rules
section
variable {P:Program} {all:Array Oper} {rest:List Oper} {σ:St} {Q:St→Prop} {dd:Option Nat} {ty:TypeId} {pos:String} {af:Array Edge}
end
theorem Kh {sz:Nat} {x y:AV}:∀ {xs:List AV} {q:Nat},(∀ x∈xs,El sz x)→El sz y→xs[q]? =some x→flat (xs.set q y)=(flat xs).take (q * sz)++y.cells++(flat xs).drop (q * sz+sz)
 | [],q,_,_,h=>by simp at h
 | z :: xs,0,hs,hy,h=>by
   have hz:=(hs z (by simp)).1
   rw [List.set_cons_zero,jR,jR]
   simp only [Nat.zero_mul,List.take_zero,List.nil_append,Nat.zero_add]
   rw [List.drop_left' hz]
 | z :: xs,q+1,hs,hy,h=>by
   have hz:=(hs z (by simp)).1
   simp only [List.getElem?_cons_succ] at h
   rw [List.set_cons_succ,jR,jR,Kh (fun a ha=>hs a (by simp [ha])) hy h]
   have e1:(q+1) * sz=sz+q * sz:=by rw [Nat.add_mul,Nat.one_mul];omega
   rw [e1,List.take_append,List.take_of_length_le (l:=z.cells) (by omega),hz,Nat.add_sub_cancel_left,List.drop_append,List.drop_of_length_le (l:=z.cells) (by omega),hz]
   rw [show sz+q * sz+sz - sz=q * sz+sz from by omega]
   simp [List.append_assoc]
theorem NG {w:World} {S:Nat→Prop} {cs new:List AV} {vs uQ:Array Value} (o:Nat) (hl:cs.length≤vs.size) (h:nK w S cs vs) (CJ:new.length=uQ.size) (h':nK w S new uQ) (ho:o+new.length≤cs.length):
 nK w S (cs.take o++new++cs.drop (o+new.length)) (vs.toList.take o++uQ.toList++vs.toList.drop (o+uQ.toList.length)).toArray:=by
 intro i c v hc hv
 simp only [List.getElem?_toArray] at hc hv
 have l1:(cs.take o).length=o:=by simp;omega
 have l2:(vs.toList.take o).length=o:=by simp;omega
 have l3:uQ.toList.length=new.length:=by simp [CJ]
 rw [List.append_assoc] at hc hv
 by_cases h1:i < o
 ·rw [List.getElem?_append_left (by omega)] at hc hv
  rw [List.getElem?_take,if_pos h1] at hc hv
  exact h i c v hc (by simpa using hv)
 ·rw [List.getElem?_append_right (by omega)] at hc hv
  rw [l1] at hc
  rw [l2] at hv
  by_cases h2:i - o < new.length
  ·rw [List.getElem?_append_left (by omega)] at hc hv
   exact h' (i - o) c v hc (by simpa using hv)
  ·rw [List.getElem?_append_right (by omega)] at hc hv
   rw [l3] at hv
   rw [List.getElem?_drop] at hc hv
   rw [show o+new.length+(i - o - new.length)=i from by omega] at hc hv
   exact h i c v hc (by simpa using hv)
section rules
variable {P:Program} {all:Array Oper} {rest:List Oper} {n:Nat} {tm:List (Nat×AV)} {hp:Heap} {Q:St→Prop} {d:Nat} {ty:TypeId} {pos:String} {af:Array Edge}
theorem AB.refl (l:List AV):AB hp l l:=by
 induction l with
 | nil=>exact .nil
 | cons a l ih=>exact .cons (.refl a) ih
def Pu (P:Program) (f:FuncId) (args:List AV) (R:AV):Prop:=aI P f args [] (fun r _=>r=R)
theorem aH {f:FuncId} {args:List Operand} {ts:Array TypeId} {l l':List AV} {R:AV} [bh P f] (hl:BI tm args=some l) (c:Pu P f l' R) (co:AB hp l l') (hn:Nat.blt d n=true)
 (kk:ae P all rest ⟨n,(d,R) :: tm,hp⟩ Q):ae P all (⟨some d,.call {callee:=.value (.func f),args:=args.toArray,argTypes:=ts},ty,pos,af,none⟩ :: rest) ⟨n,tm,hp⟩ Q:=by
 refine TY hl c co hn (fun r h' hr=>?_)
 subst hr
 exact ae.weaken (aE:=⟨n,(d,r) :: tm,hp⟩) ⟨rfl,fun _ _ h=>h,List.sublist_append_right _ _⟩ kk
theorem eF {f:FuncId} {args:List Operand} {ts:Array TypeId} {l l':List AV} {R:AV} [bh P f] (hl:BI tm args=some l) (c:Pu P f l' R) (co:wL hp l l') (hn:Nat.blt d n=true) (hR:R.YD=true)
 (kk:ae P all rest ⟨n,(d,R) :: tm,hp⟩ Q):ae P all (⟨some d,.call {callee:=.value (.func f),args:=args.toArray,argTypes:=ts},ty,pos,af,none⟩ :: rest) ⟨n,tm,hp⟩ Q:=
 T5 hl c co hn (fun r h' hr=>by subst hr;exact ⟨hR,kk⟩)
theorem yU {f:FuncId} {x:Operand} {args:List Operand} {ts:Array TypeId} {uF l l':List AV} {R:AV} [bh P f] (hx:dx tm x=some (.func (.func f) uF)) (hl:BI tm args=some l) (c:Pu P f l' R) (co:AB hp (l++uF) l') (hn:Nat.blt d n=true)
 (kk:ae P all rest ⟨n,(d,R) :: tm,hp⟩ Q):ae P all (⟨some d,.call {callee:=.value x,args:=args.toArray,argTypes:=ts},ty,pos,af,none⟩ :: rest) ⟨n,tm,hp⟩ Q:=by
 refine ND hx hl c co (List.Perm.refl _) hn (fun r h' hr=>?_)
 subst hr
 exact ae.weaken (aE:=⟨n,(d,r) :: tm,hp⟩) ⟨rfl,fun _ _ h=>h,List.sublist_append_right _ _⟩ kk
end rules
inductive RV (P:Program) (σ:St):ResultVar→AV→Prop
 | tmp (t:Nat) (av:AV) (h:lk σ.tm t=some av):RV P σ (.tmp t) av
 | all (p ty:Nat) (b:Bk) (cs:List AV) (D:TypeDesc) (i:TypeInfo) (h:lk σ.tm p=some (.ptr b 0)) (f:oG σ.hp b (.cells cs)) (hu:P.underlying ty=some D) (hi:P.info? ty=some i) (hD:TypeDesc.lZ D=true) (hs:Nat.beq cs.length i.size=true):RV P σ (.cell p ty) (.agg cs)
 | one (p ty:Nat) (b:Bk) (cs:List AV) (av:AV) (D:TypeDesc) (h:lk σ.tm p=some (.ptr b 0)) (f:oG σ.hp b (.cells cs)) (hu:P.underlying ty=some D) (hD:TypeDesc.lZ D=false) (hs:cs[0]? =some av):RV P σ (.cell p ty) av
def E4 (tmps:Array Value):ResultVar→Sem Value
 | .tmp t=>pure (tmps.getD t undef)
 | .cell a t=>do loadVar t (← asAddr (tmps.getD a undef))
theorem RV.run {P:Program} {σ:St} {rv:ResultVar} {av:AV} (h:RV P σ rv av) {w:World} {S:Nat→Prop} {a:Act} (r:eD w S σ a):∃ v,(E4 a.tmps rv).run P w=.ok v w∧At w S av v:=by
 cases h with
 | tmp t av h=>
   obtain ⟨v,h1,h2⟩:=r.tm t _ h
   exact ⟨v,by simp [E4,h1],h2⟩
 | all p ty b cs D i h f hu hi hD hs=>
   obtain ⟨v,h1,h2⟩:=r.tm p _ h
   obtain ⟨m,e1,rfl⟩:=h2.wm
   obtain ⟨_,m',vs,E,g1,g2,g3,g4⟩:=vd r.hp f
   obtain rfl:m'=m:=by rw [g1] at e1;exact Option.some.inj e1
   have hlen:vs.toList.length=i.size:=by simp [g3];exact Nat.eq_of_beq_eq_true hs
   refine ⟨.agg vs,?_,.agg cs vs g3.symm g4⟩
   have:=na (P:=P) hu hD hi (w:=w) (ad:=⟨m',0,none⟩) (vs:=vs.toList) hlen (fun j v hv=>by rw [pQ,pg g2];simpa using hv)
   simp [E4,h1,asAddr,this]
 | one p ty b cs av D h f hu hD hs=>
   obtain ⟨v,h1,h2⟩:=r.tm p _ h
   obtain ⟨m,e1,rfl⟩:=h2.wm
   obtain ⟨_,m',vs,E,g1,g2,g3,g4⟩:=vd r.hp f
   obtain rfl:m'=m:=by rw [g1] at e1;exact Option.some.inj e1
   have lV:0 < vs.size:=by rw [g3];exact (List.getElem?_eq_some_iff.1 hs).1
   have hv:vs[0]? =some vs[0]:=by simp [lV]
   refine ⟨vs[0],?_,g4 0 av _ hs hv⟩
   have:=qy (P:=P) hu hD (w:=w) (ad:=⟨m',0,none⟩) (v:=vs[0]) (by rw [pg g2,hv])
   simp [E4,h1,asAddr,this]
inductive Rs (P:Program) (σ:St):List ResultVar→List AV→Prop
 | nil:Rs P σ [] []
 | cons {v:ResultVar} {l:List ResultVar} {a:AV} {as:List AV} (h:RV P σ v a) (k:Rs P σ l as):Rs P σ (v :: l) (a :: as)
def Dv:List AV→AV
 | [a]=>a
 | as=>.pT as
theorem Rs.run {P:Program} {σ:St} {w:World} {S:Nat→Prop} {a:Act} (r:eD w S σ a):∀ {l:List ResultVar} {as:List AV},Rs P σ l as→∃ vs,(l.mapM (E4 a.tmps)).run P w=.ok vs w∧as.length=vs.length∧∀ (i:Nat) c v,as[i]? =some c→vs[i]? =some v→At w S c v
 | [],_,.nil=>⟨[],by simp,rfl,fun i c v hc=>by simp at hc⟩
 | x :: l,_,.cons (a:=av) (as:=as) h k=>by
   obtain ⟨v,h1,h2⟩:=h.run r
   obtain ⟨vs,g1,g2,g3⟩:=Rs.run r k
   refine ⟨v :: vs,by simp [h1,g1],by simp [g2],fun i c u hc hu=>?_⟩
   match i with
   | 0=>simp at hc hu;subst hc;subst hu;exact h2
   | i+1=>exact g3 i c u (by simpa using hc) (by simpa using hu)
theorem Ki {P:Program} {fn:Func} {l:List ResultVar} {σ:St} {as:List AV} (hf:fn.results=l.toArray) (h:Rs P σ l as) {w:World} {S:Nat→Prop} {a:Act} (r:eD w S σ a):∃ v,(results fn a.tmps).run P w=.ok v w∧At w S (Dv as) v:=by
 obtain ⟨vs,g1,g2,g3⟩:=h.run r
 have hm:results fn a.tmps=(do let vs ← Functor.map List.toArray (l.mapM (E4 a.tmps));pure (if h:vs.size=1 then vs[0] else .tuple vs)):=by
  have acO:(fun (x:ResultVar)=>(match x with | .tmp t=>pure (a.tmps.getD t undef) | .cell p t=>do loadVar t (← asAddr (a.tmps.getD p undef)):Sem Value))=E4 a.tmps:=by
   funext x
   cases x<;>rfl
  unfold results
  rw [hf,List.mapM_toArray]
  rw [← acO]
  rfl
 refine ⟨if h:vs.toArray.size=1 then vs.toArray[0] else .tuple vs.toArray,?_,?_⟩
 ·rw [hm,Sem.run_bind,Sem.run_map,g1]
  rfl
 ·clear h hm g1
  match as,vs,g2,g3 with
  | [],[],_,_=>simp [Dv];exact .pT [] _ rfl (fun i c v hc=>by simp at hc)
  | [x],[v],_,g3=>simp [Dv];exact g3 0 x v rfl rfl
  | x :: y :: as,v :: u :: vs,hl,g3=>simp [Dv];exact .pT _ _ (by simpa using hl) (fun i c v hc hv=>g3 i c v hc (by simpa using hv))
theorem aI.ZZ {P:Program} {f:FuncId} {fn:Func} {c:Code} {args:List AV} {h:Heap} {Q:AV→Heap→Prop} {n:Nat} {l:List ResultVar} (hf:P.funcs[f]? =some fn) (hb:fn.body=some c) (hn:fn.ntmps=n) (WJ:fn.results=l.toArray)
 (hle:Nat.ble args.length n=true) (kk:ab P (fun σ=>aj σ (fun aE=>∃ as,Rs P aE l as∧Q (Dv as) aE.hp)) [.code c] ⟨n,TN args 0,h⟩):aI P f args h Q:=by
 intro w S vs hr hl ha
 refine calls_of_wp hf hb ?_
 have r0:eD w S ⟨n,TN args 0,h⟩ {tmps:=vs++Array.replicate (fn.ntmps - vs.size) undef,defers:=[]}:=by
  have:=Nat.le_of_ble_eq_true hle
  refine ⟨by simp [hn];omega,rfl,fun s av hs=>?_,hr⟩
  obtain ⟨_,h2⟩:=Qs args 0 s av hs
  simp only [Nat.sub_zero] at h2
  have lV:s < args.length:=(List.getElem?_eq_some_iff.1 h2).1
  have Z0:s < vs.size:=by omega
  refine ⟨vs[s],by simp [Array.getElem?_append,Z0],ha s av _ h2 (by simp [Z0])⟩
 refine wp_mono (kk w S _ r0) ?_
 rintro e a' w' ⟨aE,S',h1,h2,h3⟩
 have fin:aj aE (fun OK=>∃ as,Rs P OK l as∧Q (Dv as) OK.hp)→a'.defers=[]∧∃ v,(results fn a'.tmps).run P w'=.ok v w'∧∃ v' r h' S',(Ending.returned v:Ending)=.returned v'∧Q r h'∧At w' S' r v'∧dO w' S' h'∧lD w S h w' S' h':=by
  intro hi
  obtain ⟨JX,S2,⟨as,Z3,hq⟩,g2,g3⟩:=hi w' S' a' h2
  obtain ⟨v,hv1,hv2⟩:=Ki WJ Z3 g2
  exact ⟨g2.defers,v,hv1,v,Dv as,JX.hp,S2,rfl,hq,hv2,g2.hp,h3.trans g3⟩
 cases e with
 | normal=>exact fin h1
 | ret=>exact fin h1
 | exit id=>exact h1.elim
 | goto l=>exact h1.elim
 | panic c=>exact h1.elim
 | outgrown=>exact h1.elim
inductive HS:Heap→Heap→Prop
 | nil {h:Heap}:HS h []
 | cons {h h1 t:Heap} {b:Bk} {o:Ob} (u:Ae h b o h1) (k:HS h1 t):HS h ((b,o) :: t)
theorem HS.perm {h t:Heap} (s:HS h t):∃ r,h.Perm (t++r):=by
 induction s with
 | nil=>exact ⟨_,List.Perm.refl _⟩
 | cons u k ih=>
   obtain ⟨r,hr⟩:=ih
   exact ⟨r,u.perm.trans (List.Perm.cons _ hr)⟩
theorem aj.Z4 {n:Nat} {tm tD:List (Nat×AV)} {hp fj:Heap} {T:St→Prop} (h:Hy tm tD) (hs:HS hp fj) (k:aj ⟨n,tD,fj⟩ T):aj ⟨n,tm,hp⟩ T:=by
 obtain ⟨r,hr⟩:=hs.perm
 refine aj.step (Hp:=⟨n,tD,fj⟩) (fun w S a rel=>⟨_,S,rfl,⟨rel.size,rel.defers,fun s av hh=>rel.tm s av (h.lk s av hh),(rel.hp.perm hr).sub (List.sublist_append_left _ _)⟩,lD.less (lD.refl w S hp) fun m hm=>?_⟩) k
 obtain ⟨e,he,hb⟩:=hm
 exact ⟨e,hr.mem_iff.2 (List.mem_append_left _ he),hb⟩
abbrev I (n:Int):AV:=.int .i64 n
section rules
variable {P:Program} {all:Array Oper} {rest:List Oper} {n:Nat} {tm:List (Nat×AV)} {hp:Heap} {Q:St→Prop} {d:Nat} {ty:TypeId} {pos:String} {af:Array Edge}
end rules
section rules
variable {P:Program} {all:Array Oper} {rest:List Oper} {n:Nat} {tm:List (Nat×AV)} {hp:Heap} {Q:St→Prop} {d:Nat} {ty:TypeId} {pos:String} {af:Array Edge}
theorem OL {t e:TypeId} {i:TypeInfo} {z:Value} {x y:Operand} {src:AV} {b:Bk} {len sz:Nat} {xs ys:List AV} {fj:Bk→Heap} [aC P t (.slice e)] [aU P e i] (hx:dx tm x=some (.sl sz b 0 len)) (hy:dx tm y=some src) (hz:i.zero=some z)
 (Hx:Nat.beq z.cells.size i.size=true) (j9:Nat.beq i.size sz=true) (h0:Nat.blt 0 sz=true) (hn:Nat.blt d n=true) (T7:Nat.ble i.bytes 65536=true) (hs:Src hp sz src ys) (u:∀ b',sL hp b (.arr sz xs) b' (.arr sz (xs++ys)) (fj b')) (hlen:len=xs.length)
 (hb:xs.length+ys.length≤1000000000)
 (kk:∀ b':Bk,ae P all rest ⟨n,(d,.sl sz b' 0 (len+ys.length)) :: tm,fj b'⟩ Q):ae P all (⟨some d,.call {callee:=.builtin .append,args:=#[x,y],argTypes:=#[t,t]},ty,pos,af,none⟩ :: rest) ⟨n,tm,hp⟩ Q:=by
 refine Qz hx hy hz Hx j9 h0 hn hs u hlen ?_ (by omega) kk
 have h1:=Nat.le_of_ble_eq_true T7
 have:=Nat.mul_le_mul hb h1
 omega
end rules
def uf:List AV→Option (List AV)
 | []=>some []
 | x :: r=>match uf r with
   | some l=>some (x :: l)
   | none=>none
theorem nf:∀ {l l':List AV},uf l=some l'→l=l'
 | [],l',h=>by simp [uf] at h;exact h.symm
 | x :: r,l',h=>by
   simp only [uf] at h
   split at h
   ·rename_i l hl
    obtain rfl:=Option.some.inj h
    rw [nf hl]
   ·cases h
def QD:List AV→Nat→Option (List (Nat×AV))
 | [],_=>some []
 | x :: r,i=>match QD r (i+1) with
   | some l=>some ((i,x) :: l)
   | none=>none
theorem NH:∀ {l:List AV} {i:Nat} {l':List (Nat×AV)},QD l i=some l'→TN l i=l'
 | [],i,l',h=>by simp [QD] at h;simpa [TN] using h
 | x :: r,i,l',h=>by
   simp only [QD] at h
   split at h
   ·rename_i l hl
    obtain rfl:=Option.some.inj h
    rw [TN,NH hl]
   ·cases h
class kI (P:Program) (t:TypeId) (sz:outParam Nat):Prop where
 h:∃ i,P.info? t=some i∧i.size=sz
theorem aI.aZ {P:Program} {f:FuncId} {fn:Func} {c:Code} {args:List AV} {h:Heap} {Q:AV→Heap→Prop} {n:Nat} {l:List ResultVar} {tm:List (Nat×AV)} (hf:P.funcs[f]? =some fn) (hb:fn.body=some c) (hn:fn.ntmps=n) (WJ:fn.results=l.toArray)
 (T8:QD args 0=some tm) (hle:Nat.ble args.length n=true) (kk:ab P (fun σ=>aj σ (fun aE=>∃ rs,Rs P aE l rs∧Q (Dv rs) aE.hp)) [.code c] ⟨n,tm,h⟩):aI P f args h Q:=
 aI.ZZ hf hb hn WJ hle (by rw [NH T8];exact kk)
section rules
variable {P:Program} {all:Array Oper} {rest:List Oper} {n:Nat} {tm:List (Nat×AV)} {hp:Heap} {Q:St→Prop} {d:Nat} {ty:TypeId} {pos:String} {af:Array Edge}
theorem cJ {x:Operand} {E:TypeId} {av:AV} {cs:List AV} (hx:dx tm x=some av) (hc:uf av.cells=some cs) (h1:lE cs=true) (hn:Nat.blt d n=true)
 (kk:∀ b:Bk,ae P all rest ⟨n,(d,.ptr b 0) :: tm,(b,.cells cs) :: hp⟩ Q):ae P all (⟨some d,.box E x,ty,pos,af,none⟩ :: rest) ⟨n,tm,hp⟩ Q:=by
 obtain rfl:=nf hc
 exact ZU hx h1 hn kk
theorem bu {E:TypeId} {i:TypeInfo} {z:Value} {cs:List AV} [aU P E i] (hz:i.zero=some z) (hc:uf (EV z).cells=some cs) (h1:lE cs=true) (hn:Nat.blt d n=true)
 (kk:∀ b:Bk,ae P all rest ⟨n,(d,.ptr b 0) :: tm,(b,.cells cs) :: hp⟩ Q):ae P all (⟨some d,.alloc E,ty,pos,af,none⟩ :: rest) ⟨n,tm,hp⟩ Q:=by
 obtain rfl:=nf hc
 exact TS hz h1 hn kk
theorem ar {x:Operand} {s:TypeId} {j off:Nat} {b:Bk} {o o':Nat} [mK P s j off] (hx:dx tm x=some (.ptr b o)) (ho:o+off=o'):QV P ⟨some d,.fieldAddr s x j,ty,pos,af,none⟩ ⟨n,tm,hp⟩ (.ptr b o'):=by
 subst ho
 exact J0 hx
theorem bY {x:Operand} {s:TypeId} {j off:Nat} {cs oI:List AV} [mK P s j off] (hx:dx tm x=some (.mG cs)) (hc:uf (cs.drop off)=some oI):QV P ⟨some d,.fieldAddr s x j,ty,pos,af,none⟩ ⟨n,tm,hp⟩ (.mG oI):=by
 obtain rfl:=nf hc
 exact IC hx
theorem aY {t:TypeId} {D:TypeDesc} {i:TypeInfo} {x:Operand} {b:Bk} {o:Nat} {cs oI:List AV} [aC P t D] [aU P t i] (hD:TypeDesc.lZ D=true) (hx:dx tm x=some (.ptr b o)) (f:oG hp b (.cells cs)) (ho:Nat.ble (o+i.size) cs.length=true) (hc:uf ((cs.drop o).take i.size)=some oI):
 QV P ⟨some d,.load t x,ty,pos,af,none⟩ ⟨n,tm,hp⟩ (.agg oI):=by
 obtain rfl:=nf hc
 exact DX hD hx f ho
theorem bq {t:TypeId} {i:TypeInfo} {z:Value} {parts:List (Nat×Operand)} {l:List (Nat×AV)} {cs oI:List AV} {pl:List (Nat×Nat)} [aU P t i] [jB P t pl] (hz:i.zero=some z) (hl:YA tm parts=some l) (h1:lE (EV z).cells=true)
 (hc:Hu pl (EV z).cells l=some cs) (P6:uf cs=some oI):QV P ⟨some d,.build t parts.toArray,ty,pos,af,none⟩ ⟨n,tm,hp⟩ (.agg oI):=by
 obtain rfl:=nf P6
 exact TU hz hl h1 hc
theorem ay {t:TypeId} {i:TypeInfo} {x y:Operand} {b:Bk} {o:Nat} {cs oI:List AV} {av:AV} {fj:Heap} [aU P t i] (hx:dx tm x=some (.ptr b o)) (hy:dx tm y=some av) (h1:lE av.cells=true) (j9:Nat.beq av.cells.length i.size=true)
 (u:sL hp b (.cells cs) b (.cells oI) fj) (hc:uf (pR cs o av.cells)=some oI) (ho:Nat.ble (o+av.cells.length) cs.length=true) (kk:ae P all rest ⟨n,tm,fj⟩ Q):ae P all (⟨none,.store t x y,ty,pos,af,none⟩ :: rest) ⟨n,tm,hp⟩ Q:=by
 obtain rfl:=nf hc
 exact Ka hx hy h1 j9 u ho kk
theorem aF {t e:TypeId} {i:TypeInfo} {z:Value} {len sz:Nat} {parts:List (Nat×Operand)} {xs:List AV} [aC P t (.slice e)] [aU P e i] [kI P e sz] (hz:i.zero=some z) (hl:NB tm parts 0=some xs) (hlen:Nat.beq parts.length len=true) (yQ:yR i.size xs=true)
 (L0:Nat.ble (len * i.size) 16777216=true) (hn:Nat.blt d n=true) (kk:ae P all rest ⟨n,(d,.list sz xs) :: tm,hp⟩ Q):ae P all (⟨some d,.buildSlice t len parts.toArray,ty,pos,af,none⟩ :: rest) ⟨n,tm,hp⟩ Q:=by
 obtain ⟨i',h1,h2⟩:=kI.h (P:=P) (t:=e)
 obtain rfl:i'=i:=by rw [aU.h (P:=P) (t:=e)] at h1;exact (Option.some.inj h1).symm
 subst h2
 exact GO hz hl hlen yQ L0 hn kk
theorem rK {t e:TypeId} {i:TypeInfo} {z:Value} {len sz:Nat} {parts:List (Nat×Operand)} {xs:List AV} [aC P t (.slice e)] [aU P e i] [kI P e sz] (hz:i.zero=some z) (hl:NB tm parts 0=some xs) (hlen:Nat.beq parts.length len=true) (yQ:yR i.size xs=true)
 (L0:Nat.ble (len * i.size) 16777216=true) (hn:Nat.blt d n=true) (kk:∀ b:Bk,ae P all rest ⟨n,(d,.sl sz b 0 len) :: tm,(b,.arr sz xs) :: hp⟩ Q):ae P all (⟨some d,.buildSlice t len parts.toArray,ty,pos,af,none⟩ :: rest) ⟨n,tm,hp⟩ Q:=by
 obtain ⟨i',h1,h2⟩:=kI.h (P:=P) (t:=e)
 obtain rfl:i'=i:=by rw [aU.h (P:=P) (t:=e)] at h1;exact (Option.some.inj h1).symm
 subst h2
 exact BL hz hl hlen yQ L0 hn kk
end rules
structure Grow (w:World) (S:Nat→Prop) (w':World) (S':Nat→Prop):Prop where
 ext:Ext w w'
 up:∀ n,S n→S' n
 down:∀ n,n < w.heap.size→S' n→S n
 slt:∀ n,S' n→n < w'.heap.size
theorem Grow.refl {w:World} {S:Nat→Prop} (h:∀ n,S n→n < w.heap.size):Grow w S w S:=⟨Ext.refl w,fun _ h=>h,fun _ _ h=>h,h⟩
theorem Grow.trans {a b c:World} {S T U:Nat→Prop} (h:Grow a S b T) (k:Grow b T c U):Grow a S c U:=
 ⟨h.ext.trans k.ext,fun n hn=>k.up n (h.up n hn),fun n hn hs=>h.down n hn (k.down n (Nat.lt_of_lt_of_le hn h.ext.size) hs),k.slt⟩
theorem Grow.mZ {w w':World} {S S':Nat→Prop} (g:Grow w S w' S') (h:∀ n,S n→n < w.heap.size):∀ n,S n→S' n∧w'.heap[n]? =w.heap[n]?:=fun n hn=>⟨g.up n hn,g.ext.same n (h n hn)⟩
theorem dO.grow {w w':World} {S S':Nat→Prop} {h:Heap} (r:dO w S h) (g:Grow w S w' S'):dO w' S' h where
 nodup:=r.nodup
 holds e he:=(r.holds e he).mono (g.mZ r.slt) (fun n hn=>g.ext.same n (r.lt ⟨e,he,hn⟩))
 sep e he n hn:=by
  rw [← r.sep e he n hn]
  exact ⟨g.down n (r.lt ⟨e,he,hn⟩),g.up n⟩
 slt:=g.slt
 hJ t o ho:=⟨(g.mZ r.slt t (r.hJ t o ho).1).1,EO (g.mZ r.slt t (r.hJ t o ho).1).2 (r.hJ t o ho).2⟩
theorem Grow.evo {w w':World} {S S':Nat→Prop} (g:Grow w S w' S') (h:∀ n,S n→n < w.heap.size) (hp:Heap):lD w S hp w' S' hp:=
 ⟨g.ext.os,g.ext.tape,g.ext.output,g.ext.size,g.mZ h,fun n hn _=>⟨g.ext.same n hn,g.down n hn⟩,fun _ hn=>.inl hn,g.ext.drawn⟩
def looks (all:Array Oper) (o:Oper):List Nat:=
 (o.op.operands.toList.filterMap fun | .tmp t=>some t | _=>none)++(match o.guard with | some (g,_)=>((all[g]?).bind (·.dst)).toList | none=>[])
abbrev Env:=Nat→Option AV
def IF (w:World) (S:Nat→Prop) (ls:List Nat) (e:Env) (a:Act):Prop:=∀ s∈ls,∀ av,e s=some av→∃ v,a.tmps[s]? =some v∧At w S av v
def MV (P:Program) (all:Array Oper) (n:Nat) (o:Oper) (e:Env) (hp:Heap) (av:AV):Prop:=
 ∀ w S a,a.tmps.size=n→a.defers=[]→dO w S hp→IF w S (looks all o) e a→∀ (K:Act→World→Prop) (Q:Exit→Act→World→Prop),
   (∀ v w' S',Grow w S w' S'→At w' S' av v→K (a.put o.dst v) w')→o.wp P a w K Q
def Af (e:Env) (d:Option Nat) (av:AV):Env:=match d with
 | some d=>fun s=>if d=s then some av else e s
 | none=>e
def qP (all:Array Oper) (o:Oper) (e:Env) (b:Bool):Prop:=
 match o.guard with
 | none=>b=true
 | some (j,want)=>∃ s,(all[j]?).bind (·.dst)=some s∧((∃ c,e s=some (.bool c)∧b=(c==want))∨(e s=some (.raw undef)∧b=false))
inductive T9 (P:Program) (all:Array Oper) (n:Nat) (hp:Heap):List Oper→Env→Env→Prop
 | nil (e:Env):T9 P all n hp [] e e
 | run {o:Oper} {l:List Oper} {e e':Env} {av:AV} (hg:qP all o e true) (h:MV P all n o e hp av) (hd:∀ d,o.dst=some d→d < n) (k:T9 P all n hp l (Af e o.dst av) e'):T9 P all n hp (o :: l) e e'
 | pass {o:Oper} {l:List Oper} {e e':Env} (hg:qP all o e false) (hd:∀ d,o.dst=some d→d < n) (k:T9 P all n hp l (Af e o.dst (.raw undef)) e'):T9 P all n hp (o :: l) e e'
def VW (P:Program) (all:Array Oper) (n:Nat) (hp:Heap) (o:Oper) (e:Env) (av:AV):Prop:=
 (∀ d,o.dst=some d→d < n)∧((qP all o e true∧MV P all n o e hp av)∨(qP all o e false∧av=.raw undef))
theorem T9.Mh {P:Program} {all:Array Oper} {n:Nat} {hp:Heap} {l:List Oper} {e e':Env} (h:T9 P all n hp l e e'):
 ∃ (ng:Nat→AV) (en:Nat→Env),en 0=e∧en l.length=e'∧∀ i o,l[i]? =some o→VW P all n hp o (en i) (ng i)∧en (i+1)=Af (en i) o.dst (ng i):=by
 induction h with
 | nil e=>exact ⟨fun _=>.nil,fun _=>e,rfl,rfl,fun i o h=>by simp at h⟩
 | @run o l e e' av hg hm hd k ih=>
   obtain ⟨ng,en,h0,h1,h2⟩:=ih
   refine ⟨fun i=>match i with | 0=>av | i+1=>ng i,fun i=>match i with | 0=>e | i+1=>en i,rfl,h1,fun i o' ho=>?_⟩
   match i with
   | 0=>simp at ho;subst ho;exact ⟨⟨hd,.inl ⟨hg,hm⟩⟩,h0⟩
   | i+1=>exact h2 i o' (by simpa using ho)
 | @pass o l e e' hg hd k ih=>
   obtain ⟨ng,en,h0,h1,h2⟩:=ih
   refine ⟨fun i=>match i with | 0=>.raw undef | i+1=>ng i,fun i=>match i with | 0=>e | i+1=>en i,rfl,h1,fun i o' ho=>?_⟩
   match i with
   | 0=>simp at ho;subst ho;exact ⟨⟨hd,.inr ⟨hg,rfl⟩⟩,h0⟩
   | i+1=>exact h2 i o' (by simpa using ho)
def waits (o:Oper) (i:Nat):Bool:=o.after.toList.any fun e=>Region.binds .any e&&Nat.beq e.on i
def Dw (all:Array Oper) (oi oj:Oper):Bool:=
 match oi.dst,oj.dst with
 | some d,some d'=>(looks all oj).contains d||(looks all oi).contains d'||Nat.beq d d'
 | some d,none=>(looks all oj).contains d
 | none,some d'=>(looks all oi).contains d'
 | none,none=>false
inductive Dx (all:Array Oper):Nat→Nat→Prop
 | one {j i:Nat} {oj:Oper} (hj:all[j]? =some oj) (hw:waits oj i=true):Dx all j i
 | step {j k i:Nat} {oj:Oper} (hj:all[j]? =some oj) (hw:waits oj k=true) (h:Dx all k i):Dx all j i
def IG (acc:List Nat):List Edge→Nat→Nat
 | [],m=>m
 | e :: r,m=>IG acc r (match Region.binds .any e with
   | true=>m||| (1 <<< e.on)||| acc.getD e.on 0
   | false=>m)
def QE:List Oper→List Nat→List Nat
 | [],acc=>acc
 | o :: r,acc=>QE r (acc++[IG acc o.after.toList 0])
def OM (all:Array Oper):List Nat:=QE all.toList []
theorem Dy {acc:List Nat} {i:Nat}:∀ (es:List Edge) (m:Nat),(IG acc es m).testBit i=true→m.testBit i=true∨∃ e∈es,Region.binds .any e=true∧(e.on=i∨(acc.getD e.on 0).testBit i=true)
 | [],m,h=>.inl h
 | e :: r,m,h=>by
   simp only [IG] at h
   rcases Dy r _ h with h | ⟨e',he,hb,hh⟩
   ·split at h
    ·rename_i hb
     rw [Nat.testBit_or,Nat.testBit_or,Bool.or_eq_true,Bool.or_eq_true] at h
     rcases h with (h | h) | h
     ·exact .inl h
     ·refine .inr ⟨e,by simp,hb,.inl ?_⟩
      rw [Nat.one_shiftLeft,Nat.testBit_two_pow] at h
      simpa using h
     ·exact .inr ⟨e,by simp,hb,.inr h⟩
    ·exact .inl h
   ·exact .inr ⟨e',by simp [he],hb,hh⟩
theorem E5 {all:Array Oper}:∀ (l:List Oper) (acc:List Nat) (pre:List Oper),all.toList=pre++l→acc.length=pre.length→(∀ j i,(acc.getD j 0).testBit i=true→Dx all j i)→∀ j i,((QE l acc).getD j 0).testBit i=true→Dx all j i
 | [],acc,pre,_,_,h=>h
 | o :: r,acc,pre,hl,hlen,h=>by
   refine E5 r _ (pre++[o]) (by simpa using hl) (by simp [hlen]) (fun j i hb=>?_)
   rcases Nat.lt_or_ge j acc.length with hj | hj
   ·refine h j i ?_
    rw [List.getD_eq_getElem?_getD,List.getElem?_append_left hj] at hb
    rw [List.getD_eq_getElem?_getD]
    exact hb
   ·by_cases hje:j=acc.length
    ·rw [List.getD_eq_getElem?_getD,List.getElem?_append_right hj,hje] at hb
     simp only [Nat.sub_self,List.getElem?_cons_zero,Option.getD_some] at hb
     have Tm:all[j]? =some o:=by
      rw [← Array.getElem?_toList,hl,List.getElem?_append_right (by omega),hje,hlen];simp
     rcases Dy _ _ hb with hz | ⟨e,he,hbd,hh⟩
     ·simp at hz
     ·have hw:waits o e.on=true:=by
       simp only [waits,List.any_eq_true,Bool.and_eq_true]
       exact ⟨e,he,hbd,by simp⟩
      rcases hh with hh | hh
      ·subst hh;exact .one Tm hw
      ·exact .step Tm hw (h _ _ hh)
    ·rw [List.getD_eq_getElem?_getD,List.getElem?_append_right hj,List.getElem?_eq_none (by simp;omega)] at hb
     simp at hb
theorem qW {all:Array Oper} {j i:Nat} (h:((OM all).getD j 0).testBit i=true):Dx all j i:=
 E5 all.toList [] [] (by simp) rfl (fun j i h=>by simp at h) j i h
def Kj (all:Array Oper) (m:Nat) (A:List Nat):Bool:=
 (List.range all.size).all fun j=>match all[j]? with
  | none=>true
  | some oj=>(oj.after.all fun e=>!Region.binds .any e||Nat.blt e.on j)&&(List.range j).all fun i=>match all[i]? with
    | none=>true
    | some oi=>if Nat.blt j m then !Dw all oi oj||(A.getD j 0).testBit i else (A.getD j 0).testBit i
def ym (all:Array Oper) (m:Nat):Prop:=∃ A,OM all=A∧Kj all m A=true
theorem lH {all:Array Oper} {m:Nat} (h:ym all m) {i j:Nat} {oi oj:Oper} (hj:all[j]? =some oj) (hi:all[i]? =some oi) (E6:i < j):(j < m→Dw all oi oj=true→Dx all j i)∧(m≤j→Dx all j i):=by
 obtain ⟨A,hA,h⟩:=h
 subst hA
 have VX:j < all.size:=(Array.getElem?_eq_some_iff.1 hj).1
 simp only [Kj,List.all_eq_true,List.mem_range] at h
 have h1:=h j VX
 rw [hj] at h1
 simp only [Bool.and_eq_true,List.all_eq_true,List.mem_range] at h1
 have h2:=h1.2 i E6
 rw [hi] at h2
 simp only at h2
 refine ⟨fun hm hc=>?_,fun hm=>?_⟩
 ·rw [if_pos (by simpa using hm)] at h2
  exact qW (by simpa [hc] using h2)
 ·rw [if_neg (by simp;omega)] at h2
  exact qW h2
theorem A4 {all:Array Oper} {m:Nat} (h:ym all m) {j:Nat} {oj:Oper} (hj:all[j]? =some oj) {e:Edge} (he:e∈oj.after) (hb:Region.binds .any e=true):e.on < j:=by
 obtain ⟨A,hA,h⟩:=h
 have VX:j < all.size:=(Array.getElem?_eq_some_iff.1 hj).1
 simp only [Kj,List.all_eq_true,List.mem_range] at h
 have h1:=h j VX
 rw [hj] at h1
 simp only [Bool.and_eq_true,Array.all_eq_true_iff_forall_mem] at h1
 have:=h1.1 e he
 simpa [hb] using this
theorem wo {all:Array Oper} {listed:Array Bool} {i j:Nat} {oj:Oper} (hj:all[j]? =some oj) (hr:j∈Region.ready .any all listed) (hw:waits oj i=true):listed.getD i false=true:=by
 simp only [Region.ready,List.mem_filter,List.mem_range,hj,Option.map_some,Option.getD_some,Bool.and_eq_true,Array.all_eq_true_iff_forall_mem] at hr
 simp only [waits,List.any_eq_true,Bool.and_eq_true] at hw
 obtain ⟨e,he,hb,Z5⟩:=hw
 have:=hr.2.2 e (by simpa using he)
 rw [hb] at this
 obtain rfl:e.on=i:=Nat.eq_of_beq_eq_true Z5
 simpa using this
def mL (all:Array Oper) (listed:Array Bool):Prop:=∀ k i o,listed.getD k false=true→all[k]? =some o→waits o i=true→listed.getD i false=true
theorem mL.Ua {all:Array Oper} {listed:Array Bool} (c:mL all listed) {j i:Nat} (h:Dx all j i) (hl:listed.getD j false=true):listed.getD i false=true:=by
 induction h with
 | one hj hw=>exact c _ _ _ hl hj hw
 | step hj hw _ ih=>exact ih (c _ _ _ hl hj hw)
theorem mL.ready {all:Array Oper} {listed:Array Bool} (c:mL all listed) {j i:Nat} (h:Dx all j i) (hr:j∈Region.ready .any all listed):listed.getD i false=true:=by
 cases h with
 | one hj hw=>exact wo hj hr hw
 | step hj hw h=>exact c.Ua h (wo hj hr hw)
theorem zH {all:Array Oper} {listed:Array Bool} {j:Nat} (hr:j∈Region.ready .any all listed):j < all.size∧listed.getD j true=false:=by
 simp only [Region.ready,List.mem_filter,List.mem_range,Bool.and_eq_true] at hr
 exact ⟨hr.1,by simpa using hr.2.1⟩
theorem CT {all:Array Oper} {m:Nat} (h:ym all m) {listed:Array Bool} (hl:listed.size=all.size) (hr:Region.ready .any all listed=[]):∀ i,i < all.size→listed.getD i false=true:=by
 intro i
 induction i using Nat.strongRecOn with
 | _ i ih=>
   intro hi
   cases hv:listed.getD i false with
   | true=>rfl
   | false=>
     exfalso
     have:i∈Region.ready .any all listed:=by
      simp only [Region.ready,List.mem_filter,List.mem_range,Bool.and_eq_true]
      have hli:i < listed.size:=by omega
      refine ⟨hi,?_,?_⟩
      ·simp [hli] at hv ⊢;exact hv
      ·have Dz:all[i]? =some all[i]:=by simp [hi]
       rw [Dz]
       simp only [Option.map_some,Option.getD_some,Array.all_eq_true_iff_forall_mem]
       intro e he
       cases hb:Region.binds .any e with
       | false=>simp
       | true=>
         have lV:=A4 h Dz he hb
         simp [ih e.on lV (by omega)]
     rw [hr] at this
     simp at this
section order
variable {P:Program} {all:Array Oper} {n m:Nat} {hp:Heap}
def cur (all:Array Oper) (ng:Nat→AV) (e:Env) (listed:Array Bool):Nat→Env
 | 0=>e
 | k+1=>if listed.getD k false then Af (cur all ng e listed k) ((all[k]?).bind (·.dst)) (ng k) else cur all ng e listed k
theorem oh {e:Env} {d:Option Nat} {av:AV} {s:Nat} (h:d≠some s):Af e d av s=e s:=by
 cases d with
 | none=>rfl
 | some d=>simp only [Af];rw [if_neg (fun e=>h (by rw [e]))]
theorem rO {e:Env} {av:AV} {s:Nat}:Af e (some s) av s=some av:=by simp [Af]
theorem A5 {oi oj:Oper} {s:Nat} (hd:oi.dst=some s) (hs:s∈looks all oj):Dw all oi oj=true:=by
 unfold Dw
 rw [hd]
 cases hj:oj.dst<;>simp [hs]
theorem DA {oi oj:Oper} {s:Nat} (hd:oj.dst=some s) (hs:s∈looks all oi):Dw all oi oj=true:=by
 unfold Dw
 rw [hd]
 cases hi:oi.dst<;>simp [hs]
theorem HA {oi oj:Oper} {s:Nat} (hi:oi.dst=some s) (hj:oj.dst=some s):Dw all oi oj=true:=by
 unfold Dw
 rw [hi,hj]
 simp
structure Tn (all:Array Oper) (m:Nat) (listed:Array Bool):Prop where
 size:listed.size=all.size
 head:∀ k,listed.getD k false=true→k < m
 closed:∀ k i o,listed.getD k false=true→all[k]? =some o→waits o i=true→listed.getD i false=true
theorem EC {listed:Array Bool} {i:Nat} (h:listed.getD i true=false):listed.getD i false=false:=by
 by_cases hi:i < listed.size
 ·simp [hi] at h ⊢;exact h
 ·simp [hi]
variable {ng:Nat→AV} {en:Nat→Env} {e:Env}
theorem QF (hB:ym all m) {listed:Array Bool} (L:Tn all m listed) (h0:en 0=e) (hs:∀ i o,i < m→all[i]? =some o→en (i+1)=Af (en i) o.dst (ng i)) (hm:m≤all.size)
 {i:Nat} {o:Oper} (ho:all[i]? =some o) (JO:i < m) (Ag:listed.getD i false=false) (hr:∀ j,Dx all i j→listed.getD j false=true) {s:Nat} (QG:s∈looks all o):∀ k,k≤all.size→cur all ng e listed k s=en (min k i) s:=by
 intro k
 induction k with
 | zero=>intro _;simp [cur,h0]
 | succ k ih=>
   intro hk
   have xJ:=ih (by omega)
   have xK:all[k]? =some all[k]:=by simp [show k < all.size by omega]
   simp only [cur,xK,Option.bind_some]
   rcases Nat.lt_trichotomy k i with lV | heq | QH
   ·rw [Nat.min_eq_left (by omega)] at xJ
    rw [Nat.min_eq_left (by omega),hs k _ (by omega) xK]
    by_cases hd:(all[k]).dst=some s
    ·have hl:listed.getD k false=true:=hr k ((lH hB ho xK lV).1 JO (A5 hd QG))
     rw [if_pos hl,hd,rO,rO]
    ·rw [oh hd]
     split
     ·rw [oh hd];exact xJ
     ·exact xJ
   ·subst heq
    rw [Ag]
    simp only [Bool.false_eq_true,if_false]
    rw [Nat.min_eq_right (by omega)]
    rw [Nat.min_eq_right (by omega)] at xJ
    exact xJ
   ·rw [Nat.min_eq_right (by omega)] at xJ
    rw [Nat.min_eq_right (by omega)]
    by_cases hl:listed.getD k false=true
    ·by_cases hd:(all[k]).dst=some s
     ·exfalso
      have hw:=(lH hB xK ho QH).1 (L.head k hl) (DA hd QG)
      have:=mL.Ua L.closed hw hl
      rw [Ag] at this;cases this
     ·rw [if_pos hl,oh hd];exact xJ
    ·rw [if_neg hl];exact xJ
theorem kf {listed:Array Bool} {i k:Nat} (hi:i < listed.size):(listed.setIfInBounds i true).getD k false=(if k=i then true else listed.getD k false):=by
 by_cases hk:k < listed.size
 ·simp [hk,Array.getElem_setIfInBounds]
  by_cases h:k=i
  ·simp [h]
  ·have h':¬ i=k:=fun e=>h e.symm
   simp [h,h']
 ·have:k≠i:=by omega
  simp [hk,this]
theorem Ub (hB:ym all m) {listed:Array Bool} (L:Tn all m listed) {i:Nat} {o:Oper} (ho:all[i]? =some o) (JO:i < m) (Ag:listed.getD i false=false) (s:Nat):
 ∀ k,k≤all.size→cur all ng e (listed.setIfInBounds i true) k s=(if i < k then Af (cur all ng e listed k) o.dst (ng i) s else cur all ng e listed k s):=by
 have hi:i < listed.size:=by rw [L.size];exact (Array.getElem?_eq_some_iff.1 ho).1
 intro k
 induction k with
 | zero=>intro _;simp [cur]
 | succ k ih=>
   intro hk
   have xJ:=ih (by omega)
   have xK:all[k]? =some all[k]:=by simp [show k < all.size by omega]
   simp only [cur,xK,Option.bind_some,kf hi]
   rcases Nat.lt_trichotomy k i with lV | heq | QH
   ·rw [if_neg (by omega)] at xJ
    have e1:(if k=i then true else listed.getD k false)=listed.getD k false:=if_neg (by omega)
    rw [e1,if_neg (show ¬ i < k+1 by omega)]
    by_cases hl:listed.getD k false=true
    ·rw [if_pos hl,if_pos hl]
     by_cases hd:(all[k]).dst=some s
     ·rw [hd,rO,rO]
     ·rw [oh hd,oh hd];exact xJ
    ·rw [if_neg hl,if_neg hl];exact xJ
   ·subst heq
    rw [if_neg (by omega)] at xJ
    have e1:(if k=k then true else listed.getD k false)=true:=if_pos rfl
    rw [e1,if_pos (show k < k+1 by omega),if_pos rfl,Ag,if_neg Bool.false_ne_true]
    obtain rfl:all[k]=o:=by rw [xK] at ho;exact Option.some.inj ho
    by_cases hd:(all[k]).dst=some s
    ·rw [hd,rO,rO]
    ·rw [oh hd,oh hd];exact xJ
   ·rw [if_pos QH] at xJ
    have e1:(if k=i then true else listed.getD k false)=listed.getD k false:=if_neg (by omega)
    rw [e1,if_pos (show i < k+1 by omega)]
    by_cases hl:listed.getD k false=true
    ·rw [if_pos hl,if_pos hl]
     by_cases hd:(all[k]).dst=some s
     ·by_cases ON:o.dst=some s
      ·exfalso
       have hw:=(lH hB xK ho QH).1 (L.head k hl) (HA ON hd)
       have:=mL.Ua L.closed hw hl
       rw [Ag] at this;cases this
      ·rw [hd,rO,oh ON,rO]
     ·by_cases ON:o.dst=some s
      ·rw [oh hd,xJ,ON,rO,rO]
      ·rw [oh hd,xJ,oh ON,oh ON,oh hd]
    ·rw [if_neg hl,if_neg hl];exact xJ
theorem Kk (hB:ym all m) {Q:Exit→Act→World→Prop}:∀ (fuel k:Nat) (listed:Array Bool) (a:Act) (w:World),m≤k→k+fuel=all.size→listed.size=all.size→(∀ i,i < k→listed.getD i false=true)→(∀ i,k≤i→listed.getD i false=false)→
 wpList P all Q (all.toList.drop k) a w→wpAny P .any all Q fuel listed a w:=by
 intro fuel
 induction fuel with
 | zero=>
   intro k listed a w hm hk j9 h1 h2 h
   have QI:all.toList.drop k=[]:=List.drop_eq_nil_of_le (by simp;omega)
   rw [QI] at h
   refine ⟨?_,h⟩
   refine List.eq_nil_iff_forall_not_mem.2 fun i hi=>?_
   obtain ⟨L4,Mi⟩:=zH hi
   have:=h1 i (by omega)
   rw [EC Mi] at this
   cases this
 | succ fuel ih=>
   intro k listed a w hm hk j9 h1 h2 h
   have hks:k < all.size:=by omega
   have xK:all[k]? =some all[k]:=by simp [hks]
   refine ⟨fun hr=>?_,fun i hi=>?_⟩
   ·have:=CT hB j9 hr k hks
    rw [h2 k (Nat.le_refl _)] at this
    cases this
   ·obtain ⟨L4,Mi⟩:=zH hi
    have Dz:all[i]? =some all[i]:=by simp [L4]
    obtain rfl:i=k:=by
     rcases Nat.lt_trichotomy i k with lV | heq | QH
     ·have:=h1 i lV;rw [EC Mi] at this;cases this
     ·exact heq
     ·have Hs:mL all listed:=fun k' i' o hk' ho' hw'=>by
       have lV:k' < k:=by
        rcases Nat.lt_or_ge k' k with h | h
        ·exact h
        ·rw [h2 k' h] at hk';cases hk'
       simp only [waits,List.any_eq_true,Bool.and_eq_true] at hw'
       obtain ⟨e',he',EU,WK⟩:=hw'
       have:=A4 hB ho' (by simpa using he') EU
       obtain rfl:e'.on=i':=Nat.eq_of_beq_eq_true WK
       exact h1 _ (by omega)
      have:=Hs.ready ((lH hB Dz xK QH).2 (by omega)) hi
      rw [h2 k (Nat.le_refl _)] at this;cases this
    have Z6:all.toList.drop i=all[i] :: all.toList.drop (i+1):=by
     rw [List.drop_eq_getElem_cons (by simpa using hks)]
     simp
    rw [Z6] at h
    unfold wpList at h
    simp only [wpOp,xK]
    have next:∀ a w,wpList P all Q (all.toList.drop (i+1)) a w→wpAny P .any all Q fuel (listed.setIfInBounds i true) a w:=fun a w hh=>by
     have w8:i < listed.size:=by omega
     refine ih (i+1) (listed.setIfInBounds i true) a w (by omega) (by omega) (by simpa using j9) (fun j hj=>?_) (fun j hj=>?_) hh
     ·rw [kf w8];split
      ·rfl
      ·exact h1 j (by omega)
     ·rw [kf w8,if_neg (by omega)];exact h2 j (by omega)
    split at h
    ·rename_i hw
     rw [if_pos hw]
     exact h.imp (fun hh=>Oper.wp_mono next hh) id
    ·rename_i hw
     rw [if_neg hw]
     exact next _ _ h
theorem zI {o:Oper} {e:Env} {b:Bool} {w:World} {S:Nat→Prop} {a:Act} (hw:qP all o e b) (r:IF w S (looks all o) e a):Region.wanted o (yielded all a.tmps)=b:=by
 unfold qP at hw
 unfold Region.wanted
 cases hg:o.guard with
 | none=>rw [hg] at hw;simp only at hw;rw [hw]
 | some g=>
   obtain ⟨j,want⟩:=g
   rw [hg] at hw
   simp only at hw
   obtain ⟨s,h1,⟨c,h2,h3⟩ | ⟨h2,h3⟩⟩:=hw
   ·obtain ⟨v,g1,g2⟩:=r s (by simp [looks,hg,h1]) _ h2
    cases g2
    rw [h3]
    cases c<;>cases want<;>simp [yielded,h1,g1]
   ·obtain ⟨v,g1,g2⟩:=r s (by simp [looks,hg,h1]) _ h2
    cases g2
    rw [h3]
    simp [yielded,h1,g1,undef]
def E7 (w:World) (S:Nat→Prop) (e:Env) (a:Act):Prop:=∀ s av,e s=some av→∃ v,a.tmps[s]? =some v∧At w S av v
theorem QJ (hB:ym all m) (hm:m≤all.size) {Q:Exit→Act→World→Prop} (h0:en 0=e) (hs:∀ i o,i < m→all[i]? =some o→VW P all n hp o (en i) (ng i)∧en (i+1)=Af (en i) o.dst (ng i)) {w0:World} {S0:Nat→Prop}
 (fin:∀ a w S,a.tmps.size=n→a.defers=[]→dO w S hp→Grow w0 S0 w S→E7 w S (en m) a→wpList P all Q (all.toList.drop m) a w):
 ∀ (fuel:Nat) (listed:Array Bool) (a:Act) (w:World) (S:Nat→Prop),Tn all m listed→(listed.toList.count true)+fuel=all.size→a.tmps.size=n→a.defers=[]→dO w S hp→Grow w0 S0 w S→E7 w S (cur all ng e listed all.size) a→
   wpAny P .any all Q fuel listed a w:=by
 have Z7:∀ i o,i < m→all[i]? =some o→en (i+1)=Af (en i) o.dst (ng i):=fun i o h1 h2=>(hs i o h1 h2).2
 have done:∀ (fuel:Nat) (listed:Array Bool) (a:Act) (w:World) (S:Nat→Prop),Tn all m listed→(listed.toList.count true)+fuel=all.size→a.tmps.size=n→a.defers=[]→dO w S hp→Grow w0 S0 w S→E7 w S (cur all ng e listed all.size) a→
  (∀ i,i < m→listed.getD i false=true)→wpAny P .any all Q fuel listed a w:=by
  intro fuel listed a w S L hc j9 Mj hr hg yl rj
  have Kl:∀ i,m≤i→listed.getD i false=false:=fun i hi=>by
   cases hv:listed.getD i false with
   | false=>rfl
   | true=>have:=L.head i hv;omega
  have WL:listed.toList.count true=m:=by
   have:listed.toList=List.replicate m true++List.replicate (all.size - m) false:=by
    apply List.ext_getElem?
    intro i
    rcases Nat.lt_or_ge i m with hi | hi
    ·have w8:i < listed.size:=by rw [L.size];omega
     rw [List.getElem?_append_left (by simpa using hi)]
     have:=rj i hi
     simp [w8] at this
     simp [w8,hi,this]
    ·rw [List.getElem?_append_right (by simpa using hi)]
     rcases Nat.lt_or_ge i listed.size with w8 | w8
     ·have:=Kl i hi
      simp [w8] at this
      have h2:i - m < all.size - m:=by rw [L.size] at w8;omega
      simp [w8,h2,this]
     ·have h2:¬ i - m < all.size - m:=by rw [L.size] at w8;omega
      simp [List.getElem?_eq_none (l:=listed.toList) (by simpa using w8),h2]
   rw [this,List.count_append,List.count_replicate,List.count_replicate]
   simp
  have WM:cur all ng e listed all.size=en m:=by
   have key:∀ k,k≤all.size→cur all ng e listed k=en (min k m):=by
    intro k
    induction k with
    | zero=>intro _;simp [cur,h0]
    | succ k ih=>
      intro hk
      have xK:all[k]? =some all[k]:=by simp [show k < all.size by omega]
      simp only [cur,xK,Option.bind_some,ih (by omega)]
      rcases Nat.lt_or_ge k m with h | h
      ·rw [if_pos (rj k h),Nat.min_eq_left (by omega),Nat.min_eq_left (by omega),Z7 k _ h xK]
      ·rw [if_neg (by rw [Kl k h];simp),Nat.min_eq_right (by omega),Nat.min_eq_right (by omega)]
   rw [key all.size (Nat.le_refl _),Nat.min_eq_right hm]
  rw [WM] at yl
  exact Kk hB fuel m listed a w (Nat.le_refl _) (by omega) L.size rj Kl (fin a w S j9 Mj hr hg yl)
 intro fuel
 induction fuel with
 | zero=>
   intro listed a w S L hc j9 Mj hr hg yl
   refine done 0 listed a w S L hc j9 Mj hr hg yl (fun i hi=>?_)
   have Km:listed.toList.count true=listed.toList.length:=by rw [Array.length_toList,L.size];omega
   have rj:=List.count_eq_length.1 Km
   have w8:i < listed.size:=by rw [L.size];omega
   have:=rj listed[i] (by simp)
   simp [w8];exact this.symm
 | succ fuel ih=>
   intro listed a w S L hc j9 Mj hr hg yl
   by_cases rj:∀ i,i < m→listed.getD i false=true
   ·exact done _ listed a w S L hc j9 Mj hr hg yl rj
   ·refine ⟨fun QK=>(rj fun i hi=>CT hB L.size QK i (by omega)).elim,fun i hi=>?_⟩
    obtain ⟨L4,Mi⟩:=zH hi
    have Ag:=EC Mi
    have Dz:all[i]? =some all[i]:=by simp [L4]
    have JO:i < m:=by
     rcases Nat.lt_or_ge i m with h | h
     ·exact h
     ·refine (rj fun j hj=>?_).elim
      have Tm:all[j]? =some all[j]:=by simp [show j < all.size by omega]
      exact mL.ready L.closed ((lH hB Dz Tm (by omega)).2 h) hi
    have w8:i < listed.size:=by rw [L.size];exact L4
    obtain ⟨⟨VO,QL⟩,_⟩:=hs i _ JO Dz
    have A2:IF w S (looks all all[i]) (en i) a:=by
     intro s QG av sJ
     have hc:=QF (ng:=ng) (en:=en) (e:=e) hB L h0 Z7 hm Dz JO Ag (fun j hj=>mL.ready L.closed hj hi) QG all.size (Nat.le_refl _)
     rw [Nat.min_eq_right (by omega)] at hc
     exact yl s av (by rw [hc];exact sJ)
    have L':Tn all m (listed.setIfInBounds i true):=by
     refine ⟨by simpa using L.size,fun k hk=>?_,fun k j o hk xK hw=>?_⟩
     ·rw [kf w8] at hk
      split at hk
      ·omega
      ·exact L.head k hk
     ·rw [kf w8] at hk
      rw [kf w8]
      split
      ·rfl
      ·split at hk
       ·rename_i hki
        subst hki
        obtain rfl:all[k]=o:=by rw [Dz] at xK;exact Option.some.inj xK
        exact wo Dz hi hw
       ·exact L.closed k j o hk xK hw
    have Km:(listed.setIfInBounds i true).toList.count true+fuel=all.size:=by
     have QM:listed[i]=false:=by simpa [w8] using Ag
     have:(listed.setIfInBounds i true).toList=listed.toList.set i true:=by simp
     rw [this,List.count_set (by simpa using w8)]
     have Tk:listed.toList[i]'(by simpa using w8)=false:=by simpa using QM
     rw [Tk]
     have e1:(if (false==true)=true then 1 else 0)=0:=rfl
     have e2:(if (true==true)=true then 1 else 0)=1:=rfl
     rw [e1,e2]
     omega
    have upd:∀ (v:Value) (w':World) (S':Nat→Prop),Grow w S w' S'→At w' S' (ng i) v→E7 w' S' (cur all ng e (listed.setIfInBounds i true) all.size) (a.put (all[i]).dst v):=by
     intro v w' S' VY vX s av sJ
     rw [Ub (ng:=ng) (e:=e) hB L Dz JO Ag s all.size (Nat.le_refl _),if_pos (by omega)] at sJ
     by_cases hd:(all[i]).dst=some s
     ·rw [hd,rO] at sJ
      obtain rfl:=Option.some.inj sJ
      have Z8:=VO s hd
      exact ⟨v,by rw [hd];simp [Act.put,j9,Z8],vX⟩
     ·rw [oh hd] at sJ
      obtain ⟨u,h1,h2⟩:=yl s av sJ
      refine ⟨u,?_,h2.mono (VY.mZ hr.slt)⟩
      cases IH:(all[i]).dst with
      | none=>simpa [Act.put] using h1
      | some d'=>
        have uc:d'≠s:=fun e=>hd (by rw [IH,e])
        simp [Act.put,uc,h1]
    have psz:∀ v,(a.put (all[i]).dst v).tmps.size=n:=fun v=>by cases (all[i]).dst<;>simp [Act.put,j9]
    have pdf:∀ v,(a.put (all[i]).dst v).defers=[]:=fun v=>by cases (all[i]).dst<;>simp [Act.put,Mj]
    simp only [wpOp,Dz]
    rcases QL with ⟨hw,hmv⟩ | ⟨hw,sJ⟩
    ·rw [if_pos (zI hw A2)]
     refine .inl (hmv w S a j9 Mj hr A2 _ _ (fun v w' S' VY vX=>?_))
     exact ih _ _ _ S' L' Km (psz v) (pdf v) (hr.grow VY) (hg.trans VY) (upd v w' S' VY vX)
    ·rw [if_neg (by rw [zI hw A2];simp)]
     refine ih _ _ _ S L' Km (psz _) (pdf _) hr hg (upd _ w S (Grow.refl hr.slt) ?_)
     rw [sJ];exact .raw _
end order
theorem zJ (d:Nat) (av:AV) (tm:List (Nat×AV)):lk ((d,av) :: tm)=Af (lk tm) (some d) av:=by
 funext s
 simp only [lk,Af]
 by_cases h:d=s
 ·subst h;simp
 ·rw [tC h,if_neg h]
def II:List Nat→List (Nat×AV)→List (Nat×AV)
 | [],_=>[]
 | s :: r,tm=>match lk tm s with
   | some av=>(s,av) :: II r tm
   | none=>II r tm
theorem IJ:∀ {ls:List Nat} {tm:List (Nat×AV)} {s:Nat} {av:AV},lk (II ls tm) s=some av→s∈ls∧lk tm s=some av
 | [],tm,s,av,h=>by simp [II,lk] at h
 | k :: ls,tm,s,av,h=>by
   simp only [II] at h
   split at h
   ·rename_i rz hk
    simp only [lk] at h
    split at h
    ·rename_i hb
     obtain rfl:k=s:=by simpa using hb
     obtain rfl:=Option.some.inj h
     exact ⟨by simp,hk⟩
    ·obtain ⟨h1,h2⟩:=IJ h
     exact ⟨by simp [h1],h2⟩
   ·obtain ⟨h1,h2⟩:=IJ h
    exact ⟨by simp [h1],h2⟩
theorem sY {w:World} {S:Nat→Prop} {a:Act} {n:Nat} {hp:Heap} {ls:List Nat} {tm:List (Nat×AV)} (h1:a.tmps.size=n) (h2:a.defers=[]) (h3:dO w S hp) (h4:IF w S ls (lk tm) a):eD w S ⟨n,II ls tm,hp⟩ a:=
 ⟨h1,h2,fun s av h=>h4 s (IJ h).1 av (IJ h).2,h3⟩
def AM (P:Program) (all:Array Oper) (n:Nat) (hp:Heap) (l:List Oper) (tm:List (Nat×AV)) (Q:List (Nat×AV)→Prop):Prop:=∃ tD,T9 P all n hp l (lk tm) (lk tD)∧Q tD
section rules
variable {P:Program} {all:Array Oper} {rest:List Oper} {n:Nat} {tm:List (Nat×AV)} {hp:Heap} {Q:List (Nat×AV)→Prop} {d:Nat} {ty:TypeId} {pos:String} {af:Array Edge} {op:Op}
theorem AM.nil (h:Q tm):AM P all n hp [] tm Q:=⟨tm,.nil _,h⟩
theorem AM.mv {av:AV} (h:MV P all n ⟨some d,op,ty,pos,af,none⟩ (lk tm) hp av) (hn:Nat.blt d n=true) (k:AM P all n hp rest ((d,av) :: tm) Q):AM P all n hp (⟨some d,op,ty,pos,af,none⟩ :: rest) tm Q:=by
 obtain ⟨tD,k1,k2⟩:=k
 refine ⟨tD,.run rfl h (fun d' hd=>?_) (by rw [zJ] at k1;exact k1),k2⟩
 obtain rfl:=Option.some.inj hd
 simpa using hn
theorem AM.qv {av:AV} (q:QV P ⟨some d,op,ty,pos,af,none⟩ ⟨n,II (looks all ⟨some d,op,ty,pos,af,none⟩) tm,hp⟩ av) (hn:Nat.blt d n=true) (k:AM P all n hp rest ((d,av) :: tm) Q):AM P all n hp (⟨some d,op,ty,pos,af,none⟩ :: rest) tm Q:=by
 refine AM.mv (fun w S a h1 h2 h3 h4 K Q' hK=>?_) hn k
 obtain ⟨v,g1,g2⟩:=q w S a (sY h1 h2 h3 h4)
 show Oper.upon P _ a K Q' _
 rw [g1 w (Ext.refl w)]
 exact hK v w S (Grow.refl h3.slt) g2
theorem AM.an {j:Nat} {want b:Bool} {s:Nat} (hj:(all[j]?).bind (·.dst)=some s) (hs:lk tm s=some (.bool b)) (hb:b=want)
 (k:AM P all n hp (⟨some d,op,ty,pos,af,none⟩ :: rest) tm Q):AM P all n hp (⟨some d,op,ty,pos,af,some (j,want)⟩ :: rest) tm Q:=by
 obtain ⟨tD,k1,k2⟩:=k
 refine ⟨tD,?_,k2⟩
 cases k1 with
 | run hg h hd k=>
   refine .run ⟨s,hj,.inl ⟨b,hs,by simp [hb]⟩⟩ ?_ hd k
   intro w S a h1 h2 h3 h4 K Q' hK
   exact h w S a h1 h2 h3 (fun t ht=>h4 t (by simp only [looks,List.append_nil] at ht ⊢;exact List.mem_append_left _ ht)) K Q' hK
 | pass hg hd k=>simp [qP] at hg
theorem AM.al {j:Nat} {want b:Bool} {s:Nat} (hj:(all[j]?).bind (·.dst)=some s) (hs:lk tm s=some (.bool b)) (hb:b=!want) (hn:Nat.blt d n=true)
 (k:AM P all n hp rest ((d,.raw undef) :: tm) Q):AM P all n hp (⟨some d,op,ty,pos,af,some (j,want)⟩ :: rest) tm Q:=by
 obtain ⟨tD,k1,k2⟩:=k
 refine ⟨tD,.pass ⟨s,hj,.inl ⟨b,hs,?_⟩⟩ (fun d' hd=>?_) (by rw [zJ] at k1;exact k1),k2⟩
 ·rw [hb];cases want<;>rfl
 ·obtain rfl:=Option.some.inj hd
  simpa using hn
theorem AM.lit {l:List Oper} {s:Nat} {b c:Bool} (hs:lk tm s=some (.bool b)) (hb:b=c) (k:AM P all n hp l ((s,.bool c) :: tm) Q):AM P all n hp l tm Q:=by
 subst hb
 obtain ⟨tD,k1,k2⟩:=k
 have:lk ((s,.bool b) :: tm)=lk tm:=by
  rw [zJ]
  funext t
  simp only [Af]
  split
  ·rename_i h;subst h;exact hs.symm
  ·rfl
 rw [this] at k1
 exact ⟨tD,k1,k2⟩
theorem AM.guard {j s:Nat} {want b:Bool} (hj:(all[j]?).bind (·.dst)=some s) (hs:lk tm s=some (.bool b)) (hn:Nat.blt d n=true) (h1:b=want→AM P all n hp (⟨some d,op,ty,pos,af,none⟩ :: rest) ((s,.bool want) :: tm) Q)
 (h2:b=!want→AM P all n hp rest ((d,.raw undef) :: (s,.bool (!want)) :: tm) Q):AM P all n hp (⟨some d,op,ty,pos,af,some (j,want)⟩ :: rest) tm Q:=by
 by_cases hb:b=want
 ·exact AM.lit hs hb (AM.an hj (by simp [lk]) rfl (h1 hb))
 ·have EU:b=!want:=by cases b<;>cases want<;>simp_all
  exact AM.lit hs EU (AM.al hj (b:=!want) (by simp [lk]) rfl hn (h2 EU))
theorem AM.cq {j s:Nat} {p:Prop} [Decidable p] (hj:(all[j]?).bind (·.dst)=some s) (hs:lk tm s=some (.bool (decide p))) (hn:Nat.blt d n=true) (h1:p→AM P all n hp (⟨some d,op,ty,pos,af,none⟩ :: rest) ((s,.bool true) :: tm) Q)
 (h2:¬ p→AM P all n hp rest ((d,.raw undef) :: (s,.bool false) :: tm) Q):AM P all n hp (⟨some d,op,ty,pos,af,some (j,true)⟩ :: rest) tm Q:=
 AM.guard hj hs hn (fun h=>h1 (of_decide_eq_true h)) (fun h=>h2 (of_decide_eq_false h))
theorem AM.dC {j s:Nat} {p:Prop} [Decidable p] (hj:(all[j]?).bind (·.dst)=some s) (hs:lk tm s=some (.bool (decide p))) (hn:Nat.blt d n=true) (h1:¬ p→AM P all n hp (⟨some d,op,ty,pos,af,none⟩ :: rest) ((s,.bool false) :: tm) Q)
 (h2:p→AM P all n hp rest ((d,.raw undef) :: (s,.bool true) :: tm) Q):AM P all n hp (⟨some d,op,ty,pos,af,some (j,false)⟩ :: rest) tm Q:=
 AM.guard hj hs hn (fun h=>h1 (of_decide_eq_false h)) (fun h=>h2 (of_decide_eq_true h))
theorem AM.cT {f:FuncId} {args:List Operand} {ts:Array TypeId} {l l':List AV} {R:AV} [bh P f] (hl:BI (II (looks all ⟨some d,.call {callee:=.value (.func f),args:=args.toArray,argTypes:=ts},ty,pos,af,none⟩) tm) args=some l) (c:Pu P f l' R) (co:AB hp l l') (hn:Nat.blt d n=true)
 (k:AM P all n hp rest ((d,R) :: tm) Q):AM P all n hp (⟨some d,.call {callee:=.value (.func f),args:=args.toArray,argTypes:=ts},ty,pos,af,none⟩ :: rest) tm Q:=by
 refine AM.mv (fun w S a h1 h2 h3 h4 K Q' hK=>?_) hn k
 have r:=sY h1 h2 h3 h4
 show Oper.upon P _ a K Q' _
 rw [pU]
 obtain ⟨g1,g2⟩:=rJ r hl
 obtain ⟨g3,g4⟩:=AB.at r.hp co g1 g2
 refine (c w S _ (vp h3.slt h3.hJ) (by simpa using g3) g4).mono ?_
 rintro e w' ⟨v,rr,h',S',rfl,rfl,k3,k4,k5⟩
 exact hK v w' S' ⟨k5.Hz,fun m hm=>(k5.mZ m hm).1,fun m hm hs=>(k5.other m hm (fun ⟨x,hx,_⟩=>by simp at hx)).2 hs,k4.slt⟩ k3
theorem AM.WN {f:FuncId} {args:List Operand} {ts:Array TypeId} {l l':List AV} {R:AV} [bh P f] (hl:BI (II (looks all ⟨some d,.call {callee:=.value (.func f),args:=args.toArray,argTypes:=ts},ty,pos,af,none⟩) tm) args=some l) (c:Pu P f l' R) (co:wL hp l l') (hn:Nat.blt d n=true) (hR:R.YD=true)
 (k:AM P all n hp rest ((d,R) :: tm) Q):AM P all n hp (⟨some d,.call {callee:=.value (.func f),args:=args.toArray,argTypes:=ts},ty,pos,af,none⟩ :: rest) tm Q:=by
 refine AM.mv (fun w S a h1 h2 h3 h4 K Q' hK=>?_) hn k
 have r:=sY h1 h2 h3 h4
 show Oper.upon P _ a K Q' _
 rw [pU]
 obtain ⟨g1,g2⟩:=rJ r hl
 obtain ⟨g3,g4⟩:=wL.at r.hp co g1 g2
 refine (c w (SB S hp) _ (vp (fun m hm=>hm.elim (h3.slt m) fun h=>h3.lt h) (fun g o ho=>⟨.inl (h3.hJ g o ho).1,(h3.hJ g o ho).2⟩)) (by simpa using g3) g4).mono ?_
 rintro e w' ⟨v,rr,h',S',rfl,rfl,k3,k4,k5⟩
 have ex:=k5.Hz
 exact hK v w' S ⟨ex,fun m hm=>hm,fun m _ hs=>hs,fun m hm=>Nat.lt_of_lt_of_le (h3.slt m hm) ex.size⟩ (Mf k3 hR)
theorem AM.a8 {t e:TypeId} {i:TypeInfo} {z:Value} {len sz:Nat} {parts:List (Nat×Operand)} {xs:List AV} [aC P t (.slice e)] [aU P e i] [kI P e sz] (hz:i.zero=some z)
 (hl:NB (II (looks all ⟨some d,.buildSlice t len parts.toArray,ty,pos,af,none⟩) tm) parts 0=some xs) (hlen:Nat.beq parts.length len=true) (yQ:yR i.size xs=true) (L0:Nat.ble (len * i.size) 16777216=true) (hn:Nat.blt d n=true)
 (k:AM P all n hp rest ((d,.list sz xs) :: tm) Q):AM P all n hp (⟨some d,.buildSlice t len parts.toArray,ty,pos,af,none⟩ :: rest) tm Q:=by
 obtain ⟨i',L4,Mi⟩:=kI.h (P:=P) (t:=e)
 obtain rfl:i'=i:=by rw [aU.h (P:=P) (t:=e)] at L4;exact (Option.some.inj L4).symm
 subst Mi
 refine AM.mv (fun w S a h1 h2 h3 h4 K Q' hK=>?_) hn k
 have r:=sY h1 h2 h3 h4
 obtain rfl:parts.length=len:=Nat.eq_of_beq_eq_true hlen
 have L0:=Nat.le_of_ble_eq_true L0
 obtain ⟨zz,L3⟩:∃ zz:Array Value,zz=if parts.length * i'.size=0 then #[] else z.cells:=⟨_,rfl⟩
 obtain ⟨vs,g1,g2,g3,g4⟩:=BK r i'.size parts 0 xs ((Array.range (parts.length * i'.size)).map (zz[· % zz.size]!)) hl (lG yQ) (by simp)
 simp only [Nat.zero_mul,List.take_zero,List.nil_append] at g1
 have e0:=Ext.alloc w (.cells vs.toArray e)
 have wK:(execOp a.eval ⟨some d,.buildSlice t parts.length parts.toArray,ty,pos,af,none⟩).run P w=.ok (.value (.slice (some ⟨w.heap.size,0,none⟩) parts.length parts.length)) (w.alloc (.cells vs.toArray e)):=by
  have hm:((parts.toArray.map fun p=>(p.1,a.eval p.2))).toList=parts.map fun p=>(p.1,a.eval p.2):=by simp
  simp only [execOp,Instr.buildSlice,Sem.run_bind,run_underlying (aC.h (P:=P) (t:=t)),Result.andThen_ok,sizeOf,typeInfo,run_program,aU.h (P:=P) (t:=e),Sem.run_pure]
  rw [if_neg (by omega)]
  by_cases h0:parts.length * i'.size=0
  ·rw [if_pos h0] at L3 ⊢
   subst L3
   simp only [Sem.run_bind,Result.andThen_ok,Sem.run_pure,hm,g1,sX]
  ·rw [if_neg h0] at L3 ⊢
   subst L3
   simp only [Sem.run_bind,Result.andThen_ok,Sem.run_pure,zeroValue,typeInfo,run_program,aU.h (P:=P) (t:=e),hz,hm,g1,sX]
 show Oper.upon P _ a K Q' _
 rw [wK]
 have WO:(w.alloc (.cells vs.toArray e)).heap[w.heap.size]? =some (.cells vs.toArray e (0,0)):=by
  show (w.heap.push _)[w.heap.size]? =_
  simp
 refine hK _ _ (fun m=>S m∨m=w.heap.size) ⟨e0,fun m hm=>.inl hm,fun m hm hs=>hs.elim id (fun h=>by omega),fun m hm=>?_⟩ ?_
 ·rcases hm with hm | hm
  ·exact Nat.lt_of_lt_of_le (h3.slt m hm) e0.size
  ·subst hm;simp
 ·have:=At.list (w:=w.alloc (.cells vs.toArray e)) (S:=fun m=>S m∨m=w.heap.size) i'.size xs (some ⟨w.heap.size,0,none⟩) parts.length vs (lG yQ) (by rw [dt (lG yQ),g2]) (fun j c u hc hu=>?_) (fun j u hu=>?_) (by omega)
  ·rw [g3] at this;exact this
  ·exact (g4 j c u hc (by simpa using hu)).mono fun m hm=>⟨.inl hm,e0.same m (h3.slt m hm)⟩
  ·refine ⟨_,rfl,rfl,.inr rfl,?_⟩
   rw [pg WO]
   simpa using hu
end rules
def Kn:Nat→List Oper→Option (List Oper×List Oper)
 | 0,l=>some ([],l)
 | m+1,o :: l=>match Kn m l with
   | some (a,b)=>some (o :: a,b)
   | none=>none
 | _+1,[]=>none
theorem zK:∀ {m:Nat} {l a b:List Oper},Kn m l=some (a,b)→l=a++b∧a.length=m
 | 0,l,a,b,h=>by simp [Kn] at h;obtain ⟨rfl,rfl⟩:=h;exact ⟨rfl,rfl⟩
 | m+1,[],a,b,h=>by simp [Kn] at h
 | m+1,o :: l,a,b,h=>by
   simp only [Kn] at h
   split at h
   ·rename_i a' b' h'
    simp only [Option.some.injEq,Prod.mk.injEq] at h
    obtain ⟨rfl,rfl⟩:=h
    obtain ⟨h1,h2⟩:=zK h'
    exact ⟨by rw [h1];rfl,by simp [h2]⟩
   ·cases h
theorem ab.cA {P:Program} {R:St→Prop} {k:List It} {id n:Nat} {tm:List (Nat×AV)} {hp:Heap} {l hd tl:List Oper} (m:Nat) (hm:P.follows .mixedOrders=true) (hs:Kn m l=some (hd,tl)) {A:List Nat} (hA:OM l.toArray=A) (hB0:Kj l.toArray m A=true)
 (h:AM P l.toArray n hp hd tm (fun tD=>ae P l.toArray tl ⟨n,tD,hp⟩ (ab P R k))):ab P R (.code (.region id l.toArray true) :: k) ⟨n,tm,hp⟩:=by
 have hB:ym l.toArray m:=⟨A,hA,hB0⟩
 intro w S a r
 obtain ⟨hl,Uc⟩:=zK hs
 obtain ⟨tD,hA,wK⟩:=h
 obtain ⟨ng,en,e0,e1,e2⟩:=hA.Mh
 have j9:m≤l.toArray.size:=by simp [hl,Uc]
 refine wp_region_any hm ?_
 have E8:Ext w {w with drawn:=w.drawn+1}:=Ext.Nv w _ (Nat.le_succ _)
 have g0:Grow w S {w with drawn:=w.drawn+1} S:=⟨E8,fun _ h=>h,fun _ _ h=>h,fun n hn=>r.hp.slt n hn⟩
 have WQ:∀ k,cur l.toArray ng (lk tm) (Array.replicate l.toArray.size false) k=lk tm:=by
  intro k
  induction k with
  | zero=>rfl
  | succ k ih=>
    simp only [cur,ih]
    rw [if_neg]
    rcases Nat.lt_or_ge k l.toArray.size with h | h
    ·simp at h;simp [h]
    ·simp at h;simp [Nat.not_lt.2 h]
 have hf:∀ k,(Array.replicate l.toArray.size false).getD k false=false:=by
  intro k
  rcases Nat.lt_or_ge k l.toArray.size with h | h
  ·simp at h;simp [h]
  ·simp at h;simp [Nat.not_lt.2 h]
 refine QJ (P:=P) (all:=l.toArray) (n:=n) (m:=m) (hp:=hp) (ng:=ng) (en:=en) (e:=lk tm) hB j9 e0 (fun i o hi ho=>e2 i o ?_) (w0:=w) (S0:=S) (fun a' w' S' h1 h2 h3 h4 h5=>?_) l.toArray.size (Array.replicate l.toArray.size false) a _ S
  ⟨by simp,(fun k hk=>by rw [hf k] at hk;cases hk),(fun k i o hk=>by rw [hf k] at hk;cases hk)⟩ (by simp [List.count_replicate]) r.size r.defers (r.hp.ext E8) g0 (by rw [WQ];exact (r.ext E8).tm)
 ·have:l[i]? =some o:=by simpa using ho
  rw [hl,List.getElem?_append_left (by omega)] at this
  exact this
 ·have YE:l.toArray.toList.drop m=tl:=by
   simp only [hl,← Uc]
   exact List.drop_left
  rw [YE]
  have hmm:en m=lk tD:=by rw [← Uc];exact e1
  rw [hmm] at h5
  refine jJ ?_ _ _ _ (wK.go (h:=hp) (w:=w) (S:=S) ⟨h1,h2,h5,h3⟩ (h4.evo r.hp.slt hp))
  rintro ex a2 w2 ⟨rfl,JX,S2,q1,q2,q3⟩
  exact ⟨JX,S2,q1,q2,q3⟩
section
variable {P:Program} {all:Array Oper} {rest:List Oper} {n:Nat} {hp:Heap} {tm:List (Nat×AV)} {Q:List (Nat×AV)→Prop} {dd:Option Nat} {ty:TypeId} {pos:String} {af:Array Edge}
end
theorem WR {α β:Type} {o:Option α} {f:α→Option β} {r:β} (h:o.bind f=some r):∃ v,o=some v∧f v=some r:=by
 cases o with
 | none=>cases h
 | some v=>exact ⟨v,rfl,h⟩
theorem hZ {α:Type} {p:Prop} [Decidable p] {a b x:α} (hp:p) (h:(if p then a else b)=x):a=x:=by rw [if_pos hp] at h;exact h
theorem wM {α:Type} {p:Prop} [Decidable p] {a b x:α} (hp:¬ p) (h:(if p then a else b)=x):b=x:=by rw [if_neg hp] at h;exact h
theorem ir {α:Type} {p:Bool} {a b x:α} (hp:p=false) (h:(if p=true then a else b)=x):b=x:=by rw [if_neg (by simp [hp])] at h;exact h
def uR {X A:Type} (f:X→Option (X⊕A)):Nat→X→Option A
 | 0,_=>none
 | n+1,x=>match f x with
   | none=>none
   | some (.inl y)=>uR f n y
   | some (.inr a)=>some a
theorem Ko {X A:Type} {f:X→Option (X⊕A)} {a:A}:∀ {n:Nat} {x:X},uR f n x=some a→uR f (n+1) x=some a
 | 0,x,h=>by cases h
 | n+1,x,h=>by
   unfold uR at h ⊢
   split at h
   ·cases h
   ·exact Ko h
   ·exact h
theorem E9 {X A:Type} {f:X→Option (X⊕A)} {a:A} {x:X} {n:Nat} (h:uR f n x=some a):∀ m,uR f (n+m) x=some a
 | 0=>h
 | m+1=>Ko (E9 h m)
theorem OO {X A:Type} {f:X→Option (X⊕A)} {a b:A} {x:X} {n m:Nat} (h:uR f n x=some a) (k:uR f m x=some b):a=b:=by
 have h1:=E9 h m
 have h2:=E9 k n
 rw [Nat.add_comm] at h2
 rw [h1] at h2
 exact Option.some.inj h2
open Classical in
noncomputable def iter {X A:Type} (f:X→Option (X⊕A)) (x:X):Option A:=
 if h:∃ a n,uR f n x=some a then some h.choose else none
theorem zL {X A:Type} {f:X→Option (X⊕A)} {x:X} {a:A}:iter f x=some a↔∃ n,uR f n x=some a:=by
 unfold iter
 constructor
 ·intro h
  split at h
  ·rename_i hx
   obtain ⟨n,hn⟩:=hx.choose_spec
   exact ⟨n,by rw [hn];exact h⟩
  ·cases h
 ·rintro ⟨n,hn⟩
  have hx:∃ a n,uR f n x=some a:=⟨a,n,hn⟩
  rw [dif_pos hx]
  obtain ⟨m,hm⟩:=hx.choose_spec
  rw [OO hm hn]
def after {X A:Type} (k:X→Option A):X⊕A→Option A
 | .inl y=>k y
 | .inr a=>some a
theorem iter_eq {X A:Type} (f:X→Option (X⊕A)) (x:X):iter f x=(f x).bind (after (iter f)):=by
 apply Option.ext
 intro a
 rw [zL]
 constructor
 ·rintro ⟨n,hn⟩
  match n with
  | 0=>cases hn
  | n+1=>
    unfold uR at hn
    split at hn
    ·cases hn
    ·rename_i y hy;rw [hy];exact zL.2 ⟨n,hn⟩
    ·rename_i b hb;rw [hb];exact hn
 ·intro h
  obtain ⟨s,hs,h⟩:=WR h
  cases s with
  | inl y=>
    obtain ⟨n,hn⟩:=zL.1 h
    exact ⟨n+1,by unfold uR;rw [hs];exact hn⟩
  | inr b=>exact ⟨1,by unfold uR;rw [hs];exact h⟩
theorem bx {X A:Type} {o:Option A} {s:X⊕A} {a:A} (h:o.map .inr=some s) (hA:∀ a',s=.inr a'→a'=a):o=some a:=by
 cases o with
 | none=>cases h
 | some b=>
   have:=Option.some.inj h
   rw [hA b this.symm]
@[simp] theorem du {X A:Type} (k:X→Option A) (y:X):after k (.inl y)=k y:=rfl
@[simp] theorem YF {X A:Type} (k:X→Option A) (a:A):after k (.inr a)=some a:=rfl
theorem cy {X A:Type} (o:Option A) (k:X→Option A):(o.map Sum.inr).bind (after k)=o:=by cases o<;>rfl
def idx {α:Type} (xs:List α) (i:Int):Option α:=if 0≤i then xs[i.toNat]? else none
def app {α:Type} (xs ys:List α):Option (List α):=if xs.length+ys.length≤1000000000 then some (xs++ys) else none
def BN {α:Type} (xs:List α) (l h:Int):Option (List α):=if 0≤l∧l≤h∧h≤xs.length then some ((xs.drop l.toNat).take (h.toNat - l.toNat)) else none
abbrev cd (i:Int):Int:=IntKind.i64.wrap i
def quo (a b:Int):Option Int:=if b=0 then none else some (cd (a.tdiv b))
def rem (a b:Int):Option Int:=if b=0 then none else some (a.tmod b)
theorem QN {α:Type} {e:α→AV} {xs:List α} {i:Int} {x:α} (h:idx xs i=some x):Qx (xs.map e) i=some (e x):=by
 unfold idx at h;unfold Qx
 split at h
 ·rename_i h0;rw [if_pos h0,List.getElem?_map,h];rfl
 ·cases h
theorem oK {α:Type} {xs:List α} {i:Int} {x:α} (h:idx xs i=some x):0≤i∧i < xs.length∧xs[i.toNat]? =some x:=by
 unfold idx at h
 split at h
 ·rename_i h0
  have:=(List.getElem?_eq_some_iff.1 h).1
  exact ⟨h0,by omega,h⟩
 ·cases h
theorem Fa {α:Type} {xs ys zs:List α} (h:app xs ys=some zs):xs.length+ys.length≤1000000000∧zs=xs++ys:=by
 unfold app at h
 split at h
 ·exact ⟨by assumption,(Option.some.inj h).symm⟩
 ·cases h
theorem ug {α:Type} {xs zs:List α} {l h:Int} (hh:BN xs l h=some zs):(0≤l∧l≤h∧h≤xs.length)∧zs=(xs.drop l.toNat).take (h.toNat - l.toNat):=by
 unfold BN at hh
 split at hh
 ·exact ⟨by assumption,(Option.some.inj hh).symm⟩
 ·cases hh
theorem QO {a b c:Int} (h:quo a b=some c):b≠0∧c=cd (a.tdiv b):=by
 unfold quo at h
 split at h
 ·cases h
 ·exact ⟨by assumption,(Option.some.inj h).symm⟩
theorem QP {a b c:Int} (h:rem a b=some c):b≠0∧c=a.tmod b:=by
 unfold rem at h
 split at h
 ·cases h
 ·exact ⟨by assumption,(Option.some.inj h).symm⟩
section
variable {P:Program} {R:St→Prop} {k:List It} {σ:St}
theorem ab.cut {c:Code} (I:St→Prop) (h:ab P R (.code c :: .stop (fun aE=>aj aE I) :: k) σ) (hk:∀ aE,I aE→ab P R k aE):ab P R (.code c :: k) σ:=by
 intro w S a r
 refine wp_mono (h w S a r) ?_
 rintro e a' w' ⟨aE,S',h1,h2,h3⟩
 cases e with
 | normal=>
   obtain ⟨OK,ZP,hI,hr,he⟩:=h1 w' S' a' h2
   exact ⟨OK,ZP,hk OK hI,hr,h3.trans he⟩
 | exit id=>exact ⟨aE,S',h1,h2,h3⟩
 | goto l=>exact ⟨aE,S',h1,h2,h3⟩
 | ret=>exact ⟨aE,S',h1,h2,h3⟩
 | panic c=>exact ⟨aE,S',h1,h2,h3⟩
 | outgrown=>exact ⟨aE,S',h1,h2,h3⟩
theorem ab.bO {body:Code} {X A:Type} (f:X→Option (X⊕A)) (mk:X→St→Prop) {a:A} {x0:X} (h:iter f x0=some a) (h0:aj σ (mk x0))
 (hs:∀ x s σ (J:St→Prop),mk x σ→f x=some s→(∀ y aE,s=.inl y→aj aE (mk y)→J aE)→(∀ a',s=.inr a'→a'=a)→ab P R (.code body :: .stop J :: k) σ):
 ab P R (.code (.loop body) :: k) σ:=by
 obtain ⟨m,hm⟩:=zL.1 h
 refine ab.VT (fun m σ=>∃ x,uR f m x=some a∧mk x σ) m (h0.mono fun aE hσ=>⟨x0,hm,hσ⟩) ?_
 rintro m Hp ⟨x,hx,dh⟩
 match m with
 | 0=>cases hx
 | m+1=>
   unfold uR at hx
   split at hx
   ·cases hx
   ·rename_i y hy
    refine hs x _ Hp _ dh hy (fun y' aE e hi=>⟨m,by omega,hi.mono fun OK hk=>⟨y',?_,hk⟩⟩) (fun a' e=>by cases e)
    have:=Sum.inl.inj e
    rw [← this];exact hx
   ·rename_i b hb
    refine hs x _ Hp _ dh hb (fun y' aE e _=>by cases e) (fun a' e=>?_)
    rw [← Sum.inr.inj e];exact Option.some.inj hx
end
inductive Kp:Heap→Heap→Heap→Prop
 | nil {h:Heap}:Kp h [] h
 | cons {h h1 t r:Heap} {b:Bk} {o:Ob} (u:Ae h b o h1) (k:Kp h1 t r):Kp h ((b,o) :: t) r
theorem Kp.perm {h t r:Heap} (s:Kp h t r):h.Perm (t++r):=by
 induction s with
 | nil=>exact List.Perm.refl _
 | cons u k ih=>exact u.perm.trans (List.Perm.cons _ ih)
section rules
variable {P:Program} {all:Array Oper} {rest:List Oper} {n:Nat} {tm:List (Nat×AV)} {hp:Heap} {Q:St→Prop} {d:Nat} {ty:TypeId} {pos:String} {af:Array Edge}
theorem Fb {f:FuncId} {args:List Operand} {ts:Array TypeId} {l l':List AV} {h0 hr:Heap} {Qc:AV→Heap→Prop} [bh P f] (hl:BI tm args=some l) (c:aI P f l' h0 Qc) (co:AB hp l l') (hs:Kp hp h0 hr) (hn:Nat.blt d n=true)
 (kk:∀ r h',Qc r h'→ae P all rest ⟨n,(d,r) :: tm,h'++hr⟩ Q):ae P all (⟨some d,.call {callee:=.value (.func f),args:=args.toArray,argTypes:=ts},ty,pos,af,none⟩ :: rest) ⟨n,tm,hp⟩ Q:=
 QA hl c co hs.perm hn kk
theorem Ud {f:FuncId} {x:Operand} {args:List Operand} {ts:Array TypeId} {uF l l' lc:List AV} {h0 hr:Heap} {Qc:AV→Heap→Prop} [bh P f] (hx:dx tm x=some (.func (.func f) uF)) (hl:BI tm args=some l) (hlc:uf (l++uF)=some lc) (c:aI P f l' h0 Qc) (co:AB hp lc l') (hs:Kp hp h0 hr) (hn:Nat.blt d n=true)
 (kk:∀ r h',Qc r h'→ae P all rest ⟨n,(d,r) :: tm,h'++hr⟩ Q):ae P all (⟨some d,.call {callee:=.value x,args:=args.toArray,argTypes:=ts},ty,pos,af,none⟩ :: rest) ⟨n,tm,hp⟩ Q:=
 ND hx hl c (by rw [nf hlc];exact co) hs.perm hn kk
theorem aS {α:Type} {g:α→AV} {Xs:List α} {el:α} {t e:TypeId} {i:TypeInfo} {x y:Operand} {k:IntKind} {j:Int} {cs:List AV} {sz:Nat} [aC P t (.slice e)] [aU P e i] (hx:dx tm x=some (.list sz (Xs.map g))) (j9:Nat.beq i.size sz=true) (hy:dx tm y=some (.int k j))
 (hv:idx Xs j=some el) (h0:Nat.blt 0 sz=true) (hc:uf (g el).cells=some cs):QV P ⟨some d,.indexAddr t x y,ty,pos,af,none⟩ ⟨n,tm,hp⟩ (.mG cs):=by
 rw [← nf hc]
 exact rH hx j9 hy (QN hv) h0
theorem bB {α:Type} {g:α→AV} {Xs:List α} {x:Operand} {t e:TypeId} {sz:Nat} [aC P t (.slice e)] (hx:dx tm x=some (.list sz (Xs.map g))):QV P ⟨some d,.call {callee:=.builtin .len,args:=#[x],argTypes:=#[t]},ty,pos,af,none⟩ ⟨n,tm,hp⟩ (.int .i64 (Xs.length:Nat)):=by
 have h:=ET (P:=P) (d:=d) (ty:=ty) (pos:=pos) (af:=af) (n:=n) (tm:=tm) (hp:=hp) (t:=t) (e:=e) hx
 rw [List.length_map] at h
 exact h
theorem Z9 {k:IntKind} {xt yt:TypeId} {x y:Operand} {i j:Int} (hx:dx tm x=some (.int k i)) (hy:dx tm y=some (.int k j)) (h0:j≠0):QV P ⟨some d,.binOp .quo xt x y yt,ty,pos,af,none⟩ ⟨n,tm,hp⟩ (.int k (k.wrap (i.tdiv j))):=
 yO hx hy (v:=.int k (k.wrap (i.tdiv j))) (fun w=>by simp [binOp,Op.intDiv,h0]) (fun w S=>.int _ _)
theorem WS {xt yt:TypeId} {x y:Operand} {i j r:Int} (hx:dx tm x=some (.int .i64 i)) (hy:dx tm y=some (.int .i64 j)) (h:quo i j=some r):QV P ⟨some d,.binOp .quo xt x y yt,ty,pos,af,none⟩ ⟨n,tm,hp⟩ (.int .i64 r):=by
 obtain ⟨h0,rfl⟩:=QO h
 exact Z9 hx hy h0
theorem QQ {k:IntKind} {xt yt:TypeId} {x y:Operand} {i j r:Int} (hx:dx tm x=some (.int k i)) (hy:dx tm y=some (.int k j)) (h:rem i j=some r):QV P ⟨some d,.binOp .rem xt x y yt,ty,pos,af,none⟩ ⟨n,tm,hp⟩ (.int k r):=by
 obtain ⟨h0,rfl⟩:=QP h
 exact ZR hx hy h0
theorem qX {x y:Operand} {t:TypeId} {s:List UInt8} {k:IntKind} {i:Int} {c:UInt8} [aC P t .string] (hx:dx tm x=some (.str s)) (hy:dx tm y=some (.int k i)) (hc:idx s i=some c):QV P ⟨some d,.index t x y,ty,pos,af,none⟩ ⟨n,tm,hp⟩ (.int .u8 (c.toNat:Int)):=
 let ⟨h0,_,h⟩:=oK hc
 JZ hx hy h0 h
theorem cU {α:Type} {g:α→AV} {Xs Ys Zs:List α} {t e:TypeId} {i:TypeInfo} {z:Value} {x y:Operand} {src:AV} {b:Bk} {len sz:Nat} {fj:Bk→Heap} [aC P t (.slice e)] [aU P e i] (hx:dx tm x=some (.sl sz b 0 len)) (hy:dx tm y=some src) (hz:i.zero=some z)
 (Hx:Nat.beq z.cells.size i.size=true) (j9:Nat.beq i.size sz=true) (h0:Nat.blt 0 sz=true) (hn:Nat.blt d n=true) (T7:Nat.ble i.bytes 65536=true) (hs:Src hp sz src (Ys.map g)) (hv:app Xs Ys=some Zs) (u:∀ b',sL hp b (.arr sz (Xs.map g)) b' (.arr sz (Zs.map g)) (fj b')) (hlen:len=Xs.length)
 (kk:∀ b':Bk,ae P all rest ⟨n,(d,.sl sz b' 0 Zs.length) :: tm,fj b'⟩ Q):ae P all (⟨some d,.call {callee:=.builtin .append,args:=#[x,y],argTypes:=#[t,t]},ty,pos,af,none⟩ :: rest) ⟨n,tm,hp⟩ Q:=by
 obtain ⟨hb,rfl⟩:=Fa hv
 subst hlen
 refine OL (xs:=Xs.map g) (ys:=Ys.map g) (fj:=fj) hx hy hz Hx j9 h0 hn T7 hs (by simpa using u) (by simp) (by simpa using hb) (fun b'=>?_)
 have:=kk b'
 simpa using this
end rules
theorem OP {hp:Heap} {sz:Nat} {b:Bk} {α:Type} {g:α→AV} {Xs:List α} {len:Nat} (f:oG hp b (.arr sz (Xs.map g))∨oG hp b (.By sz (Xs.map g))) (h:len=Xs.length):Src hp sz (.sl sz b 0 len) (Xs.map g):=
 .whole b len _ f (by simpa using h)
end Go.Eng
