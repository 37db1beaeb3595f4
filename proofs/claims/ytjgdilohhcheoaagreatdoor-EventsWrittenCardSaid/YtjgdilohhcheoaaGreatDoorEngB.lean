/- The engine: abstract values, the symbolic heap, one rule for each operation. No program in sight. -/
import Derived.Test.YtjgdilohhcheoaaGreatDoorEngA
set_option linter.unusedVariables false
set_option linter.unusedSectionVars false
namespace Go.Eng
open Go
variable [bz]
theorem yG {tm:List (Nat×AV)}:∀ {parts:List (Nat×Operand)} {k:Nat} {xs:List AV},Gi tm parts k=some xs→xs.length=parts.length
 | [],k,xs,h=>by simp [Gi] at h;subst h;rfl
 | (i,x) :: parts,k,xs,h=>by
   simp only [Gi] at h
   split at h
   ·rename_i a l h1 h2 h3
    obtain rfl:=Option.some.inj h
    simp [yG h3]
   ·cases h
section rules
variable {P:Program} {all:Array Oper} {rest:List Oper} {n:Nat} {tm:List (Nat×AV)} {hp:Heap} {Q:St→Prop} {d:Nat} {ty:TypeId} {pos:String} {af:Array Edge}
theorem z8 {t e:TypeId} {i:TypeInfo} {z:Value} {len:Nat} {parts:List (Nat×Operand)} {xs:List AV} [ay P t (.slice e)] [aP P e i] (hz:i.zero=some z) (hl:Gi tm parts 0=some xs) (hlen:Nat.beq parts.length len=true) (sB:sQ i.size xs=true)
 (Fi:Nat.ble (len * i.size) 16777216=true) (hn:Nat.blt d n=true) (kk:ah P all rest ⟨n,(d,.list i.size xs) :: tm,hp⟩ Q):ah P all (⟨some d,.buildSlice t len parts.toArray,ty,pos,af,none⟩ :: rest) ⟨n,tm,hp⟩ Q:=by
 refine vx hz hl hlen sB Fi hn (fun b=>ah.ghost (aj.freeze .here (aj.co (s:=d) (av:=.sl i.size b 0 len) (by simp [lk]) (.xR i.size b len xs .here ?_) ?_)))
 ·rw [yG hl];exact (Nat.eq_of_beq_eq_true hlen).symm
 ·refine aj.step (yy:=⟨n,(d,.list i.size xs) :: tm,hp⟩) (fun w S a r=>⟨_,S,rfl,r.less ⟨rfl,fun s av h=>?_,List.sublist_cons_self _ _⟩,gY.less (gY.refl w S _) fun _ hm=>hm.sub (List.sublist_cons_self _ _)⟩) (aj.here kk)
  simp only [lk] at h ⊢
  split at h
  ·exact h
  ·exact h
inductive Eb (tm:List (Nat×AV)):Option Operand→Option Int→Prop
 | none:Eb tm none none
 | some (x:Operand) (k:IntKind) (i:Int) (h:bS tm x=some (.int k i)):Eb tm (some x) (some i)
def eZ:Option Int→Int
 | none=>0
 | some i=>i
def fU (len:Nat):Option Int→Int
 | none=>len
 | some i=>i
theorem uX {w:World} {S:Nat→Prop} {σ:St} {a:Act} (r:dm w S σ a) {lo hi:Option Operand} {l h:Option Int} (hl:Eb σ.tm lo l) (hh:Eb σ.tm hi h) (JK:Bool) (len cap:Nat) (h0:0≤eZ l) (h1:eZ l≤fU len h) (h2:fU len h≤len) (hc:len≤cap) (w':World):
 (Instr.sliceBounds JK len cap (lo.map a.eval) (hi.map a.eval) none).run P w'=.ok ((eZ l).toNat,(fU len h).toNat,cap) w':=by
 cases hl with
 | none=>
   cases hh with
   | none=>simp [Instr.sliceBounds,eZ,fU]
   | some x k i hx=>
     simp only [eZ,fU] at *
     have:i≤(cap:Int):=by omega
     simp [Instr.sliceBounds,Instr.sliceBound,(aN r hx).bR,asIntOf,h1,this]
 | some x k i hx=>
   cases hh with
   | none=>
     simp only [eZ,fU] at *
     simp [Instr.sliceBounds,Instr.sliceBound,(aN r hx).bR,asIntOf,h0,h1]
   | some y k' i' hy=>
     simp only [eZ,fU] at *
     have e1:i'≤(cap:Int):=by omega
     have e2:0≤i':=by omega
     have e3:i≤(i'.toNat:Int):=by omega
     simp [Instr.sliceBounds,Instr.sliceBound,(aN r hx).bR,(aN r hy).bR,asIntOf,h0,e1,e2]
     intro gZ
     omega
theorem BE (s:List UInt8) (l h:Nat):(⟨s.toArray⟩:ByteArray).extract l h=⟨((s.drop l).take (h - l)).toArray⟩:=by
 have e:=ByteArray.data_extract (a:=(⟨s.toArray⟩:ByteArray)) (b:=l) (e:=h)
 cases hx:(⟨s.toArray⟩:ByteArray).extract l h with
 | mk da=>
   rw [hx] at e
   simp only at e
   rw [e]
   congr 1
   apply Array.ext'
   simp
theorem CM {t:TypeId} {x:Operand} {lo hi:Option Operand} {l h:Option Int} {s:List UInt8} [ay P t .string] (hx:bS tm x=some (.str s)) (hl:Eb tm lo l) (hh:Eb tm hi h) (h0:0≤eZ l) (h1:eZ l≤fU s.length h) (h2:fU s.length h≤s.length):
 QV P ⟨some d,.slice t x lo hi none,ty,pos,af,none⟩ ⟨n,tm,hp⟩ (.str ((s.drop (eZ l).toNat).take ((fU s.length h).toNat - (eZ l).toNat))):=by
 intro w S a r
 refine ⟨.string ((⟨s.toArray⟩:ByteArray).extract (eZ l).toNat (fU s.length h).toNat),fun w1 _=>?_,by rw [BE];exact .str _⟩
 have hb:=uX (P:=P) (σ:=⟨n,tm,hp⟩) r hl hh false s.length s.length h0 h1 h2 (Nat.le_refl _) w1
 simp [execOp,Instr.sliceAt,run_underlying (ay.h (P:=P) (t:=t)),Instr.slice,(aN (σ:=⟨n,tm,hp⟩) r hx).ct,Bz,hb]
theorem BF {t e:TypeId} {i:TypeInfo} {x:Operand} {lo hi:Option Operand} {l h:Option Int} {sz:Nat} {xs:List AV} [ay P t (.slice e)] [aP P e i] (hx:bS tm x=some (.list sz xs)) (eF:Nat.beq i.size sz=true) (hl:Eb tm lo l) (hh:Eb tm hi h) (h0:0≤eZ l) (h1:eZ l≤fU xs.length h) (h2:fU xs.length h≤xs.length):
 QV P ⟨some d,.slice t x lo hi none,ty,pos,af,none⟩ ⟨n,tm,hp⟩ (.list sz ((xs.drop (eZ l).toNat).take ((fU xs.length h).toNat - (eZ l).toNat))):=by
 intro w S a r
 obtain rfl:i.size=sz:=Nat.eq_of_beq_eq_true eF
 obtain ⟨oa,cap,vs,e1,e2,e3,e4,e5,e6⟩:=(aN (σ:=⟨n,tm,hp⟩) r hx).sM
 have hlen:((xs.drop (eZ l).toNat).take ((fU xs.length h).toNat - (eZ l).toNat)).length=(fU xs.length h).toNat - (eZ l).toNat:=by simp;omega
 refine ⟨.slice (if cap=(eZ l).toNat then oa else oa.map (·.add ((eZ l).toNat * i.size))) ((fU xs.length h).toNat - (eZ l).toNat) (cap - (eZ l).toNat),fun w1 _=>?_,?_⟩
 ·have hb:=uX (P:=P) (σ:=⟨n,tm,hp⟩) r hl hh true xs.length cap h0 h1 h2 e6 w1
  simp [execOp,Instr.sliceAt,run_underlying (ay.h (P:=P) (t:=t)),Instr.slice,e1,hb,sizeOf,typeInfo,aP.h (P:=P) (t:=e)]
 ·have hm:∀ y∈(xs.drop (eZ l).toNat).take ((fU xs.length h).toNat - (eZ l).toNat),El i.size y:=fun y hy=>e2 y (List.mem_of_mem_drop (List.mem_of_mem_take hy))
  have Fh:flat ((xs.drop (eZ l).toNat).take ((fU xs.length h).toNat - (eZ l).toNat))=((flat xs).drop ((eZ l).toNat * i.size)).take (((fU xs.length h).toNat - (eZ l).toNat) * i.size):=by
   rw [nI _ _ (fun y hy=>e2 y (List.mem_of_mem_drop hy)),qS _ _ e2]
  have:=At.list (w:=w) (S:=S) i.size ((xs.drop (eZ l).toNat).take ((fU xs.length h).toNat - (eZ l).toNat)) (if cap=(eZ l).toNat then oa else oa.map (·.add ((eZ l).toNat * i.size))) (cap - (eZ l).toNat)
   ((vs.drop ((eZ l).toNat * i.size)).take (((fU xs.length h).toNat - (eZ l).toNat) * i.size)) hm (by rw [Fh];simp [e3]) (fun j c u hc hu=>?_) (fun j u hu=>?_) (by rw [hlen];omega)
  ·rw [hlen] at this;exact this
  ·rw [Fh] at hc
   simp only [List.getElem?_take,List.getElem?_drop] at hc hu
   split at hu
   ·rename_i gZ;rw [if_pos gZ] at hc;exact e4 _ c u hc hu
   ·cases hu
  ·simp only [List.getElem?_take,List.getElem?_drop] at hu
   split at hu
   ·rename_i gZ
    obtain ⟨ad,rfl,g1,g2,g3⟩:=e5 _ u hu
    have vv:0 < (fU xs.length h).toNat - (eZ l).toNat:=by
     rcases Nat.eq_zero_or_pos ((fU xs.length h).toNat - (eZ l).toNat) with hz | hz
     ·rw [hz] at gZ;simp at gZ
     ·exact hz
    rw [if_neg (by omega)]
    obtain ⟨bk,of,sp⟩:=ad
    simp only at g1 g2;subst g1
    refine ⟨⟨bk,of+(eZ l).toNat * i.size,none⟩,by simp [je],rfl,g2,?_⟩
    simpa [Nat.add_assoc] using g3
   ·cases hu
theorem rS {t e:TypeId} {i:TypeInfo} {x:Operand} {lo hi:Option Operand} {l h:Option Int} {sz off len:Nat} {b:Bk} [ay P t (.slice e)] [aP P e i] (hx:bS tm x=some (.sl sz b off len)) (eF:Nat.beq i.size sz=true) (hl:Eb tm lo l) (hh:Eb tm hi h) (h0:0≤eZ l) (h1:eZ l≤fU len h) (h2:fU len h≤len):
 QV P ⟨some d,.slice t x lo hi none,ty,pos,af,none⟩ ⟨n,tm,hp⟩ (.sl sz b (off+(eZ l).toNat) ((fU len h).toNat - (eZ l).toNat)):=by
 intro w S a r
 obtain rfl:i.size=sz:=Nat.eq_of_beq_eq_true eF
 obtain ⟨oa,cap,e1,e2⟩:=(aN (σ:=⟨n,tm,hp⟩) r hx).mB
 have CN:len≤cap:=by rcases e2 with ⟨_,_,hl,_,_⟩ | ⟨m,hb,_,g1,g2⟩ | ⟨m,ad,hb,_,hl,_⟩<;>omega
 refine ⟨.slice (if cap=(eZ l).toNat then oa else oa.map (·.add ((eZ l).toNat * i.size))) ((fU len h).toNat - (eZ l).toNat) (cap - (eZ l).toNat),fun w1 _=>?_,?_⟩
 ·have hb:=uX (P:=P) (σ:=⟨n,tm,hp⟩) r hl hh true len cap h0 h1 h2 CN w1
  simp [execOp,Instr.sliceAt,run_underlying (ay.h (P:=P) (t:=t)),Instr.slice,e1,hb,sizeOf,typeInfo,aP.h (P:=P) (t:=e)]
 ·rcases e2 with ⟨hb,ho,Yf,rfl,RX⟩ | ⟨m,hb,rfl,g1,g2⟩ | ⟨m,ad,hb,rfl,Yf,RX⟩
  ·have Ps:(eZ l).toNat=0:=by omega
   have Oa:(fU len h).toNat=0:=by omega
   rw [Ps,Oa,ho,RX]
   exact .yv i.size b hb
  ·by_cases wA:cap=(eZ l).toNat
   ·rw [if_pos wA]
    have hz:(fU len h).toNat - (eZ l).toNat=0:=by omega
    rw [hz,show cap - (eZ l).toNat=0 from by omega]
    exact .Hg i.size b _ m _ hb
   ·rw [if_neg wA]
    have:=At.sl (w:=w) (S:=S) i.size b (off+(eZ l).toNat) ((fU len h).toNat - (eZ l).toNat) m (cap - (eZ l).toNat) hb (by omega) (by omega)
    rw [Nat.add_mul] at this
    simpa [je] using this
  ·have Ps:(eZ l).toNat=0:=by omega
   have Oa:(fU len h).toNat=0:=by omega
   rw [Ps,Oa,RX,if_pos rfl]
   exact .Hg i.size b _ m ad hb
theorem jh {src dst:TypeId} {D:TypeDesc} {x:Operand} {k k':IntKind} {i:Int} [ay P src D] [ay P dst (.int k')] (hx:bS tm x=some (.int k i)):QV P ⟨some d,.convert src dst x,ty,pos,af,none⟩ ⟨n,tm,hp⟩ (.int k' (k'.wrap i)):=by
 intro w S a r
 refine ⟨.int k' (k'.wrap i),fun w1 _=>?_,.int _ _⟩
 simp only [execOp,convert,(aN (σ:=⟨n,tm,hp⟩) r hx).bR,Sem.run_bind,run_underlying (ay.h (P:=P) (t:=src)),run_underlying (ay.h (P:=P) (t:=dst)),Result.andThen_ok]
 cases D<;>simp [Conv.intToInt]
end rules
section
variable {P:Program} {all:Array Oper} {rest:List Oper} {σ:St} {Q:St→Prop} {dd:Option Nat} {ty:TypeId} {pos:String} {af:Array Edge}
end
theorem CO {sz:Nat} {x y:AV}:∀ {xs:List AV} {q:Nat},(∀ x∈xs,El sz x)→El sz y→xs[q]? =some x→flat (xs.set q y)=(flat xs).take (q * sz)++y.cells++(flat xs).drop (q * sz+sz)
 | [],q,_,_,h=>by simp at h
 | z :: xs,0,hs,hy,h=>by
   have hz:=(hs z (by simp)).1
   rw [List.set_cons_zero,ij,ij]
   simp only [Nat.zero_mul,List.take_zero,List.nil_append,Nat.zero_add]
   rw [List.drop_left' hz]
 | z :: xs,q+1,hs,hy,h=>by
   have hz:=(hs z (by simp)).1
   simp only [List.getElem?_cons_succ] at h
   rw [List.set_cons_succ,ij,ij,CO (fun a ha=>hs a (by simp [ha])) hy h]
   have e1:(q+1) * sz=sz+q * sz:=by rw [Nat.add_mul,Nat.one_mul];omega
   rw [e1,List.take_append,List.take_of_length_le (l:=z.cells) (by omega),hz,Nat.add_sub_cancel_left,List.drop_append,List.drop_of_length_le (l:=z.cells) (by omega),hz]
   rw [show sz+q * sz+sz - sz=q * sz+sz from by omega]
   simp [List.append_assoc]
theorem Fp {w:World} {S:Nat→Prop} {cs new:List AV} {vs iN:Array Value} (o:Nat) (hl:cs.length≤vs.size) (h:gX w S cs vs) (sq:new.length=iN.size) (h':gX w S new iN) (ho:o+new.length≤cs.length):
 gX w S (cs.take o++new++cs.drop (o+new.length)) (vs.toList.take o++iN.toList++vs.toList.drop (o+iN.toList.length)).toArray:=by
 intro i c v hc hv
 simp only [List.getElem?_toArray] at hc hv
 have l1:(cs.take o).length=o:=by simp;omega
 have l2:(vs.toList.take o).length=o:=by simp;omega
 have l3:iN.toList.length=new.length:=by simp [sq]
 rw [List.append_assoc] at hc hv
 by_cases h1:i < o
 ·rw [List.getElem?_append_left (by omega)] at hc hv
  rw [List.getElem?_take,if_pos h1] at hc hv
  exact h i c v hc (by simpa using hv)
 ·rw [List.getElem?_append_right (by omega)] at hc hv
  rw [l1] at hc
  rw [l2] at hv
  by_cases h2:i - o < new.length
  ·rw [List.getElem?_append_left (by omega)] at hc hv
   exact h' (i - o) c v hc (by simpa using hv)
  ·rw [List.getElem?_append_right (by omega)] at hc hv
   rw [l3] at hv
   rw [List.getElem?_drop] at hc hv
   rw [show o+new.length+(i - o - new.length)=i from by omega] at hc hv
   exact h i c v hc (by simpa using hv)
section rules
variable {P:Program} {all:Array Oper} {rest:List Oper} {n:Nat} {tm:List (Nat×AV)} {hp:Heap} {Q:St→Prop} {d:Nat} {ty:TypeId} {pos:String} {af:Array Edge}
theorem uW.refl (l:List AV):uW hp l l:=by
 induction l with
 | nil=>exact .nil
 | cons a l ih=>exact .cons (.refl a) ih
def Pu (P:Program) (f:FuncId) (args:List AV) (R:AV):Prop:=aH P f args [] (fun r _=>r=R)
theorem aM {f:FuncId} {args:List Operand} {ts:Array TypeId} {l l':List AV} {R:AV} [bf P f] (hl:wH tm args=some l) (c:Pu P f l' R) (co:uW hp l l') (hn:Nat.blt d n=true)
 (kk:ah P all rest ⟨n,(d,R) :: tm,hp⟩ Q):ah P all (⟨some d,.call {callee:=.value (.func f),args:=args.toArray,argTypes:=ts},ty,pos,af,none⟩ :: rest) ⟨n,tm,hp⟩ Q:=by
 refine Kf hl c co hn (fun r h' hr=>?_)
 subst hr
 exact ah.weaken (aI:=⟨n,(d,r) :: tm,hp⟩) ⟨rfl,fun _ _ h=>h,List.sublist_append_right _ _⟩ kk
theorem gy {f:FuncId} {args:List Operand} {ts:Array TypeId} {l l':List AV} {R:AV} [bf P f] (hl:wH tm args=some l) (c:Pu P f l' R) (co:sX hp l l') (hn:Nat.blt d n=true) (hR:R.QY=true)
 (kk:ah P all rest ⟨n,(d,R) :: tm,hp⟩ Q):ah P all (⟨some d,.call {callee:=.value (.func f),args:=args.toArray,argTypes:=ts},ty,pos,af,none⟩ :: rest) ⟨n,tm,hp⟩ Q:=
 Ki hl c co hn (fun r h' hr=>by subst hr;exact ⟨hR,kk⟩)
theorem pv {f:FuncId} {x:Operand} {args:List Operand} {ts:Array TypeId} {pZ l l':List AV} {R:AV} [bf P f] (hx:bS tm x=some (.func (.func f) pZ)) (hl:wH tm args=some l) (c:Pu P f l' R) (co:uW hp (l++pZ) l') (hn:Nat.blt d n=true)
 (kk:ah P all rest ⟨n,(d,R) :: tm,hp⟩ Q):ah P all (⟨some d,.call {callee:=.value x,args:=args.toArray,argTypes:=ts},ty,pos,af,none⟩ :: rest) ⟨n,tm,hp⟩ Q:=by
 refine Fm hx hl c co (List.Perm.refl _) hn (fun r h' hr=>?_)
 subst hr
 exact ah.weaken (aI:=⟨n,(d,r) :: tm,hp⟩) ⟨rfl,fun _ _ h=>h,List.sublist_append_right _ _⟩ kk
end rules
inductive RV (P:Program) (σ:St):ResultVar→AV→Prop
 | tmp (t:Nat) (av:AV) (h:lk σ.tm t=some av):RV P σ (.tmp t) av
 | all (p ty:Nat) (b:Bk) (cs:List AV) (D:TypeDesc) (i:TypeInfo) (h:lk σ.tm p=some (.ptr b 0)) (f:kR σ.hp b (.cells cs)) (hu:P.underlying ty=some D) (hi:P.info? ty=some i) (hD:TypeDesc.jf D=true) (hs:Nat.beq cs.length i.size=true):RV P σ (.cell p ty) (.agg cs)
 | one (p ty:Nat) (b:Bk) (cs:List AV) (av:AV) (D:TypeDesc) (h:lk σ.tm p=some (.ptr b 0)) (f:kR σ.hp b (.cells cs)) (hu:P.underlying ty=some D) (hD:TypeDesc.jf D=false) (hs:cs[0]? =some av):RV P σ (.cell p ty) av
def yH (tmps:Array Value):ResultVar→Sem Value
 | .tmp t=>pure (tmps.getD t undef)
 | .cell a t=>do loadVar t (← asAddr (tmps.getD a undef))
theorem RV.run {P:Program} {σ:St} {rv:ResultVar} {av:AV} (h:RV P σ rv av) {w:World} {S:Nat→Prop} {a:Act} (r:dm w S σ a):∃ v,(yH a.tmps rv).run P w=.ok v w∧At w S av v:=by
 cases h with
 | tmp t av h=>
   obtain ⟨v,h1,h2⟩:=r.tm t _ h
   exact ⟨v,by simp [yH,h1],h2⟩
 | all p ty b cs D i h f hu hi hD hs=>
   obtain ⟨v,h1,h2⟩:=r.tm p _ h
   obtain ⟨m,e1,rfl⟩:=h2.ml
   obtain ⟨_,m',vs,E,g1,g2,g3,g4⟩:=pd r.hp f
   obtain rfl:m'=m:=by rw [g1] at e1;exact Option.some.inj e1
   have hlen:vs.toList.length=i.size:=by simp [g3];exact Nat.eq_of_beq_eq_true hs
   refine ⟨.agg vs,?_,.agg cs vs g3.symm g4⟩
   have:=j6 (P:=P) hu hD hi (w:=w) (ad:=⟨m',0,none⟩) (vs:=vs.toList) hlen (fun j v hv=>by rw [je,mo g2];simpa using hv)
   simp [yH,h1,asAddr,this]
 | one p ty b cs av D h f hu hD hs=>
   obtain ⟨v,h1,h2⟩:=r.tm p _ h
   obtain ⟨m,e1,rfl⟩:=h2.ml
   obtain ⟨_,m',vs,E,g1,g2,g3,g4⟩:=pd r.hp f
   obtain rfl:m'=m:=by rw [g1] at e1;exact Option.some.inj e1
   have gZ:0 < vs.size:=by rw [g3];exact (List.getElem?_eq_some_iff.1 hs).1
   have hv:vs[0]? =some vs[0]:=by simp [gZ]
   refine ⟨vs[0],?_,g4 0 av _ hs hv⟩
   have:=mn (P:=P) hu hD (w:=w) (ad:=⟨m',0,none⟩) (v:=vs[0]) (by rw [mo g2,hv])
   simp [yH,h1,asAddr,this]
inductive Rs (P:Program) (σ:St):List ResultVar→List AV→Prop
 | nil:Rs P σ [] []
 | cons {v:ResultVar} {l:List ResultVar} {a:AV} {as:List AV} (h:RV P σ v a) (k:Rs P σ l as):Rs P σ (v :: l) (a :: as)
def xq:List AV→AV
 | [a]=>a
 | as=>.mA as
theorem Rs.run {P:Program} {σ:St} {w:World} {S:Nat→Prop} {a:Act} (r:dm w S σ a):∀ {l:List ResultVar} {as:List AV},Rs P σ l as→∃ vs,(l.mapM (yH a.tmps)).run P w=.ok vs w∧as.length=vs.length∧∀ (i:Nat) c v,as[i]? =some c→vs[i]? =some v→At w S c v
 | [],_,.nil=>⟨[],by simp,rfl,fun i c v hc=>by simp at hc⟩
 | x :: l,_,.cons (a:=av) (as:=as) h k=>by
   obtain ⟨v,h1,h2⟩:=h.run r
   obtain ⟨vs,g1,g2,g3⟩:=Rs.run r k
   refine ⟨v :: vs,by simp [h1,g1],by simp [g2],fun i c u hc hu=>?_⟩
   match i with
   | 0=>simp at hc hu;subst hc;subst hu;exact h2
   | i+1=>exact g3 i c u (by simpa using hc) (by simpa using hu)
theorem CP {P:Program} {fn:Func} {l:List ResultVar} {σ:St} {as:List AV} (hf:fn.results=l.toArray) (h:Rs P σ l as) {w:World} {S:Nat→Prop} {a:Act} (r:dm w S σ a):∃ v,(results fn a.tmps).run P w=.ok v w∧At w S (xq as) v:=by
 obtain ⟨vs,g1,g2,g3⟩:=h.run r
 have hm:results fn a.tmps=(do let vs ← Functor.map List.toArray (l.mapM (yH a.tmps));pure (if h:vs.size=1 then vs[0] else .tuple vs)):=by
  have RY:(fun (x:ResultVar)=>(match x with | .tmp t=>pure (a.tmps.getD t undef) | .cell p t=>do loadVar t (← asAddr (a.tmps.getD p undef)):Sem Value))=yH a.tmps:=by
   funext x
   cases x<;>rfl
  unfold results
  rw [hf,List.mapM_toArray]
  rw [← RY]
  rfl
 refine ⟨if h:vs.toArray.size=1 then vs.toArray[0] else .tuple vs.toArray,?_,?_⟩
 ·rw [hm,Sem.run_bind,Sem.run_map,g1]
  rfl
 ·clear h hm g1
  match as,vs,g2,g3 with
  | [],[],_,_=>simp [xq];exact .mA [] _ rfl (fun i c v hc=>by simp at hc)
  | [x],[v],_,g3=>simp [xq];exact g3 0 x v rfl rfl
  | x :: y :: as,v :: u :: vs,hl,g3=>simp [xq];exact .mA _ _ (by simpa using hl) (fun i c v hc hv=>g3 i c v hc (by simpa using hv))
theorem aH.Pt {P:Program} {f:FuncId} {fn:Func} {c:Code} {args:List AV} {h:Heap} {Q:AV→Heap→Prop} {n:Nat} {l:List ResultVar} (hf:P.funcs[f]? =some fn) (hb:fn.body=some c) (hn:fn.ntmps=n) (MS:fn.results=l.toArray)
 (hle:Nat.ble args.length n=true) (kk:aa P (fun σ=>aj σ (fun aI=>∃ as,Rs P aI l as∧Q (xq as) aI.hp)) [.code c] ⟨n,J6 args 0,h⟩):aH P f args h Q:=by
 intro w S vs hr hl ha
 refine calls_of_wp hf hb ?_
 have r0:dm w S ⟨n,J6 args 0,h⟩ {tmps:=vs++Array.replicate (fn.ntmps - vs.size) undef,defers:=[]}:=by
  have:=Nat.le_of_ble_eq_true hle
  refine ⟨by simp [hn];omega,rfl,fun s av hs=>?_,hr⟩
  obtain ⟨_,h2⟩:=Hz args 0 s av hs
  simp only [Nat.sub_zero] at h2
  have gZ:s < args.length:=(List.getElem?_eq_some_iff.1 h2).1
  have Pv:s < vs.size:=by omega
  refine ⟨vs[s],by simp [Array.getElem?_append,Pv],ha s av _ h2 (by simp [Pv])⟩
 refine wp_mono (kk w S _ r0) ?_
 rintro e a' w' ⟨aI,S',h1,h2,h3⟩
 have fin:aj aI (fun Eo=>∃ as,Rs P Eo l as∧Q (xq as) Eo.hp)→a'.defers=[]∧∃ v,(results fn a'.tmps).run P w'=.ok v w'∧∃ v' r h' S',(Ending.returned v:Ending)=.returned v'∧Q r h'∧At w' S' r v'∧bZ w' S' h'∧gY w S h w' S' h':=by
  intro hi
  obtain ⟨D9,S2,⟨as,QZ,hq⟩,g2,g3⟩:=hi w' S' a' h2
  obtain ⟨v,QX,RZ⟩:=CP MS QZ g2
  exact ⟨g2.defers,v,QX,v,xq as,D9.hp,S2,rfl,hq,RZ,g2.hp,h3.trans g3⟩
 cases e with
 | normal=>exact fin h1
 | ret=>exact fin h1
 | exit id=>exact h1.elim
 | goto l=>exact h1.elim
 | panic c=>exact h1.elim
 | outgrown=>exact h1.elim
inductive HS:Heap→Heap→Prop
 | nil {h:Heap}:HS h []
 | cons {h h1 t:Heap} {b:Bk} {o:Ob} (u:wI h b o h1) (k:HS h1 t):HS h ((b,o) :: t)
theorem HS.perm {h t:Heap} (s:HS h t):∃ r,h.Perm (t++r):=by
 induction s with
 | nil=>exact ⟨_,List.Perm.refl _⟩
 | cons u k ih=>
   obtain ⟨r,hr⟩:=ih
   exact ⟨r,u.perm.trans (List.Perm.cons _ hr)⟩
theorem aj.Pw {n:Nat} {tm kD:List (Nat×AV)} {hp bY:Heap} {T:St→Prop} (h:AJ tm kD) (hs:HS hp bY) (k:aj ⟨n,kD,bY⟩ T):aj ⟨n,tm,hp⟩ T:=by
 obtain ⟨r,hr⟩:=hs.perm
 refine aj.step (yy:=⟨n,kD,bY⟩) (fun w S a rel=>⟨_,S,rfl,⟨rel.size,rel.defers,fun s av hh=>rel.tm s av (h.lk s av hh),(rel.hp.perm hr).sub (List.sublist_append_left _ _)⟩,gY.less (gY.refl w S hp) fun m hm=>?_⟩) k
 obtain ⟨e,he,hb⟩:=hm
 exact ⟨e,hr.mem_iff.2 (List.mem_append_left _ he),hb⟩
abbrev I (n:Int):AV:=.int .i64 n
section rules
variable {P:Program} {all:Array Oper} {rest:List Oper} {n:Nat} {tm:List (Nat×AV)} {hp:Heap} {Q:St→Prop} {d:Nat} {ty:TypeId} {pos:String} {af:Array Edge}
end rules
section rules
variable {P:Program} {all:Array Oper} {rest:List Oper} {n:Nat} {tm:List (Nat×AV)} {hp:Heap} {Q:St→Prop} {d:Nat} {ty:TypeId} {pos:String} {af:Array Edge}
theorem Gj {t e:TypeId} {i:TypeInfo} {z:Value} {x y:Operand} {src:AV} {b:Bk} {len sz:Nat} {xs ys:List AV} {bY:Bk→Heap} [ay P t (.slice e)] [aP P e i] (hx:bS tm x=some (.sl sz b 0 len)) (hy:bS tm y=some src) (hz:i.zero=some z)
 (wB:Nat.beq z.cells.size i.size=true) (eF:Nat.beq i.size sz=true) (h0:Nat.blt 0 sz=true) (hn:Nat.blt d n=true) (R0:Nat.ble i.bytes 65536=true) (hs:Src hp sz src ys) (u:∀ b',iE hp b (.arr sz xs) b' (.arr sz (xs++ys)) (bY b')) (hlen:len=xs.length)
 (hb:xs.length+ys.length≤1000000000)
 (kk:∀ b':Bk,ah P all rest ⟨n,(d,.sl sz b' 0 (len+ys.length)) :: tm,bY b'⟩ Q):ah P all (⟨some d,.call {callee:=.builtin .append,args:=#[x,y],argTypes:=#[t,t]},ty,pos,af,none⟩ :: rest) ⟨n,tm,hp⟩ Q:=by
 refine HE hx hy hz wB eF h0 hn hs u hlen ?_ (by omega) kk
 have h1:=Nat.le_of_ble_eq_true R0
 have:=Nat.mul_le_mul hb h1
 omega
end rules
def oV:List AV→Option (List AV)
 | []=>some []
 | x :: r=>match oV r with
   | some l=>some (x :: l)
   | none=>none
theorem j7:∀ {l l':List AV},oV l=some l'→l=l'
 | [],l',h=>by simp [oV] at h;exact h.symm
 | x :: r,l',h=>by
   simp only [oV] at h
   split at h
   ·rename_i l hl
    obtain rfl:=Option.some.inj h
    rw [j7 hl]
   ·cases h
def HG:List AV→Nat→Option (List (Nat×AV))
 | [],_=>some []
 | x :: r,i=>match HG r (i+1) with
   | some l=>some ((i,x) :: l)
   | none=>none
theorem Fq:∀ {l:List AV} {i:Nat} {l':List (Nat×AV)},HG l i=some l'→J6 l i=l'
 | [],i,l',h=>by simp [HG] at h;simpa [J6] using h
 | x :: r,i,l',h=>by
   simp only [HG] at h
   split at h
   ·rename_i l hl
    obtain rfl:=Option.some.inj h
    rw [J6,Fq hl]
   ·cases h
class kK (P:Program) (t:TypeId) (sz:outParam Nat):Prop where
 h:∃ i,P.info? t=some i∧i.size=sz
theorem aH.bj {P:Program} {f:FuncId} {fn:Func} {c:Code} {args:List AV} {h:Heap} {Q:AV→Heap→Prop} {n:Nat} {l:List ResultVar} {tm:List (Nat×AV)} (hf:P.funcs[f]? =some fn) (hb:fn.body=some c) (hn:fn.ntmps=n) (MS:fn.results=l.toArray)
 (Yg:HG args 0=some tm) (hle:Nat.ble args.length n=true) (kk:aa P (fun σ=>aj σ (fun aI=>∃ rs,Rs P aI l rs∧Q (xq rs) aI.hp)) [.code c] ⟨n,tm,h⟩):aH P f args h Q:=
 aH.Pt hf hb hn MS hle (by rw [Fq Yg];exact kk)
section rules
variable {P:Program} {all:Array Oper} {rest:List Oper} {n:Nat} {tm:List (Nat×AV)} {hp:Heap} {Q:St→Prop} {d:Nat} {ty:TypeId} {pos:String} {af:Array Edge}
theorem fe {x:Operand} {E:TypeId} {av:AV} {cs:List AV} (hx:bS tm x=some av) (hc:oV av.cells=some cs) (h1:jr cs=true) (hn:Nat.blt d n=true)
 (kk:∀ b:Bk,ah P all rest ⟨n,(d,.ptr b 0) :: tm,(b,.cells cs) :: hp⟩ Q):ah P all (⟨some d,.box E x,ty,pos,af,none⟩ :: rest) ⟨n,tm,hp⟩ Q:=by
 obtain rfl:=j7 hc
 exact Pp hx h1 hn kk
theorem gd {E:TypeId} {i:TypeInfo} {z:Value} {cs:List AV} [aP P E i] (hz:i.zero=some z) (hc:oV (yC z).cells=some cs) (h1:jr cs=true) (hn:Nat.blt d n=true)
 (kk:∀ b:Bk,ah P all rest ⟨n,(d,.ptr b 0) :: tm,(b,.cells cs) :: hp⟩ Q):ah P all (⟨some d,.alloc E,ty,pos,af,none⟩ :: rest) ⟨n,tm,hp⟩ Q:=by
 obtain rfl:=j7 hc
 exact J9 hz h1 hn kk
theorem au {x:Operand} {s:TypeId} {j off:Nat} {b:Bk} {o o':Nat} [lN P s j off] (hx:bS tm x=some (.ptr b o)) (ho:o+off=o'):QV P ⟨some d,.fieldAddr s x j,ty,pos,af,none⟩ ⟨n,tm,hp⟩ (.ptr b o'):=by
 subst ho
 exact CB hx
theorem eE {x:Operand} {s:TypeId} {j off:Nat} {cs lP:List AV} [lN P s j off] (hx:bS tm x=some (.mO cs)) (hc:oV (cs.drop off)=some lP):QV P ⟨some d,.fieldAddr s x j,ty,pos,af,none⟩ ⟨n,tm,hp⟩ (.mO lP):=by
 obtain rfl:=j7 hc
 exact BB hx
theorem dN {t:TypeId} {D:TypeDesc} {i:TypeInfo} {x:Operand} {b:Bk} {o:Nat} {cs lP:List AV} [ay P t D] [aP P t i] (hD:TypeDesc.jf D=true) (hx:bS tm x=some (.ptr b o)) (f:kR hp b (.cells cs)) (ho:Nat.ble (o+i.size) cs.length=true) (hc:oV ((cs.drop o).take i.size)=some lP):
 QV P ⟨some d,.load t x,ty,pos,af,none⟩ ⟨n,tm,hp⟩ (.agg lP):=by
 obtain rfl:=j7 hc
 exact xS hD hx f ho
theorem cW {t:TypeId} {i:TypeInfo} {z:Value} {parts:List (Nat×Operand)} {l:List (Nat×AV)} {cs lP:List AV} {pl:List (Nat×Nat)} [aP P t i] [kJ P t pl] (hz:i.zero=some z) (hl:N7 tm parts=some l) (h1:jr (yC z).cells=true)
 (hc:AH pl (yC z).cells l=some cs) (Hi:oV cs=some lP):QV P ⟨some d,.build t parts.toArray,ty,pos,af,none⟩ ⟨n,tm,hp⟩ (.agg lP):=by
 obtain rfl:=j7 Hi
 exact Kc hz hl h1 hc
theorem aC {t:TypeId} {i:TypeInfo} {x y:Operand} {b:Bk} {o:Nat} {cs lP:List AV} {av:AV} {bY:Heap} [aP P t i] (hx:bS tm x=some (.ptr b o)) (hy:bS tm y=some av) (h1:jr av.cells=true) (eF:Nat.beq av.cells.length i.size=true)
 (u:iE hp b (.cells cs) b (.cells lP) bY) (hc:oV (lO cs o av.cells)=some lP) (ho:Nat.ble (o+av.cells.length) cs.length=true) (kk:ah P all rest ⟨n,tm,bY⟩ Q):ah P all (⟨none,.store t x y,ty,pos,af,none⟩ :: rest) ⟨n,tm,hp⟩ Q:=by
 obtain rfl:=j7 hc
 exact CC hx hy h1 eF u ho kk
theorem aT {t e:TypeId} {i:TypeInfo} {z:Value} {len sz:Nat} {parts:List (Nat×Operand)} {xs:List AV} [ay P t (.slice e)] [aP P e i] [kK P e sz] (hz:i.zero=some z) (hl:Gi tm parts 0=some xs) (hlen:Nat.beq parts.length len=true) (sB:sQ i.size xs=true)
 (Fi:Nat.ble (len * i.size) 16777216=true) (hn:Nat.blt d n=true) (kk:ah P all rest ⟨n,(d,.list sz xs) :: tm,hp⟩ Q):ah P all (⟨some d,.buildSlice t len parts.toArray,ty,pos,af,none⟩ :: rest) ⟨n,tm,hp⟩ Q:=by
 obtain ⟨i',h1,h2⟩:=kK.h (P:=P) (t:=e)
 obtain rfl:i'=i:=by rw [aP.h (P:=P) (t:=e)] at h1;exact (Option.some.inj h1).symm
 subst h2
 exact z8 hz hl hlen sB Fi hn kk
theorem jS {t e:TypeId} {i:TypeInfo} {z:Value} {len sz:Nat} {parts:List (Nat×Operand)} {xs:List AV} [ay P t (.slice e)] [aP P e i] [kK P e sz] (hz:i.zero=some z) (hl:Gi tm parts 0=some xs) (hlen:Nat.beq parts.length len=true) (sB:sQ i.size xs=true)
 (Fi:Nat.ble (len * i.size) 16777216=true) (hn:Nat.blt d n=true) (kk:∀ b:Bk,ah P all rest ⟨n,(d,.sl sz b 0 len) :: tm,(b,.arr sz xs) :: hp⟩ Q):ah P all (⟨some d,.buildSlice t len parts.toArray,ty,pos,af,none⟩ :: rest) ⟨n,tm,hp⟩ Q:=by
 obtain ⟨i',h1,h2⟩:=kK.h (P:=P) (t:=e)
 obtain rfl:i'=i:=by rw [aP.h (P:=P) (t:=e)] at h1;exact (Option.some.inj h1).symm
 subst h2
 exact vx hz hl hlen sB Fi hn kk
end rules
structure Grow (w:World) (S:Nat→Prop) (w':World) (S':Nat→Prop):Prop where
 ext:Ext w w'
 up:∀ n,S n→S' n
 down:∀ n,n < w.heap.size→S' n→S n
 slt:∀ n,S' n→n < w'.heap.size
theorem Grow.refl {w:World} {S:Nat→Prop} (h:∀ n,S n→n < w.heap.size):Grow w S w S:=⟨Ext.refl w,fun _ h=>h,fun _ _ h=>h,h⟩
theorem Grow.trans {a b c:World} {S T U:Nat→Prop} (h:Grow a S b T) (k:Grow b T c U):Grow a S c U:=
 ⟨h.ext.trans k.ext,fun n hn=>k.up n (h.up n hn),fun n hn hs=>h.down n hn (k.down n (Nat.lt_of_lt_of_le hn h.ext.size) hs),k.slt⟩
theorem Grow.iH {w w':World} {S S':Nat→Prop} (g:Grow w S w' S') (h:∀ n,S n→n < w.heap.size):∀ n,S n→S' n∧w'.heap[n]? =w.heap[n]?:=fun n hn=>⟨g.up n hn,g.ext.same n (h n hn)⟩
theorem bZ.grow {w w':World} {S S':Nat→Prop} {h:Heap} (r:bZ w S h) (g:Grow w S w' S'):bZ w' S' h where
 nodup:=r.nodup
 holds e he:=(r.holds e he).mono (g.iH r.slt) (fun n hn=>g.ext.same n (r.lt ⟨e,he,hn⟩))
 sep e he n hn:=by
  rw [← r.sep e he n hn]
  exact ⟨g.down n (r.lt ⟨e,he,hn⟩),g.up n⟩
 slt:=g.slt
 gQ t o ho:=⟨(g.iH r.slt t (r.gQ t o ho).1).1,AB (g.iH r.slt t (r.gQ t o ho).1).2 (r.gQ t o ho).2⟩
theorem Grow.Oc {w w':World} {S S':Nat→Prop} (g:Grow w S w' S') (h:∀ n,S n→n < w.heap.size) (hp:Heap):gY w S hp w' S' hp:=
 ⟨g.ext.os,g.ext.tape,g.ext.output,g.ext.size,g.iH h,fun n hn _=>⟨g.ext.same n hn,g.down n hn⟩,fun _ hn=>.inl hn,g.ext.drawn⟩
def looks (all:Array Oper) (o:Oper):List Nat:=
 (o.op.operands.toList.filterMap fun | .tmp t=>some t | _=>none)++(match o.guard with | some (g,_)=>((all[g]?).bind (·.dst)).toList | none=>[])
abbrev Env:=Nat→Option AV
def wK (w:World) (S:Nat→Prop) (ls:List Nat) (e:Env) (a:Act):Prop:=∀ s∈ls,∀ av,e s=some av→∃ v,a.tmps[s]? =some v∧At w S av v
def MV (P:Program) (all:Array Oper) (n:Nat) (o:Oper) (e:Env) (hp:Heap) (av:AV):Prop:=
 ∀ w S a,a.tmps.size=n→a.defers=[]→bZ w S hp→wK w S (looks all o) e a→∀ (K:Act→World→Prop) (Q:Exit→Act→World→Prop),
   (∀ v w' S',Grow w S w' S'→At w' S' av v→K (a.put o.dst v) w')→o.wp P a w K Q
def um (e:Env) (d:Option Nat) (av:AV):Env:=match d with
 | some d=>fun s=>if d=s then some av else e s
 | none=>e
def mC (all:Array Oper) (o:Oper) (e:Env) (b:Bool):Prop:=
 match o.guard with
 | none=>b=true
 | some (j,want)=>∃ s,(all[j]?).bind (·.dst)=some s∧((∃ c,e s=some (.bool c)∧b=(c==want))∨(e s=some (.raw undef)∧b=false))
inductive JL (P:Program) (all:Array Oper) (n:Nat) (hp:Heap):List Oper→Env→Env→Prop
 | nil (e:Env):JL P all n hp [] e e
 | run {o:Oper} {l:List Oper} {e e':Env} {av:AV} (hg:mC all o e true) (h:MV P all n o e hp av) (hd:∀ d,o.dst=some d→d < n) (k:JL P all n hp l (um e o.dst av) e'):JL P all n hp (o :: l) e e'
 | pass {o:Oper} {l:List Oper} {e e':Env} (hg:mC all o e false) (hd:∀ d,o.dst=some d→d < n) (k:JL P all n hp l (um e o.dst (.raw undef)) e'):JL P all n hp (o :: l) e e'
def AK (P:Program) (all:Array Oper) (n:Nat) (hp:Heap) (o:Oper) (e:Env) (av:AV):Prop:=
 (∀ d,o.dst=some d→d < n)∧((mC all o e true∧MV P all n o e hp av)∨(mC all o e false∧av=.raw undef))
theorem JL.yI {P:Program} {all:Array Oper} {n:Nat} {hp:Heap} {l:List Oper} {e e':Env} (h:JL P all n hp l e e'):
 ∃ (gP:Nat→AV) (en:Nat→Env),en 0=e∧en l.length=e'∧∀ i o,l[i]? =some o→AK P all n hp o (en i) (gP i)∧en (i+1)=um (en i) o.dst (gP i):=by
 induction h with
 | nil e=>exact ⟨fun _=>.nil,fun _=>e,rfl,rfl,fun i o h=>by simp at h⟩
 | @run o l e e' av hg hm hd k ih=>
   obtain ⟨gP,en,h0,h1,h2⟩:=ih
   refine ⟨fun i=>match i with | 0=>av | i+1=>gP i,fun i=>match i with | 0=>e | i+1=>en i,rfl,h1,fun i o' ho=>?_⟩
   match i with
   | 0=>simp at ho;subst ho;exact ⟨⟨hd,.inl ⟨hg,hm⟩⟩,h0⟩
   | i+1=>exact h2 i o' (by simpa using ho)
 | @pass o l e e' hg hd k ih=>
   obtain ⟨gP,en,h0,h1,h2⟩:=ih
   refine ⟨fun i=>match i with | 0=>.raw undef | i+1=>gP i,fun i=>match i with | 0=>e | i+1=>en i,rfl,h1,fun i o' ho=>?_⟩
   match i with
   | 0=>simp at ho;subst ho;exact ⟨⟨hd,.inr ⟨hg,rfl⟩⟩,h0⟩
   | i+1=>exact h2 i o' (by simpa using ho)
def waits (o:Oper) (i:Nat):Bool:=o.after.toList.any fun e=>Region.binds .any e&&Nat.beq e.on i
def xu (all:Array Oper) (oi oj:Oper):Bool:=
 match oi.dst,oj.dst with
 | some d,some d'=>(looks all oj).contains d||(looks all oi).contains d'||Nat.beq d d'
 | some d,none=>(looks all oj).contains d
 | none,some d'=>(looks all oi).contains d'
 | none,none=>false
inductive pw (all:Array Oper):Nat→Nat→Prop
 | one {j i:Nat} {oj:Oper} (hj:all[j]? =some oj) (hw:waits oj i=true):pw all j i
 | step {j k i:Nat} {oj:Oper} (hj:all[j]? =some oj) (hw:waits oj k=true) (h:pw all k i):pw all j i
def BG (acc:List Nat):List Edge→Nat→Nat
 | [],m=>m
 | e :: r,m=>BG acc r (match Region.binds .any e with
   | true=>m||| (1 <<< e.on)||| acc.getD e.on 0
   | false=>m)
def HI:List Oper→List Nat→List Nat
 | [],acc=>acc
 | o :: r,acc=>HI r (acc++[BG acc o.after.toList 0])
def Aa (all:Array Oper):List Nat:=HI all.toList []
theorem xv {acc:List Nat} {i:Nat}:∀ (es:List Edge) (m:Nat),(BG acc es m).testBit i=true→m.testBit i=true∨∃ e∈es,Region.binds .any e=true∧(e.on=i∨(acc.getD e.on 0).testBit i=true)
 | [],m,h=>.inl h
 | e :: r,m,h=>by
   simp only [BG] at h
   rcases xv r _ h with h | ⟨e',he,hb,hh⟩
   ·split at h
    ·rename_i hb
     rw [Nat.testBit_or,Nat.testBit_or,Bool.or_eq_true,Bool.or_eq_true] at h
     rcases h with (h | h) | h
     ·exact .inl h
     ·refine .inr ⟨e,by simp,hb,.inl ?_⟩
      rw [Nat.one_shiftLeft,Nat.testBit_two_pow] at h
      simpa using h
     ·exact .inr ⟨e,by simp,hb,.inr h⟩
    ·exact .inl h
   ·exact .inr ⟨e',by simp [he],hb,hh⟩
theorem yJ {all:Array Oper}:∀ (l:List Oper) (acc:List Nat) (pre:List Oper),all.toList=pre++l→acc.length=pre.length→(∀ j i,(acc.getD j 0).testBit i=true→pw all j i)→∀ j i,((HI l acc).getD j 0).testBit i=true→pw all j i
 | [],acc,pre,_,_,h=>h
 | o :: r,acc,pre,hl,hlen,h=>by
   refine yJ r _ (pre++[o]) (by simpa using hl) (by simp [hlen]) (fun j i hb=>?_)
   rcases Nat.lt_or_ge j acc.length with hj | hj
   ·refine h j i ?_
    rw [List.getD_eq_getElem?_getD,List.getElem?_append_left hj] at hb
    rw [List.getD_eq_getElem?_getD]
    exact hb
   ·by_cases UQ:j=acc.length
    ·rw [List.getD_eq_getElem?_getD,List.getElem?_append_right hj,UQ] at hb
     simp only [Nat.sub_self,List.getElem?_cons_zero,Option.getD_some] at hb
     have Hj:all[j]? =some o:=by
      rw [← Array.getElem?_toList,hl,List.getElem?_append_right (by omega),UQ,hlen];simp
     rcases xv _ _ hb with hz | ⟨e,he,Yh,hh⟩
     ·simp at hz
     ·have hw:waits o e.on=true:=by
       simp only [waits,List.any_eq_true,Bool.and_eq_true]
       exact ⟨e,he,Yh,by simp⟩
      rcases hh with hh | hh
      ·subst hh;exact .one Hj hw
      ·exact .step Hj hw (h _ _ hh)
    ·rw [List.getD_eq_getElem?_getD,List.getElem?_append_right hj,List.getElem?_eq_none (by simp;omega)] at hb
     simp at hb
theorem iP {all:Array Oper} {j i:Nat} (h:((Aa all).getD j 0).testBit i=true):pw all j i:=
 yJ all.toList [] [] (by simp) rfl (fun j i h=>by simp at h) j i h
def AN (all:Array Oper) (m:Nat) (A:List Nat):Bool:=
 (List.range all.size).all fun j=>match all[j]? with
  | none=>true
  | some oj=>(oj.after.all fun e=>!Region.binds .any e||Nat.blt e.on j)&&(List.range j).all fun i=>match all[i]? with
    | none=>true
    | some oi=>if Nat.blt j m then !xu all oi oj||(A.getD j 0).testBit i else (A.getD j 0).testBit i
def qj (all:Array Oper) (m:Nat):Prop:=∃ A,Aa all=A∧AN all m A=true
theorem iy {all:Array Oper} {m:Nat} (h:qj all m) {i j:Nat} {oi oj:Oper} (hj:all[j]? =some oj) (hi:all[i]? =some oi) (zR:i < j):(j < m→xu all oi oj=true→pw all j i)∧(m≤j→pw all j i):=by
 obtain ⟨A,hA,h⟩:=h
 subst hA
 have Fs:j < all.size:=(Array.getElem?_eq_some_iff.1 hj).1
 simp only [AN,List.all_eq_true,List.mem_range] at h
 have h1:=h j Fs
 rw [hj] at h1
 simp only [Bool.and_eq_true,List.all_eq_true,List.mem_range] at h1
 have h2:=h1.2 i zR
 rw [hi] at h2
 simp only at h2
 refine ⟨fun hm hc=>?_,fun hm=>?_⟩
 ·rw [if_pos (by simpa using hm)] at h2
  exact iP (by simpa [hc] using h2)
 ·rw [if_neg (by simp;omega)] at h2
  exact iP h2
theorem uY {all:Array Oper} {m:Nat} (h:qj all m) {j:Nat} {oj:Oper} (hj:all[j]? =some oj) {e:Edge} (he:e∈oj.after) (hb:Region.binds .any e=true):e.on < j:=by
 obtain ⟨A,hA,h⟩:=h
 have Fs:j < all.size:=(Array.getElem?_eq_some_iff.1 hj).1
 simp only [AN,List.all_eq_true,List.mem_range] at h
 have h1:=h j Fs
 rw [hj] at h1
 simp only [Bool.and_eq_true,Array.all_eq_true_iff_forall_mem] at h1
 have:=h1.1 e he
 simpa [hb] using this
theorem oy {all:Array Oper} {listed:Array Bool} {i j:Nat} {oj:Oper} (hj:all[j]? =some oj) (hr:j∈Region.ready .any all listed) (hw:waits oj i=true):listed.getD i false=true:=by
 simp only [Region.ready,List.mem_filter,List.mem_range,hj,Option.map_some,Option.getD_some,Bool.and_eq_true,Array.all_eq_true_iff_forall_mem] at hr
 simp only [waits,List.any_eq_true,Bool.and_eq_true] at hw
 obtain ⟨e,he,hb,Px⟩:=hw
 have:=hr.2.2 e (by simpa using he)
 rw [hb] at this
 obtain rfl:e.on=i:=Nat.eq_of_beq_eq_true Px
 simpa using this
def gR (all:Array Oper) (listed:Array Bool):Prop:=∀ k i o,listed.getD k false=true→all[k]? =some o→waits o i=true→listed.getD i false=true
theorem gR.HJ {all:Array Oper} {listed:Array Bool} (c:gR all listed) {j i:Nat} (h:pw all j i) (hl:listed.getD j false=true):listed.getD i false=true:=by
 induction h with
 | one hj hw=>exact c _ _ _ hl hj hw
 | step hj hw _ ih=>exact ih (c _ _ _ hl hj hw)
theorem gR.ready {all:Array Oper} {listed:Array Bool} (c:gR all listed) {j i:Nat} (h:pw all j i) (hr:j∈Region.ready .any all listed):listed.getD i false=true:=by
 cases h with
 | one hj hw=>exact oy hj hr hw
 | step hj hw h=>exact c.HJ h (oy hj hr hw)
theorem qV {all:Array Oper} {listed:Array Bool} {j:Nat} (hr:j∈Region.ready .any all listed):j < all.size∧listed.getD j true=false:=by
 simp only [Region.ready,List.mem_filter,List.mem_range,Bool.and_eq_true] at hr
 exact ⟨hr.1,by simpa using hr.2.1⟩
theorem tT {all:Array Oper} {m:Nat} (h:qj all m) {listed:Array Bool} (hl:listed.size=all.size) (hr:Region.ready .any all listed=[]):∀ i,i < all.size→listed.getD i false=true:=by
 intro i
 induction i using Nat.strongRecOn with
 | _ i ih=>
   intro hi
   cases hv:listed.getD i false with
   | true=>rfl
   | false=>
     exfalso
     have:i∈Region.ready .any all listed:=by
      simp only [Region.ready,List.mem_filter,List.mem_range,Bool.and_eq_true]
      have Yi:i < listed.size:=by omega
      refine ⟨hi,?_,?_⟩
      ·simp [Yi] at hv ⊢;exact hv
      ·have tU:all[i]? =some all[i]:=by simp [hi]
       rw [tU]
       simp only [Option.map_some,Option.getD_some,Array.all_eq_true_iff_forall_mem]
       intro e he
       cases hb:Region.binds .any e with
       | false=>simp
       | true=>
         have gZ:=uY h tU he hb
         simp [ih e.on gZ (by omega)]
     rw [hr] at this
     simp at this
section order
variable {P:Program} {all:Array Oper} {n m:Nat} {hp:Heap}
def cur (all:Array Oper) (gP:Nat→AV) (e:Env) (listed:Array Bool):Nat→Env
 | 0=>e
 | k+1=>if listed.getD k false then um (cur all gP e listed k) ((all[k]?).bind (·.dst)) (gP k) else cur all gP e listed k
theorem kN {e:Env} {d:Option Nat} {av:AV} {s:Nat} (h:d≠some s):um e d av s=e s:=by
 cases d with
 | none=>rfl
 | some d=>simp only [um];rw [if_neg (fun e=>h (by rw [e]))]
theorem mV {e:Env} {av:AV} {s:Nat}:um e (some s) av s=some av:=by simp [um]
theorem uZ {oi oj:Oper} {s:Nat} (hd:oi.dst=some s) (hs:s∈looks all oj):xu all oi oj=true:=by
 unfold xu
 rw [hd]
 cases hj:oj.dst<;>simp [hs]
theorem xw {oi oj:Oper} {s:Nat} (hd:oj.dst=some s) (hs:s∈looks all oi):xu all oi oj=true:=by
 unfold xu
 rw [hd]
 cases hi:oi.dst<;>simp [hs]
theorem AO {oi oj:Oper} {s:Nat} (hi:oi.dst=some s) (hj:oj.dst=some s):xu all oi oj=true:=by
 unfold xu
 rw [hi,hj]
 simp
structure Ft (all:Array Oper) (m:Nat) (listed:Array Bool):Prop where
 size:listed.size=all.size
 head:∀ k,listed.getD k false=true→k < m
 closed:∀ k i o,listed.getD k false=true→all[k]? =some o→waits o i=true→listed.getD i false=true
theorem vy {listed:Array Bool} {i:Nat} (h:listed.getD i true=false):listed.getD i false=false:=by
 by_cases hi:i < listed.size
 ·simp [hi] at h ⊢;exact h
 ·simp [hi]
variable {gP:Nat→AV} {en:Nat→Env} {e:Env}
theorem HK (hB:qj all m) {listed:Array Bool} (L:Ft all m listed) (h0:en 0=e) (hs:∀ i o,i < m→all[i]? =some o→en (i+1)=um (en i) o.dst (gP i)) (hm:m≤all.size)
 {i:Nat} {o:Oper} (ho:all[i]? =some o) (zS:i < m) (pe:listed.getD i false=false) (hr:∀ j,pw all i j→listed.getD j false=true) {s:Nat} (Hk:s∈looks all o):∀ k,k≤all.size→cur all gP e listed k s=en (min k i) s:=by
 intro k
 induction k with
 | zero=>intro _;simp [cur,h0]
 | succ k ih=>
   intro hk
   have sC:=ih (by omega)
   have qk:all[k]? =some all[k]:=by simp [show k < all.size by omega]
   simp only [cur,qk,Option.bind_some]
   rcases Nat.lt_trichotomy k i with gZ | heq | Fu
   ·rw [Nat.min_eq_left (by omega)] at sC
    rw [Nat.min_eq_left (by omega),hs k _ (by omega) qk]
    by_cases hd:(all[k]).dst=some s
    ·have hl:listed.getD k false=true:=hr k ((iy hB ho qk gZ).1 zS (uZ hd Hk))
     rw [if_pos hl,hd,mV,mV]
    ·rw [kN hd]
     split
     ·rw [kN hd];exact sC
     ·exact sC
   ·subst heq
    rw [pe]
    simp only [Bool.false_eq_true,if_false]
    rw [Nat.min_eq_right (by omega)]
    rw [Nat.min_eq_right (by omega)] at sC
    exact sC
   ·rw [Nat.min_eq_right (by omega)] at sC
    rw [Nat.min_eq_right (by omega)]
    by_cases hl:listed.getD k false=true
    ·by_cases hd:(all[k]).dst=some s
     ·exfalso
      have hw:=(iy hB qk ho Fu).1 (L.head k hl) (xw hd Hk)
      have:=gR.HJ L.closed hw hl
      rw [pe] at this;cases this
     ·rw [if_pos hl,kN hd];exact sC
    ·rw [if_neg hl];exact sC
theorem cK {listed:Array Bool} {i k:Nat} (hi:i < listed.size):(listed.setIfInBounds i true).getD k false=(if k=i then true else listed.getD k false):=by
 by_cases hk:k < listed.size
 ·simp [hk,Array.getElem_setIfInBounds]
  by_cases h:k=i
  ·simp [h]
  ·have h':¬ i=k:=fun e=>h e.symm
   simp [h,h']
 ·have:k≠i:=by omega
  simp [hk,this]
theorem Kj (hB:qj all m) {listed:Array Bool} (L:Ft all m listed) {i:Nat} {o:Oper} (ho:all[i]? =some o) (zS:i < m) (pe:listed.getD i false=false) (s:Nat):
 ∀ k,k≤all.size→cur all gP e (listed.setIfInBounds i true) k s=(if i < k then um (cur all gP e listed k) o.dst (gP i) s else cur all gP e listed k s):=by
 have hi:i < listed.size:=by rw [L.size];exact (Array.getElem?_eq_some_iff.1 ho).1
 intro k
 induction k with
 | zero=>intro _;simp [cur]
 | succ k ih=>
   intro hk
   have sC:=ih (by omega)
   have qk:all[k]? =some all[k]:=by simp [show k < all.size by omega]
   simp only [cur,qk,Option.bind_some,cK hi]
   rcases Nat.lt_trichotomy k i with gZ | heq | Fu
   ·rw [if_neg (by omega)] at sC
    have e1:(if k=i then true else listed.getD k false)=listed.getD k false:=if_neg (by omega)
    rw [e1,if_neg (show ¬ i < k+1 by omega)]
    by_cases hl:listed.getD k false=true
    ·rw [if_pos hl,if_pos hl]
     by_cases hd:(all[k]).dst=some s
     ·rw [hd,mV,mV]
     ·rw [kN hd,kN hd];exact sC
    ·rw [if_neg hl,if_neg hl];exact sC
   ·subst heq
    rw [if_neg (by omega)] at sC
    have e1:(if k=k then true else listed.getD k false)=true:=if_pos rfl
    rw [e1,if_pos (show k < k+1 by omega),if_pos rfl,pe,if_neg Bool.false_ne_true]
    obtain rfl:all[k]=o:=by rw [qk] at ho;exact Option.some.inj ho
    by_cases hd:(all[k]).dst=some s
    ·rw [hd,mV,mV]
    ·rw [kN hd,kN hd];exact sC
   ·rw [if_pos Fu] at sC
    have e1:(if k=i then true else listed.getD k false)=listed.getD k false:=if_neg (by omega)
    rw [e1,if_pos (show i < k+1 by omega)]
    by_cases hl:listed.getD k false=true
    ·rw [if_pos hl,if_pos hl]
     by_cases hd:(all[k]).dst=some s
     ·by_cases Gk:o.dst=some s
      ·exfalso
       have hw:=(iy hB qk ho Fu).1 (L.head k hl) (AO Gk hd)
       have:=gR.HJ L.closed hw hl
       rw [pe] at this;cases this
      ·rw [hd,mV,kN Gk,mV]
     ·by_cases Gk:o.dst=some s
      ·rw [kN hd,sC,Gk,mV,mV]
      ·rw [kN hd,sC,kN Gk,kN Gk,kN hd]
    ·rw [if_neg hl,if_neg hl];exact sC
theorem yK (hB:qj all m) {Q:Exit→Act→World→Prop}:∀ (fuel k:Nat) (listed:Array Bool) (a:Act) (w:World),m≤k→k+fuel=all.size→listed.size=all.size→(∀ i,i < k→listed.getD i false=true)→(∀ i,k≤i→listed.getD i false=false)→
 wpList P all Q (all.toList.drop k) a w→wpAny P .any all Q fuel listed a w:=by
 intro fuel
 induction fuel with
 | zero=>
   intro k listed a w hm hk eF h1 h2 h
   have R3:all.toList.drop k=[]:=List.drop_eq_nil_of_le (by simp;omega)
   rw [R3] at h
   refine ⟨?_,h⟩
   refine List.eq_nil_iff_forall_not_mem.2 fun i hi=>?_
   obtain ⟨CQ,Ep⟩:=qV hi
   have:=h1 i (by omega)
   rw [vy Ep] at this
   cases this
 | succ fuel ih=>
   intro k listed a w hm hk eF h1 h2 h
   have R4:k < all.size:=by omega
   have qk:all[k]? =some all[k]:=by simp [R4]
   refine ⟨fun hr=>?_,fun i hi=>?_⟩
   ·have:=tT hB eF hr k R4
    rw [h2 k (Nat.le_refl _)] at this
    cases this
   ·obtain ⟨CQ,Ep⟩:=qV hi
    have tU:all[i]? =some all[i]:=by simp [CQ]
    obtain rfl:i=k:=by
     rcases Nat.lt_trichotomy i k with gZ | heq | Fu
     ·have:=h1 i gZ;rw [vy Ep] at this;cases this
     ·exact heq
     ·have wA:gR all listed:=fun k' i' o Od Py UR=>by
       have gZ:k' < k:=by
        rcases Nat.lt_or_ge k' k with h | h
        ·exact h
        ·rw [h2 k' h] at Od;cases Od
       simp only [waits,List.any_eq_true,Bool.and_eq_true] at UR
       obtain ⟨e',Gl,xo,MT⟩:=UR
       have:=uY hB Py (by simpa using Gl) xo
       obtain rfl:e'.on=i':=Nat.eq_of_beq_eq_true MT
       exact h1 _ (by omega)
      have:=wA.ready ((iy hB tU qk Fu).2 (by omega)) hi
      rw [h2 k (Nat.le_refl _)] at this;cases this
    have Pz:all.toList.drop i=all[i] :: all.toList.drop (i+1):=by
     rw [List.drop_eq_getElem_cons (by simpa using R4)]
     simp
    rw [Pz] at h
    unfold wpList at h
    simp only [wpOp,qk]
    have next:∀ a w,wpList P all Q (all.toList.drop (i+1)) a w→wpAny P .any all Q fuel (listed.setIfInBounds i true) a w:=fun a w hh=>by
     have iV:i < listed.size:=by omega
     refine ih (i+1) (listed.setIfInBounds i true) a w (by omega) (by omega) (by simpa using eF) (fun j hj=>?_) (fun j hj=>?_) hh
     ·rw [cK iV];split
      ·rfl
      ·exact h1 j (by omega)
     ·rw [cK iV,if_neg (by omega)];exact h2 j (by omega)
    split at h
    ·rename_i hw
     rw [if_pos hw]
     exact h.imp (fun hh=>Oper.wp_mono next hh) id
    ·rename_i hw
     rw [if_neg hw]
     exact next _ _ h
theorem js {o:Oper} {e:Env} {b:Bool} {w:World} {S:Nat→Prop} {a:Act} (hw:mC all o e b) (r:wK w S (looks all o) e a):Region.wanted o (yielded all a.tmps)=b:=by
 unfold mC at hw
 unfold Region.wanted
 cases hg:o.guard with
 | none=>rw [hg] at hw;simp only at hw;rw [hw]
 | some g=>
   obtain ⟨j,want⟩:=g
   rw [hg] at hw
   simp only at hw
   obtain ⟨s,h1,⟨c,h2,h3⟩ | ⟨h2,h3⟩⟩:=hw
   ·obtain ⟨v,g1,g2⟩:=r s (by simp [looks,hg,h1]) _ h2
    cases g2
    rw [h3]
    cases c<;>cases want<;>simp [yielded,h1,g1]
   ·obtain ⟨v,g1,g2⟩:=r s (by simp [looks,hg,h1]) _ h2
    cases g2
    rw [h3]
    simp [yielded,h1,g1,undef]
def sZ (w:World) (S:Nat→Prop) (e:Env) (a:Act):Prop:=∀ s av,e s=some av→∃ v,a.tmps[s]? =some v∧At w S av v
theorem HL (hB:qj all m) (hm:m≤all.size) {Q:Exit→Act→World→Prop} (h0:en 0=e) (hs:∀ i o,i < m→all[i]? =some o→AK P all n hp o (en i) (gP i)∧en (i+1)=um (en i) o.dst (gP i)) {w0:World} {S0:Nat→Prop}
 (fin:∀ a w S,a.tmps.size=n→a.defers=[]→bZ w S hp→Grow w0 S0 w S→sZ w S (en m) a→wpList P all Q (all.toList.drop m) a w):
 ∀ (fuel:Nat) (listed:Array Bool) (a:Act) (w:World) (S:Nat→Prop),Ft all m listed→(listed.toList.count true)+fuel=all.size→a.tmps.size=n→a.defers=[]→bZ w S hp→Grow w0 S0 w S→sZ w S (cur all gP e listed all.size) a→
   wpAny P .any all Q fuel listed a w:=by
 have Hl:∀ i o,i < m→all[i]? =some o→en (i+1)=um (en i) o.dst (gP i):=fun i o h1 h2=>(hs i o h1 h2).2
 have done:∀ (fuel:Nat) (listed:Array Bool) (a:Act) (w:World) (S:Nat→Prop),Ft all m listed→(listed.toList.count true)+fuel=all.size→a.tmps.size=n→a.defers=[]→bZ w S hp→Grow w0 S0 w S→sZ w S (cur all gP e listed all.size) a→
  (∀ i,i < m→listed.getD i false=true)→wpAny P .any all Q fuel listed a w:=by
  intro fuel listed a w S L hc eF tV hr hg qa ga
  have Ec:∀ i,m≤i→listed.getD i false=false:=fun i hi=>by
   cases hv:listed.getD i false with
   | false=>rfl
   | true=>have:=L.head i hv;omega
  have HM:listed.toList.count true=m:=by
   have:listed.toList=List.replicate m true++List.replicate (all.size - m) false:=by
    apply List.ext_getElem?
    intro i
    rcases Nat.lt_or_ge i m with hi | hi
    ·have iV:i < listed.size:=by rw [L.size];omega
     rw [List.getElem?_append_left (by simpa using hi)]
     have:=ga i hi
     simp [iV] at this
     simp [iV,hi,this]
    ·rw [List.getElem?_append_right (by simpa using hi)]
     rcases Nat.lt_or_ge i listed.size with iV | iV
     ·have:=Ec i hi
      simp [iV] at this
      have h2:i - m < all.size - m:=by rw [L.size] at iV;omega
      simp [iV,h2,this]
     ·have h2:¬ i - m < all.size - m:=by rw [L.size] at iV;omega
      simp [List.getElem?_eq_none (l:=listed.toList) (by simpa using iV),h2]
   rw [this,List.count_append,List.count_replicate,List.count_replicate]
   simp
  have HN:cur all gP e listed all.size=en m:=by
   have key:∀ k,k≤all.size→cur all gP e listed k=en (min k m):=by
    intro k
    induction k with
    | zero=>intro _;simp [cur,h0]
    | succ k ih=>
      intro hk
      have qk:all[k]? =some all[k]:=by simp [show k < all.size by omega]
      simp only [cur,qk,Option.bind_some,ih (by omega)]
      rcases Nat.lt_or_ge k m with h | h
      ·rw [if_pos (ga k h),Nat.min_eq_left (by omega),Nat.min_eq_left (by omega),Hl k _ h qk]
      ·rw [if_neg (by rw [Ec k h];simp),Nat.min_eq_right (by omega),Nat.min_eq_right (by omega)]
   rw [key all.size (Nat.le_refl _),Nat.min_eq_right hm]
  rw [HN] at qa
  exact yK hB fuel m listed a w (Nat.le_refl _) (by omega) L.size ga Ec (fin a w S eF tV hr hg qa)
 intro fuel
 induction fuel with
 | zero=>
   intro listed a w S L hc eF tV hr hg qa
   refine done 0 listed a w S L hc eF tV hr hg qa (fun i hi=>?_)
   have wL:listed.toList.count true=listed.toList.length:=by rw [Array.length_toList,L.size];omega
   have ga:=List.count_eq_length.1 wL
   have iV:i < listed.size:=by rw [L.size];omega
   have:=ga listed[i] (by simp)
   simp [iV];exact this.symm
 | succ fuel ih=>
   intro listed a w S L hc eF tV hr hg qa
   by_cases ga:∀ i,i < m→listed.getD i false=true
   ·exact done _ listed a w S L hc eF tV hr hg qa ga
   ·refine ⟨fun Er=>(ga fun i hi=>tT hB L.size Er i (by omega)).elim,fun i hi=>?_⟩
    obtain ⟨CQ,Ep⟩:=qV hi
    have pe:=vy Ep
    have tU:all[i]? =some all[i]:=by simp [CQ]
    have zS:i < m:=by
     rcases Nat.lt_or_ge i m with h | h
     ·exact h
     ·refine (ga fun j hj=>?_).elim
      have Hj:all[j]? =some all[j]:=by simp [show j < all.size by omega]
      exact gR.ready L.closed ((iy hB tU Hj (by omega)).2 h) hi
    have iV:i < listed.size:=by rw [L.size];exact CQ
    obtain ⟨⟨Hh,xx⟩,_⟩:=hs i _ zS tU
    have nJ:wK w S (looks all all[i]) (en i) a:=by
     intro s Hk av kC
     have hc:=HK (gP:=gP) (en:=en) (e:=e) hB L h0 Hl hm tU zS pe (fun j hj=>gR.ready L.closed hj hi) Hk all.size (Nat.le_refl _)
     rw [Nat.min_eq_right (by omega)] at hc
     exact qa s av (by rw [hc];exact kC)
    have L':Ft all m (listed.setIfInBounds i true):=by
     refine ⟨by simpa using L.size,fun k hk=>?_,fun k j o hk qk hw=>?_⟩
     ·rw [cK iV] at hk
      split at hk
      ·omega
      ·exact L.head k hk
     ·rw [cK iV] at hk
      rw [cK iV]
      split
      ·rfl
      ·split at hk
       ·rename_i PA
        subst PA
        obtain rfl:all[k]=o:=by rw [tU] at qk;exact Option.some.inj qk
        exact oy tU hi hw
       ·exact L.closed k j o hk qk hw
    have wL:(listed.setIfInBounds i true).toList.count true+fuel=all.size:=by
     have CR:listed[i]=false:=by simpa [iV] using pe
     have:(listed.setIfInBounds i true).toList=listed.toList.set i true:=by simp
     rw [this,List.count_set (by simpa using iV)]
     have JJ:listed.toList[i]'(by simpa using iV)=false:=by simpa using CR
     rw [JJ]
     have e1:(if (false==true)=true then 1 else 0)=0:=rfl
     have e2:(if (true==true)=true then 1 else 0)=1:=rfl
     rw [e1,e2]
     omega
    have Kk:∀ (v:Value) (w':World) (S':Nat→Prop),Grow w S w' S'→At w' S' (gP i) v→sZ w' S' (cur all gP e (listed.setIfInBounds i true) all.size) (a.put (all[i]).dst v):=by
     intro v w' S' LV lU s av kC
     rw [Kj (gP:=gP) (e:=e) hB L tU zS pe s all.size (Nat.le_refl _),if_pos (by omega)] at kC
     by_cases hd:(all[i]).dst=some s
     ·rw [hd,mV] at kC
      obtain rfl:=Option.some.inj kC
      have Kl:=Hh s hd
      exact ⟨v,by rw [hd];simp [Act.put,eF,Kl],lU⟩
     ·rw [kN hd] at kC
      obtain ⟨u,h1,h2⟩:=qa s av kC
      refine ⟨u,?_,h2.mono (LV.iH hr.slt)⟩
      cases Km:(all[i]).dst with
      | none=>simpa [Act.put] using h1
      | some d'=>
        have qN:d'≠s:=fun e=>hd (by rw [Km,e])
        simp [Act.put,qN,h1]
    have MU:∀ v,(a.put (all[i]).dst v).tmps.size=n:=fun v=>by cases (all[i]).dst<;>simp [Act.put,eF]
    have MW:∀ v,(a.put (all[i]).dst v).defers=[]:=fun v=>by cases (all[i]).dst<;>simp [Act.put,tV]
    simp only [wpOp,tU]
    rcases xx with ⟨hw,JM⟩ | ⟨hw,kC⟩
    ·rw [if_pos (js hw nJ)]
     refine .inl (JM w S a eF tV hr nJ _ _ (fun v w' S' LV lU=>?_))
     exact ih _ _ _ S' L' wL (MU v) (MW v) (hr.grow LV) (hg.trans LV) (Kk v w' S' LV lU)
    ·rw [if_neg (by rw [js hw nJ];simp)]
     refine ih _ _ _ S L' wL (MU _) (MW _) hr hg (Kk _ w S (Grow.refl hr.slt) ?_)
     rw [kC];exact .raw _
end order
theorem rU (d:Nat) (av:AV) (tm:List (Nat×AV)):lk ((d,av) :: tm)=um (lk tm) (some d) av:=by
 funext s
 simp only [lk,um]
 by_cases h:d=s
 ·subst h;simp
 ·rw [mj h,if_neg h]
def yL:List Nat→List (Nat×AV)→List (Nat×AV)
 | [],_=>[]
 | s :: r,tm=>match lk tm s with
   | some av=>(s,av) :: yL r tm
   | none=>yL r tm
theorem BH:∀ {ls:List Nat} {tm:List (Nat×AV)} {s:Nat} {av:AV},lk (yL ls tm) s=some av→s∈ls∧lk tm s=some av
 | [],tm,s,av,h=>by simp [yL,lk] at h
 | k :: ls,tm,s,av,h=>by
   simp only [yL] at h
   split at h
   ·rename_i dt hk
    simp only [lk] at h
    split at h
    ·rename_i hb
     obtain rfl:k=s:=by simpa using hb
     obtain rfl:=Option.some.inj h
     exact ⟨by simp,hk⟩
    ·obtain ⟨h1,h2⟩:=BH h
     exact ⟨by simp [h1],h2⟩
   ·obtain ⟨h1,h2⟩:=BH h
    exact ⟨by simp [h1],h2⟩
theorem pf {w:World} {S:Nat→Prop} {a:Act} {n:Nat} {hp:Heap} {ls:List Nat} {tm:List (Nat×AV)} (h1:a.tmps.size=n) (h2:a.defers=[]) (h3:bZ w S hp) (h4:wK w S ls (lk tm) a):dm w S ⟨n,yL ls tm,hp⟩ a:=
 ⟨h1,h2,fun s av h=>h4 s (BH h).1 av (BH h).2,h3⟩
def AM (P:Program) (all:Array Oper) (n:Nat) (hp:Heap) (l:List Oper) (tm:List (Nat×AV)) (Q:List (Nat×AV)→Prop):Prop:=∃ kD,JL P all n hp l (lk tm) (lk kD)∧Q kD
section rules
variable {P:Program} {all:Array Oper} {rest:List Oper} {n:Nat} {tm:List (Nat×AV)} {hp:Heap} {Q:List (Nat×AV)→Prop} {d:Nat} {ty:TypeId} {pos:String} {af:Array Edge} {op:Op}
theorem AM.nil (h:Q tm):AM P all n hp [] tm Q:=⟨tm,.nil _,h⟩
theorem AM.mv {av:AV} (h:MV P all n ⟨some d,op,ty,pos,af,none⟩ (lk tm) hp av) (hn:Nat.blt d n=true) (k:AM P all n hp rest ((d,av) :: tm) Q):AM P all n hp (⟨some d,op,ty,pos,af,none⟩ :: rest) tm Q:=by
 obtain ⟨kD,k1,k2⟩:=k
 refine ⟨kD,.run rfl h (fun d' hd=>?_) (by rw [rU] at k1;exact k1),k2⟩
 obtain rfl:=Option.some.inj hd
 simpa using hn
theorem AM.qv {av:AV} (q:QV P ⟨some d,op,ty,pos,af,none⟩ ⟨n,yL (looks all ⟨some d,op,ty,pos,af,none⟩) tm,hp⟩ av) (hn:Nat.blt d n=true) (k:AM P all n hp rest ((d,av) :: tm) Q):AM P all n hp (⟨some d,op,ty,pos,af,none⟩ :: rest) tm Q:=by
 refine AM.mv (fun w S a h1 h2 h3 h4 K Q' hK=>?_) hn k
 obtain ⟨v,g1,g2⟩:=q w S a (pf h1 h2 h3 h4)
 show Oper.upon P _ a K Q' _
 rw [g1 w (Ext.refl w)]
 exact hK v w S (Grow.refl h3.slt) g2
theorem AM.aA {j:Nat} {want b:Bool} {s:Nat} (hj:(all[j]?).bind (·.dst)=some s) (hs:lk tm s=some (.bool b)) (hb:b=want)
 (k:AM P all n hp (⟨some d,op,ty,pos,af,none⟩ :: rest) tm Q):AM P all n hp (⟨some d,op,ty,pos,af,some (j,want)⟩ :: rest) tm Q:=by
 obtain ⟨kD,k1,k2⟩:=k
 refine ⟨kD,?_,k2⟩
 cases k1 with
 | run hg h hd k=>
   refine .run ⟨s,hj,.inl ⟨b,hs,by simp [hb]⟩⟩ ?_ hd k
   intro w S a h1 h2 h3 h4 K Q' hK
   exact h w S a h1 h2 h3 (fun t ht=>h4 t (by simp only [looks,List.append_nil] at ht ⊢;exact List.mem_append_left _ ht)) K Q' hK
 | pass hg hd k=>simp [mC] at hg
theorem AM.aF {j:Nat} {want b:Bool} {s:Nat} (hj:(all[j]?).bind (·.dst)=some s) (hs:lk tm s=some (.bool b)) (hb:b=!want) (hn:Nat.blt d n=true)
 (k:AM P all n hp rest ((d,.raw undef) :: tm) Q):AM P all n hp (⟨some d,op,ty,pos,af,some (j,want)⟩ :: rest) tm Q:=by
 obtain ⟨kD,k1,k2⟩:=k
 refine ⟨kD,.pass ⟨s,hj,.inl ⟨b,hs,?_⟩⟩ (fun d' hd=>?_) (by rw [rU] at k1;exact k1),k2⟩
 ·rw [hb];cases want<;>rfl
 ·obtain rfl:=Option.some.inj hd
  simpa using hn
theorem AM.ep {j:Nat} {want:Bool} {s:Nat} (hj:(all[j]?).bind (·.dst)=some s) (hs:lk tm s=some (.raw undef)) (hn:Nat.blt d n=true)
 (k:AM P all n hp rest ((d,.raw undef) :: tm) Q):AM P all n hp (⟨some d,op,ty,pos,af,some (j,want)⟩ :: rest) tm Q:=by
 obtain ⟨kD,k1,k2⟩:=k
 refine ⟨kD,.pass ⟨s,hj,.inr ⟨hs,rfl⟩⟩ (fun d' hd=>?_) (by rw [rU] at k1;exact k1),k2⟩
 obtain rfl:=Option.some.inj hd
 simpa using hn
theorem AM.lit {l:List Oper} {s:Nat} {b c:Bool} (hs:lk tm s=some (.bool b)) (hb:b=c) (k:AM P all n hp l ((s,.bool c) :: tm) Q):AM P all n hp l tm Q:=by
 subst hb
 obtain ⟨kD,k1,k2⟩:=k
 have:lk ((s,.bool b) :: tm)=lk tm:=by
  rw [rU]
  funext t
  simp only [um]
  split
  ·rename_i h;subst h;exact hs.symm
  ·rfl
 rw [this] at k1
 exact ⟨kD,k1,k2⟩
theorem AM.guard {j s:Nat} {want b:Bool} (hj:(all[j]?).bind (·.dst)=some s) (hs:lk tm s=some (.bool b)) (hn:Nat.blt d n=true) (h1:b=want→AM P all n hp (⟨some d,op,ty,pos,af,none⟩ :: rest) ((s,.bool want) :: tm) Q)
 (h2:b=!want→AM P all n hp rest ((d,.raw undef) :: (s,.bool (!want)) :: tm) Q):AM P all n hp (⟨some d,op,ty,pos,af,some (j,want)⟩ :: rest) tm Q:=by
 by_cases hb:b=want
 ·exact AM.lit hs hb (AM.aA hj (by simp [lk]) rfl (h1 hb))
 ·have xo:b=!want:=by cases b<;>cases want<;>simp_all
  exact AM.lit hs xo (AM.aF hj (b:=!want) (by simp [lk]) rfl hn (h2 xo))
theorem AM.cJ {j s:Nat} {p:Prop} [Decidable p] (hj:(all[j]?).bind (·.dst)=some s) (hs:lk tm s=some (.bool (decide p))) (hn:Nat.blt d n=true) (h1:p→AM P all n hp (⟨some d,op,ty,pos,af,none⟩ :: rest) ((s,.bool true) :: tm) Q)
 (h2:¬ p→AM P all n hp rest ((d,.raw undef) :: (s,.bool false) :: tm) Q):AM P all n hp (⟨some d,op,ty,pos,af,some (j,true)⟩ :: rest) tm Q:=
 AM.guard hj hs hn (fun h=>h1 (of_decide_eq_true h)) (fun h=>h2 (of_decide_eq_false h))
theorem AM.fH {j s:Nat} {p:Prop} [Decidable p] (hj:(all[j]?).bind (·.dst)=some s) (hs:lk tm s=some (.bool (decide p))) (hn:Nat.blt d n=true) (h1:¬ p→AM P all n hp (⟨some d,op,ty,pos,af,none⟩ :: rest) ((s,.bool false) :: tm) Q)
 (h2:p→AM P all n hp rest ((d,.raw undef) :: (s,.bool true) :: tm) Q):AM P all n hp (⟨some d,op,ty,pos,af,some (j,false)⟩ :: rest) tm Q:=
 AM.guard hj hs hn (fun h=>h1 (of_decide_eq_false h)) (fun h=>h2 (of_decide_eq_true h))
theorem AM.qW {f:FuncId} {args:List Operand} {ts:Array TypeId} {l l':List AV} {R:AV} [bf P f] (hl:wH (yL (looks all ⟨some d,.call {callee:=.value (.func f),args:=args.toArray,argTypes:=ts},ty,pos,af,none⟩) tm) args=some l) (c:Pu P f l' R) (co:uW hp l l') (hn:Nat.blt d n=true)
 (k:AM P all n hp rest ((d,R) :: tm) Q):AM P all n hp (⟨some d,.call {callee:=.value (.func f),args:=args.toArray,argTypes:=ts},ty,pos,af,none⟩ :: rest) tm Q:=by
 refine AM.mv (fun w S a h1 h2 h3 h4 K Q' hK=>?_) hn k
 have r:=pf h1 h2 h3 h4
 show Oper.upon P _ a K Q' _
 rw [od]
 obtain ⟨g1,g2⟩:=qU r hl
 obtain ⟨g3,g4⟩:=uW.at r.hp co g1 g2
 refine (c w S _ (sY h3.slt h3.gQ) (by simpa using g3) g4).mono ?_
 rintro e w' ⟨v,rr,h',S',rfl,rfl,k3,k4,k5⟩
 exact hK v w' S' ⟨k5.Fo,fun m hm=>(k5.iH m hm).1,fun m hm hs=>(k5.other m hm (fun ⟨x,hx,_⟩=>by simp at hx)).2 hs,k4.slt⟩ k3
theorem AM.ec {t e:TypeId} {i:TypeInfo} {z:Value} {len sz:Nat} {parts:List (Nat×Operand)} {xs:List AV} [ay P t (.slice e)] [aP P e i] [kK P e sz] (hz:i.zero=some z)
 (hl:Gi (yL (looks all ⟨some d,.buildSlice t len parts.toArray,ty,pos,af,none⟩) tm) parts 0=some xs) (hlen:Nat.beq parts.length len=true) (sB:sQ i.size xs=true) (Fi:Nat.ble (len * i.size) 16777216=true) (hn:Nat.blt d n=true)
 (k:AM P all n hp rest ((d,.list sz xs) :: tm) Q):AM P all n hp (⟨some d,.buildSlice t len parts.toArray,ty,pos,af,none⟩ :: rest) tm Q:=by
 obtain ⟨i',CQ,Ep⟩:=kK.h (P:=P) (t:=e)
 obtain rfl:i'=i:=by rw [aP.h (P:=P) (t:=e)] at CQ;exact (Option.some.inj CQ).symm
 subst Ep
 refine AM.mv (fun w S a h1 h2 h3 h4 K Q' hK=>?_) hn k
 have r:=pf h1 h2 h3 h4
 obtain rfl:parts.length=len:=Nat.eq_of_beq_eq_true hlen
 have Fi:=Nat.le_of_ble_eq_true Fi
 obtain ⟨zz,Fj⟩:∃ zz:Array Value,zz=if parts.length * i'.size=0 then #[] else z.cells:=⟨_,rfl⟩
 obtain ⟨vs,g1,g2,g3,g4⟩:=vw r i'.size parts 0 xs ((Array.range (parts.length * i'.size)).map (zz[· % zz.size]!)) hl (jg sB) (by simp)
 simp only [Nat.zero_mul,List.take_zero,List.nil_append] at g1
 have e0:=Ext.alloc w (.cells vs.toArray e)
 have pt:(execOp a.eval ⟨some d,.buildSlice t parts.length parts.toArray,ty,pos,af,none⟩).run P w=.ok (.value (.slice (some ⟨w.heap.size,0,none⟩) parts.length parts.length)) (w.alloc (.cells vs.toArray e)):=by
  have hm:((parts.toArray.map fun p=>(p.1,a.eval p.2))).toList=parts.map fun p=>(p.1,a.eval p.2):=by simp
  simp only [execOp,Instr.buildSlice,Sem.run_bind,run_underlying (ay.h (P:=P) (t:=t)),Result.andThen_ok,sizeOf,typeInfo,run_program,aP.h (P:=P) (t:=e),Sem.run_pure]
  rw [if_neg (by omega)]
  by_cases h0:parts.length * i'.size=0
  ·rw [if_pos h0] at Fj ⊢
   subst Fj
   simp only [Sem.run_bind,Result.andThen_ok,Sem.run_pure,hm,g1,nH]
  ·rw [if_neg h0] at Fj ⊢
   subst Fj
   simp only [Sem.run_bind,Result.andThen_ok,Sem.run_pure,zeroValue,typeInfo,run_program,aP.h (P:=P) (t:=e),hz,hm,g1,nH]
 show Oper.upon P _ a K Q' _
 rw [pt]
 have HO:(w.alloc (.cells vs.toArray e)).heap[w.heap.size]? =some (.cells vs.toArray e (0,0)):=by
  show (w.heap.push _)[w.heap.size]? =_
  simp
 refine hK _ _ (fun m=>S m∨m=w.heap.size) ⟨e0,fun m hm=>.inl hm,fun m hm hs=>hs.elim id (fun h=>by omega),fun m hm=>?_⟩ ?_
 ·rcases hm with hm | hm
  ·exact Nat.lt_of_lt_of_le (h3.slt m hm) e0.size
  ·subst hm;simp
 ·have:=At.list (w:=w.alloc (.cells vs.toArray e)) (S:=fun m=>S m∨m=w.heap.size) i'.size xs (some ⟨w.heap.size,0,none⟩) parts.length vs (jg sB) (by rw [bu (jg sB),g2]) (fun j c u hc hu=>?_) (fun j u hu=>?_) (by omega)
  ·rw [g3] at this;exact this
  ·exact (g4 j c u hc (by simpa using hu)).mono fun m hm=>⟨.inl hm,e0.same m (h3.slt m hm)⟩
  ·refine ⟨_,rfl,rfl,.inr rfl,?_⟩
   rw [mo HO]
   simpa using hu
end rules
def Ab:Nat→List Oper→Option (List Oper×List Oper)
 | 0,l=>some ([],l)
 | m+1,o :: l=>match Ab m l with
   | some (a,b)=>some (o :: a,b)
   | none=>none
 | _+1,[]=>none
theorem pg:∀ {m:Nat} {l a b:List Oper},Ab m l=some (a,b)→l=a++b∧a.length=m
 | 0,l,a,b,h=>by simp [Ab] at h;obtain ⟨rfl,rfl⟩:=h;exact ⟨rfl,rfl⟩
 | m+1,[],a,b,h=>by simp [Ab] at h
 | m+1,o :: l,a,b,h=>by
   simp only [Ab] at h
   split at h
   ·rename_i a' b' h'
    simp only [Option.some.injEq,Prod.mk.injEq] at h
    obtain ⟨rfl,rfl⟩:=h
    obtain ⟨h1,h2⟩:=pg h'
    exact ⟨by rw [h1];rfl,by simp [h2]⟩
   ·cases h
theorem aa.bM {P:Program} {R:St→Prop} {k:List It} {id n:Nat} {tm:List (Nat×AV)} {hp:Heap} {l hd tl:List Oper} (m:Nat) (hm:P.follows .mixedOrders=true) (hs:Ab m l=some (hd,tl)) {A:List Nat} (hA:Aa l.toArray=A) (PB:AN l.toArray m A=true)
 (h:AM P l.toArray n hp hd tm (fun kD=>ah P l.toArray tl ⟨n,kD,hp⟩ (aa P R k))):aa P R (.code (.region id l.toArray true) :: k) ⟨n,tm,hp⟩:=by
 have hB:qj l.toArray m:=⟨A,hA,PB⟩
 intro w S a r
 obtain ⟨hl,Gm⟩:=pg hs
 obtain ⟨kD,hA,pt⟩:=h
 obtain ⟨gP,en,e0,e1,e2⟩:=hA.yI
 have eF:m≤l.toArray.size:=by simp [hl,Gm]
 refine wp_region_any hm ?_
 have s9:Ext w {w with drawn:=w.drawn+1}:=Ext.AE w _ (Nat.le_succ _)
 have g0:Grow w S {w with drawn:=w.drawn+1} S:=⟨s9,fun _ h=>h,fun _ _ h=>h,fun n hn=>r.hp.slt n hn⟩
 have Kn:∀ k,cur l.toArray gP (lk tm) (Array.replicate l.toArray.size false) k=lk tm:=by
  intro k
  induction k with
  | zero=>rfl
  | succ k ih=>
    simp only [cur,ih]
    rw [if_neg]
    rcases Nat.lt_or_ge k l.toArray.size with h | h
    ·simp at h;simp [h]
    ·simp at h;simp [Nat.not_lt.2 h]
 have hf:∀ k,(Array.replicate l.toArray.size false).getD k false=false:=by
  intro k
  rcases Nat.lt_or_ge k l.toArray.size with h | h
  ·simp at h;simp [h]
  ·simp at h;simp [Nat.not_lt.2 h]
 refine HL (P:=P) (all:=l.toArray) (n:=n) (m:=m) (hp:=hp) (gP:=gP) (en:=en) (e:=lk tm) hB eF e0 (fun i o hi ho=>e2 i o ?_) (w0:=w) (S0:=S) (fun a' w' S' h1 h2 h3 h4 h5=>?_) l.toArray.size (Array.replicate l.toArray.size false) a _ S
  ⟨by simp,(fun k hk=>by rw [hf k] at hk;cases hk),(fun k i o hk=>by rw [hf k] at hk;cases hk)⟩ (by simp [List.count_replicate]) r.size r.defers (r.hp.ext s9) g0 (by rw [Kn];exact (r.ext s9).tm)
 ·have:l[i]? =some o:=by simpa using ho
  rw [hl,List.getElem?_append_left (by omega)] at this
  exact this
 ·have LW:l.toArray.toList.drop m=tl:=by
   simp only [hl,← Gm]
   exact List.drop_left
  rw [LW]
  have R5:en m=lk kD:=by rw [← Gm];exact e1
  rw [R5] at h5
  refine fy ?_ _ _ _ (pt.go (h:=hp) (w:=w) (S:=S) ⟨h1,h2,h5,h3⟩ (h4.Oc r.hp.slt hp))
  rintro ex a2 w2 ⟨rfl,D9,S2,q1,q2,q3⟩
  exact ⟨D9,S2,q1,q2,q3⟩
section
variable {P:Program} {all:Array Oper} {rest:List Oper} {n:Nat} {hp:Heap} {tm:List (Nat×AV)} {Q:List (Nat×AV)→Prop} {dd:Option Nat} {ty:TypeId} {pos:String} {af:Array Edge}
end
theorem R6 {α β:Type} {o:Option α} {f:α→Option β} {r:β} (h:o.bind f=some r):∃ v,o=some v∧f v=some r:=by
 cases o with
 | none=>cases h
 | some v=>exact ⟨v,rfl,h⟩
theorem nv {α:Type} {p:Prop} [Decidable p] {a b x:α} (hp:p) (h:(if p then a else b)=x):a=x:=by rw [if_pos hp] at h;exact h
theorem vz {α:Type} {p:Prop} [Decidable p] {a b x:α} (hp:¬ p) (h:(if p then a else b)=x):b=x:=by rw [if_neg hp] at h;exact h
theorem ql {α:Type} {p:Bool} {a b x:α} (hp:p=false) (h:(if p=true then a else b)=x):b=x:=by rw [if_neg (by simp [hp])] at h;exact h
def oW {X A:Type} (f:X→Option (X⊕A)):Nat→X→Option A
 | 0,_=>none
 | n+1,x=>match f x with
   | none=>none
   | some (.inl y)=>oW f n y
   | some (.inr a)=>some a
theorem CS {X A:Type} {f:X→Option (X⊕A)} {a:A}:∀ {n:Nat} {x:X},oW f n x=some a→oW f (n+1) x=some a
 | 0,x,h=>by cases h
 | n+1,x,h=>by
   unfold oW at h ⊢
   split at h
   ·cases h
   ·exact CS h
   ·exact h
theorem yM {X A:Type} {f:X→Option (X⊕A)} {a:A} {x:X} {n:Nat} (h:oW f n x=some a):∀ m,oW f (n+m) x=some a
 | 0=>h
 | m+1=>CS (yM h m)
theorem Gn {X A:Type} {f:X→Option (X⊕A)} {a b:A} {x:X} {n m:Nat} (h:oW f n x=some a) (k:oW f m x=some b):a=b:=by
 have h1:=yM h m
 have h2:=yM k n
 rw [Nat.add_comm] at h2
 rw [h1] at h2
 exact Option.some.inj h2
open Classical in
noncomputable def iter {X A:Type} (f:X→Option (X⊕A)) (x:X):Option A:=
 if h:∃ a n,oW f n x=some a then some h.choose else none
theorem tW {X A:Type} {f:X→Option (X⊕A)} {x:X} {a:A}:iter f x=some a↔∃ n,oW f n x=some a:=by
 unfold iter
 constructor
 ·intro h
  split at h
  ·rename_i hx
   obtain ⟨n,hn⟩:=hx.choose_spec
   exact ⟨n,by rw [hn];exact h⟩
  ·cases h
 ·rintro ⟨n,hn⟩
  have hx:∃ a n,oW f n x=some a:=⟨a,n,hn⟩
  rw [dif_pos hx]
  obtain ⟨m,hm⟩:=hx.choose_spec
  rw [Gn hm hn]
def after {X A:Type} (k:X→Option A):X⊕A→Option A
 | .inl y=>k y
 | .inr a=>some a
theorem iter_eq {X A:Type} (f:X→Option (X⊕A)) (x:X):iter f x=(f x).bind (after (iter f)):=by
 apply Option.ext
 intro a
 rw [tW]
 constructor
 ·rintro ⟨n,hn⟩
  match n with
  | 0=>cases hn
  | n+1=>
    unfold oW at hn
    split at hn
    ·cases hn
    ·rename_i y hy;rw [hy];exact tW.2 ⟨n,hn⟩
    ·rename_i b hb;rw [hb];exact hn
 ·intro h
  obtain ⟨s,hs,h⟩:=R6 h
  cases s with
  | inl y=>
    obtain ⟨n,hn⟩:=tW.1 h
    exact ⟨n+1,by unfold oW;rw [hs];exact hn⟩
  | inr b=>exact ⟨1,by unfold oW;rw [hs];exact h⟩
theorem cy {X A:Type} {o:Option A} {s:X⊕A} {a:A} (h:o.map .inr=some s) (hA:∀ a',s=.inr a'→a'=a):o=some a:=by
 cases o with
 | none=>cases h
 | some b=>
   have:=Option.some.inj h
   rw [hA b this.symm]
@[simp] theorem ik {X A:Type} (k:X→Option A) (y:X):after k (.inl y)=k y:=rfl
@[simp] theorem Oe {X A:Type} (k:X→Option A) (a:A):after k (.inr a)=some a:=rfl
theorem de {X A:Type} (o:Option A) (k:X→Option A):(o.map Sum.inr).bind (after k)=o:=by cases o<;>rfl
def idx {α:Type} (xs:List α) (i:Int):Option α:=if 0≤i then xs[i.toNat]? else none
def app {α:Type} (xs ys:List α):Option (List α):=if xs.length+ys.length≤1000000000 then some (xs++ys) else none
def yN {α:Type} (xs:List α) (l h:Int):Option (List α):=if 0≤l∧l≤h∧h≤xs.length then some ((xs.drop l.toNat).take (h.toNat - l.toNat)) else none
abbrev aU (i:Int):Int:=IntKind.i64.wrap i
def quo (a b:Int):Option Int:=if b=0 then none else some (aU (a.tdiv b))
def rem (a b:Int):Option Int:=if b=0 then none else some (a.tmod b)
theorem HP {α:Type} {e:α→AV} {xs:List α} {i:Int} {x:α} (h:idx xs i=some x):HC (xs.map e) i=some (e x):=by
 unfold idx at h;unfold HC
 split at h
 ·rename_i h0;rw [if_pos h0,List.getElem?_map,h];rfl
 ·cases h
theorem ew {α:Type} {xs:List α} {i:Int} {x:α} (h:idx xs i=some x):0≤i∧i < xs.length∧xs[i.toNat]? =some x:=by
 unfold idx at h
 split at h
 ·rename_i h0
  have:=(List.getElem?_eq_some_iff.1 h).1
  exact ⟨h0,by omega,h⟩
 ·cases h
theorem CT {α:Type} {xs ys zs:List α} (h:app xs ys=some zs):xs.length+ys.length≤1000000000∧zs=xs++ys:=by
 unfold app at h
 split at h
 ·exact ⟨by assumption,(Option.some.inj h).symm⟩
 ·cases h
theorem qX {α:Type} {xs zs:List α} {l h:Int} (hh:yN xs l h=some zs):(0≤l∧l≤h∧h≤xs.length)∧zs=(xs.drop l.toNat).take (h.toNat - l.toNat):=by
 unfold yN at hh
 split at hh
 ·exact ⟨by assumption,(Option.some.inj hh).symm⟩
 ·cases hh
theorem HQ {a b c:Int} (h:quo a b=some c):b≠0∧c=aU (a.tdiv b):=by
 unfold quo at h
 split at h
 ·cases h
 ·exact ⟨by assumption,(Option.some.inj h).symm⟩
theorem HR {a b c:Int} (h:rem a b=some c):b≠0∧c=a.tmod b:=by
 unfold rem at h
 split at h
 ·cases h
 ·exact ⟨by assumption,(Option.some.inj h).symm⟩
section
variable {P:Program} {R:St→Prop} {k:List It} {σ:St}
theorem aa.cut {c:Code} (I:St→Prop) (h:aa P R (.code c :: .stop (fun aI=>aj aI I) :: k) σ) (hk:∀ aI,I aI→aa P R k aI):aa P R (.code c :: k) σ:=by
 intro w S a r
 refine wp_mono (h w S a r) ?_
 rintro e a' w' ⟨aI,S',h1,h2,h3⟩
 cases e with
 | normal=>
   obtain ⟨Eo,Pl,hI,hr,he⟩:=h1 w' S' a' h2
   exact ⟨Eo,Pl,hk Eo hI,hr,h3.trans he⟩
 | exit id=>exact ⟨aI,S',h1,h2,h3⟩
 | goto l=>exact ⟨aI,S',h1,h2,h3⟩
 | ret=>exact ⟨aI,S',h1,h2,h3⟩
 | panic c=>exact ⟨aI,S',h1,h2,h3⟩
 | outgrown=>exact ⟨aI,S',h1,h2,h3⟩
theorem aa.eU {body:Code} {X A:Type} (f:X→Option (X⊕A)) (mk:X→St→Prop) {a:A} {x0:X} (h:iter f x0=some a) (h0:aj σ (mk x0))
 (hs:∀ x s σ (J:St→Prop),mk x σ→f x=some s→(∀ y aI,s=.inl y→aj aI (mk y)→J aI)→(∀ a',s=.inr a'→a'=a)→aa P R (.code body :: .stop J :: k) σ):
 aa P R (.code (.loop body) :: k) σ:=by
 obtain ⟨m,hm⟩:=tW.1 h
 refine aa.LU (fun m σ=>∃ x,oW f m x=some a∧mk x σ) m (h0.mono fun aI R7=>⟨x0,hm,R7⟩) ?_
 rintro m yy ⟨x,hx,iQ⟩
 match m with
 | 0=>cases hx
 | m+1=>
   unfold oW at hx
   split at hx
   ·cases hx
   ·rename_i y hy
    refine hs x _ yy _ iQ hy (fun y' aI e hi=>⟨m,by omega,hi.mono fun Eo hk=>⟨y',?_,hk⟩⟩) (fun a' e=>by cases e)
    have:=Sum.inl.inj e
    rw [← this];exact hx
   ·rename_i b hb
    refine hs x _ yy _ iQ hb (fun y' aI e _=>by cases e) (fun a' e=>?_)
    rw [← Sum.inr.inj e];exact Option.some.inj hx
end
inductive zT:Heap→Heap→Heap→Prop
 | nil {h:Heap}:zT h [] h
 | cons {h h1 t r:Heap} {b:Bk} {o:Ob} (u:wI h b o h1) (k:zT h1 t r):zT h ((b,o) :: t) r
theorem zT.perm {h t r:Heap} (s:zT h t r):h.Perm (t++r):=by
 induction s with
 | nil=>exact List.Perm.refl _
 | cons u k ih=>exact u.perm.trans (List.Perm.cons _ ih)
section rules
variable {P:Program} {all:Array Oper} {rest:List Oper} {n:Nat} {tm:List (Nat×AV)} {hp:Heap} {Q:St→Prop} {d:Nat} {ty:TypeId} {pos:String} {af:Array Edge}
theorem va {f:FuncId} {args:List Operand} {ts:Array TypeId} {l l':List AV} {h0 hr:Heap} {Qc:AV→Heap→Prop} [bf P f] (hl:wH tm args=some l) (c:aH P f l' h0 Qc) (co:uW hp l l') (hs:zT hp h0 hr) (hn:Nat.blt d n=true)
 (kk:∀ r h',Qc r h'→ah P all rest ⟨n,(d,r) :: tm,h'++hr⟩ Q):ah P all (⟨some d,.call {callee:=.value (.func f),args:=args.toArray,argTypes:=ts},ty,pos,af,none⟩ :: rest) ⟨n,tm,hp⟩ Q:=
 HF hl c co hs.perm hn kk
theorem Ko {f:FuncId} {x:Operand} {args:List Operand} {ts:Array TypeId} {pZ l l' lc:List AV} {h0 hr:Heap} {Qc:AV→Heap→Prop} [bf P f] (hx:bS tm x=some (.func (.func f) pZ)) (hl:wH tm args=some l) (PC:oV (l++pZ)=some lc) (c:aH P f l' h0 Qc) (co:uW hp lc l') (hs:zT hp h0 hr) (hn:Nat.blt d n=true)
 (kk:∀ r h',Qc r h'→ah P all rest ⟨n,(d,r) :: tm,h'++hr⟩ Q):ah P all (⟨some d,.call {callee:=.value x,args:=args.toArray,argTypes:=ts},ty,pos,af,none⟩ :: rest) ⟨n,tm,hp⟩ Q:=
 Fm hx hl c (by rw [j7 PC];exact co) hs.perm hn kk
theorem cu {α:Type} {g:α→AV} {Xs:List α} {el:α} {t e:TypeId} {i:TypeInfo} {x y:Operand} {k:IntKind} {j:Int} {cs:List AV} {sz:Nat} [ay P t (.slice e)] [aP P e i] (hx:bS tm x=some (.list sz (Xs.map g))) (eF:Nat.beq i.size sz=true) (hy:bS tm y=some (.int k j))
 (hv:idx Xs j=some el) (h0:Nat.blt 0 sz=true) (hc:oV (g el).cells=some cs):QV P ⟨some d,.indexAddr t x y,ty,pos,af,none⟩ ⟨n,tm,hp⟩ (.mO cs):=by
 rw [← j7 hc]
 exact BC hx eF hy (HP hv) h0
theorem ff {α:Type} {g:α→AV} {Xs:List α} {x:Operand} {t e:TypeId} {sz:Nat} [ay P t (.slice e)] (hx:bS tm x=some (.list sz (Xs.map g))):QV P ⟨some d,.call {callee:=.builtin .len,args:=#[x],argTypes:=#[t]},ty,pos,af,none⟩ ⟨n,tm,hp⟩ (.int .i64 (Xs.length:Nat)):=by
 have h:=Ej (P:=P) (d:=d) (ty:=ty) (pos:=pos) (af:=af) (n:=n) (tm:=tm) (hp:=hp) (t:=t) (e:=e) hx
 rw [List.length_map] at h
 exact h
theorem PD {k:IntKind} {xt yt:TypeId} {x y:Operand} {i j:Int} (hx:bS tm x=some (.int k i)) (hy:bS tm y=some (.int k j)) (h0:j≠0):QV P ⟨some d,.binOp .quo xt x y yt,ty,pos,af,none⟩ ⟨n,tm,hp⟩ (.int k (k.wrap (i.tdiv j))):=
 sN hx hy (v:=.int k (k.wrap (i.tdiv j))) (fun w=>by simp [binOp,Op.intDiv,h0]) (fun w S=>.int _ _)
theorem MX {xt yt:TypeId} {x y:Operand} {i j r:Int} (hx:bS tm x=some (.int .i64 i)) (hy:bS tm y=some (.int .i64 j)) (h:quo i j=some r):QV P ⟨some d,.binOp .quo xt x y yt,ty,pos,af,none⟩ ⟨n,tm,hp⟩ (.int .i64 r):=by
 obtain ⟨h0,rfl⟩:=HQ h
 exact PD hx hy h0
theorem HT {k:IntKind} {xt yt:TypeId} {x y:Operand} {i j r:Int} (hx:bS tm x=some (.int k i)) (hy:bS tm y=some (.int k j)) (h:rem i j=some r):QV P ⟨some d,.binOp .rem xt x y yt,ty,pos,af,none⟩ ⟨n,tm,hp⟩ (.int k r):=by
 obtain ⟨h0,rfl⟩:=HR h
 exact LQ hx hy h0
theorem jK {x y:Operand} {t:TypeId} {s:List UInt8} {k:IntKind} {i:Int} {c:UInt8} [ay P t .string] (hx:bS tm x=some (.str s)) (hy:bS tm y=some (.int k i)) (hc:idx s i=some c):QV P ⟨some d,.index t x y,ty,pos,af,none⟩ ⟨n,tm,hp⟩ (.int .u8 (c.toNat:Int)):=
 let ⟨h0,_,h⟩:=ew hc
 Cz hx hy h0 h
theorem iz {α:Type} {g:α→AV} {Xs Ys Zs:List α} {t e:TypeId} {i:TypeInfo} {z:Value} {x y:Operand} {src:AV} {b:Bk} {len sz:Nat} {bY:Bk→Heap} [ay P t (.slice e)] [aP P e i] (hx:bS tm x=some (.sl sz b 0 len)) (hy:bS tm y=some src) (hz:i.zero=some z)
 (wB:Nat.beq z.cells.size i.size=true) (eF:Nat.beq i.size sz=true) (h0:Nat.blt 0 sz=true) (hn:Nat.blt d n=true) (R0:Nat.ble i.bytes 65536=true) (hs:Src hp sz src (Ys.map g)) (hv:app Xs Ys=some Zs) (u:∀ b',iE hp b (.arr sz (Xs.map g)) b' (.arr sz (Zs.map g)) (bY b')) (hlen:len=Xs.length)
 (kk:∀ b':Bk,ah P all rest ⟨n,(d,.sl sz b' 0 Zs.length) :: tm,bY b'⟩ Q):ah P all (⟨some d,.call {callee:=.builtin .append,args:=#[x,y],argTypes:=#[t,t]},ty,pos,af,none⟩ :: rest) ⟨n,tm,hp⟩ Q:=by
 obtain ⟨hb,rfl⟩:=CT hv
 subst hlen
 refine Gj (xs:=Xs.map g) (ys:=Ys.map g) (bY:=bY) hx hy hz wB eF h0 hn R0 hs (by simpa using u) (by simp) (by simpa using hb) (fun b'=>?_)
 have:=kk b'
 simpa using this
end rules
end Go.Eng
