/- The engine: abstract values, the symbolic heap, one rule for each operation. No program in sight. -/
import Derived.Test.YthamhifbccpcpaaGreatDoorEngA
set_option linter.unusedVariables false
set_option linter.unusedSectionVars false
namespace Go.Eng
open Go
variable [bF]
theorem zY {tm:List (Nat×AV)}:∀ {parts:List (Nat×Operand)} {k:Nat} {xs:List AV},JQ tm parts k=some xs→xs.length=parts.length
 | [],k,xs,h=>by simp [JQ] at h;subst h;rfl
 | (i,x) :: parts,k,xs,h=>by
   simp only [JQ] at h
   split at h
   ·rename_i a l h1 h2 h3
    obtain rfl:=Option.some.inj h
    simp [zY h3]
   ·cases h
section rules
variable {P:Program} {all:Array Oper} {rest:List Oper} {n:Nat} {tm:List (Nat×AV)} {hp:Heap} {Q:St→Prop} {d:Nat} {ty:TypeId} {pos:String} {af:Array Edge}
theorem BB {t e:TypeId} {i:TypeInfo} {z:Value} {len:Nat} {parts:List (Nat×Operand)} {xs:List AV} [aE P t (.slice e)] [aX P e i] (hz:i.zero=some z) (hl:JQ tm parts 0=some xs) (hlen:Nat.beq parts.length len=true) (x4:yE i.size xs=true)
 (Kf:Nat.ble (len * i.size) 16777216=true) (hn:Nat.blt d n=true) (kk:ae P all rest ⟨n,(d,.list i.size xs) :: tm,hp⟩ Q):ae P all (⟨some d,.buildSlice t len parts.toArray,ty,pos,af,none⟩ :: rest) ⟨n,tm,hp⟩ Q:=by
 refine wY hz hl hlen x4 Kf hn (fun b=>ae.ghost (ai.freeze .here (ai.co (s:=d) (av:=.sl i.size b 0 len) (by simp [lk]) (.zy i.size b len xs .here ?_) ?_)))
 ·rw [zY hl];exact (Nat.eq_of_beq_eq_true hlen).symm
 ·refine ai.step (Bv:=⟨n,(d,.list i.size xs) :: tm,hp⟩) (fun w S a r=>⟨_,S,rfl,r.less ⟨rfl,fun s av h=>?_,List.sublist_cons_self _ _⟩,iE.less (iE.refl w S _) fun _ hm=>hm.sub (List.sublist_cons_self _ _)⟩) (ai.here kk)
  simp only [lk] at h ⊢
  split at h
  ·exact h
  ·exact h
inductive Gh (tm:List (Nat×AV)):Option Operand→Option Int→Prop
 | none:Gh tm none none
 | some (x:Operand) (k:IntKind) (i:Int) (h:cG tm x=some (.int k i)):Gh tm (some x) (some i)
def fO:Option Int→Int
 | none=>0
 | some i=>i
def gC (len:Nat):Option Int→Int
 | none=>len
 | some i=>i
theorem wv {w:World} {S:Nat→Prop} {σ:St} {a:Act} (r:dx w S σ a) {lo hi:Option Operand} {l h:Option Int} (hl:Gh σ.tm lo l) (hh:Gh σ.tm hi h) (ME:Bool) (len cap:Nat) (h0:0≤fO l) (h1:fO l≤gC len h) (h2:gC len h≤len) (hc:len≤cap) (w':World):
 (Instr.sliceBounds ME len cap (lo.map a.eval) (hi.map a.eval) none).run P w'=.ok ((fO l).toNat,(gC len h).toNat,cap) w':=by
 cases hl with
 | none=>
   cases hh with
   | none=>simp [Instr.sliceBounds,fO,gC]
   | some x k i hx=>
     simp only [fO,gC] at *
     have:i≤(cap:Int):=by omega
     simp [Instr.sliceBounds,Instr.sliceBound,(bj r hx).cO,asIntOf,h1,this]
 | some x k i hx=>
   cases hh with
   | none=>
     simp only [fO,gC] at *
     simp [Instr.sliceBounds,Instr.sliceBound,(bj r hx).cO,asIntOf,h0,h1]
   | some y k' i' hy=>
     simp only [fO,gC] at *
     have e1:i'≤(cap:Int):=by omega
     have e2:0≤i':=by omega
     have e3:i≤(i'.toNat:Int):=by omega
     simp [Instr.sliceBounds,Instr.sliceBound,(bj r hx).cO,(bj r hy).cO,asIntOf,h0,e1,e2]
     intro iT
     omega
theorem C5 (s:List UInt8) (l h:Nat):(⟨s.toArray⟩:ByteArray).extract l h=⟨((s.drop l).take (h - l)).toArray⟩:=by
 have e:=ByteArray.data_extract (a:=(⟨s.toArray⟩:ByteArray)) (b:=l) (e:=h)
 cases hx:(⟨s.toArray⟩:ByteArray).extract l h with
 | mk da=>
   rw [hx] at e
   simp only at e
   rw [e]
   congr 1
   apply Array.ext'
   simp
theorem Ez {t:TypeId} {x:Operand} {lo hi:Option Operand} {l h:Option Int} {s:List UInt8} [aE P t .string] (hx:cG tm x=some (.str s)) (hl:Gh tm lo l) (hh:Gh tm hi h) (h0:0≤fO l) (h1:fO l≤gC s.length h) (h2:gC s.length h≤s.length):
 QV P ⟨some d,.slice t x lo hi none,ty,pos,af,none⟩ ⟨n,tm,hp⟩ (.str ((s.drop (fO l).toNat).take ((gC s.length h).toNat - (fO l).toNat))):=by
 intro w S a r
 refine ⟨.string ((⟨s.toArray⟩:ByteArray).extract (fO l).toNat (gC s.length h).toNat),fun w1 _=>?_,by rw [C5];exact .str _⟩
 have hb:=wv (P:=P) (σ:=⟨n,tm,hp⟩) r hl hh false s.length s.length h0 h1 h2 (Nat.le_refl _) w1
 simp [execOp,Instr.sliceAt,run_underlying (aE.h (P:=P) (t:=t)),Instr.slice,(bj (σ:=⟨n,tm,hp⟩) r hx).ct,CZ,hb]
theorem C6 {t e:TypeId} {i:TypeInfo} {x:Operand} {lo hi:Option Operand} {l h:Option Int} {sz:Nat} {xs:List AV} [aE P t (.slice e)] [aX P e i] (hx:cG tm x=some (.list sz xs)) (gG:Nat.beq i.size sz=true) (hl:Gh tm lo l) (hh:Gh tm hi h) (h0:0≤fO l) (h1:fO l≤gC xs.length h) (h2:gC xs.length h≤xs.length):
 QV P ⟨some d,.slice t x lo hi none,ty,pos,af,none⟩ ⟨n,tm,hp⟩ (.list sz ((xs.drop (fO l).toNat).take ((gC xs.length h).toNat - (fO l).toNat))):=by
 intro w S a r
 obtain rfl:i.size=sz:=Nat.eq_of_beq_eq_true gG
 obtain ⟨oa,cap,vs,e1,e2,e3,e4,e5,e6⟩:=(bj (σ:=⟨n,tm,hp⟩) r hx).uo
 have hlen:((xs.drop (fO l).toNat).take ((gC xs.length h).toNat - (fO l).toNat)).length=(gC xs.length h).toNat - (fO l).toNat:=by simp;omega
 refine ⟨.slice (if cap=(fO l).toNat then oa else oa.map (·.add ((fO l).toNat * i.size))) ((gC xs.length h).toNat - (fO l).toNat) (cap - (fO l).toNat),fun w1 _=>?_,?_⟩
 ·have hb:=wv (P:=P) (σ:=⟨n,tm,hp⟩) r hl hh true xs.length cap h0 h1 h2 e6 w1
  simp [execOp,Instr.sliceAt,run_underlying (aE.h (P:=P) (t:=t)),Instr.slice,e1,hb,sizeOf,typeInfo,aX.h (P:=P) (t:=e)]
 ·have hm:∀ y∈(xs.drop (fO l).toNat).take ((gC xs.length h).toNat - (fO l).toNat),El i.size y:=fun y hy=>e2 y (List.mem_of_mem_drop (List.mem_of_mem_take hy))
  have IU:flat ((xs.drop (fO l).toNat).take ((gC xs.length h).toNat - (fO l).toNat))=((flat xs).drop ((fO l).toNat * i.size)).take (((gC xs.length h).toNat - (fO l).toNat) * i.size):=by
   rw [vh _ _ (fun y hy=>e2 y (List.mem_of_mem_drop hy)),vg _ _ e2]
  have:=At.list (w:=w) (S:=S) i.size ((xs.drop (fO l).toNat).take ((gC xs.length h).toNat - (fO l).toNat)) (if cap=(fO l).toNat then oa else oa.map (·.add ((fO l).toNat * i.size))) (cap - (fO l).toNat)
   ((vs.drop ((fO l).toNat * i.size)).take (((gC xs.length h).toNat - (fO l).toNat) * i.size)) hm (by rw [IU];simp [e3]) (fun j c u hc hu=>?_) (fun j u hu=>?_) (by rw [hlen];omega)
  ·rw [hlen] at this;exact this
  ·rw [IU] at hc
   simp only [List.getElem?_take,List.getElem?_drop] at hc hu
   split at hu
   ·rename_i iT;rw [if_pos iT] at hc;exact e4 _ c u hc hu
   ·cases hu
  ·simp only [List.getElem?_take,List.getElem?_drop] at hu
   split at hu
   ·rename_i iT
    obtain ⟨ad,rfl,g1,g2,g3⟩:=e5 _ u hu
    have tc:0 < (gC xs.length h).toNat - (fO l).toNat:=by
     rcases Nat.eq_zero_or_pos ((gC xs.length h).toNat - (fO l).toNat) with hz | hz
     ·rw [hz] at iT;simp at iT
     ·exact hz
    rw [if_neg (by omega)]
    obtain ⟨bk,of,sp⟩:=ad
    simp only at g1 g2;subst g1
    refine ⟨⟨bk,of+(fO l).toNat * i.size,none⟩,by simp [mf],rfl,g2,?_⟩
    simpa [Nat.add_assoc] using g3
   ·cases hu
theorem Gy {t e:TypeId} {i:TypeInfo} {x:Operand} {lo hi:Option Operand} {l h:Option Int} {sz off len:Nat} {b:Bk} [aE P t (.slice e)] [aX P e i] (hx:cG tm x=some (.sl sz b off len)) (gG:Nat.beq i.size sz=true) (hl:Gh tm lo l) (hh:Gh tm hi h) (h0:0≤fO l) (h1:fO l≤gC len h) (h2:gC len h≤len):
 QV P ⟨some d,.slice t x lo hi none,ty,pos,af,none⟩ ⟨n,tm,hp⟩ (.sl sz b (off+(fO l).toNat) ((gC len h).toNat - (fO l).toNat)):=by
 intro w S a r
 obtain rfl:i.size=sz:=Nat.eq_of_beq_eq_true gG
 obtain ⟨oa,cap,e1,e2⟩:=(bj (σ:=⟨n,tm,hp⟩) r hx).sd
 have C7:len≤cap:=by rcases e2 with ⟨_,_,hl,_,_⟩ | ⟨m,hb,_,g1,g2⟩ | ⟨m,ad,hb,_,hl,_⟩<;>omega
 refine ⟨.slice (if cap=(fO l).toNat then oa else oa.map (·.add ((fO l).toNat * i.size))) ((gC len h).toNat - (fO l).toNat) (cap - (fO l).toNat),fun w1 _=>?_,?_⟩
 ·have hb:=wv (P:=P) (σ:=⟨n,tm,hp⟩) r hl hh true len cap h0 h1 h2 C7 w1
  simp [execOp,Instr.sliceAt,run_underlying (aE.h (P:=P) (t:=t)),Instr.slice,e1,hb,sizeOf,typeInfo,aX.h (P:=P) (t:=e)]
 ·rcases e2 with ⟨hb,ho,RE,rfl,V3⟩ | ⟨m,hb,rfl,g1,g2⟩ | ⟨m,ad,hb,rfl,RE,V3⟩
  ·have Ni:(fO l).toNat=0:=by omega
   have RF:(gC len h).toNat=0:=by omega
   rw [Ni,RF,ho,V3]
   exact .Bs i.size b hb
  ·by_cases Bz:cap=(fO l).toNat
   ·rw [if_pos Bz]
    have hz:(gC len h).toNat - (fO l).toNat=0:=by omega
    rw [hz,show cap - (fO l).toNat=0 from by omega]
    exact .MZ i.size b _ m _ hb
   ·rw [if_neg Bz]
    have:=At.sl (w:=w) (S:=S) i.size b (off+(fO l).toNat) ((gC len h).toNat - (fO l).toNat) m (cap - (fO l).toNat) hb (by omega) (by omega)
    rw [Nat.add_mul] at this
    simpa [mf] using this
  ·have Ni:(fO l).toNat=0:=by omega
   have RF:(gC len h).toNat=0:=by omega
   rw [Ni,RF,V3,if_pos rfl]
   exact .MZ i.size b _ m ad hb
theorem jC {src dst:TypeId} {D:TypeDesc} {x:Operand} {k k':IntKind} {i:Int} [aE P src D] [aE P dst (.int k')] (hx:cG tm x=some (.int k i)):QV P ⟨some d,.convert src dst x,ty,pos,af,none⟩ ⟨n,tm,hp⟩ (.int k' (k'.wrap i)):=by
 intro w S a r
 refine ⟨.int k' (k'.wrap i),fun w1 _=>?_,.int _ _⟩
 simp only [execOp,convert,(bj (σ:=⟨n,tm,hp⟩) r hx).cO,Sem.run_bind,run_underlying (aE.h (P:=P) (t:=src)),run_underlying (aE.h (P:=P) (t:=dst)),Result.andThen_ok]
 cases D<;>simp [Conv.intToInt]
end rules
section
variable {P:Program} {all:Array Oper} {rest:List Oper} {σ:St} {Q:St→Prop} {dd:Option Nat} {ty:TypeId} {pos:String} {af:Array Edge}
end
theorem EA {sz:Nat} {x y:AV}:∀ {xs:List AV} {q:Nat},(∀ x∈xs,El sz x)→El sz y→xs[q]? =some x→flat (xs.set q y)=(flat xs).take (q * sz)++y.cells++(flat xs).drop (q * sz+sz)
 | [],q,_,_,h=>by simp at h
 | z :: xs,0,hs,hy,h=>by
   have hz:=(hs z (by simp)).1
   rw [List.set_cons_zero,gH,gH]
   simp only [Nat.zero_mul,List.take_zero,List.nil_append,Nat.zero_add]
   rw [List.drop_left' hz]
 | z :: xs,q+1,hs,hy,h=>by
   have hz:=(hs z (by simp)).1
   simp only [List.getElem?_cons_succ] at h
   rw [List.set_cons_succ,gH,gH,EA (fun a ha=>hs a (by simp [ha])) hy h]
   have e1:(q+1) * sz=sz+q * sz:=by rw [Nat.add_mul,Nat.one_mul];omega
   rw [e1,List.take_append,List.take_of_length_le (l:=z.cells) (by omega),hz,Nat.add_sub_cancel_left,List.drop_append,List.drop_of_length_le (l:=z.cells) (by omega),hz]
   rw [show sz+q * sz+sz - sz=q * sz+sz from by omega]
   simp [List.append_assoc]
theorem HF {w:World} {S:Nat→Prop} {cs new:List AV} {vs qh:Array Value} (o:Nat) (hl:cs.length≤vs.size) (h:kG w S cs vs) (vI:new.length=qh.size) (h':kG w S new qh) (ho:o+new.length≤cs.length):
 kG w S (cs.take o++new++cs.drop (o+new.length)) (vs.toList.take o++qh.toList++vs.toList.drop (o+qh.toList.length)).toArray:=by
 intro i c v hc hv
 simp only [List.getElem?_toArray] at hc hv
 have l1:(cs.take o).length=o:=by simp;omega
 have l2:(vs.toList.take o).length=o:=by simp;omega
 have l3:qh.toList.length=new.length:=by simp [vI]
 rw [List.append_assoc] at hc hv
 by_cases h1:i < o
 ·rw [List.getElem?_append_left (by omega)] at hc hv
  rw [List.getElem?_take,if_pos h1] at hc hv
  exact h i c v hc (by simpa using hv)
 ·rw [List.getElem?_append_right (by omega)] at hc hv
  rw [l1] at hc
  rw [l2] at hv
  by_cases h2:i - o < new.length
  ·rw [List.getElem?_append_left (by omega)] at hc hv
   exact h' (i - o) c v hc (by simpa using hv)
  ·rw [List.getElem?_append_right (by omega)] at hc hv
   rw [l3] at hv
   rw [List.getElem?_drop] at hc hv
   rw [show o+new.length+(i - o - new.length)=i from by omega] at hc hv
   exact h i c v hc (by simpa using hv)
section rules
variable {P:Program} {all:Array Oper} {rest:List Oper} {n:Nat} {tm:List (Nat×AV)} {hp:Heap} {Q:St→Prop} {d:Nat} {ty:TypeId} {pos:String} {af:Array Edge}
theorem wT.refl (l:List AV):wT hp l l:=by
 induction l with
 | nil=>exact .nil
 | cons a l ih=>exact .cons (.refl a) ih
theorem qs.refl (l:List AV):qs hp l l:=by
 induction l with
 | nil=>exact .nil
 | cons a l ih=>exact .cons (.co (.refl a)) ih
def Pu (P:Program) (f:FuncId) (args:List AV) (R:AV):Prop:=aJ P f args [] (fun r _=>r=R)
theorem bw {f:FuncId} {args:List Operand} {ts:Array TypeId} {l l':List AV} {R:AV} [bu P f] (hl:x1 tm args=some l) (c:Pu P f l' R) (co:wT hp l l') (hn:Nat.blt d n=true)
 (kk:ae P all rest ⟨n,(d,R) :: tm,hp⟩ Q):ae P all (⟨some d,.call {callee:=.value (.func f),args:=args.toArray,argTypes:=ts},ty,pos,af,none⟩ :: rest) ⟨n,tm,hp⟩ Q:=by
 refine HD hl c co hn (fun r h' hr=>?_)
 subst hr
 exact ae.weaken (aG:=⟨n,(d,r) :: tm,hp⟩) ⟨rfl,fun _ _ h=>h,List.sublist_append_right _ _⟩ kk
theorem jc {f:FuncId} {args:List Operand} {ts:Array TypeId} {l l':List AV} {R:AV} [bu P f] (hl:x1 tm args=some l) (c:Pu P f l' R) (co:qs hp l l') (hn:Nat.blt d n=true) (hR:R.Sw=true)
 (kk:ae P all rest ⟨n,(d,R) :: tm,hp⟩ Q):ae P all (⟨some d,.call {callee:=.value (.func f),args:=args.toArray,argTypes:=ts},ty,pos,af,none⟩ :: rest) ⟨n,tm,hp⟩ Q:=
 Nh hl c co hn (fun r h' hr=>by subst hr;exact ⟨hR,kk⟩)
theorem EB {f:FuncId} {x:Operand} {args:List Operand} {ts:Array TypeId} {oL l l':List AV} {R:AV} [bu P f] (hx:cG tm x=some (.func (.func f) oL)) (hl:x1 tm args=some l) (c:Pu P f l' R) (co:wT hp (l++oL) l') (hn:Nat.blt d n=true)
 (kk:ae P all rest ⟨n,(d,R) :: tm,hp⟩ Q):ae P all (⟨some d,.call {callee:=.value x,args:=args.toArray,argTypes:=ts},ty,pos,af,none⟩ :: rest) ⟨n,tm,hp⟩ Q:=by
 refine HE hx hl c co (List.Perm.refl _) hn (fun r h' hr=>?_)
 subst hr
 exact ae.weaken (aG:=⟨n,(d,r) :: tm,hp⟩) ⟨rfl,fun _ _ h=>h,List.sublist_append_right _ _⟩ kk
end rules
inductive RV (P:Program) (σ:St):ResultVar→AV→Prop
 | tmp (t:Nat) (av:AV) (h:lk σ.tm t=some av):RV P σ (.tmp t) av
 | all (p ty:Nat) (b:Bk) (cs:List AV) (D:TypeDesc) (i:TypeInfo) (h:lk σ.tm p=some (.ptr b 0)) (f:mD σ.hp b (.cells cs)) (hu:P.underlying ty=some D) (hi:P.info? ty=some i) (hD:TypeDesc.kH D=true) (hs:Nat.beq cs.length i.size=true):RV P σ (.cell p ty) (.agg cs)
 | one (p ty:Nat) (b:Bk) (cs:List AV) (av:AV) (D:TypeDesc) (h:lk σ.tm p=some (.ptr b 0)) (f:mD σ.hp b (.cells cs)) (hu:P.underlying ty=some D) (hD:TypeDesc.kH D=false) (hs:cs[0]? =some av):RV P σ (.cell p ty) av
def zZ (tmps:Array Value):ResultVar→Sem Value
 | .tmp t=>pure (tmps.getD t undef)
 | .cell a t=>do loadVar t (← asAddr (tmps.getD a undef))
theorem RV.run {P:Program} {σ:St} {rv:ResultVar} {av:AV} (h:RV P σ rv av) {w:World} {S:Nat→Prop} {a:Act} (r:dx w S σ a):∃ v,(zZ a.tmps rv).run P w=.ok v w∧At w S av v:=by
 cases h with
 | tmp t av h=>
   obtain ⟨v,h1,h2⟩:=r.tm t _ h
   exact ⟨v,by simp [zZ,h1],h2⟩
 | all p ty b cs D i h f hu hi hD hs=>
   obtain ⟨v,h1,h2⟩:=r.tm p _ h
   obtain ⟨m,e1,rfl⟩:=h2.lK
   obtain ⟨_,m',vs,E,g1,g2,g3,g4⟩:=sy r.hp f
   obtain rfl:m'=m:=by rw [g1] at e1;exact Option.some.inj e1
   have hlen:vs.toList.length=i.size:=by simp [g3];exact Nat.eq_of_beq_eq_true hs
   refine ⟨.agg vs,?_,.agg cs vs g3.symm g4⟩
   have:=kX (P:=P) hu hD hi (w:=w) (ad:=⟨m',0,none⟩) (vs:=vs.toList) hlen (fun j v hv=>by rw [mf,pd g2];simpa using hv)
   simp [zZ,h1,asAddr,this]
 | one p ty b cs av D h f hu hD hs=>
   obtain ⟨v,h1,h2⟩:=r.tm p _ h
   obtain ⟨m,e1,rfl⟩:=h2.lK
   obtain ⟨_,m',vs,E,g1,g2,g3,g4⟩:=sy r.hp f
   obtain rfl:m'=m:=by rw [g1] at e1;exact Option.some.inj e1
   have iT:0 < vs.size:=by rw [g3];exact (List.getElem?_eq_some_iff.1 hs).1
   have hv:vs[0]? =some vs[0]:=by simp [iT]
   refine ⟨vs[0],?_,g4 0 av _ hs hv⟩
   have:=nt (P:=P) hu hD (w:=w) (ad:=⟨m',0,none⟩) (v:=vs[0]) (by rw [pd g2,hv])
   simp [zZ,h1,asAddr,this]
inductive Rs (P:Program) (σ:St):List ResultVar→List AV→Prop
 | nil:Rs P σ [] []
 | cons {v:ResultVar} {l:List ResultVar} {a:AV} {as:List AV} (h:RV P σ v a) (k:Rs P σ l as):Rs P σ (v :: l) (a :: as)
def yF:List AV→AV
 | [a]=>a
 | as=>.iV as
theorem Rs.run {P:Program} {σ:St} {w:World} {S:Nat→Prop} {a:Act} (r:dx w S σ a):∀ {l:List ResultVar} {as:List AV},Rs P σ l as→∃ vs,(l.mapM (zZ a.tmps)).run P w=.ok vs w∧as.length=vs.length∧∀ (i:Nat) c v,as[i]? =some c→vs[i]? =some v→At w S c v
 | [],_,.nil=>⟨[],by simp,rfl,fun i c v hc=>by simp at hc⟩
 | x :: l,_,.cons (a:=av) (as:=as) h k=>by
   obtain ⟨v,h1,h2⟩:=h.run r
   obtain ⟨vs,g1,g2,g3⟩:=Rs.run r k
   refine ⟨v :: vs,by simp [h1,g1],by simp [g2],fun i c u hc hu=>?_⟩
   match i with
   | 0=>simp at hc hu;subst hc;subst hu;exact h2
   | i+1=>exact g3 i c u (by simpa using hc) (by simpa using hu)
theorem EC {P:Program} {fn:Func} {l:List ResultVar} {σ:St} {as:List AV} (hf:fn.results=l.toArray) (h:Rs P σ l as) {w:World} {S:Nat→Prop} {a:Act} (r:dx w S σ a):∃ v,(results fn a.tmps).run P w=.ok v w∧At w S (yF as) v:=by
 obtain ⟨vs,g1,g2,g3⟩:=h.run r
 have hm:results fn a.tmps=(do let vs ← Functor.map List.toArray (l.mapM (zZ a.tmps));pure (if h:vs.size=1 then vs[0] else .tuple vs)):=by
  have V4:(fun (x:ResultVar)=>(match x with | .tmp t=>pure (a.tmps.getD t undef) | .cell p t=>do loadVar t (← asAddr (a.tmps.getD p undef)):Sem Value))=zZ a.tmps:=by
   funext x
   cases x<;>rfl
  unfold results
  rw [hf,List.mapM_toArray]
  rw [← V4]
  rfl
 refine ⟨if h:vs.toArray.size=1 then vs.toArray[0] else .tuple vs.toArray,?_,?_⟩
 ·rw [hm,Sem.run_bind,Sem.run_map,g1]
  rfl
 ·clear h hm g1
  match as,vs,g2,g3 with
  | [],[],_,_=>simp [yF];exact .iV [] _ rfl (fun i c v hc=>by simp at hc)
  | [x],[v],_,g3=>simp [yF];exact g3 0 x v rfl rfl
  | x :: y :: as,v :: u :: vs,hl,g3=>simp [yF];exact .iV _ _ (by simpa using hl) (fun i c v hc hv=>g3 i c v hc (by simpa using hv))
theorem aJ.Sy {P:Program} {f:FuncId} {fn:Func} {c:Code} {args:List AV} {h:Heap} {Q:AV→Heap→Prop} {n:Nat} {l:List ResultVar} (hf:P.funcs[f]? =some fn) (hb:fn.body=some c) (hn:fn.ntmps=n) (PZ:fn.results=l.toArray)
 (hle:Nat.ble args.length n=true) (kk:aa P (fun σ=>ai σ (fun aG=>∃ as,Rs P aG l as∧Q (yF as) aG.hp)) [.code c] ⟨n,M1 args 0,h⟩):aJ P f args h Q:=by
 intro w S vs hr hl ha
 refine calls_of_wp hf hb ?_
 have r0:dx w S ⟨n,M1 args 0,h⟩ {tmps:=vs++Array.replicate (fn.ntmps - vs.size) undef,defers:=[]}:=by
  have:=Nat.le_of_ble_eq_true hle
  refine ⟨by simp [hn];omega,rfl,fun s av hs=>?_,hr⟩
  obtain ⟨_,h2⟩:=Kd args 0 s av hs
  simp only [Nat.sub_zero] at h2
  have iT:s < args.length:=(List.getElem?_eq_some_iff.1 h2).1
  have Sz:s < vs.size:=by omega
  refine ⟨vs[s],by simp [Array.getElem?_append,Sz],ha s av _ h2 (by simp [Sz])⟩
 refine wp_mono (kk w S _ r0) ?_
 rintro e a' w' ⟨aG,S',h1,h2,h3⟩
 have fin:ai aG (fun Gz=>∃ as,Rs P Gz l as∧Q (yF as) Gz.hp)→a'.defers=[]∧∃ v,(results fn a'.tmps).run P w'=.ok v w'∧∃ v' r h' S',(Ending.returned v:Ending)=.returned v'∧Q r h'∧At w' S' r v'∧ck w' S' h'∧iE w S h w' S' h':=by
  intro hi
  obtain ⟨Hz,S2,⟨as,RG,hq⟩,g2,g3⟩:=hi w' S' a' h2
  obtain ⟨v,UR,V5⟩:=EC PZ RG g2
  exact ⟨g2.defers,v,UR,v,yF as,Hz.hp,S2,rfl,hq,V5,g2.hp,h3.trans g3⟩
 cases e with
 | normal=>exact fin h1
 | ret=>exact fin h1
 | exit id=>exact h1.elim
 | goto l=>exact h1.elim
 | panic c=>exact h1.elim
 | outgrown=>exact h1.elim
inductive HS:Heap→Heap→Prop
 | nil {h:Heap}:HS h []
 | cons {h h1 t:Heap} {b:Bk} {o:Ob} (u:x2 h b o h1) (k:HS h1 t):HS h ((b,o) :: t)
theorem HS.perm {h t:Heap} (s:HS h t):∃ r,h.Perm (t++r):=by
 induction s with
 | nil=>exact ⟨_,List.Perm.refl _⟩
 | cons u k ih=>
   obtain ⟨r,hr⟩:=ih
   exact ⟨r,u.perm.trans (List.Perm.cons _ hr)⟩
theorem ai.SA {n:Nat} {tm pP:List (Nat×AV)} {hp cC:Heap} {T:St→Prop} (h:B5 tm pP) (hs:HS hp cC) (k:ai ⟨n,pP,cC⟩ T):ai ⟨n,tm,hp⟩ T:=by
 obtain ⟨r,hr⟩:=hs.perm
 refine ai.step (Bv:=⟨n,pP,cC⟩) (fun w S a rel=>⟨_,S,rfl,⟨rel.size,rel.defers,fun s av hh=>rel.tm s av (h.lk s av hh),(rel.hp.perm hr).sub (List.sublist_append_left _ _)⟩,iE.less (iE.refl w S hp) fun m hm=>?_⟩) k
 obtain ⟨e,he,hb⟩:=hm
 exact ⟨e,hr.mem_iff.2 (List.mem_append_left _ he),hb⟩
abbrev I (n:Int):AV:=.int .i64 n
section rules
variable {P:Program} {all:Array Oper} {rest:List Oper} {n:Nat} {tm:List (Nat×AV)} {hp:Heap} {Q:St→Prop} {d:Nat} {ty:TypeId} {pos:String} {af:Array Edge}
end rules
section rules
variable {P:Program} {all:Array Oper} {rest:List Oper} {n:Nat} {tm:List (Nat×AV)} {hp:Heap} {Q:St→Prop} {d:Nat} {ty:TypeId} {pos:String} {af:Array Edge}
theorem IV {t e:TypeId} {i:TypeInfo} {z:Value} {x y:Operand} {src:AV} {b:Bk} {len sz:Nat} {xs ys:List AV} {cC:Bk→Heap} [aE P t (.slice e)] [aX P e i] (hx:cG tm x=some (.sl sz b 0 len)) (hy:cG tm y=some src) (hz:i.zero=some z)
 (Kg:Nat.beq z.cells.size i.size=true) (gG:Nat.beq i.size sz=true) (h0:Nat.blt 0 sz=true) (hn:Nat.blt d n=true) (Gi:Nat.ble i.bytes 65536=true) (hs:Src hp sz src ys) (u:∀ b',mT hp b (.arr sz xs) b' (.arr sz (xs++ys)) (cC b')) (hlen:len=xs.length)
 (hb:xs.length+ys.length≤1000000000)
 (kk:∀ b':Bk,ae P all rest ⟨n,(d,.sl sz b' 0 (len+ys.length)) :: tm,cC b'⟩ Q):ae P all (⟨some d,.call {callee:=.builtin .append,args:=#[x,y],argTypes:=#[t,t]},ty,pos,af,none⟩ :: rest) ⟨n,tm,hp⟩ Q:=by
 refine Kh hx hy hz Kg gG h0 hn hs u hlen ?_ (by omega) kk
 have h1:=Nat.le_of_ble_eq_true Gi
 have:=Nat.mul_le_mul hb h1
 omega
end rules
def qj:List AV→Option (List AV)
 | []=>some []
 | x :: r=>match qj r with
   | some l=>some (x :: l)
   | none=>none
theorem mg:∀ {l l':List AV},qj l=some l'→l=l'
 | [],l',h=>by simp [qj] at h;exact h.symm
 | x :: r,l',h=>by
   simp only [qj] at h
   split at h
   ·rename_i l hl
    obtain rfl:=Option.some.inj h
    rw [mg hl]
   ·cases h
def Kk:List AV→Nat→Option (List (Nat×AV))
 | [],_=>some []
 | x :: r,i=>match Kk r (i+1) with
   | some l=>some ((i,x) :: l)
   | none=>none
theorem HG:∀ {l:List AV} {i:Nat} {l':List (Nat×AV)},Kk l i=some l'→M1 l i=l'
 | [],i,l',h=>by simp [Kk] at h;simpa [M1] using h
 | x :: r,i,l',h=>by
   simp only [Kk] at h
   split at h
   ·rename_i l hl
    obtain rfl:=Option.some.inj h
    rw [M1,HG hl]
   ·cases h
class kY (P:Program) (t:TypeId) (sz:outParam Nat):Prop where
 h:∃ i,P.info? t=some i∧i.size=sz
theorem aJ.bD {P:Program} {f:FuncId} {fn:Func} {c:Code} {args:List AV} {h:Heap} {Q:AV→Heap→Prop} {n:Nat} {l:List ResultVar} {tm:List (Nat×AV)} (hf:P.funcs[f]? =some fn) (hb:fn.body=some c) (hn:fn.ntmps=n) (PZ:fn.results=l.toArray)
 (htm:Kk args 0=some tm) (hle:Nat.ble args.length n=true) (kk:aa P (fun σ=>ai σ (fun aG=>∃ rs,Rs P aG l rs∧Q (yF rs) aG.hp)) [.code c] ⟨n,tm,h⟩):aJ P f args h Q:=
 aJ.Sy hf hb hn PZ hle (by rw [HG htm];exact kk)
section rules
variable {P:Program} {all:Array Oper} {rest:List Oper} {n:Nat} {tm:List (Nat×AV)} {hp:Heap} {Q:St→Prop} {d:Nat} {ty:TypeId} {pos:String} {af:Array Edge}
theorem jU {x:Operand} {E:TypeId} {av:AV} {cs:List AV} (hx:cG tm x=some av) (hc:qj av.cells=some cs) (h1:lG cs=true) (hn:Nat.blt d n=true)
 (kk:∀ b:Bk,ae P all rest ⟨n,(d,.ptr b 0) :: tm,(b,.cells cs) :: hp⟩ Q):ae P all (⟨some d,.box E x,ty,pos,af,none⟩ :: rest) ⟨n,tm,hp⟩ Q:=by
 obtain rfl:=mg hc
 exact Sn hx h1 hn kk
theorem bX {E:TypeId} {i:TypeInfo} {z:Value} {cs:List AV} [aX P E i] (hz:i.zero=some z) (hc:qj (BZ z).cells=some cs) (h1:lG cs=true) (hn:Nat.blt d n=true)
 (kk:∀ b:Bk,ae P all rest ⟨n,(d,.ptr b 0) :: tm,(b,.cells cs) :: hp⟩ Q):ae P all (⟨some d,.alloc E,ty,pos,af,none⟩ :: rest) ⟨n,tm,hp⟩ Q:=by
 obtain rfl:=mg hc
 exact M7 hz h1 hn kk
theorem aC {x:Operand} {s:TypeId} {j off:Nat} {b:Bk} {o o':Nat} [nN P s j off] (hx:cG tm x=some (.ptr b o)) (ho:o+off=o'):QV P ⟨some d,.fieldAddr s x j,ty,pos,af,none⟩ ⟨n,tm,hp⟩ (.ptr b o'):=by
 subst ho
 exact Ep hx
theorem aQ {x:Operand} {s:TypeId} {j off:Nat} {cs pQ:List AV} [nN P s j off] (hx:cG tm x=some (.eo cs)) (hc:qj (cs.drop off)=some pQ):QV P ⟨some d,.fieldAddr s x j,ty,pos,af,none⟩ ⟨n,tm,hp⟩ (.eo pQ):=by
 obtain rfl:=mg hc
 exact C1 hx
theorem sC {t:TypeId} {D:TypeDesc} {i:TypeInfo} {x:Operand} {cs pQ:List AV} [aE P t D] [aX P t i] (hD:TypeDesc.kH D=true) (hx:cG tm x=some (.eo cs)) (ho:Nat.ble i.size cs.length=true) (hc:qj (cs.take i.size)=some pQ):
 QV P ⟨some d,.load t x,ty,pos,af,none⟩ ⟨n,tm,hp⟩ (.agg pQ):=by
 obtain rfl:=mg hc
 exact x3 hD hx ho
theorem db {t:TypeId} {i:TypeInfo} {z:Value} {parts:List (Nat×Operand)} {l:List (Nat×AV)} {cs pQ:List AV} {pl:List (Nat×Nat)} [aX P t i] [mP P t pl] (hz:i.zero=some z) (hl:RA tm parts=some l) (h1:lG (BZ z).cells=true)
 (hc:B1 pl (BZ z).cells l=some cs) (HI:qj cs=some pQ):QV P ⟨some d,.build t parts.toArray,ty,pos,af,none⟩ ⟨n,tm,hp⟩ (.agg pQ):=by
 obtain rfl:=mg HI
 exact M9 hz hl h1 hc
theorem aB {t:TypeId} {i:TypeInfo} {x y:Operand} {b:Bk} {o:Nat} {cs pQ:List AV} {av:AV} {cC:Heap} [aX P t i] (hx:cG tm x=some (.ptr b o)) (hy:cG tm y=some av) (h1:lG av.cells=true) (gG:Nat.beq av.cells.length i.size=true)
 (u:mT hp b (.cells cs) b (.cells pQ) cC) (hc:qj (mO cs o av.cells)=some pQ) (ho:Nat.ble (o+av.cells.length) cs.length=true) (kk:ae P all rest ⟨n,tm,cC⟩ Q):ae P all (⟨none,.store t x y,ty,pos,af,none⟩ :: rest) ⟨n,tm,hp⟩ Q:=by
 obtain rfl:=mg hc
 exact Er hx hy h1 gG u ho kk
theorem ba {t e:TypeId} {i:TypeInfo} {z:Value} {len sz:Nat} {parts:List (Nat×Operand)} {xs:List AV} [aE P t (.slice e)] [aX P e i] [kY P e sz] (hz:i.zero=some z) (hl:JQ tm parts 0=some xs) (hlen:Nat.beq parts.length len=true) (x4:yE i.size xs=true)
 (Kf:Nat.ble (len * i.size) 16777216=true) (hn:Nat.blt d n=true) (kk:ae P all rest ⟨n,(d,.list sz xs) :: tm,hp⟩ Q):ae P all (⟨some d,.buildSlice t len parts.toArray,ty,pos,af,none⟩ :: rest) ⟨n,tm,hp⟩ Q:=by
 obtain ⟨i',h1,h2⟩:=kY.h (P:=P) (t:=e)
 obtain rfl:i'=i:=by rw [aX.h (P:=P) (t:=e)] at h1;exact (Option.some.inj h1).symm
 subst h2
 exact BB hz hl hlen x4 Kf hn kk
theorem qt {t e:TypeId} {i:TypeInfo} {z:Value} {len sz:Nat} {parts:List (Nat×Operand)} {xs:List AV} [aE P t (.slice e)] [aX P e i] [kY P e sz] (hz:i.zero=some z) (hl:JQ tm parts 0=some xs) (hlen:Nat.beq parts.length len=true) (x4:yE i.size xs=true)
 (Kf:Nat.ble (len * i.size) 16777216=true) (hn:Nat.blt d n=true) (kk:∀ b:Bk,ae P all rest ⟨n,(d,.sl sz b 0 len) :: tm,(b,.arr sz xs) :: hp⟩ Q):ae P all (⟨some d,.buildSlice t len parts.toArray,ty,pos,af,none⟩ :: rest) ⟨n,tm,hp⟩ Q:=by
 obtain ⟨i',h1,h2⟩:=kY.h (P:=P) (t:=e)
 obtain rfl:i'=i:=by rw [aX.h (P:=P) (t:=e)] at h1;exact (Option.some.inj h1).symm
 subst h2
 exact wY hz hl hlen x4 Kf hn kk
end rules
structure Grow (w:World) (S:Nat→Prop) (w':World) (S':Nat→Prop):Prop where
 ext:Ext w w'
 up:∀ n,S n→S' n
 down:∀ n,n < w.heap.size→S' n→S n
 slt:∀ n,S' n→n < w'.heap.size
theorem Grow.refl {w:World} {S:Nat→Prop} (h:∀ n,S n→n < w.heap.size):Grow w S w S:=⟨Ext.refl w,fun _ h=>h,fun _ _ h=>h,h⟩
theorem Grow.trans {a b c:World} {S T U:Nat→Prop} (h:Grow a S b T) (k:Grow b T c U):Grow a S c U:=
 ⟨h.ext.trans k.ext,fun n hn=>k.up n (h.up n hn),fun n hn hs=>h.down n hn (k.down n (Nat.lt_of_lt_of_le hn h.ext.size) hs),k.slt⟩
theorem Grow.keep {w w':World} {S S':Nat→Prop} (g:Grow w S w' S') (h:∀ n,S n→n < w.heap.size):∀ n,S n→S' n∧w'.heap[n]? =w.heap[n]?:=fun n hn=>⟨g.up n hn,g.ext.same n (h n hn)⟩
theorem ck.grow {w w':World} {S S':Nat→Prop} {h:Heap} (r:ck w S h) (g:Grow w S w' S'):ck w' S' h where
 nodup:=r.nodup
 holds e he:=(r.holds e he).mono (g.keep r.slt) (fun n hn=>g.ext.same n (r.lt ⟨e,he,hn⟩))
 sep e he n hn:=by
  rw [← r.sep e he n hn]
  exact ⟨g.down n (r.lt ⟨e,he,hn⟩),g.up n⟩
 slt:=g.slt
 fe t o ho:=⟨(g.keep r.slt t (r.fe t o ho).1).1,wV (g.keep r.slt t (r.fe t o ho).1).2 (r.fe t o ho).2⟩
theorem Grow.X9 {w w':World} {S S':Nat→Prop} (g:Grow w S w' S') (h:∀ n,S n→n < w.heap.size) (hp:Heap):iE w S hp w' S' hp:=
 ⟨g.ext.os,g.ext.tape,g.ext.output,g.ext.size,g.keep h,fun n hn _=>⟨g.ext.same n hn,g.down n hn⟩,fun _ hn=>.inl hn,g.ext.drawn⟩
def looks (all:Array Oper) (o:Oper):List Nat:=
 (o.op.operands.toList.filterMap fun | .tmp t=>some t | _=>none)++(match o.guard with | some (g,_)=>((all[g]?).bind (·.dst)).toList | none=>[])
abbrev Env:=Nat→Option AV
def C8 (w:World) (S:Nat→Prop) (ls:List Nat) (e:Env) (a:Act):Prop:=∀ s∈ls,∀ av,e s=some av→∃ v,a.tmps[s]? =some v∧At w S av v
def MV (P:Program) (all:Array Oper) (n:Nat) (o:Oper) (e:Env) (hp:Heap) (av:AV):Prop:=
 ∀ w S a,a.tmps.size=n→a.defers=[]→ck w S hp→C8 w S (looks all o) e a→∀ (K:Act→World→Prop) (Q:Exit→Act→World→Prop),
   (∀ v w' S',Grow w S w' S'→At w' S' av v→K (a.put o.dst v) w')→o.wp P a w K Q
def vJ (e:Env) (d:Option Nat) (av:AV):Env:=match d with
 | some d=>fun s=>if d=s then some av else e s
 | none=>e
def nD (all:Array Oper) (o:Oper) (e:Env) (b:Bool):Prop:=
 match o.guard with
 | none=>b=true
 | some (j,want)=>∃ s,(all[j]?).bind (·.dst)=some s∧((∃ c,e s=some (.bool c)∧b=(c==want))∨(e s=some (.raw undef)∧b=false))
inductive Nj (P:Program) (all:Array Oper) (n:Nat) (hp:Heap):List Oper→Env→Env→Prop
 | nil (e:Env):Nj P all n hp [] e e
 | run {o:Oper} {l:List Oper} {e e':Env} {av:AV} (hg:nD all o e true) (h:MV P all n o e hp av) (hd:∀ d,o.dst=some d→d < n) (k:Nj P all n hp l (vJ e o.dst av) e'):Nj P all n hp (o :: l) e e'
 | pass {o:Oper} {l:List Oper} {e e':Env} (hg:nD all o e false) (hd:∀ d,o.dst=some d→d < n) (k:Nj P all n hp l (vJ e o.dst (.raw undef)) e'):Nj P all n hp (o :: l) e e'
def O4 (P:Program) (all:Array Oper) (n:Nat) (hp:Heap) (o:Oper) (e:Env) (av:AV):Prop:=
 (∀ d,o.dst=some d→d < n)∧((nD all o e true∧MV P all n o e hp av)∨(nD all o e false∧av=.raw undef))
theorem Nj.GA {P:Program} {all:Array Oper} {n:Nat} {hp:Heap} {l:List Oper} {e e':Env} (h:Nj P all n hp l e e'):
 ∃ (mc:Nat→AV) (en:Nat→Env),en 0=e∧en l.length=e'∧∀ i o,l[i]? =some o→O4 P all n hp o (en i) (mc i)∧en (i+1)=vJ (en i) o.dst (mc i):=by
 induction h with
 | nil e=>exact ⟨fun _=>.nil,fun _=>e,rfl,rfl,fun i o h=>by simp at h⟩
 | @run o l e e' av hg hm hd k ih=>
   obtain ⟨mc,en,h0,h1,h2⟩:=ih
   refine ⟨fun i=>match i with | 0=>av | i+1=>mc i,fun i=>match i with | 0=>e | i+1=>en i,rfl,h1,fun i o' ho=>?_⟩
   match i with
   | 0=>simp at ho;subst ho;exact ⟨⟨hd,.inl ⟨hg,hm⟩⟩,h0⟩
   | i+1=>exact h2 i o' (by simpa using ho)
 | @pass o l e e' hg hd k ih=>
   obtain ⟨mc,en,h0,h1,h2⟩:=ih
   refine ⟨fun i=>match i with | 0=>.raw undef | i+1=>mc i,fun i=>match i with | 0=>e | i+1=>en i,rfl,h1,fun i o' ho=>?_⟩
   match i with
   | 0=>simp at ho;subst ho;exact ⟨⟨hd,.inr ⟨hg,rfl⟩⟩,h0⟩
   | i+1=>exact h2 i o' (by simpa using ho)
def waits (o:Oper) (i:Nat):Bool:=o.after.toList.any fun e=>Region.binds .any e&&Nat.beq e.on i
def yG (all:Array Oper) (oi oj:Oper):Bool:=
 match oi.dst,oj.dst with
 | some d,some d'=>(looks all oj).contains d||(looks all oi).contains d'||Nat.beq d d'
 | some d,none=>(looks all oj).contains d
 | none,some d'=>(looks all oi).contains d'
 | none,none=>false
inductive yH (all:Array Oper):Nat→Nat→Prop
 | one {j i:Nat} {oj:Oper} (hj:all[j]? =some oj) (hw:waits oj i=true):yH all j i
 | step {j k i:Nat} {oj:Oper} (hj:all[j]? =some oj) (hw:waits oj k=true) (h:yH all k i):yH all j i
def C9 (acc:List Nat):List Edge→Nat→Nat
 | [],m=>m
 | e :: r,m=>C9 acc r (match Region.binds .any e with
   | true=>m||| (1 <<< e.on)||| acc.getD e.on 0
   | false=>m)
def Kl:List Oper→List Nat→List Nat
 | [],acc=>acc
 | o :: r,acc=>Kl r (acc++[C9 acc o.after.toList 0])
def IW (all:Array Oper):List Nat:=Kl all.toList []
theorem yI {acc:List Nat} {i:Nat}:∀ (es:List Edge) (m:Nat),(C9 acc es m).testBit i=true→m.testBit i=true∨∃ e∈es,Region.binds .any e=true∧(e.on=i∨(acc.getD e.on 0).testBit i=true)
 | [],m,h=>.inl h
 | e :: r,m,h=>by
   simp only [C9] at h
   rcases yI r _ h with h | ⟨e',he,hb,hh⟩
   ·split at h
    ·rename_i hb
     rw [Nat.testBit_or,Nat.testBit_or,Bool.or_eq_true,Bool.or_eq_true] at h
     rcases h with (h | h) | h
     ·exact .inl h
     ·refine .inr ⟨e,by simp,hb,.inl ?_⟩
      rw [Nat.one_shiftLeft,Nat.testBit_two_pow] at h
      simpa using h
     ·exact .inr ⟨e,by simp,hb,.inr h⟩
    ·exact .inl h
   ·exact .inr ⟨e',by simp [he],hb,hh⟩
theorem Aa {all:Array Oper}:∀ (l:List Oper) (acc:List Nat) (pre:List Oper),all.toList=pre++l→acc.length=pre.length→(∀ j i,(acc.getD j 0).testBit i=true→yH all j i)→∀ j i,((Kl l acc).getD j 0).testBit i=true→yH all j i
 | [],acc,pre,_,_,h=>h
 | o :: r,acc,pre,hl,hlen,h=>by
   refine Aa r _ (pre++[o]) (by simpa using hl) (by simp [hlen]) (fun j i hb=>?_)
   rcases Nat.lt_or_ge j acc.length with hj | hj
   ·refine h j i ?_
    rw [List.getD_eq_getElem?_getD,List.getElem?_append_left hj] at hb
    rw [List.getD_eq_getElem?_getD]
    exact hb
   ·by_cases Ya:j=acc.length
    ·rw [List.getD_eq_getElem?_getD,List.getElem?_append_right hj,Ya] at hb
     simp only [Nat.sub_self,List.getElem?_cons_zero,Option.getD_some] at hb
     have MF:all[j]? =some o:=by
      rw [← Array.getElem?_toList,hl,List.getElem?_append_right (by omega),Ya,hlen];simp
     rcases yI _ _ hb with hz | ⟨e,he,hbd,hh⟩
     ·simp at hz
     ·have hw:waits o e.on=true:=by
       simp only [waits,List.any_eq_true,Bool.and_eq_true]
       exact ⟨e,he,hbd,by simp⟩
      rcases hh with hh | hh
      ·subst hh;exact .one MF hw
      ·exact .step MF hw (h _ _ hh)
    ·rw [List.getD_eq_getElem?_getD,List.getElem?_append_right hj,List.getElem?_eq_none (by simp;omega)] at hb
     simp at hb
theorem nO {all:Array Oper} {j i:Nat} (h:((IW all).getD j 0).testBit i=true):yH all j i:=
 Aa all.toList [] [] (by simp) rfl (fun j i h=>by simp at h) j i h
def ED (all:Array Oper) (m:Nat) (A:List Nat):Bool:=
 (List.range all.size).all fun j=>match all[j]? with
  | none=>true
  | some oj=>(oj.after.all fun e=>!Region.binds .any e||Nat.blt e.on j)&&(List.range j).all fun i=>match all[i]? with
    | none=>true
    | some oi=>if Nat.blt j m then !yG all oi oj||(A.getD j 0).testBit i else (A.getD j 0).testBit i
def tI (all:Array Oper) (m:Nat):Prop:=∃ A,IW all=A∧ED all m A=true
theorem jD {all:Array Oper} {m:Nat} (h:tI all m) {i j:Nat} {oi oj:Oper} (hj:all[j]? =some oj) (hi:all[i]? =some oi) (Da:i < j):(j < m→yG all oi oj=true→yH all j i)∧(m≤j→yH all j i):=by
 obtain ⟨A,hA,h⟩:=h
 subst hA
 have Gj:j < all.size:=(Array.getElem?_eq_some_iff.1 hj).1
 simp only [ED,List.all_eq_true,List.mem_range] at h
 have h1:=h j Gj
 rw [hj] at h1
 simp only [Bool.and_eq_true,List.all_eq_true,List.mem_range] at h1
 have h2:=h1.2 i Da
 rw [hi] at h2
 simp only at h2
 refine ⟨fun hm hc=>?_,fun hm=>?_⟩
 ·rw [if_pos (by simpa using hm)] at h2
  exact nO (by simpa [hc] using h2)
 ·rw [if_neg (by simp;omega)] at h2
  exact nO h2
theorem wx {all:Array Oper} {m:Nat} (h:tI all m) {j:Nat} {oj:Oper} (hj:all[j]? =some oj) {e:Edge} (he:e∈oj.after) (hb:Region.binds .any e=true):e.on < j:=by
 obtain ⟨A,hA,h⟩:=h
 have Gj:j < all.size:=(Array.getElem?_eq_some_iff.1 hj).1
 simp only [ED,List.all_eq_true,List.mem_range] at h
 have h1:=h j Gj
 rw [hj] at h1
 simp only [Bool.and_eq_true,Array.all_eq_true_iff_forall_mem] at h1
 have:=h1.1 e he
 simpa [hb] using this
theorem rV {all:Array Oper} {listed:Array Bool} {i j:Nat} {oj:Oper} (hj:all[j]? =some oj) (hr:j∈Region.ready .any all listed) (hw:waits oj i=true):listed.getD i false=true:=by
 simp only [Region.ready,List.mem_filter,List.mem_range,hj,Option.map_some,Option.getD_some,Bool.and_eq_true,Array.all_eq_true_iff_forall_mem] at hr
 simp only [waits,List.any_eq_true,Bool.and_eq_true] at hw
 obtain ⟨e,he,hb,MG⟩:=hw
 have:=hr.2.2 e (by simpa using he)
 rw [hb] at this
 obtain rfl:e.on=i:=Nat.eq_of_beq_eq_true MG
 simpa using this
def kJ (all:Array Oper) (listed:Array Bool):Prop:=∀ k i o,listed.getD k false=true→all[k]? =some o→waits o i=true→listed.getD i false=true
theorem kJ.Nk {all:Array Oper} {listed:Array Bool} (c:kJ all listed) {j i:Nat} (h:yH all j i) (hl:listed.getD j false=true):listed.getD i false=true:=by
 induction h with
 | one hj hw=>exact c _ _ _ hl hj hw
 | step hj hw _ ih=>exact ih (c _ _ _ hl hj hw)
theorem kJ.ready {all:Array Oper} {listed:Array Bool} (c:kJ all listed) {j i:Nat} (h:yH all j i) (hr:j∈Region.ready .any all listed):listed.getD i false=true:=by
 cases h with
 | one hj hw=>exact rV hj hr hw
 | step hj hw h=>exact c.Nk h (rV hj hr hw)
theorem vi {all:Array Oper} {listed:Array Bool} {j:Nat} (hr:j∈Region.ready .any all listed):j < all.size∧listed.getD j true=false:=by
 simp only [Region.ready,List.mem_filter,List.mem_range,Bool.and_eq_true] at hr
 exact ⟨hr.1,by simpa using hr.2.1⟩
theorem x6 {all:Array Oper} {m:Nat} (h:tI all m) {listed:Array Bool} (hl:listed.size=all.size) (hr:Region.ready .any all listed=[]):∀ i,i < all.size→listed.getD i false=true:=by
 intro i
 induction i using Nat.strongRecOn with
 | _ i ih=>
   intro hi
   cases hv:listed.getD i false with
   | true=>rfl
   | false=>
     exfalso
     have:i∈Region.ready .any all listed:=by
      simp only [Region.ready,List.mem_filter,List.mem_range,Bool.and_eq_true]
      have hli:i < listed.size:=by omega
      refine ⟨hi,?_,?_⟩
      ·simp [hli] at hv ⊢;exact hv
      ·have yJ:all[i]? =some all[i]:=by simp [hi]
       rw [yJ]
       simp only [Option.map_some,Option.getD_some,Array.all_eq_true_iff_forall_mem]
       intro e he
       cases hb:Region.binds .any e with
       | false=>simp
       | true=>
         have iT:=wx h yJ he hb
         simp [ih e.on iT (by omega)]
     rw [hr] at this
     simp at this
section order
variable {P:Program} {all:Array Oper} {n m:Nat} {hp:Heap}
def cur (all:Array Oper) (mc:Nat→AV) (e:Env) (listed:Array Bool):Nat→Env
 | 0=>e
 | k+1=>if listed.getD k false then vJ (cur all mc e listed k) ((all[k]?).bind (·.dst)) (mc k) else cur all mc e listed k
theorem lL {e:Env} {d:Option Nat} {av:AV} {s:Nat} (h:d≠some s):vJ e d av s=e s:=by
 cases d with
 | none=>rfl
 | some d=>simp only [vJ];rw [if_neg (fun e=>h (by rw [e]))]
theorem ot {e:Env} {av:AV} {s:Nat}:vJ e (some s) av s=some av:=by simp [vJ]
theorem wy {oi oj:Oper} {s:Nat} (hd:oi.dst=some s) (hs:s∈looks all oj):yG all oi oj=true:=by
 unfold yG
 rw [hd]
 cases hj:oj.dst<;>simp [hs]
theorem yK {oi oj:Oper} {s:Nat} (hd:oj.dst=some s) (hs:s∈looks all oi):yG all oi oj=true:=by
 unfold yG
 rw [hd]
 cases hi:oi.dst<;>simp [hs]
theorem B7 {oi oj:Oper} {s:Nat} (hi:oi.dst=some s) (hj:oj.dst=some s):yG all oi oj=true:=by
 unfold yG
 rw [hi,hj]
 simp
structure MH (all:Array Oper) (m:Nat) (listed:Array Bool):Prop where
 size:listed.size=all.size
 head:∀ k,listed.getD k false=true→k < m
 closed:∀ k i o,listed.getD k false=true→all[k]? =some o→waits o i=true→listed.getD i false=true
theorem zC {listed:Array Bool} {i:Nat} (h:listed.getD i true=false):listed.getD i false=false:=by
 by_cases hi:i < listed.size
 ·simp [hi] at h ⊢;exact h
 ·simp [hi]
variable {mc:Nat→AV} {en:Nat→Env} {e:Env}
theorem Km (hB:tI all m) {listed:Array Bool} (L:MH all m listed) (h0:en 0=e) (hs:∀ i o,i < m→all[i]? =some o→en (i+1)=vJ (en i) o.dst (mc i)) (hm:m≤all.size)
 {i:Nat} {o:Oper} (ho:all[i]? =some o) (Ed:i < m) (vK:listed.getD i false=false) (hr:∀ j,yH all i j→listed.getD j false=true) {s:Nat} (Gk:s∈looks all o):∀ k,k≤all.size→cur all mc e listed k s=en (min k i) s:=by
 intro k
 induction k with
 | zero=>intro _;simp [cur,h0]
 | succ k ih=>
   intro hk
   have tX:=ih (by omega)
   have tY:all[k]? =some all[k]:=by simp [show k < all.size by omega]
   simp only [cur,tY,Option.bind_some]
   rcases Nat.lt_trichotomy k i with iT | heq | Kn
   ·rw [Nat.min_eq_left (by omega)] at tX
    rw [Nat.min_eq_left (by omega),hs k _ (by omega) tY]
    by_cases hd:(all[k]).dst=some s
    ·have hl:listed.getD k false=true:=hr k ((jD hB ho tY iT).1 Ed (wy hd Gk))
     rw [if_pos hl,hd,ot,ot]
    ·rw [lL hd]
     split
     ·rw [lL hd];exact tX
     ·exact tX
   ·subst heq
    rw [vK]
    simp only [Bool.false_eq_true,if_false]
    rw [Nat.min_eq_right (by omega)]
    rw [Nat.min_eq_right (by omega)] at tX
    exact tX
   ·rw [Nat.min_eq_right (by omega)] at tX
    rw [Nat.min_eq_right (by omega)]
    by_cases hl:listed.getD k false=true
    ·by_cases hd:(all[k]).dst=some s
     ·exfalso
      have hw:=(jD hB tY ho Kn).1 (L.head k hl) (yK hd Gk)
      have:=kJ.Nk L.closed hw hl
      rw [vK] at this;cases this
     ·rw [if_pos hl,lL hd];exact tX
    ·rw [if_neg hl];exact tX
theorem iG {listed:Array Bool} {i k:Nat} (hi:i < listed.size):(listed.setIfInBounds i true).getD k false=(if k=i then true else listed.getD k false):=by
 by_cases hk:k < listed.size
 ·simp [hk,Array.getElem_setIfInBounds]
  by_cases h:k=i
  ·simp [h]
  ·have h':¬ i=k:=fun e=>h e.symm
   simp [h,h']
 ·have:k≠i:=by omega
  simp [hk,this]
theorem Nl (hB:tI all m) {listed:Array Bool} (L:MH all m listed) {i:Nat} {o:Oper} (ho:all[i]? =some o) (Ed:i < m) (vK:listed.getD i false=false) (s:Nat):
 ∀ k,k≤all.size→cur all mc e (listed.setIfInBounds i true) k s=(if i < k then vJ (cur all mc e listed k) o.dst (mc i) s else cur all mc e listed k s):=by
 have hi:i < listed.size:=by rw [L.size];exact (Array.getElem?_eq_some_iff.1 ho).1
 intro k
 induction k with
 | zero=>intro _;simp [cur]
 | succ k ih=>
   intro hk
   have tX:=ih (by omega)
   have tY:all[k]? =some all[k]:=by simp [show k < all.size by omega]
   simp only [cur,tY,Option.bind_some,iG hi]
   rcases Nat.lt_trichotomy k i with iT | heq | Kn
   ·rw [if_neg (by omega)] at tX
    have e1:(if k=i then true else listed.getD k false)=listed.getD k false:=if_neg (by omega)
    rw [e1,if_neg (show ¬ i < k+1 by omega)]
    by_cases hl:listed.getD k false=true
    ·rw [if_pos hl,if_pos hl]
     by_cases hd:(all[k]).dst=some s
     ·rw [hd,ot,ot]
     ·rw [lL hd,lL hd];exact tX
    ·rw [if_neg hl,if_neg hl];exact tX
   ·subst heq
    rw [if_neg (by omega)] at tX
    have e1:(if k=k then true else listed.getD k false)=true:=if_pos rfl
    rw [e1,if_pos (show k < k+1 by omega),if_pos rfl,vK,if_neg Bool.false_ne_true]
    obtain rfl:all[k]=o:=by rw [tY] at ho;exact Option.some.inj ho
    by_cases hd:(all[k]).dst=some s
    ·rw [hd,ot,ot]
    ·rw [lL hd,lL hd];exact tX
   ·rw [if_pos Kn] at tX
    have e1:(if k=i then true else listed.getD k false)=listed.getD k false:=if_neg (by omega)
    rw [e1,if_pos (show i < k+1 by omega)]
    by_cases hl:listed.getD k false=true
    ·rw [if_pos hl,if_pos hl]
     by_cases hd:(all[k]).dst=some s
     ·by_cases IX:o.dst=some s
      ·exfalso
       have hw:=(jD hB tY ho Kn).1 (L.head k hl) (B7 IX hd)
       have:=kJ.Nk L.closed hw hl
       rw [vK] at this;cases this
      ·rw [hd,ot,lL IX,ot]
     ·by_cases IX:o.dst=some s
      ·rw [lL hd,tX,IX,ot,ot]
      ·rw [lL hd,tX,lL IX,lL IX,lL hd]
    ·rw [if_neg hl,if_neg hl];exact tX
theorem EE (hB:tI all m) {Q:Exit→Act→World→Prop}:∀ (fuel k:Nat) (listed:Array Bool) (a:Act) (w:World),m≤k→k+fuel=all.size→listed.size=all.size→(∀ i,i < k→listed.getD i false=true)→(∀ i,k≤i→listed.getD i false=false)→
 wpList P all Q (all.toList.drop k) a w→wpAny P .any all Q fuel listed a w:=by
 intro fuel
 induction fuel with
 | zero=>
   intro k listed a w hm hk gG h1 h2 h
   have IY:all.toList.drop k=[]:=List.drop_eq_nil_of_le (by simp;omega)
   rw [IY] at h
   refine ⟨?_,h⟩
   refine List.eq_nil_iff_forall_not_mem.2 fun i hi=>?_
   obtain ⟨Ko,Kp⟩:=vi hi
   have:=h1 i (by omega)
   rw [zC Kp] at this
   cases this
 | succ fuel ih=>
   intro k listed a w hm hk gG h1 h2 h
   have V6:k < all.size:=by omega
   have tY:all[k]? =some all[k]:=by simp [V6]
   refine ⟨fun hr=>?_,fun i hi=>?_⟩
   ·have:=x6 hB gG hr k V6
    rw [h2 k (Nat.le_refl _)] at this
    cases this
   ·obtain ⟨Ko,Kp⟩:=vi hi
    have yJ:all[i]? =some all[i]:=by simp [Ko]
    obtain rfl:i=k:=by
     rcases Nat.lt_trichotomy i k with iT | heq | Kn
     ·have:=h1 i iT;rw [zC Kp] at this;cases this
     ·exact heq
     ·have Bz:kJ all listed:=fun k' i' o Kq ho' P0=>by
       have iT:k' < k:=by
        rcases Nat.lt_or_ge k' k with h | h
        ·exact h
        ·rw [h2 k' h] at Kq;cases Kq
       simp only [waits,List.any_eq_true,Bool.and_eq_true] at P0
       obtain ⟨e',V7,zT,P1⟩:=P0
       have:=wx hB ho' (by simpa using V7) zT
       obtain rfl:e'.on=i':=Nat.eq_of_beq_eq_true P1
       exact h1 _ (by omega)
      have:=Bz.ready ((jD hB yJ tY Kn).2 (by omega)) hi
      rw [h2 k (Nat.le_refl _)] at this;cases this
    have SC:all.toList.drop i=all[i] :: all.toList.drop (i+1):=by
     rw [List.drop_eq_getElem_cons (by simpa using V6)]
     simp
    rw [SC] at h
    unfold wpList at h
    simp only [wpOp,tY]
    have next:∀ a w,wpList P all Q (all.toList.drop (i+1)) a w→wpAny P .any all Q fuel (listed.setIfInBounds i true) a w:=fun a w hh=>by
     have oX:i < listed.size:=by omega
     refine ih (i+1) (listed.setIfInBounds i true) a w (by omega) (by omega) (by simpa using gG) (fun j hj=>?_) (fun j hj=>?_) hh
     ·rw [iG oX];split
      ·rfl
      ·exact h1 j (by omega)
     ·rw [iG oX,if_neg (by omega)];exact h2 j (by omega)
    split at h
    ·rename_i hw
     rw [if_pos hw]
     exact h.imp (fun hh=>Oper.wp_mono next hh) id
    ·rename_i hw
     rw [if_neg hw]
     exact next _ _ h
theorem vj {o:Oper} {e:Env} {b:Bool} {w:World} {S:Nat→Prop} {a:Act} (hw:nD all o e b) (r:C8 w S (looks all o) e a):Region.wanted o (yielded all a.tmps)=b:=by
 unfold nD at hw
 unfold Region.wanted
 cases hg:o.guard with
 | none=>rw [hg] at hw;simp only at hw;rw [hw]
 | some g=>
   obtain ⟨j,want⟩:=g
   rw [hg] at hw
   simp only at hw
   obtain ⟨s,h1,⟨c,h2,h3⟩ | ⟨h2,h3⟩⟩:=hw
   ·obtain ⟨v,g1,g2⟩:=r s (by simp [looks,hg,h1]) _ h2
    cases g2
    rw [h3]
    cases c<;>cases want<;>simp [yielded,h1,g1]
   ·obtain ⟨v,g1,g2⟩:=r s (by simp [looks,hg,h1]) _ h2
    cases g2
    rw [h3]
    simp [yielded,h1,g1,undef]
def Ab (w:World) (S:Nat→Prop) (e:Env) (a:Act):Prop:=∀ s av,e s=some av→∃ v,a.tmps[s]? =some v∧At w S av v
theorem Kr (hB:tI all m) (hm:m≤all.size) {Q:Exit→Act→World→Prop} (h0:en 0=e) (hs:∀ i o,i < m→all[i]? =some o→O4 P all n hp o (en i) (mc i)∧en (i+1)=vJ (en i) o.dst (mc i)) {w0:World} {S0:Nat→Prop}
 (fin:∀ a w S,a.tmps.size=n→a.defers=[]→ck w S hp→Grow w0 S0 w S→Ab w S (en m) a→wpList P all Q (all.toList.drop m) a w):
 ∀ (fuel:Nat) (listed:Array Bool) (a:Act) (w:World) (S:Nat→Prop),MH all m listed→(listed.toList.count true)+fuel=all.size→a.tmps.size=n→a.defers=[]→ck w S hp→Grow w0 S0 w S→Ab w S (cur all mc e listed all.size) a→
   wpAny P .any all Q fuel listed a w:=by
 have SD:∀ i o,i < m→all[i]? =some o→en (i+1)=vJ (en i) o.dst (mc i):=fun i o h1 h2=>(hs i o h1 h2).2
 have done:∀ (fuel:Nat) (listed:Array Bool) (a:Act) (w:World) (S:Nat→Prop),MH all m listed→(listed.toList.count true)+fuel=all.size→a.tmps.size=n→a.defers=[]→ck w S hp→Grow w0 S0 w S→Ab w S (cur all mc e listed all.size) a→
  (∀ i,i < m→listed.getD i false=true)→wpAny P .any all Q fuel listed a w:=by
  intro fuel listed a w S L hc gG GC hr hg qe gU
  have JR:∀ i,m≤i→listed.getD i false=false:=fun i hi=>by
   cases hv:listed.getD i false with
   | false=>rfl
   | true=>have:=L.head i hv;omega
  have P2:listed.toList.count true=m:=by
   have:listed.toList=List.replicate m true++List.replicate (all.size - m) false:=by
    apply List.ext_getElem?
    intro i
    rcases Nat.lt_or_ge i m with hi | hi
    ·have oX:i < listed.size:=by rw [L.size];omega
     rw [List.getElem?_append_left (by simpa using hi)]
     have:=gU i hi
     simp [oX] at this
     simp [oX,hi,this]
    ·rw [List.getElem?_append_right (by simpa using hi)]
     rcases Nat.lt_or_ge i listed.size with oX | oX
     ·have:=JR i hi
      simp [oX] at this
      have h2:i - m < all.size - m:=by rw [L.size] at oX;omega
      simp [oX,h2,this]
     ·have h2:¬ i - m < all.size - m:=by rw [L.size] at oX;omega
      simp [List.getElem?_eq_none (l:=listed.toList) (by simpa using oX),h2]
   rw [this,List.count_append,List.count_replicate,List.count_replicate]
   simp
  have P3:cur all mc e listed all.size=en m:=by
   have key:∀ k,k≤all.size→cur all mc e listed k=en (min k m):=by
    intro k
    induction k with
    | zero=>intro _;simp [cur,h0]
    | succ k ih=>
      intro hk
      have tY:all[k]? =some all[k]:=by simp [show k < all.size by omega]
      simp only [cur,tY,Option.bind_some,ih (by omega)]
      rcases Nat.lt_or_ge k m with h | h
      ·rw [if_pos (gU k h),Nat.min_eq_left (by omega),Nat.min_eq_left (by omega),SD k _ h tY]
      ·rw [if_neg (by rw [JR k h];simp),Nat.min_eq_right (by omega),Nat.min_eq_right (by omega)]
   rw [key all.size (Nat.le_refl _),Nat.min_eq_right hm]
  rw [P3] at qe
  exact EE hB fuel m listed a w (Nat.le_refl _) (by omega) L.size gU JR (fin a w S gG GC hr hg qe)
 intro fuel
 induction fuel with
 | zero=>
   intro listed a w S L hc gG GC hr hg qe
   refine done 0 listed a w S L hc gG GC hr hg qe (fun i hi=>?_)
   have EF:listed.toList.count true=listed.toList.length:=by rw [Array.length_toList,L.size];omega
   have gU:=List.count_eq_length.1 EF
   have oX:i < listed.size:=by rw [L.size];omega
   have:=gU listed[i] (by simp)
   simp [oX];exact this.symm
 | succ fuel ih=>
   intro listed a w S L hc gG GC hr hg qe
   by_cases gU:∀ i,i < m→listed.getD i false=true
   ·exact done _ listed a w S L hc gG GC hr hg qe gU
   ·refine ⟨fun IZ=>(gU fun i hi=>x6 hB L.size IZ i (by omega)).elim,fun i hi=>?_⟩
    obtain ⟨Ko,Kp⟩:=vi hi
    have vK:=zC Kp
    have yJ:all[i]? =some all[i]:=by simp [Ko]
    have Ed:i < m:=by
     rcases Nat.lt_or_ge i m with h | h
     ·exact h
     ·refine (gU fun j hj=>?_).elim
      have MF:all[j]? =some all[j]:=by simp [show j < all.size by omega]
      exact kJ.ready L.closed ((jD hB yJ MF (by omega)).2 h) hi
    have oX:i < listed.size:=by rw [L.size];exact Ko
    obtain ⟨⟨MB,Ks⟩,_⟩:=hs i _ Ed yJ
    have x5:C8 w S (looks all all[i]) (en i) a:=by
     intro s Gk av qM
     have hc:=Km (mc:=mc) (en:=en) (e:=e) hB L h0 SD hm yJ Ed vK (fun j hj=>kJ.ready L.closed hj hi) Gk all.size (Nat.le_refl _)
     rw [Nat.min_eq_right (by omega)] at hc
     exact qe s av (by rw [hc];exact qM)
    have L':MH all m (listed.setIfInBounds i true):=by
     refine ⟨by simpa using L.size,fun k hk=>?_,fun k j o hk tY hw=>?_⟩
     ·rw [iG oX] at hk
      split at hk
      ·omega
      ·exact L.head k hk
     ·rw [iG oX] at hk
      rw [iG oX]
      split
      ·rfl
      ·split at hk
       ·rename_i V8
        subst V8
        obtain rfl:all[k]=o:=by rw [yJ] at tY;exact Option.some.inj tY
        exact rV yJ hi hw
       ·exact L.closed k j o hk tY hw
    have EF:(listed.setIfInBounds i true).toList.count true+fuel=all.size:=by
     have Kt:listed[i]=false:=by simpa [oX] using vK
     have:(listed.setIfInBounds i true).toList=listed.toList.set i true:=by simp
     rw [this,List.count_set (by simpa using oX)]
     have Gv:listed.toList[i]'(by simpa using oX)=false:=by simpa using Kt
     rw [Gv]
     have e1:(if (false==true)=true then 1 else 0)=0:=rfl
     have e2:(if (true==true)=true then 1 else 0)=1:=rfl
     rw [e1,e2]
     omega
    have Yb:∀ (v:Value) (w':World) (S':Nat→Prop),Grow w S w' S'→At w' S' (mc i) v→Ab w' S' (cur all mc e (listed.setIfInBounds i true) all.size) (a.put (all[i]).dst v):=by
     intro v w' S' O5 pO s av qM
     rw [Nl (mc:=mc) (e:=e) hB L yJ Ed vK s all.size (Nat.le_refl _),if_pos (by omega)] at qM
     by_cases hd:(all[i]).dst=some s
     ·rw [hd,ot] at qM
      obtain rfl:=Option.some.inj qM
      have SE:=MB s hd
      exact ⟨v,by rw [hd];simp [Act.put,gG,SE],pO⟩
     ·rw [lL hd] at qM
      obtain ⟨u,h1,h2⟩:=qe s av qM
      refine ⟨u,?_,h2.mono (O5.keep hr.slt)⟩
      cases Db:(all[i]).dst with
      | none=>simpa [Act.put] using h1
      | some d'=>
        have mb:d'≠s:=fun e=>hd (by rw [Db,e])
        simp [Act.put,mb,h1]
    have UT:∀ v,(a.put (all[i]).dst v).tmps.size=n:=fun v=>by cases (all[i]).dst<;>simp [Act.put,gG]
    have UU:∀ v,(a.put (all[i]).dst v).defers=[]:=fun v=>by cases (all[i]).dst<;>simp [Act.put,GC]
    simp only [wpOp,yJ]
    rcases Ks with ⟨hw,V9⟩ | ⟨hw,qM⟩
    ·rw [if_pos (vj hw x5)]
     refine .inl (V9 w S a gG GC hr x5 _ _ (fun v w' S' O5 pO=>?_))
     exact ih _ _ _ S' L' EF (UT v) (UU v) (hr.grow O5) (hg.trans O5) (Yb v w' S' O5 pO)
    ·rw [if_neg (by rw [vj hw x5];simp)]
     refine ih _ _ _ S L' EF (UT _) (UU _) hr hg (Yb _ w S (Grow.refl hr.slt) ?_)
     rw [qM];exact .raw _
end order
theorem wZ (d:Nat) (av:AV) (tm:List (Nat×AV)):lk ((d,av) :: tm)=vJ (lk tm) (some d) av:=by
 funext s
 simp only [lk,vJ]
 by_cases h:d=s
 ·subst h;simp
 ·rw [pc h,if_neg h]
def Gl:List Nat→List (Nat×AV)→List (Nat×AV)
 | [],_=>[]
 | s :: r,tm=>match lk tm s with
   | some av=>(s,av) :: Gl r tm
   | none=>Gl r tm
theorem Dc:∀ {ls:List Nat} {tm:List (Nat×AV)} {s:Nat} {av:AV},lk (Gl ls tm) s=some av→s∈ls∧lk tm s=some av
 | [],tm,s,av,h=>by simp [Gl,lk] at h
 | k :: ls,tm,s,av,h=>by
   simp only [Gl] at h
   split at h
   ·rename_i eW hk
    simp only [lk] at h
    split at h
    ·rename_i hb
     obtain rfl:k=s:=by simpa using hb
     obtain rfl:=Option.some.inj h
     exact ⟨by simp,hk⟩
    ·obtain ⟨h1,h2⟩:=Dc h
     exact ⟨by simp [h1],h2⟩
   ·obtain ⟨h1,h2⟩:=Dc h
    exact ⟨by simp [h1],h2⟩
theorem qI {w:World} {S:Nat→Prop} {a:Act} {n:Nat} {hp:Heap} {ls:List Nat} {tm:List (Nat×AV)} (h1:a.tmps.size=n) (h2:a.defers=[]) (h3:ck w S hp) (h4:C8 w S ls (lk tm) a):dx w S ⟨n,Gl ls tm,hp⟩ a:=
 ⟨h1,h2,fun s av h=>h4 s (Dc h).1 av (Dc h).2,h3⟩
def AM (P:Program) (all:Array Oper) (n:Nat) (hp:Heap) (l:List Oper) (tm:List (Nat×AV)) (Q:List (Nat×AV)→Prop):Prop:=∃ pP,Nj P all n hp l (lk tm) (lk pP)∧Q pP
section rules
variable {P:Program} {all:Array Oper} {rest:List Oper} {n:Nat} {tm:List (Nat×AV)} {hp:Heap} {Q:List (Nat×AV)→Prop} {d:Nat} {ty:TypeId} {pos:String} {af:Array Edge} {op:Op}
theorem AM.nil (h:Q tm):AM P all n hp [] tm Q:=⟨tm,.nil _,h⟩
theorem AM.mv {av:AV} (h:MV P all n ⟨some d,op,ty,pos,af,none⟩ (lk tm) hp av) (hn:Nat.blt d n=true) (k:AM P all n hp rest ((d,av) :: tm) Q):AM P all n hp (⟨some d,op,ty,pos,af,none⟩ :: rest) tm Q:=by
 obtain ⟨pP,k1,k2⟩:=k
 refine ⟨pP,.run rfl h (fun d' hd=>?_) (by rw [wZ] at k1;exact k1),k2⟩
 obtain rfl:=Option.some.inj hd
 simpa using hn
theorem AM.qv {av:AV} (q:QV P ⟨some d,op,ty,pos,af,none⟩ ⟨n,Gl (looks all ⟨some d,op,ty,pos,af,none⟩) tm,hp⟩ av) (hn:Nat.blt d n=true) (k:AM P all n hp rest ((d,av) :: tm) Q):AM P all n hp (⟨some d,op,ty,pos,af,none⟩ :: rest) tm Q:=by
 refine AM.mv (fun w S a h1 h2 h3 h4 K Q' hK=>?_) hn k
 obtain ⟨v,g1,g2⟩:=q w S a (qI h1 h2 h3 h4)
 show Oper.upon P _ a K Q' _
 rw [g1 w (Ext.refl w)]
 exact hK v w S (Grow.refl h3.slt) g2
theorem AM.bc {j:Nat} {want b:Bool} {s:Nat} (hj:(all[j]?).bind (·.dst)=some s) (hs:lk tm s=some (.bool b)) (hb:b=want)
 (k:AM P all n hp (⟨some d,op,ty,pos,af,none⟩ :: rest) tm Q):AM P all n hp (⟨some d,op,ty,pos,af,some (j,want)⟩ :: rest) tm Q:=by
 obtain ⟨pP,k1,k2⟩:=k
 refine ⟨pP,?_,k2⟩
 cases k1 with
 | run hg h hd k=>
   refine .run ⟨s,hj,.inl ⟨b,hs,by simp [hb]⟩⟩ ?_ hd k
   intro w S a h1 h2 h3 h4 K Q' hK
   exact h w S a h1 h2 h3 (fun t ht=>h4 t (by simp only [looks,List.append_nil] at ht ⊢;exact List.mem_append_left _ ht)) K Q' hK
 | pass hg hd k=>simp [nD] at hg
theorem AM.bn {j:Nat} {want b:Bool} {s:Nat} (hj:(all[j]?).bind (·.dst)=some s) (hs:lk tm s=some (.bool b)) (hb:b=!want) (hn:Nat.blt d n=true)
 (k:AM P all n hp rest ((d,.raw undef) :: tm) Q):AM P all n hp (⟨some d,op,ty,pos,af,some (j,want)⟩ :: rest) tm Q:=by
 obtain ⟨pP,k1,k2⟩:=k
 refine ⟨pP,.pass ⟨s,hj,.inl ⟨b,hs,?_⟩⟩ (fun d' hd=>?_) (by rw [wZ] at k1;exact k1),k2⟩
 ·rw [hb];cases want<;>rfl
 ·obtain rfl:=Option.some.inj hd
  simpa using hn
theorem AM.lit {l:List Oper} {s:Nat} {b c:Bool} (hs:lk tm s=some (.bool b)) (hb:b=c) (k:AM P all n hp l ((s,.bool c) :: tm) Q):AM P all n hp l tm Q:=by
 subst hb
 obtain ⟨pP,k1,k2⟩:=k
 have:lk ((s,.bool b) :: tm)=lk tm:=by
  rw [wZ]
  funext t
  simp only [vJ]
  split
  ·rename_i h;subst h;exact hs.symm
  ·rfl
 rw [this] at k1
 exact ⟨pP,k1,k2⟩
theorem AM.guard {j s:Nat} {want b:Bool} (hj:(all[j]?).bind (·.dst)=some s) (hs:lk tm s=some (.bool b)) (hn:Nat.blt d n=true) (h1:b=want→AM P all n hp (⟨some d,op,ty,pos,af,none⟩ :: rest) ((s,.bool want) :: tm) Q)
 (h2:b=!want→AM P all n hp rest ((d,.raw undef) :: (s,.bool (!want)) :: tm) Q):AM P all n hp (⟨some d,op,ty,pos,af,some (j,want)⟩ :: rest) tm Q:=by
 by_cases hb:b=want
 ·exact AM.lit hs hb (AM.bc hj (by simp [lk]) rfl (h1 hb))
 ·have zT:b=!want:=by cases b<;>cases want<;>simp_all
  exact AM.lit hs zT (AM.bn hj (b:=!want) (by simp [lk]) rfl hn (h2 zT))
theorem AM.bW {j s:Nat} {p:Prop} [Decidable p] (hj:(all[j]?).bind (·.dst)=some s) (hs:lk tm s=some (.bool (decide p))) (hn:Nat.blt d n=true) (h1:p→AM P all n hp (⟨some d,op,ty,pos,af,none⟩ :: rest) ((s,.bool true) :: tm) Q)
 (h2:¬ p→AM P all n hp rest ((d,.raw undef) :: (s,.bool false) :: tm) Q):AM P all n hp (⟨some d,op,ty,pos,af,some (j,true)⟩ :: rest) tm Q:=
 AM.guard hj hs hn (fun h=>h1 (of_decide_eq_true h)) (fun h=>h2 (of_decide_eq_false h))
theorem AM.jV {f:FuncId} {args:List Operand} {ts:Array TypeId} {l l':List AV} {R:AV} [bu P f] (hl:x1 (Gl (looks all ⟨some d,.call {callee:=.value (.func f),args:=args.toArray,argTypes:=ts},ty,pos,af,none⟩) tm) args=some l) (c:Pu P f l' R) (co:wT hp l l') (hn:Nat.blt d n=true)
 (k:AM P all n hp rest ((d,R) :: tm) Q):AM P all n hp (⟨some d,.call {callee:=.value (.func f),args:=args.toArray,argTypes:=ts},ty,pos,af,none⟩ :: rest) tm Q:=by
 refine AM.mv (fun w S a h1 h2 h3 h4 K Q' hK=>?_) hn k
 have r:=qI h1 h2 h3 h4
 show Oper.upon P _ a K Q' _
 rw [pf]
 obtain ⟨g1,g2⟩:=qN r hl
 obtain ⟨g3,g4⟩:=wT.at r.hp co g1 g2
 refine (c w S _ (qP h3.slt h3.fe) (by simpa using g3) g4).mono ?_
 rintro e w' ⟨v,rr,h',S',rfl,rfl,k3,k4,k5⟩
 exact hK v w' S' ⟨k5.B6,fun m hm=>(k5.keep m hm).1,fun m hm hs=>(k5.other m hm (fun ⟨x,hx,_⟩=>by simp at hx)).2 hs,k4.slt⟩ k3
theorem AM.fk {t e:TypeId} {i:TypeInfo} {z:Value} {len sz:Nat} {parts:List (Nat×Operand)} {xs:List AV} [aE P t (.slice e)] [aX P e i] [kY P e sz] (hz:i.zero=some z)
 (hl:JQ (Gl (looks all ⟨some d,.buildSlice t len parts.toArray,ty,pos,af,none⟩) tm) parts 0=some xs) (hlen:Nat.beq parts.length len=true) (x4:yE i.size xs=true) (Kf:Nat.ble (len * i.size) 16777216=true) (hn:Nat.blt d n=true)
 (k:AM P all n hp rest ((d,.list sz xs) :: tm) Q):AM P all n hp (⟨some d,.buildSlice t len parts.toArray,ty,pos,af,none⟩ :: rest) tm Q:=by
 obtain ⟨i',Ko,Kp⟩:=kY.h (P:=P) (t:=e)
 obtain rfl:i'=i:=by rw [aX.h (P:=P) (t:=e)] at Ko;exact (Option.some.inj Ko).symm
 subst Kp
 refine AM.mv (fun w S a h1 h2 h3 h4 K Q' hK=>?_) hn k
 have r:=qI h1 h2 h3 h4
 obtain rfl:parts.length=len:=Nat.eq_of_beq_eq_true hlen
 have Kf:=Nat.le_of_ble_eq_true Kf
 obtain ⟨zz,Nb⟩:∃ zz:Array Value,zz=if parts.length * i'.size=0 then #[] else z.cells:=⟨_,rfl⟩
 obtain ⟨vs,g1,g2,g3,g4⟩:=zW r i'.size parts 0 xs ((Array.range (parts.length * i'.size)).map (zz[· % zz.size]!)) hl (oW x4) (by simp)
 simp only [Nat.zero_mul,List.take_zero,List.nil_append] at g1
 have e0:=Ext.alloc w (.cells vs.toArray e)
 have uu:(execOp a.eval ⟨some d,.buildSlice t parts.length parts.toArray,ty,pos,af,none⟩).run P w=.ok (.value (.slice (some ⟨w.heap.size,0,none⟩) parts.length parts.length)) (w.alloc (.cells vs.toArray e)):=by
  have hm:((parts.toArray.map fun p=>(p.1,a.eval p.2))).toList=parts.map fun p=>(p.1,a.eval p.2):=by simp
  simp only [execOp,Instr.buildSlice,Sem.run_bind,run_underlying (aE.h (P:=P) (t:=t)),Result.andThen_ok,sizeOf,typeInfo,run_program,aX.h (P:=P) (t:=e),Sem.run_pure]
  rw [if_neg (by omega)]
  by_cases h0:parts.length * i'.size=0
  ·rw [if_pos h0] at Nb ⊢
   subst Nb
   simp only [Sem.run_bind,Result.andThen_ok,Sem.run_pure,hm,g1,td]
  ·rw [if_neg h0] at Nb ⊢
   subst Nb
   simp only [Sem.run_bind,Result.andThen_ok,Sem.run_pure,zeroValue,typeInfo,run_program,aX.h (P:=P) (t:=e),hz,hm,g1,td]
 show Oper.upon P _ a K Q' _
 rw [uu]
 have EG:(w.alloc (.cells vs.toArray e)).heap[w.heap.size]? =some (.cells vs.toArray e (0,0)):=by
  show (w.heap.push _)[w.heap.size]? =_
  simp
 refine hK _ _ (fun m=>S m∨m=w.heap.size) ⟨e0,fun m hm=>.inl hm,fun m hm hs=>hs.elim id (fun h=>by omega),fun m hm=>?_⟩ ?_
 ·rcases hm with hm | hm
  ·exact Nat.lt_of_lt_of_le (h3.slt m hm) e0.size
  ·subst hm;simp
 ·have:=At.list (w:=w.alloc (.cells vs.toArray e)) (S:=fun m=>S m∨m=w.heap.size) i'.size xs (some ⟨w.heap.size,0,none⟩) parts.length vs (oW x4) (by rw [cA (oW x4),g2]) (fun j c u hc hu=>?_) (fun j u hu=>?_) (by omega)
  ·rw [g3] at this;exact this
  ·exact (g4 j c u hc (by simpa using hu)).mono fun m hm=>⟨.inl hm,e0.same m (h3.slt m hm)⟩
  ·refine ⟨_,rfl,rfl,.inr rfl,?_⟩
   rw [pd EG]
   simpa using hu
end rules
def EH:Nat→List Oper→Option (List Oper×List Oper)
 | 0,l=>some ([],l)
 | m+1,o :: l=>match EH m l with
   | some (a,b)=>some (o :: a,b)
   | none=>none
 | _+1,[]=>none
theorem vk:∀ {m:Nat} {l a b:List Oper},EH m l=some (a,b)→l=a++b∧a.length=m
 | 0,l,a,b,h=>by simp [EH] at h;obtain ⟨rfl,rfl⟩:=h;exact ⟨rfl,rfl⟩
 | m+1,[],a,b,h=>by simp [EH] at h
 | m+1,o :: l,a,b,h=>by
   simp only [EH] at h
   split at h
   ·rename_i a' b' h'
    simp only [Option.some.injEq,Prod.mk.injEq] at h
    obtain ⟨rfl,rfl⟩:=h
    obtain ⟨h1,h2⟩:=vk h'
    exact ⟨by rw [h1];rfl,by simp [h2]⟩
   ·cases h
theorem aa.bL {P:Program} {R:St→Prop} {k:List It} {id n:Nat} {tm:List (Nat×AV)} {hp:Heap} {l hd tl:List Oper} (m:Nat) (hm:P.follows .mixedOrders=true) (hs:EH m l=some (hd,tl)) {A:List Nat} (hA:IW l.toArray=A) (Wa:ED l.toArray m A=true)
 (h:AM P l.toArray n hp hd tm (fun pP=>ae P l.toArray tl ⟨n,pP,hp⟩ (aa P R k))):aa P R (.code (.region id l.toArray true) :: k) ⟨n,tm,hp⟩:=by
 have hB:tI l.toArray m:=⟨A,hA,Wa⟩
 intro w S a r
 obtain ⟨hl,MI⟩:=vk hs
 obtain ⟨pP,hA,uu⟩:=h
 obtain ⟨mc,en,e0,e1,e2⟩:=hA.GA
 have gG:m≤l.toArray.size:=by simp [hl,MI]
 refine wp_region_any hm ?_
 have Ac:Ext w {w with drawn:=w.drawn+1}:=Ext.Hx w _ (Nat.le_succ _)
 have g0:Grow w S {w with drawn:=w.drawn+1} S:=⟨Ac,fun _ h=>h,fun _ _ h=>h,fun n hn=>r.hp.slt n hn⟩
 have Ku:∀ k,cur l.toArray mc (lk tm) (Array.replicate l.toArray.size false) k=lk tm:=by
  intro k
  induction k with
  | zero=>rfl
  | succ k ih=>
    simp only [cur,ih]
    rw [if_neg]
    rcases Nat.lt_or_ge k l.toArray.size with h | h
    ·simp at h;simp [h]
    ·simp at h;simp [Nat.not_lt.2 h]
 have hf:∀ k,(Array.replicate l.toArray.size false).getD k false=false:=by
  intro k
  rcases Nat.lt_or_ge k l.toArray.size with h | h
  ·simp at h;simp [h]
  ·simp at h;simp [Nat.not_lt.2 h]
 refine Kr (P:=P) (all:=l.toArray) (n:=n) (m:=m) (hp:=hp) (mc:=mc) (en:=en) (e:=lk tm) hB gG e0 (fun i o hi ho=>e2 i o ?_) (w0:=w) (S0:=S) (fun a' w' S' h1 h2 h3 h4 h5=>?_) l.toArray.size (Array.replicate l.toArray.size false) a _ S
  ⟨by simp,(fun k hk=>by rw [hf k] at hk;cases hk),(fun k i o hk=>by rw [hf k] at hk;cases hk)⟩ (by simp [List.count_replicate]) r.size r.defers (r.hp.ext Ac) g0 (by rw [Ku];exact (r.ext Ac).tm)
 ·have:l[i]? =some o:=by simpa using ho
  rw [hl,List.getElem?_append_left (by omega)] at this
  exact this
 ·have Wb:l.toArray.toList.drop m=tl:=by
   simp only [hl,← MI]
   exact List.drop_left
  rw [Wb]
  have MJ:en m=lk pP:=by rw [← MI];exact e1
  rw [MJ] at h5
  refine ja ?_ _ _ _ (uu.go (h:=hp) (w:=w) (S:=S) ⟨h1,h2,h5,h3⟩ (h4.X9 r.hp.slt hp))
  rintro ex a2 w2 ⟨rfl,Hz,S2,q1,q2,q3⟩
  exact ⟨Hz,S2,q1,q2,q3⟩
section
variable {P:Program} {all:Array Oper} {rest:List Oper} {n:Nat} {hp:Heap} {tm:List (Nat×AV)} {Q:List (Nat×AV)→Prop} {dd:Option Nat} {ty:TypeId} {pos:String} {af:Array Edge}
end
theorem MK {α β:Type} {o:Option α} {f:α→Option β} {r:β} (h:o.bind f=some r):∃ v,o=some v∧f v=some r:=by
 cases o with
 | none=>cases h
 | some v=>exact ⟨v,rfl,h⟩
theorem uy {α:Type} {p:Prop} [Decidable p] {a b x:α} (hp:p) (h:(if p then a else b)=x):a=x:=by rw [if_pos hp] at h;exact h
theorem EI {α:Type} {p:Prop} [Decidable p] {a b x:α} (hp:¬ p) (h:(if p then a else b)=x):b=x:=by rw [if_neg hp] at h;exact h
theorem w5 {α:Type} {p:Bool} {a b x:α} (hp:p=false) (h:(if p=true then a else b)=x):b=x:=by rw [if_neg (by simp [hp])] at h;exact h
def qk {X A:Type} (f:X→Option (X⊕A)):Nat→X→Option A
 | 0,_=>none
 | n+1,x=>match f x with
   | none=>none
   | some (.inl y)=>qk f n y
   | some (.inr a)=>some a
theorem EJ {X A:Type} {f:X→Option (X⊕A)} {a:A}:∀ {n:Nat} {x:X},qk f n x=some a→qk f (n+1) x=some a
 | 0,x,h=>by cases h
 | n+1,x,h=>by
   unfold qk at h ⊢
   split at h
   ·cases h
   ·exact EJ h
   ·exact h
theorem Ad {X A:Type} {f:X→Option (X⊕A)} {a:A} {x:X} {n:Nat} (h:qk f n x=some a):∀ m,qk f (n+m) x=some a
 | 0=>h
 | m+1=>EJ (Ad h m)
theorem I0 {X A:Type} {f:X→Option (X⊕A)} {a b:A} {x:X} {n m:Nat} (h:qk f n x=some a) (k:qk f m x=some b):a=b:=by
 have h1:=Ad h m
 have h2:=Ad k n
 rw [Nat.add_comm] at h2
 rw [h1] at h2
 exact Option.some.inj h2
open Classical in
noncomputable def iter {X A:Type} (f:X→Option (X⊕A)) (x:X):Option A:=
 if h:∃ a n,qk f n x=some a then some h.choose else none
theorem vl {X A:Type} {f:X→Option (X⊕A)} {x:X} {a:A}:iter f x=some a↔∃ n,qk f n x=some a:=by
 unfold iter
 constructor
 ·intro h
  split at h
  ·rename_i hx
   obtain ⟨n,hn⟩:=hx.choose_spec
   exact ⟨n,by rw [hn];exact h⟩
  ·cases h
 ·rintro ⟨n,hn⟩
  have hx:∃ a n,qk f n x=some a:=⟨a,n,hn⟩
  rw [dif_pos hx]
  obtain ⟨m,hm⟩:=hx.choose_spec
  rw [I0 hm hn]
def after {X A:Type} (k:X→Option A):X⊕A→Option A
 | .inl y=>k y
 | .inr a=>some a
theorem iter_eq {X A:Type} (f:X→Option (X⊕A)) (x:X):iter f x=(f x).bind (after (iter f)):=by
 apply Option.ext
 intro a
 rw [vl]
 constructor
 ·rintro ⟨n,hn⟩
  match n with
  | 0=>cases hn
  | n+1=>
    unfold qk at hn
    split at hn
    ·cases hn
    ·rename_i y hy;rw [hy];exact vl.2 ⟨n,hn⟩
    ·rename_i b hb;rw [hb];exact hn
 ·intro h
  obtain ⟨s,hs,h⟩:=MK h
  cases s with
  | inl y=>
    obtain ⟨n,hn⟩:=vl.1 h
    exact ⟨n+1,by unfold qk;rw [hs];exact hn⟩
  | inr b=>exact ⟨1,by unfold qk;rw [hs];exact h⟩
theorem cr {X A:Type} {o:Option A} {s:X⊕A} {a:A} (h:o.map .inr=some s) (hA:∀ a',s=.inr a'→a'=a):o=some a:=by
 cases o with
 | none=>cases h
 | some b=>
   have:=Option.some.inj h
   rw [hA b this.symm]
@[simp] theorem gi {X A:Type} (k:X→Option A) (y:X):after k (.inl y)=k y:=rfl
@[simp] theorem RH {X A:Type} (k:X→Option A) (a:A):after k (.inr a)=some a:=rfl
theorem bP {X A:Type} (o:Option A) (k:X→Option A):(o.map Sum.inr).bind (after k)=o:=by cases o<;>rfl
def idx {α:Type} (xs:List α) (i:Int):Option α:=if 0≤i then xs[i.toNat]? else none
def app {α:Type} (xs ys:List α):Option (List α):=if xs.length+ys.length≤1000000000 then some (xs++ys) else none
def sv {α:Type} (xs:List α) (l h:Int):Option (List α):=if 0≤l∧l≤h∧h≤xs.length then some ((xs.drop l.toNat).take (h.toNat - l.toNat)) else none
abbrev aT (i:Int):Int:=IntKind.i64.wrap i
def quo (a b:Int):Option Int:=if b=0 then none else some (aT (a.tdiv b))
def rem (a b:Int):Option Int:=if b=0 then none else some (a.tmod b)
theorem Kv {α:Type} {e:α→AV} {xs:List α} {i:Int} {x:α} (h:idx xs i=some x):Ke (xs.map e) i=some (e x):=by
 unfold idx at h;unfold Ke
 split at h
 ·rename_i h0;rw [if_pos h0,List.getElem?_map,h];rfl
 ·cases h
theorem cV {α:Type} {xs:List α} {i:Int} {x:α} (h:idx xs i=some x):0≤i∧i < xs.length∧xs[i.toNat]? =some x:=by
 unfold idx at h
 split at h
 ·rename_i h0
  have:=(List.getElem?_eq_some_iff.1 h).1
  exact ⟨h0,by omega,h⟩
 ·cases h
theorem EK {α:Type} {xs ys zs:List α} (h:app xs ys=some zs):xs.length+ys.length≤1000000000∧zs=xs++ys:=by
 unfold app at h
 split at h
 ·exact ⟨by assumption,(Option.some.inj h).symm⟩
 ·cases h
theorem sD {α:Type} {xs zs:List α} {l h:Int} (hh:sv xs l h=some zs):(0≤l∧l≤h∧h≤xs.length)∧zs=(xs.drop l.toNat).take (h.toNat - l.toNat):=by
 unfold sv at hh
 split at hh
 ·exact ⟨by assumption,(Option.some.inj hh).symm⟩
 ·cases hh
theorem Kw {a b c:Int} (h:quo a b=some c):b≠0∧c=aT (a.tdiv b):=by
 unfold quo at h
 split at h
 ·cases h
 ·exact ⟨by assumption,(Option.some.inj h).symm⟩
theorem Kx {a b c:Int} (h:rem a b=some c):b≠0∧c=a.tmod b:=by
 unfold rem at h
 split at h
 ·cases h
 ·exact ⟨by assumption,(Option.some.inj h).symm⟩
section
variable {P:Program} {R:St→Prop} {k:List It} {σ:St}
theorem aa.cut {c:Code} (I:St→Prop) (h:aa P R (.code c :: .stop (fun aG=>ai aG I) :: k) σ) (hk:∀ aG,I aG→aa P R k aG):aa P R (.code c :: k) σ:=by
 intro w S a r
 refine wp_mono (h w S a r) ?_
 rintro e a' w' ⟨aG,S',h1,h2,h3⟩
 cases e with
 | normal=>
   obtain ⟨Gz,Si,hI,hr,he⟩:=h1 w' S' a' h2
   exact ⟨Gz,Si,hk Gz hI,hr,h3.trans he⟩
 | exit id=>exact ⟨aG,S',h1,h2,h3⟩
 | goto l=>exact ⟨aG,S',h1,h2,h3⟩
 | ret=>exact ⟨aG,S',h1,h2,h3⟩
 | panic c=>exact ⟨aG,S',h1,h2,h3⟩
 | outgrown=>exact ⟨aG,S',h1,h2,h3⟩
theorem aa.cj {body:Code} {X A:Type} (f:X→Option (X⊕A)) (mk:X→St→Prop) {a:A} {x0:X} (h:iter f x0=some a) (h0:ai σ (mk x0))
 (hs:∀ x s σ (J:St→Prop),mk x σ→f x=some s→(∀ y aG,s=.inl y→ai aG (mk y)→J aG)→(∀ a',s=.inr a'→a'=a)→aa P R (.code body :: .stop J :: k) σ):
 aa P R (.code (.loop body) :: k) σ:=by
 obtain ⟨m,hm⟩:=vl.1 h
 refine aa.O3 (fun m σ=>∃ x,qk f m x=some a∧mk x σ) m (h0.mono fun aG Wc=>⟨x0,hm,Wc⟩) ?_
 rintro m Bv ⟨x,hx,eZ⟩
 match m with
 | 0=>cases hx
 | m+1=>
   unfold qk at hx
   split at hx
   ·cases hx
   ·rename_i y hy
    refine hs x _ Bv _ eZ hy (fun y' aG e hi=>⟨m,by omega,hi.mono fun Gz hk=>⟨y',?_,hk⟩⟩) (fun a' e=>by cases e)
    have:=Sum.inl.inj e
    rw [← this];exact hx
   ·rename_i b hb
    refine hs x _ Bv _ eZ hb (fun y' aG e _=>by cases e) (fun a' e=>?_)
    rw [← Sum.inr.inj e];exact Option.some.inj hx
end
inductive B8:Heap→Heap→Heap→Prop
 | nil {h:Heap}:B8 h [] h
 | cons {h h1 t r:Heap} {b:Bk} {o:Ob} (u:x2 h b o h1) (k:B8 h1 t r):B8 h ((b,o) :: t) r
theorem B8.perm {h t r:Heap} (s:B8 h t r):h.Perm (t++r):=by
 induction s with
 | nil=>exact List.Perm.refl _
 | cons u k ih=>exact u.perm.trans (List.Perm.cons _ ih)
section rules
variable {P:Program} {all:Array Oper} {rest:List Oper} {n:Nat} {tm:List (Nat×AV)} {hp:Heap} {Q:St→Prop} {d:Nat} {ty:TypeId} {pos:String} {af:Array Edge}
theorem Dd {f:FuncId} {args:List Operand} {ts:Array TypeId} {l l':List AV} {h0 hr:Heap} {Qc:AV→Heap→Prop} [bu P f] (hl:x1 tm args=some l) (c:aJ P f l' h0 Qc) (co:wT hp l l') (hs:B8 hp h0 hr) (hn:Nat.blt d n=true)
 (kk:∀ r h',Qc r h'→ae P all rest ⟨n,(d,r) :: tm,h'++hr⟩ Q):ae P all (⟨some d,.call {callee:=.value (.func f),args:=args.toArray,argTypes:=ts},ty,pos,af,none⟩ :: rest) ⟨n,tm,hp⟩ Q:=
 Ki hl c co hs.perm hn kk
theorem HJ {f:FuncId} {x:Operand} {args:List Operand} {ts:Array TypeId} {oL l l' lc:List AV} {h0 hr:Heap} {Qc:AV→Heap→Prop} [bu P f] (hx:cG tm x=some (.func (.func f) oL)) (hl:x1 tm args=some l) (SF:qj (l++oL)=some lc) (c:aJ P f l' h0 Qc) (co:wT hp lc l') (hs:B8 hp h0 hr) (hn:Nat.blt d n=true)
 (kk:∀ r h',Qc r h'→ae P all rest ⟨n,(d,r) :: tm,h'++hr⟩ Q):ae P all (⟨some d,.call {callee:=.value x,args:=args.toArray,argTypes:=ts},ty,pos,af,none⟩ :: rest) ⟨n,tm,hp⟩ Q:=
 HE hx hl c (by rw [mg SF];exact co) hs.perm hn kk
theorem bJ {α:Type} {g:α→AV} {Xs:List α} {el:α} {t e:TypeId} {i:TypeInfo} {x y:Operand} {k:IntKind} {j:Int} {cs:List AV} {sz:Nat} [aE P t (.slice e)] [aX P e i] (hx:cG tm x=some (.list sz (Xs.map g))) (gG:Nat.beq i.size sz=true) (hy:cG tm y=some (.int k j))
 (hv:idx Xs j=some el) (h0:Nat.blt 0 sz=true) (hc:qj (g el).cells=some cs):QV P ⟨some d,.indexAddr t x y,ty,pos,af,none⟩ ⟨n,tm,hp⟩ (.eo cs):=by
 rw [← mg hc]
 exact C2 hx gG hy (Kv hv) h0
theorem dz {α:Type} {g:α→AV} {Xs:List α} {x:Operand} {t e:TypeId} {sz:Nat} [aE P t (.slice e)] (hx:cG tm x=some (.list sz (Xs.map g))):QV P ⟨some d,.call {callee:=.builtin .len,args:=#[x],argTypes:=#[t]},ty,pos,af,none⟩ ⟨n,tm,hp⟩ (.int .i64 (Xs.length:Nat)):=by
 have h:=Gt (P:=P) (d:=d) (ty:=ty) (pos:=pos) (af:=af) (n:=n) (tm:=tm) (hp:=hp) (t:=t) (e:=e) hx
 rw [List.length_map] at h
 exact h
theorem SH {k:IntKind} {xt yt:TypeId} {x y:Operand} {i j:Int} (hx:cG tm x=some (.int k i)) (hy:cG tm y=some (.int k j)) (h0:j≠0):QV P ⟨some d,.binOp .quo xt x y yt,ty,pos,af,none⟩ ⟨n,tm,hp⟩ (.int k (k.wrap (i.tdiv j))):=
 ur hx hy (v:=.int k (k.wrap (i.tdiv j))) (fun w=>by simp [binOp,Op.intDiv,h0]) (fun w S=>.int _ _)
theorem Ky {xt yt:TypeId} {x y:Operand} {i j r:Int} (hx:cG tm x=some (.int .i64 i)) (hy:cG tm y=some (.int .i64 j)) (h:quo i j=some r):QV P ⟨some d,.binOp .quo xt x y yt,ty,pos,af,none⟩ ⟨n,tm,hp⟩ (.int .i64 r):=by
 obtain ⟨h0,rfl⟩:=Kw h
 exact SH hx hy h0
theorem Kz {k:IntKind} {xt yt:TypeId} {x y:Operand} {i j r:Int} (hx:cG tm x=some (.int k i)) (hy:cG tm y=some (.int k j)) (h:rem i j=some r):QV P ⟨some d,.binOp .rem xt x y yt,ty,pos,af,none⟩ ⟨n,tm,hp⟩ (.int k r):=by
 obtain ⟨h0,rfl⟩:=Kx h
 exact Sl hx hy h0
theorem kB {x y:Operand} {t:TypeId} {s:List UInt8} {k:IntKind} {i:Int} {c:UInt8} [aE P t .string] (hx:cG tm x=some (.str s)) (hy:cG tm y=some (.int k i)) (hc:idx s i=some c):QV P ⟨some d,.index t x y,ty,pos,af,none⟩ ⟨n,tm,hp⟩ (.int .u8 (c.toNat:Int)):=
 let ⟨h0,_,h⟩:=cV hc
 Eo hx hy h0 h
theorem dA {α:Type} {g:α→AV} {Xs Ys Zs:List α} {t e:TypeId} {i:TypeInfo} {z:Value} {x y:Operand} {src:AV} {b:Bk} {len sz:Nat} {cC:Bk→Heap} [aE P t (.slice e)] [aX P e i] (hx:cG tm x=some (.sl sz b 0 len)) (hy:cG tm y=some src) (hz:i.zero=some z)
 (Kg:Nat.beq z.cells.size i.size=true) (gG:Nat.beq i.size sz=true) (h0:Nat.blt 0 sz=true) (hn:Nat.blt d n=true) (Gi:Nat.ble i.bytes 65536=true) (hs:Src hp sz src (Ys.map g)) (hv:app Xs Ys=some Zs) (u:∀ b',mT hp b (.arr sz (Xs.map g)) b' (.arr sz (Zs.map g)) (cC b')) (hlen:len=Xs.length)
 (kk:∀ b':Bk,ae P all rest ⟨n,(d,.sl sz b' 0 Zs.length) :: tm,cC b'⟩ Q):ae P all (⟨some d,.call {callee:=.builtin .append,args:=#[x,y],argTypes:=#[t,t]},ty,pos,af,none⟩ :: rest) ⟨n,tm,hp⟩ Q:=by
 obtain ⟨hb,rfl⟩:=EK hv
 subst hlen
 refine IV (xs:=Xs.map g) (ys:=Ys.map g) (cC:=cC) hx hy hz Kg gG h0 hn Gi hs (by simpa using u) (by simp) (by simpa using hb) (fun b'=>?_)
 have:=kk b'
 simpa using this
end rules
end Go.Eng
