/- The engine: abstract values, the symbolic heap, one rule for each operation. No program in sight. -/
import Derived.Test.YtjgdilohhcheoaaGreatDoorEngA
set_option linter.unusedVariables false
set_option linter.unusedSectionVars false
namespace Go.Eng
open Go
variable [bt]
theorem zS {tm:List (Nat×AV)}:∀ {parts:List (Nat×Operand)} {k:Nat} {xs:List AV},Hw tm parts k=some xs→xs.length=parts.length
 | [],k,xs,h=>by simp [Hw] at h;subst h;rfl
 | (i,x) :: parts,k,xs,h=>by
   simp only [Hw] at h
   split at h
   ·rename_i a l h1 h2 h3
    obtain rfl:=Option.some.inj h
    simp [zS h3]
   ·cases h
section rules
variable {P:Program} {all:Array Oper} {rest:List Oper} {n:Nat} {tm:List (Nat×AV)} {hp:Heap} {Q:St→Prop} {d:Nat} {ty:TypeId} {pos:String} {af:Array Edge}
theorem Bp {t e:TypeId} {i:TypeInfo} {z:Value} {len:Nat} {parts:List (Nat×Operand)} {xs:List AV} [ay P t (.slice e)] [aP P e i] (hz:i.zero=some z) (hl:Hw tm parts 0=some xs) (hlen:Nat.beq parts.length len=true) (tF:ub i.size xs=true)
 (Gv:Nat.ble (len * i.size) 16777216=true) (hn:Nat.blt d n=true) (kk:ae P all rest ⟨n,(d,.list i.size xs) :: tm,hp⟩ Q):ae P all (⟨some d,.buildSlice t len parts.toArray,ty,pos,af,none⟩ :: rest) ⟨n,tm,hp⟩ Q:=by
 refine wQ hz hl hlen tF Gv hn (fun b=>ae.ghost (aj.freeze .here (aj.co (s:=d) (av:=.sl i.size b 0 len) (by simp [lk]) (.yW i.size b len xs .here ?_) ?_)))
 ·rw [zS hl];exact (Nat.eq_of_beq_eq_true hlen).symm
 ·refine aj.step (zr:=⟨n,(d,.list i.size xs) :: tm,hp⟩) (fun w S a r=>⟨_,S,rfl,r.less ⟨rfl,fun s av h=>?_,List.sublist_cons_self _ _⟩,ic.less (ic.refl w S _) fun _ hm=>hm.sub (List.sublist_cons_self _ _)⟩) (aj.here kk)
  simp only [lk] at h ⊢
  split at h
  ·exact h
  ·exact h
inductive Fp (tm:List (Nat×AV)):Option Operand→Option Int→Prop
 | none:Fp tm none none
 | some (x:Operand) (k:IntKind) (i:Int) (h:bY tm x=some (.int k i)):Fp tm (some x) (some i)
def fh:Option Int→Int
 | none=>0
 | some i=>i
def gu (len:Nat):Option Int→Int
 | none=>len
 | some i=>i
theorem wc {w:World} {S:Nat→Prop} {σ:St} {a:Act} (r:dH w S σ a) {lo hi:Option Operand} {l h:Option Int} (hl:Fp σ.tm lo l) (hh:Fp σ.tm hi h) (K8:Bool) (len cap:Nat) (h0:0≤fh l) (h1:fh l≤gu len h) (h2:gu len h≤len) (hc:len≤cap) (w':World):
 (Instr.sliceBounds K8 len cap (lo.map a.eval) (hi.map a.eval) none).run P w'=.ok ((fh l).toNat,(gu len h).toNat,cap) w':=by
 cases hl with
 | none=>
   cases hh with
   | none=>simp [Instr.sliceBounds,fh,gu]
   | some x k i hx=>
     simp only [fh,gu] at *
     have:i≤(cap:Int):=by omega
     simp [Instr.sliceBounds,Instr.sliceBound,(aN r hx).ca,asIntOf,h1,this]
 | some x k i hx=>
   cases hh with
   | none=>
     simp only [fh,gu] at *
     simp [Instr.sliceBounds,Instr.sliceBound,(aN r hx).ca,asIntOf,h0,h1]
   | some y k' i' hy=>
     simp only [fh,gu] at *
     have e1:i'≤(cap:Int):=by omega
     have e2:0≤i':=by omega
     have e3:i≤(i'.toNat:Int):=by omega
     simp [Instr.sliceBounds,Instr.sliceBound,(aN r hx).ca,(aN r hy).ca,asIntOf,h0,e1,e2]
     intro iv
     omega
theorem CI (s:List UInt8) (l h:Nat):(⟨s.toArray⟩:ByteArray).extract l h=⟨((s.drop l).take (h - l)).toArray⟩:=by
 have e:=ByteArray.data_extract (a:=(⟨s.toArray⟩:ByteArray)) (b:=l) (e:=h)
 cases hx:(⟨s.toArray⟩:ByteArray).extract l h with
 | mk da=>
   rw [hx] at e
   simp only at e
   rw [e]
   congr 1
   apply Array.ext'
   simp
theorem DQ {t:TypeId} {x:Operand} {lo hi:Option Operand} {l h:Option Int} {s:List UInt8} [ay P t .string] (hx:bY tm x=some (.str s)) (hl:Fp tm lo l) (hh:Fp tm hi h) (h0:0≤fh l) (h1:fh l≤gu s.length h) (h2:gu s.length h≤s.length):
 QV P ⟨some d,.slice t x lo hi none,ty,pos,af,none⟩ ⟨n,tm,hp⟩ (.str ((s.drop (fh l).toNat).take ((gu s.length h).toNat - (fh l).toNat))):=by
 intro w S a r
 refine ⟨.string ((⟨s.toArray⟩:ByteArray).extract (fh l).toNat (gu s.length h).toNat),fun w1 _=>?_,by rw [CI];exact .str _⟩
 have hb:=wc (P:=P) (σ:=⟨n,tm,hp⟩) r hl hh false s.length s.length h0 h1 h2 (Nat.le_refl _) w1
 simp [execOp,Instr.sliceAt,run_underlying (ay.h (P:=P) (t:=t)),Instr.slice,(aN (σ:=⟨n,tm,hp⟩) r hx).cI,CC,hb]
theorem CJ {t e:TypeId} {i:TypeInfo} {x:Operand} {lo hi:Option Operand} {l h:Option Int} {sz:Nat} {xs:List AV} [ay P t (.slice e)] [aP P e i] (hx:bY tm x=some (.list sz xs)) (eN:Nat.beq i.size sz=true) (hl:Fp tm lo l) (hh:Fp tm hi h) (h0:0≤fh l) (h1:fh l≤gu xs.length h) (h2:gu xs.length h≤xs.length):
 QV P ⟨some d,.slice t x lo hi none,ty,pos,af,none⟩ ⟨n,tm,hp⟩ (.list sz ((xs.drop (fh l).toNat).take ((gu xs.length h).toNat - (fh l).toNat))):=by
 intro w S a r
 obtain rfl:i.size=sz:=Nat.eq_of_beq_eq_true eN
 obtain ⟨oa,cap,vs,e1,e2,e3,e4,e5,e6⟩:=(aN (σ:=⟨n,tm,hp⟩) r hx).tW
 have hlen:((xs.drop (fh l).toNat).take ((gu xs.length h).toNat - (fh l).toNat)).length=(gu xs.length h).toNat - (fh l).toNat:=by simp;omega
 refine ⟨.slice (if cap=(fh l).toNat then oa else oa.map (·.add ((fh l).toNat * i.size))) ((gu xs.length h).toNat - (fh l).toNat) (cap - (fh l).toNat),fun w1 _=>?_,?_⟩
 ·have hb:=wc (P:=P) (σ:=⟨n,tm,hp⟩) r hl hh true xs.length cap h0 h1 h2 e6 w1
  simp [execOp,Instr.sliceAt,run_underlying (ay.h (P:=P) (t:=t)),Instr.slice,e1,hb,sizeOf,typeInfo,aP.h (P:=P) (t:=e)]
 ·have hm:∀ y∈(xs.drop (fh l).toNat).take ((gu xs.length h).toNat - (fh l).toNat),El i.size y:=fun y hy=>e2 y (List.mem_of_mem_drop (List.mem_of_mem_take hy))
  have Gu:flat ((xs.drop (fh l).toNat).take ((gu xs.length h).toNat - (fh l).toNat))=((flat xs).drop ((fh l).toNat * i.size)).take (((gu xs.length h).toNat - (fh l).toNat) * i.size):=by
   rw [oO _ _ (fun y hy=>e2 y (List.mem_of_mem_drop hy)),sq _ _ e2]
  have:=At.list (w:=w) (S:=S) i.size ((xs.drop (fh l).toNat).take ((gu xs.length h).toNat - (fh l).toNat)) (if cap=(fh l).toNat then oa else oa.map (·.add ((fh l).toNat * i.size))) (cap - (fh l).toNat)
   ((vs.drop ((fh l).toNat * i.size)).take (((gu xs.length h).toNat - (fh l).toNat) * i.size)) hm (by rw [Gu];simp [e3]) (fun j c u hc hu=>?_) (fun j u hu=>?_) (by rw [hlen];omega)
  ·rw [hlen] at this;exact this
  ·rw [Gu] at hc
   simp only [List.getElem?_take,List.getElem?_drop] at hc hu
   split at hu
   ·rename_i iv;rw [if_pos iv] at hc;exact e4 _ c u hc hu
   ·cases hu
  ·simp only [List.getElem?_take,List.getElem?_drop] at hu
   split at hu
   ·rename_i iv
    obtain ⟨ad,rfl,g1,g2,g3⟩:=e5 _ u hu
    have wO:0 < (gu xs.length h).toNat - (fh l).toNat:=by
     rcases Nat.eq_zero_or_pos ((gu xs.length h).toNat - (fh l).toNat) with hz | hz
     ·rw [hz] at iv;simp at iv
     ·exact hz
    rw [if_neg (by omega)]
    obtain ⟨bk,of,sp⟩:=ad
    simp only at g1 g2;subst g1
    refine ⟨⟨bk,of+(fh l).toNat * i.size,none⟩,by simp [jw],rfl,g2,?_⟩
    simpa [Nat.add_assoc] using g3
   ·cases hu
theorem sU {t e:TypeId} {i:TypeInfo} {x:Operand} {lo hi:Option Operand} {l h:Option Int} {sz off len:Nat} {b:Bk} [ay P t (.slice e)] [aP P e i] (hx:bY tm x=some (.sl sz b off len)) (eN:Nat.beq i.size sz=true) (hl:Fp tm lo l) (hh:Fp tm hi h) (h0:0≤fh l) (h1:fh l≤gu len h) (h2:gu len h≤len):
 QV P ⟨some d,.slice t x lo hi none,ty,pos,af,none⟩ ⟨n,tm,hp⟩ (.sl sz b (off+(fh l).toNat) ((gu len h).toNat - (fh l).toNat)):=by
 intro w S a r
 obtain rfl:i.size=sz:=Nat.eq_of_beq_eq_true eN
 obtain ⟨oa,cap,e1,e2⟩:=(aN (σ:=⟨n,tm,hp⟩) r hx).nv
 have DR:len≤cap:=by rcases e2 with ⟨_,_,hl,_,_⟩ | ⟨m,hb,_,g1,g2⟩ | ⟨m,ad,hb,_,hl,_⟩<;>omega
 refine ⟨.slice (if cap=(fh l).toNat then oa else oa.map (·.add ((fh l).toNat * i.size))) ((gu len h).toNat - (fh l).toNat) (cap - (fh l).toNat),fun w1 _=>?_,?_⟩
 ·have hb:=wc (P:=P) (σ:=⟨n,tm,hp⟩) r hl hh true len cap h0 h1 h2 DR w1
  simp [execOp,Instr.sliceAt,run_underlying (ay.h (P:=P) (t:=t)),Instr.slice,e1,hb,sizeOf,typeInfo,aP.h (P:=P) (t:=e)]
 ·rcases e2 with ⟨hb,ho,Z4,rfl,TW⟩ | ⟨m,hb,rfl,g1,g2⟩ | ⟨m,ad,hb,rfl,Z4,TW⟩
  ·have QX:(fh l).toNat=0:=by omega
   have PB:(gu len h).toNat=0:=by omega
   rw [QX,PB,ho,TW]
   exact .zI i.size b hb
  ·by_cases xQ:cap=(fh l).toNat
   ·rw [if_pos xQ]
    have hz:(gu len h).toNat - (fh l).toNat=0:=by omega
    rw [hz,show cap - (fh l).toNat=0 from by omega]
    exact .IG i.size b _ m _ hb
   ·rw [if_neg xQ]
    have:=At.sl (w:=w) (S:=S) i.size b (off+(fh l).toNat) ((gu len h).toNat - (fh l).toNat) m (cap - (fh l).toNat) hb (by omega) (by omega)
    rw [Nat.add_mul] at this
    simpa [jw] using this
  ·have QX:(fh l).toNat=0:=by omega
   have PB:(gu len h).toNat=0:=by omega
   rw [QX,PB,TW,if_pos rfl]
   exact .IG i.size b _ m ad hb
theorem jz {src dst:TypeId} {D:TypeDesc} {x:Operand} {k k':IntKind} {i:Int} [ay P src D] [ay P dst (.int k')] (hx:bY tm x=some (.int k i)):QV P ⟨some d,.convert src dst x,ty,pos,af,none⟩ ⟨n,tm,hp⟩ (.int k' (k'.wrap i)):=by
 intro w S a r
 refine ⟨.int k' (k'.wrap i),fun w1 _=>?_,.int _ _⟩
 simp only [execOp,convert,(aN (σ:=⟨n,tm,hp⟩) r hx).ca,Sem.run_bind,run_underlying (ay.h (P:=P) (t:=src)),run_underlying (ay.h (P:=P) (t:=dst)),Result.andThen_ok]
 cases D<;>simp [Conv.intToInt]
end rules
section
variable {P:Program} {all:Array Oper} {rest:List Oper} {σ:St} {Q:St→Prop} {dd:Option Nat} {ty:TypeId} {pos:String} {af:Array Edge}
end
theorem DS {sz:Nat} {x y:AV}:∀ {xs:List AV} {q:Nat},(∀ x∈xs,El sz x)→El sz y→xs[q]? =some x→flat (xs.set q y)=(flat xs).take (q * sz)++y.cells++(flat xs).drop (q * sz+sz)
 | [],q,_,_,h=>by simp at h
 | z :: xs,0,hs,hy,h=>by
   have hz:=(hs z (by simp)).1
   rw [List.set_cons_zero,iA,iA]
   simp only [Nat.zero_mul,List.take_zero,List.nil_append,Nat.zero_add]
   rw [List.drop_left' hz]
 | z :: xs,q+1,hs,hy,h=>by
   have hz:=(hs z (by simp)).1
   simp only [List.getElem?_cons_succ] at h
   rw [List.set_cons_succ,iA,iA,DS (fun a ha=>hs a (by simp [ha])) hy h]
   have e1:(q+1) * sz=sz+q * sz:=by rw [Nat.add_mul,Nat.one_mul];omega
   rw [e1,List.take_append,List.take_of_length_le (l:=z.cells) (by omega),hz,Nat.add_sub_cancel_left,List.drop_append,List.drop_of_length_le (l:=z.cells) (by omega),hz]
   rw [show sz+q * sz+sz - sz=q * sz+sz from by omega]
   simp [List.append_assoc]
theorem Gy {w:World} {S:Nat→Prop} {cs new:List AV} {vs jc:Array Value} (o:Nat) (hl:cs.length≤vs.size) (h:gC w S cs vs) (si:new.length=jc.size) (h':gC w S new jc) (ho:o+new.length≤cs.length):
 gC w S (cs.take o++new++cs.drop (o+new.length)) (vs.toList.take o++jc.toList++vs.toList.drop (o+jc.toList.length)).toArray:=by
 intro i c v hc hv
 simp only [List.getElem?_toArray] at hc hv
 have l1:(cs.take o).length=o:=by simp;omega
 have l2:(vs.toList.take o).length=o:=by simp;omega
 have l3:jc.toList.length=new.length:=by simp [si]
 rw [List.append_assoc] at hc hv
 by_cases h1:i < o
 ·rw [List.getElem?_append_left (by omega)] at hc hv
  rw [List.getElem?_take,if_pos h1] at hc hv
  exact h i c v hc (by simpa using hv)
 ·rw [List.getElem?_append_right (by omega)] at hc hv
  rw [l1] at hc
  rw [l2] at hv
  by_cases h2:i - o < new.length
  ·rw [List.getElem?_append_left (by omega)] at hc hv
   exact h' (i - o) c v hc (by simpa using hv)
  ·rw [List.getElem?_append_right (by omega)] at hc hv
   rw [l3] at hv
   rw [List.getElem?_drop] at hc hv
   rw [show o+new.length+(i - o - new.length)=i from by omega] at hc hv
   exact h i c v hc (by simpa using hv)
section rules
variable {P:Program} {all:Array Oper} {rest:List Oper} {n:Nat} {tm:List (Nat×AV)} {hp:Heap} {Q:St→Prop} {d:Nat} {ty:TypeId} {pos:String} {af:Array Edge}
theorem wb.refl (l:List AV):wb hp l l:=by
 induction l with
 | nil=>exact .nil
 | cons a l ih=>exact .cons (.refl a) ih
def Pu (P:Program) (f:FuncId) (args:List AV) (R:AV):Prop:=aG P f args [] (fun r _=>r=R)
theorem aL {f:FuncId} {args:List Operand} {ts:Array TypeId} {l l':List AV} {R:AV} [ba P f] (hl:wN tm args=some l) (c:Pu P f l' R) (co:wb hp l l') (hn:Nat.blt d n=true)
 (kk:ae P all rest ⟨n,(d,R) :: tm,hp⟩ Q):ae P all (⟨some d,.call {callee:=.value (.func f),args:=args.toArray,argTypes:=ts},ty,pos,af,none⟩ :: rest) ⟨n,tm,hp⟩ Q:=by
 refine Lw hl c co hn (fun r h' hr=>?_)
 subst hr
 exact ae.weaken (aK:=⟨n,(d,r) :: tm,hp⟩) ⟨rfl,fun _ _ h=>h,List.sublist_append_right _ _⟩ kk
theorem fR {f:FuncId} {args:List Operand} {ts:Array TypeId} {l l':List AV} {R:AV} [ba P f] (hl:wN tm args=some l) (c:Pu P f l' R) (co:r6 hp l l') (hn:Nat.blt d n=true) (hR:R.QW=true)
 (kk:ae P all rest ⟨n,(d,R) :: tm,hp⟩ Q):ae P all (⟨some d,.call {callee:=.value (.func f),args:=args.toArray,argTypes:=ts},ty,pos,af,none⟩ :: rest) ⟨n,tm,hp⟩ Q:=
 LA hl c co hn (fun r h' hr=>by subst hr;exact ⟨hR,kk⟩)
theorem nQ {f:FuncId} {x:Operand} {args:List Operand} {ts:Array TypeId} {rn l l':List AV} {R:AV} [ba P f] (hx:bY tm x=some (.func (.func f) rn)) (hl:wN tm args=some l) (c:Pu P f l' R) (co:wb hp (l++rn) l') (hn:Nat.blt d n=true)
 (kk:ae P all rest ⟨n,(d,R) :: tm,hp⟩ Q):ae P all (⟨some d,.call {callee:=.value x,args:=args.toArray,argTypes:=ts},ty,pos,af,none⟩ :: rest) ⟨n,tm,hp⟩ Q:=by
 refine Gx hx hl c co (List.Perm.refl _) hn (fun r h' hr=>?_)
 subst hr
 exact ae.weaken (aK:=⟨n,(d,r) :: tm,hp⟩) ⟨rfl,fun _ _ h=>h,List.sublist_append_right _ _⟩ kk
end rules
inductive RV (P:Program) (σ:St):ResultVar→AV→Prop
 | tmp (t:Nat) (av:AV) (h:lk σ.tm t=some av):RV P σ (.tmp t) av
 | all (p ty:Nat) (b:Bk) (cs:List AV) (D:TypeDesc) (i:TypeInfo) (h:lk σ.tm p=some (.ptr b 0)) (f:lj σ.hp b (.cells cs)) (hu:P.underlying ty=some D) (hi:P.info? ty=some i) (hD:TypeDesc.jx D=true) (hs:Nat.beq cs.length i.size=true):RV P σ (.cell p ty) (.agg cs)
 | one (p ty:Nat) (b:Bk) (cs:List AV) (av:AV) (D:TypeDesc) (h:lk σ.tm p=some (.ptr b 0)) (f:lj σ.hp b (.cells cs)) (hu:P.underlying ty=some D) (hD:TypeDesc.jx D=false) (hs:cs[0]? =some av):RV P σ (.cell p ty) av
def zT (tmps:Array Value):ResultVar→Sem Value
 | .tmp t=>pure (tmps.getD t undef)
 | .cell a t=>do loadVar t (← asAddr (tmps.getD a undef))
theorem RV.run {P:Program} {σ:St} {rv:ResultVar} {av:AV} (h:RV P σ rv av) {w:World} {S:Nat→Prop} {a:Act} (r:dH w S σ a):∃ v,(zT a.tmps rv).run P w=.ok v w∧At w S av v:=by
 cases h with
 | tmp t av h=>
   obtain ⟨v,h1,h2⟩:=r.tm t _ h
   exact ⟨v,by simp [zT,h1],h2⟩
 | all p ty b cs D i h f hu hi hD hs=>
   obtain ⟨v,h1,h2⟩:=r.tm p _ h
   obtain ⟨m,e1,rfl⟩:=h2.nh
   obtain ⟨_,m',vs,E,g1,g2,g3,g4⟩:=qq r.hp f
   obtain rfl:m'=m:=by rw [g1] at e1;exact Option.some.inj e1
   have hlen:vs.toList.length=i.size:=by simp [g3];exact Nat.eq_of_beq_eq_true hs
   refine ⟨.agg vs,?_,.agg cs vs g3.symm g4⟩
   have:=kK (P:=P) hu hD hi (w:=w) (ad:=⟨m',0,none⟩) (vs:=vs.toList) hlen (fun j v hv=>by rw [jw,nk g2];simpa using hv)
   simp [zT,h1,asAddr,this]
 | one p ty b cs av D h f hu hD hs=>
   obtain ⟨v,h1,h2⟩:=r.tm p _ h
   obtain ⟨m,e1,rfl⟩:=h2.nh
   obtain ⟨_,m',vs,E,g1,g2,g3,g4⟩:=qq r.hp f
   obtain rfl:m'=m:=by rw [g1] at e1;exact Option.some.inj e1
   have iv:0 < vs.size:=by rw [g3];exact (List.getElem?_eq_some_iff.1 hs).1
   have hv:vs[0]? =some vs[0]:=by simp [iv]
   refine ⟨vs[0],?_,g4 0 av _ hs hv⟩
   have:=nj (P:=P) hu hD (w:=w) (ad:=⟨m',0,none⟩) (v:=vs[0]) (by rw [nk g2,hv])
   simp [zT,h1,asAddr,this]
inductive Rs (P:Program) (σ:St):List ResultVar→List AV→Prop
 | nil:Rs P σ [] []
 | cons {v:ResultVar} {l:List ResultVar} {a:AV} {as:List AV} (h:RV P σ v a) (k:Rs P σ l as):Rs P σ (v :: l) (a :: as)
def yD:List AV→AV
 | [a]=>a
 | as=>.mN as
theorem Rs.run {P:Program} {σ:St} {w:World} {S:Nat→Prop} {a:Act} (r:dH w S σ a):∀ {l:List ResultVar} {as:List AV},Rs P σ l as→∃ vs,(l.mapM (zT a.tmps)).run P w=.ok vs w∧as.length=vs.length∧∀ (i:Nat) c v,as[i]? =some c→vs[i]? =some v→At w S c v
 | [],_,.nil=>⟨[],by simp,rfl,fun i c v hc=>by simp at hc⟩
 | x :: l,_,.cons (a:=av) (as:=as) h k=>by
   obtain ⟨v,h1,h2⟩:=h.run r
   obtain ⟨vs,g1,g2,g3⟩:=Rs.run r k
   refine ⟨v :: vs,by simp [h1,g1],by simp [g2],fun i c u hc hu=>?_⟩
   match i with
   | 0=>simp at hc hu;subst hc;subst hu;exact h2
   | i+1=>exact g3 i c u (by simpa using hc) (by simpa using hu)
theorem DT {P:Program} {fn:Func} {l:List ResultVar} {σ:St} {as:List AV} (hf:fn.results=l.toArray) (h:Rs P σ l as) {w:World} {S:Nat→Prop} {a:Act} (r:dH w S σ a):∃ v,(results fn a.tmps).run P w=.ok v w∧At w S (yD as) v:=by
 obtain ⟨vs,g1,g2,g3⟩:=h.run r
 have hm:results fn a.tmps=(do let vs ← Functor.map List.toArray (l.mapM (zT a.tmps));pure (if h:vs.size=1 then vs[0] else .tuple vs)):=by
  have TX:(fun (x:ResultVar)=>(match x with | .tmp t=>pure (a.tmps.getD t undef) | .cell p t=>do loadVar t (← asAddr (a.tmps.getD p undef)):Sem Value))=zT a.tmps:=by
   funext x
   cases x<;>rfl
  unfold results
  rw [hf,List.mapM_toArray]
  rw [← TX]
  rfl
 refine ⟨if h:vs.toArray.size=1 then vs.toArray[0] else .tuple vs.toArray,?_,?_⟩
 ·rw [hm,Sem.run_bind,Sem.run_map,g1]
  rfl
 ·clear h hm g1
  match as,vs,g2,g3 with
  | [],[],_,_=>simp [yD];exact .mN [] _ rfl (fun i c v hc=>by simp at hc)
  | [x],[v],_,g3=>simp [yD];exact g3 0 x v rfl rfl
  | x :: y :: as,v :: u :: vs,hl,g3=>simp [yD];exact .mN _ _ (by simpa using hl) (fun i c v hc hv=>g3 i c v hc (by simpa using hv))
theorem aG.QY {P:Program} {f:FuncId} {fn:Func} {c:Code} {args:List AV} {h:Heap} {Q:AV→Heap→Prop} {n:Nat} {l:List ResultVar} (hf:P.funcs[f]? =some fn) (hb:fn.body=some c) (hn:fn.ntmps=n) (Oh:fn.results=l.toArray)
 (hle:Nat.ble args.length n=true) (kk:aa P (fun σ=>aj σ (fun aK=>∃ as,Rs P aK l as∧Q (yD as) aK.hp)) [.code c] ⟨n,Ln args 0,h⟩):aG P f args h Q:=by
 intro w S vs hr hl ha
 refine calls_of_wp hf hb ?_
 have r0:dH w S ⟨n,Ln args 0,h⟩ {tmps:=vs++Array.replicate (fn.ntmps - vs.size) undef,defers:=[]}:=by
  have:=Nat.le_of_ble_eq_true hle
  refine ⟨by simp [hn];omega,rfl,fun s av hs=>?_,hr⟩
  obtain ⟨_,h2⟩:=IY args 0 s av hs
  simp only [Nat.sub_zero] at h2
  have iv:s < args.length:=(List.getElem?_eq_some_iff.1 h2).1
  have QZ:s < vs.size:=by omega
  refine ⟨vs[s],by simp [Array.getElem?_append,QZ],ha s av _ h2 (by simp [QZ])⟩
 refine wp_mono (kk w S _ r0) ?_
 rintro e a' w' ⟨aK,S',h1,h2,h3⟩
 have fin:aj aK (fun Fy=>∃ as,Rs P Fy l as∧Q (yD as) Fy.hp)→a'.defers=[]∧∃ v,(results fn a'.tmps).run P w'=.ok v w'∧∃ v' r h' S',(Ending.returned v:Ending)=.returned v'∧Q r h'∧At w' S' r v'∧ck w' S' h'∧ic w S h w' S' h':=by
  intro hi
  obtain ⟨Fo,S2,⟨as,SF,hq⟩,g2,g3⟩:=hi w' S' a' h2
  obtain ⟨v,SE,TY⟩:=DT Oh SF g2
  exact ⟨g2.defers,v,SE,v,yD as,Fo.hp,S2,rfl,hq,TY,g2.hp,h3.trans g3⟩
 cases e with
 | normal=>exact fin h1
 | ret=>exact fin h1
 | exit id=>exact h1.elim
 | goto l=>exact h1.elim
 | panic c=>exact h1.elim
 | outgrown=>exact h1.elim
inductive HS:Heap→Heap→Prop
 | nil {h:Heap}:HS h []
 | cons {h h1 t:Heap} {b:Bk} {o:Ob} (u:xV h b o h1) (k:HS h1 t):HS h ((b,o) :: t)
theorem HS.perm {h t:Heap} (s:HS h t):∃ r,h.Perm (t++r):=by
 induction s with
 | nil=>exact ⟨_,List.Perm.refl _⟩
 | cons u k ih=>
   obtain ⟨r,hr⟩:=ih
   exact ⟨r,u.perm.trans (List.Perm.cons _ hr)⟩
theorem aj.Q0 {n:Nat} {tm ln:List (Nat×AV)} {hp bZ:Heap} {T:St→Prop} (h:BT tm ln) (hs:HS hp bZ) (k:aj ⟨n,ln,bZ⟩ T):aj ⟨n,tm,hp⟩ T:=by
 obtain ⟨r,hr⟩:=hs.perm
 refine aj.step (zr:=⟨n,ln,bZ⟩) (fun w S a rel=>⟨_,S,rfl,⟨rel.size,rel.defers,fun s av hh=>rel.tm s av (h.lk s av hh),(rel.hp.perm hr).sub (List.sublist_append_left _ _)⟩,ic.less (ic.refl w S hp) fun m hm=>?_⟩) k
 obtain ⟨e,he,hb⟩:=hm
 exact ⟨e,hr.mem_iff.2 (List.mem_append_left _ he),hb⟩
abbrev I (n:Int):AV:=.int .i64 n
section rules
variable {P:Program} {all:Array Oper} {rest:List Oper} {n:Nat} {tm:List (Nat×AV)} {hp:Heap} {Q:St→Prop} {d:Nat} {ty:TypeId} {pos:String} {af:Array Edge}
end rules
section rules
variable {P:Program} {all:Array Oper} {rest:List Oper} {n:Nat} {tm:List (Nat×AV)} {hp:Heap} {Q:St→Prop} {d:Nat} {ty:TypeId} {pos:String} {af:Array Edge}
theorem Hx {t e:TypeId} {i:TypeInfo} {z:Value} {x y:Operand} {src:AV} {b:Bk} {len sz:Nat} {xs ys:List AV} {bZ:Bk→Heap} [ay P t (.slice e)] [aP P e i] (hx:bY tm x=some (.sl sz b 0 len)) (hy:bY tm y=some src) (hz:i.zero=some z)
 (xR:Nat.beq z.cells.size i.size=true) (eN:Nat.beq i.size sz=true) (h0:Nat.blt 0 sz=true) (hn:Nat.blt d n=true) (TZ:Nat.ble i.bytes 65536=true) (hs:Src hp sz src ys) (u:∀ b',iw hp b (.arr sz xs) b' (.arr sz (xs++ys)) (bZ b')) (hlen:len=xs.length)
 (hb:xs.length+ys.length≤1000000000)
 (kk:∀ b':Bk,ae P all rest ⟨n,(d,.sl sz b' 0 (len+ys.length)) :: tm,bZ b'⟩ Q):ae P all (⟨some d,.call {callee:=.builtin .append,args:=#[x,y],argTypes:=#[t,t]},ty,pos,af,none⟩ :: rest) ⟨n,tm,hp⟩ Q:=by
 refine I3 hx hy hz xR eN h0 hn hs u hlen ?_ (by omega) kk
 have h1:=Nat.le_of_ble_eq_true TZ
 have:=Nat.mul_le_mul hb h1
 omega
end rules
def pg:List AV→Option (List AV)
 | []=>some []
 | x :: r=>match pg r with
   | some l=>some (x :: l)
   | none=>none
theorem kL:∀ {l l':List AV},pg l=some l'→l=l'
 | [],l',h=>by simp [pg] at h;exact h.symm
 | x :: r,l',h=>by
   simp only [pg] at h
   split at h
   ·rename_i l hl
    obtain rfl:=Option.some.inj h
    rw [kL hl]
   ·cases h
def I7:List AV→Nat→Option (List (Nat×AV))
 | [],_=>some []
 | x :: r,i=>match I7 r (i+1) with
   | some l=>some ((i,x) :: l)
   | none=>none
theorem Gz:∀ {l:List AV} {i:Nat} {l':List (Nat×AV)},I7 l i=some l'→Ln l i=l'
 | [],i,l',h=>by simp [I7] at h;simpa [Ln] using h
 | x :: r,i,l',h=>by
   simp only [I7] at h
   split at h
   ·rename_i l hl
    obtain rfl:=Option.some.inj h
    rw [Ln,Gz hl]
   ·cases h
class j7 (P:Program) (t:TypeId) (sz:outParam Nat):Prop where
 h:∃ i,P.info? t=some i∧i.size=sz
theorem aG.bc {P:Program} {f:FuncId} {fn:Func} {c:Code} {args:List AV} {h:Heap} {Q:AV→Heap→Prop} {n:Nat} {l:List ResultVar} {tm:List (Nat×AV)} (hf:P.funcs[f]? =some fn) (hb:fn.body=some c) (hn:fn.ntmps=n) (Oh:fn.results=l.toArray)
 (Z5:I7 args 0=some tm) (hle:Nat.ble args.length n=true) (kk:aa P (fun σ=>aj σ (fun aK=>∃ rs,Rs P aK l rs∧Q (yD rs) aK.hp)) [.code c] ⟨n,tm,h⟩):aG P f args h Q:=
 aG.QY hf hb hn Oh hle (by rw [Gz Z5];exact kk)
section rules
variable {P:Program} {all:Array Oper} {rest:List Oper} {n:Nat} {tm:List (Nat×AV)} {hp:Heap} {Q:St→Prop} {d:Nat} {ty:TypeId} {pos:String} {af:Array Edge}
theorem de {x:Operand} {E:TypeId} {av:AV} {cs:List AV} (hx:bY tm x=some av) (hc:pg av.cells=some cs) (h1:jv cs=true) (hn:Nat.blt d n=true)
 (kk:∀ b:Bk,ae P all rest ⟨n,(d,.ptr b 0) :: tm,(b,.cells cs) :: hp⟩ Q):ae P all (⟨some d,.box E x,ty,pos,af,none⟩ :: rest) ⟨n,tm,hp⟩ Q:=by
 obtain rfl:=kL hc
 exact QS hx h1 hn kk
theorem fj {E:TypeId} {i:TypeInfo} {z:Value} {cs:List AV} [aP P E i] (hz:i.zero=some z) (hc:pg (zO z).cells=some cs) (h1:jv cs=true) (hn:Nat.blt d n=true)
 (kk:∀ b:Bk,ae P all rest ⟨n,(d,.ptr b 0) :: tm,(b,.cells cs) :: hp⟩ Q):ae P all (⟨some d,.alloc E,ty,pos,af,none⟩ :: rest) ⟨n,tm,hp⟩ Q:=by
 obtain rfl:=kL hc
 exact Lq hz h1 hn kk
theorem au {x:Operand} {s:TypeId} {j off:Nat} {b:Bk} {o o':Nat} [mG P s j off] (hx:bY tm x=some (.ptr b o)) (ho:o+off=o'):QV P ⟨some d,.fieldAddr s x j,ty,pos,af,none⟩ ⟨n,tm,hp⟩ (.ptr b o'):=by
 subst ho
 exact DF hx
theorem fk {x:Operand} {s:TypeId} {j off:Nat} {cs lB:List AV} [mG P s j off] (hx:bY tm x=some (.ji cs)) (hc:pg (cs.drop off)=some lB):QV P ⟨some d,.fieldAddr s x j,ty,pos,af,none⟩ ⟨n,tm,hp⟩ (.ji lB):=by
 obtain rfl:=kL hc
 exact CF hx
theorem cw {t:TypeId} {D:TypeDesc} {i:TypeInfo} {x:Operand} {b:Bk} {o:Nat} {cs lB:List AV} [ay P t D] [aP P t i] (hD:TypeDesc.jx D=true) (hx:bY tm x=some (.ptr b o)) (f:lj hp b (.cells cs)) (ho:Nat.ble (o+i.size) cs.length=true) (hc:pg ((cs.drop o).take i.size)=some lB):
 QV P ⟨some d,.load t x,ty,pos,af,none⟩ ⟨n,tm,hp⟩ (.agg lB):=by
 obtain rfl:=kL hc
 exact yY hD hx f ho
theorem cF {t:TypeId} {i:TypeInfo} {z:Value} {parts:List (Nat×Operand)} {l:List (Nat×AV)} {cs lB:List AV} {pl:List (Nat×Nat)} [aP P t i] [lA P t pl] (hz:i.zero=some z) (hl:Py tm parts=some l) (h1:jv (zO z).cells=true)
 (hc:BR pl (zO z).cells l=some cs) (IJ:pg cs=some lB):QV P ⟨some d,.build t parts.toArray,ty,pos,af,none⟩ ⟨n,tm,hp⟩ (.agg lB):=by
 obtain rfl:=kL IJ
 exact Lt hz hl h1 hc
theorem aD {t:TypeId} {i:TypeInfo} {x y:Operand} {b:Bk} {o:Nat} {cs lB:List AV} {av:AV} {bZ:Heap} [aP P t i] (hx:bY tm x=some (.ptr b o)) (hy:bY tm y=some av) (h1:jv av.cells=true) (eN:Nat.beq av.cells.length i.size=true)
 (u:iw hp b (.cells cs) b (.cells lB) bZ) (hc:pg (mH cs o av.cells)=some lB) (ho:Nat.ble (o+av.cells.length) cs.length=true) (kk:ae P all rest ⟨n,tm,bZ⟩ Q):ae P all (⟨none,.store t x y,ty,pos,af,none⟩ :: rest) ⟨n,tm,hp⟩ Q:=by
 obtain rfl:=kL hc
 exact DG hx hy h1 eN u ho kk
theorem aR {t e:TypeId} {i:TypeInfo} {z:Value} {len sz:Nat} {parts:List (Nat×Operand)} {xs:List AV} [ay P t (.slice e)] [aP P e i] [j7 P e sz] (hz:i.zero=some z) (hl:Hw tm parts 0=some xs) (hlen:Nat.beq parts.length len=true) (tF:ub i.size xs=true)
 (Gv:Nat.ble (len * i.size) 16777216=true) (hn:Nat.blt d n=true) (kk:ae P all rest ⟨n,(d,.list sz xs) :: tm,hp⟩ Q):ae P all (⟨some d,.buildSlice t len parts.toArray,ty,pos,af,none⟩ :: rest) ⟨n,tm,hp⟩ Q:=by
 obtain ⟨i',h1,h2⟩:=j7.h (P:=P) (t:=e)
 obtain rfl:i'=i:=by rw [aP.h (P:=P) (t:=e)] at h1;exact (Option.some.inj h1).symm
 subst h2
 exact Bp hz hl hlen tF Gv hn kk
theorem ko {t e:TypeId} {i:TypeInfo} {z:Value} {len sz:Nat} {parts:List (Nat×Operand)} {xs:List AV} [ay P t (.slice e)] [aP P e i] [j7 P e sz] (hz:i.zero=some z) (hl:Hw tm parts 0=some xs) (hlen:Nat.beq parts.length len=true) (tF:ub i.size xs=true)
 (Gv:Nat.ble (len * i.size) 16777216=true) (hn:Nat.blt d n=true) (kk:∀ b:Bk,ae P all rest ⟨n,(d,.sl sz b 0 len) :: tm,(b,.arr sz xs) :: hp⟩ Q):ae P all (⟨some d,.buildSlice t len parts.toArray,ty,pos,af,none⟩ :: rest) ⟨n,tm,hp⟩ Q:=by
 obtain ⟨i',h1,h2⟩:=j7.h (P:=P) (t:=e)
 obtain rfl:i'=i:=by rw [aP.h (P:=P) (t:=e)] at h1;exact (Option.some.inj h1).symm
 subst h2
 exact wQ hz hl hlen tF Gv hn kk
end rules
structure Grow (w:World) (S:Nat→Prop) (w':World) (S':Nat→Prop):Prop where
 ext:Ext w w'
 up:∀ n,S n→S' n
 down:∀ n,n < w.heap.size→S' n→S n
 slt:∀ n,S' n→n < w'.heap.size
theorem Grow.refl {w:World} {S:Nat→Prop} (h:∀ n,S n→n < w.heap.size):Grow w S w S:=⟨Ext.refl w,fun _ h=>h,fun _ _ h=>h,h⟩
theorem Grow.trans {a b c:World} {S T U:Nat→Prop} (h:Grow a S b T) (k:Grow b T c U):Grow a S c U:=
 ⟨h.ext.trans k.ext,fun n hn=>k.up n (h.up n hn),fun n hn hs=>h.down n hn (k.down n (Nat.lt_of_lt_of_le hn h.ext.size) hs),k.slt⟩
theorem Grow.iX {w w':World} {S S':Nat→Prop} (g:Grow w S w' S') (h:∀ n,S n→n < w.heap.size):∀ n,S n→S' n∧w'.heap[n]? =w.heap[n]?:=fun n hn=>⟨g.up n hn,g.ext.same n (h n hn)⟩
theorem ck.grow {w w':World} {S S':Nat→Prop} {h:Heap} (r:ck w S h) (g:Grow w S w' S'):ck w' S' h where
 nodup:=r.nodup
 holds e he:=(r.holds e he).mono (g.iX r.slt) (fun n hn=>g.ext.same n (r.lt ⟨e,he,hn⟩))
 sep e he n hn:=by
  rw [← r.sep e he n hn]
  exact ⟨g.down n (r.lt ⟨e,he,hn⟩),g.up n⟩
 slt:=g.slt
 gq t o ho:=⟨(g.iX r.slt t (r.gq t o ho).1).1,BN (g.iX r.slt t (r.gq t o ho).1).2 (r.gq t o ho).2⟩
theorem Grow.PC {w w':World} {S S':Nat→Prop} (g:Grow w S w' S') (h:∀ n,S n→n < w.heap.size) (hp:Heap):ic w S hp w' S' hp:=
 ⟨g.ext.os,g.ext.tape,g.ext.output,g.ext.size,g.iX h,fun n hn _=>⟨g.ext.same n hn,g.down n hn⟩,fun _ hn=>.inl hn,g.ext.drawn⟩
def looks (all:Array Oper) (o:Oper):List Nat:=
 (o.op.operands.toList.filterMap fun | .tmp t=>some t | _=>none)++(match o.guard with | some (g,_)=>((all[g]?).bind (·.dst)).toList | none=>[])
abbrev Env:=Nat→Option AV
def xY (w:World) (S:Nat→Prop) (ls:List Nat) (e:Env) (a:Act):Prop:=∀ s∈ls,∀ av,e s=some av→∃ v,a.tmps[s]? =some v∧At w S av v
def MV (P:Program) (all:Array Oper) (n:Nat) (o:Oper) (e:Env) (hp:Heap) (av:AV):Prop:=
 ∀ w S a,a.tmps.size=n→a.defers=[]→ck w S hp→xY w S (looks all o) e a→∀ (K:Act→World→Prop) (Q:Exit→Act→World→Prop),
   (∀ v w' S',Grow w S w' S'→At w' S' av v→K (a.put o.dst v) w')→o.wp P a w K Q
def vr (e:Env) (d:Option Nat) (av:AV):Env:=match d with
 | some d=>fun s=>if d=s then some av else e s
 | none=>e
def nw (all:Array Oper) (o:Oper) (e:Env) (b:Bool):Prop:=
 match o.guard with
 | none=>b=true
 | some (j,want)=>∃ s,(all[j]?).bind (·.dst)=some s∧((∃ c,e s=some (.bool c)∧b=(c==want))∨(e s=some (.raw undef)∧b=false))
inductive K9 (P:Program) (all:Array Oper) (n:Nat) (hp:Heap):List Oper→Env→Env→Prop
 | nil (e:Env):K9 P all n hp [] e e
 | run {o:Oper} {l:List Oper} {e e':Env} {av:AV} (hg:nw all o e true) (h:MV P all n o e hp av) (hd:∀ d,o.dst=some d→d < n) (k:K9 P all n hp l (vr e o.dst av) e'):K9 P all n hp (o :: l) e e'
 | pass {o:Oper} {l:List Oper} {e e':Env} (hg:nw all o e false) (hd:∀ d,o.dst=some d→d < n) (k:K9 P all n hp l (vr e o.dst (.raw undef)) e'):K9 P all n hp (o :: l) e e'
def BU (P:Program) (all:Array Oper) (n:Nat) (hp:Heap) (o:Oper) (e:Env) (av:AV):Prop:=
 (∀ d,o.dst=some d→d < n)∧((nw all o e true∧MV P all n o e hp av)∨(nw all o e false∧av=.raw undef))
theorem K9.zU {P:Program} {all:Array Oper} {n:Nat} {hp:Heap} {l:List Oper} {e e':Env} (h:K9 P all n hp l e e'):
 ∃ (ie:Nat→AV) (en:Nat→Env),en 0=e∧en l.length=e'∧∀ i o,l[i]? =some o→BU P all n hp o (en i) (ie i)∧en (i+1)=vr (en i) o.dst (ie i):=by
 induction h with
 | nil e=>exact ⟨fun _=>.nil,fun _=>e,rfl,rfl,fun i o h=>by simp at h⟩
 | @run o l e e' av hg hm hd k ih=>
   obtain ⟨ie,en,h0,h1,h2⟩:=ih
   refine ⟨fun i=>match i with | 0=>av | i+1=>ie i,fun i=>match i with | 0=>e | i+1=>en i,rfl,h1,fun i o' ho=>?_⟩
   match i with
   | 0=>simp at ho;subst ho;exact ⟨⟨hd,.inl ⟨hg,hm⟩⟩,h0⟩
   | i+1=>exact h2 i o' (by simpa using ho)
 | @pass o l e e' hg hd k ih=>
   obtain ⟨ie,en,h0,h1,h2⟩:=ih
   refine ⟨fun i=>match i with | 0=>.raw undef | i+1=>ie i,fun i=>match i with | 0=>e | i+1=>en i,rfl,h1,fun i o' ho=>?_⟩
   match i with
   | 0=>simp at ho;subst ho;exact ⟨⟨hd,.inr ⟨hg,rfl⟩⟩,h0⟩
   | i+1=>exact h2 i o' (by simpa using ho)
def waits (o:Oper) (i:Nat):Bool:=o.after.toList.any fun e=>Region.binds .any e&&Nat.beq e.on i
def yE (all:Array Oper) (oi oj:Oper):Bool:=
 match oi.dst,oj.dst with
 | some d,some d'=>(looks all oj).contains d||(looks all oi).contains d'||Nat.beq d d'
 | some d,none=>(looks all oj).contains d
 | none,some d'=>(looks all oi).contains d'
 | none,none=>false
inductive qI (all:Array Oper):Nat→Nat→Prop
 | one {j i:Nat} {oj:Oper} (hj:all[j]? =some oj) (hw:waits oj i=true):qI all j i
 | step {j k i:Nat} {oj:Oper} (hj:all[j]? =some oj) (hw:waits oj k=true) (h:qI all k i):qI all j i
def CK (acc:List Nat):List Edge→Nat→Nat
 | [],m=>m
 | e :: r,m=>CK acc r (match Region.binds .any e with
   | true=>m||| (1 <<< e.on)||| acc.getD e.on 0
   | false=>m)
def I8:List Oper→List Nat→List Nat
 | [],acc=>acc
 | o :: r,acc=>I8 r (acc++[CK acc o.after.toList 0])
def Bq (all:Array Oper):List Nat:=I8 all.toList []
theorem yF {acc:List Nat} {i:Nat}:∀ (es:List Edge) (m:Nat),(CK acc es m).testBit i=true→m.testBit i=true∨∃ e∈es,Region.binds .any e=true∧(e.on=i∨(acc.getD e.on 0).testBit i=true)
 | [],m,h=>.inl h
 | e :: r,m,h=>by
   simp only [CK] at h
   rcases yF r _ h with h | ⟨e',he,hb,hh⟩
   ·split at h
    ·rename_i hb
     rw [Nat.testBit_or,Nat.testBit_or,Bool.or_eq_true,Bool.or_eq_true] at h
     rcases h with (h | h) | h
     ·exact .inl h
     ·refine .inr ⟨e,by simp,hb,.inl ?_⟩
      rw [Nat.one_shiftLeft,Nat.testBit_two_pow] at h
      simpa using h
     ·exact .inr ⟨e,by simp,hb,.inr h⟩
    ·exact .inl h
   ·exact .inr ⟨e',by simp [he],hb,hh⟩
theorem zV {all:Array Oper}:∀ (l:List Oper) (acc:List Nat) (pre:List Oper),all.toList=pre++l→acc.length=pre.length→(∀ j i,(acc.getD j 0).testBit i=true→qI all j i)→∀ j i,((I8 l acc).getD j 0).testBit i=true→qI all j i
 | [],acc,pre,_,_,h=>h
 | o :: r,acc,pre,hl,hlen,h=>by
   refine zV r _ (pre++[o]) (by simpa using hl) (by simp [hlen]) (fun j i hb=>?_)
   rcases Nat.lt_or_ge j acc.length with hj | hj
   ·refine h j i ?_
    rw [List.getD_eq_getElem?_getD,List.getElem?_append_left hj] at hb
    rw [List.getD_eq_getElem?_getD]
    exact hb
   ·by_cases WB:j=acc.length
    ·rw [List.getD_eq_getElem?_getD,List.getElem?_append_right hj,WB] at hb
     simp only [Nat.sub_self,List.getElem?_cons_zero,Option.getD_some] at hb
     have IK:all[j]? =some o:=by
      rw [← Array.getElem?_toList,hl,List.getElem?_append_right (by omega),WB,hlen];simp
     rcases yF _ _ hb with hz | ⟨e,he,Z6,hh⟩
     ·simp at hz
     ·have hw:waits o e.on=true:=by
       simp only [waits,List.any_eq_true,Bool.and_eq_true]
       exact ⟨e,he,Z6,by simp⟩
      rcases hh with hh | hh
      ·subst hh;exact .one IK hw
      ·exact .step IK hw (h _ _ hh)
    ·rw [List.getD_eq_getElem?_getD,List.getElem?_append_right hj,List.getElem?_eq_none (by simp;omega)] at hb
     simp at hb
theorem je {all:Array Oper} {j i:Nat} (h:((Bq all).getD j 0).testBit i=true):qI all j i:=
 zV all.toList [] [] (by simp) rfl (fun j i h=>by simp at h) j i h
def BV (all:Array Oper) (m:Nat) (A:List Nat):Bool:=
 (List.range all.size).all fun j=>match all[j]? with
  | none=>true
  | some oj=>(oj.after.all fun e=>!Region.binds .any e||Nat.blt e.on j)&&(List.range j).all fun i=>match all[i]? with
    | none=>true
    | some oi=>if Nat.blt j m then !yE all oi oj||(A.getD j 0).testBit i else (A.getD j 0).testBit i
def rI (all:Array Oper) (m:Nat):Prop:=∃ A,Bq all=A∧BV all m A=true
theorem iL {all:Array Oper} {m:Nat} (h:rI all m) {i j:Nat} {oi oj:Oper} (hj:all[j]? =some oj) (hi:all[i]? =some oi) (Ba:i < j):(j < m→yE all oi oj=true→qI all j i)∧(m≤j→qI all j i):=by
 obtain ⟨A,hA,h⟩:=h
 subst hA
 have GA:j < all.size:=(Array.getElem?_eq_some_iff.1 hj).1
 simp only [BV,List.all_eq_true,List.mem_range] at h
 have h1:=h j GA
 rw [hj] at h1
 simp only [Bool.and_eq_true,List.all_eq_true,List.mem_range] at h1
 have h2:=h1.2 i Ba
 rw [hi] at h2
 simp only at h2
 refine ⟨fun hm hc=>?_,fun hm=>?_⟩
 ·rw [if_pos (by simpa using hm)] at h2
  exact je (by simpa [hc] using h2)
 ·rw [if_neg (by simp;omega)] at h2
  exact je h2
theorem we {all:Array Oper} {m:Nat} (h:rI all m) {j:Nat} {oj:Oper} (hj:all[j]? =some oj) {e:Edge} (he:e∈oj.after) (hb:Region.binds .any e=true):e.on < j:=by
 obtain ⟨A,hA,h⟩:=h
 have GA:j < all.size:=(Array.getElem?_eq_some_iff.1 hj).1
 simp only [BV,List.all_eq_true,List.mem_range] at h
 have h1:=h j GA
 rw [hj] at h1
 simp only [Bool.and_eq_true,Array.all_eq_true_iff_forall_mem] at h1
 have:=h1.1 e he
 simpa [hb] using this
theorem ph {all:Array Oper} {listed:Array Bool} {i j:Nat} {oj:Oper} (hj:all[j]? =some oj) (hr:j∈Region.ready .any all listed) (hw:waits oj i=true):listed.getD i false=true:=by
 simp only [Region.ready,List.mem_filter,List.mem_range,hj,Option.map_some,Option.getD_some,Bool.and_eq_true,Array.all_eq_true_iff_forall_mem] at hr
 simp only [waits,List.any_eq_true,Bool.and_eq_true] at hw
 obtain ⟨e,he,hb,Q1⟩:=hw
 have:=hr.2.2 e (by simpa using he)
 rw [hb] at this
 obtain rfl:e.on=i:=Nat.eq_of_beq_eq_true Q1
 simpa using this
def ij (all:Array Oper) (listed:Array Bool):Prop:=∀ k i o,listed.getD k false=true→all[k]? =some o→waits o i=true→listed.getD i false=true
theorem ij.I9 {all:Array Oper} {listed:Array Bool} (c:ij all listed) {j i:Nat} (h:qI all j i) (hl:listed.getD j false=true):listed.getD i false=true:=by
 induction h with
 | one hj hw=>exact c _ _ _ hl hj hw
 | step hj hw _ ih=>exact ih (c _ _ _ hl hj hw)
theorem ij.ready {all:Array Oper} {listed:Array Bool} (c:ij all listed) {j i:Nat} (h:qI all j i) (hr:j∈Region.ready .any all listed):listed.getD i false=true:=by
 cases h with
 | one hj hw=>exact ph hj hr hw
 | step hj hw h=>exact c.I9 h (ph hj hr hw)
theorem su {all:Array Oper} {listed:Array Bool} {j:Nat} (hr:j∈Region.ready .any all listed):j < all.size∧listed.getD j true=false:=by
 simp only [Region.ready,List.mem_filter,List.mem_range,Bool.and_eq_true] at hr
 exact ⟨hr.1,by simpa using hr.2.1⟩
theorem uY {all:Array Oper} {m:Nat} (h:rI all m) {listed:Array Bool} (hl:listed.size=all.size) (hr:Region.ready .any all listed=[]):∀ i,i < all.size→listed.getD i false=true:=by
 intro i
 induction i using Nat.strongRecOn with
 | _ i ih=>
   intro hi
   cases hv:listed.getD i false with
   | true=>rfl
   | false=>
     exfalso
     have:i∈Region.ready .any all listed:=by
      simp only [Region.ready,List.mem_filter,List.mem_range,Bool.and_eq_true]
      have Z7:i < listed.size:=by omega
      refine ⟨hi,?_,?_⟩
      ·simp [Z7] at hv ⊢;exact hv
      ·have uZ:all[i]? =some all[i]:=by simp [hi]
       rw [uZ]
       simp only [Option.map_some,Option.getD_some,Array.all_eq_true_iff_forall_mem]
       intro e he
       cases hb:Region.binds .any e with
       | false=>simp
       | true=>
         have iv:=we h uZ he hb
         simp [ih e.on iv (by omega)]
     rw [hr] at this
     simp at this
section order
variable {P:Program} {all:Array Oper} {n m:Nat} {hp:Heap}
def cur (all:Array Oper) (ie:Nat→AV) (e:Env) (listed:Array Bool):Nat→Env
 | 0=>e
 | k+1=>if listed.getD k false then vr (cur all ie e listed k) ((all[k]?).bind (·.dst)) (ie k) else cur all ie e listed k
theorem lE {e:Env} {d:Option Nat} {av:AV} {s:Nat} (h:d≠some s):vr e d av s=e s:=by
 cases d with
 | none=>rfl
 | some d=>simp only [vr];rw [if_neg (fun e=>h (by rw [e]))]
theorem nR {e:Env} {av:AV} {s:Nat}:vr e (some s) av s=some av:=by simp [vr]
theorem wg {oi oj:Oper} {s:Nat} (hd:oi.dst=some s) (hs:s∈looks all oj):yE all oi oj=true:=by
 unfold yE
 rw [hd]
 cases hj:oj.dst<;>simp [hs]
theorem yG {oi oj:Oper} {s:Nat} (hd:oj.dst=some s) (hs:s∈looks all oi):yE all oi oj=true:=by
 unfold yE
 rw [hd]
 cases hi:oi.dst<;>simp [hs]
theorem BW {oi oj:Oper} {s:Nat} (hi:oi.dst=some s) (hj:oj.dst=some s):yE all oi oj=true:=by
 unfold yE
 rw [hi,hj]
 simp
structure GC (all:Array Oper) (m:Nat) (listed:Array Bool):Prop where
 size:listed.size=all.size
 head:∀ k,listed.getD k false=true→k < m
 closed:∀ k i o,listed.getD k false=true→all[k]? =some o→waits o i=true→listed.getD i false=true
theorem wR {listed:Array Bool} {i:Nat} (h:listed.getD i true=false):listed.getD i false=false:=by
 by_cases hi:i < listed.size
 ·simp [hi] at h ⊢;exact h
 ·simp [hi]
variable {ie:Nat→AV} {en:Nat→Env} {e:Env}
theorem Ja (hB:rI all m) {listed:Array Bool} (L:GC all m listed) (h0:en 0=e) (hs:∀ i o,i < m→all[i]? =some o→en (i+1)=vr (en i) o.dst (ie i)) (hm:m≤all.size)
 {i:Nat} {o:Oper} (ho:all[i]? =some o) (Bb:i < m) (qs:listed.getD i false=false) (hr:∀ j,qI all i j→listed.getD j false=true) {s:Nat} (IM:s∈looks all o):∀ k,k≤all.size→cur all ie e listed k s=en (min k i) s:=by
 intro k
 induction k with
 | zero=>intro _;simp [cur,h0]
 | succ k ih=>
   intro hk
   have tG:=ih (by omega)
   have rJ:all[k]? =some all[k]:=by simp [show k < all.size by omega]
   simp only [cur,rJ,Option.bind_some]
   rcases Nat.lt_trichotomy k i with iv | heq | BX
   ·rw [Nat.min_eq_left (by omega)] at tG
    rw [Nat.min_eq_left (by omega),hs k _ (by omega) rJ]
    by_cases hd:(all[k]).dst=some s
    ·have hl:listed.getD k false=true:=hr k ((iL hB ho rJ iv).1 Bb (wg hd IM))
     rw [if_pos hl,hd,nR,nR]
    ·rw [lE hd]
     split
     ·rw [lE hd];exact tG
     ·exact tG
   ·subst heq
    rw [qs]
    simp only [Bool.false_eq_true,if_false]
    rw [Nat.min_eq_right (by omega)]
    rw [Nat.min_eq_right (by omega)] at tG
    exact tG
   ·rw [Nat.min_eq_right (by omega)] at tG
    rw [Nat.min_eq_right (by omega)]
    by_cases hl:listed.getD k false=true
    ·by_cases hd:(all[k]).dst=some s
     ·exfalso
      have hw:=(iL hB rJ ho BX).1 (L.head k hl) (yG hd IM)
      have:=ij.I9 L.closed hw hl
      rw [qs] at this;cases this
     ·rw [if_pos hl,lE hd];exact tG
    ·rw [if_neg hl];exact tG
theorem cU {listed:Array Bool} {i k:Nat} (hi:i < listed.size):(listed.setIfInBounds i true).getD k false=(if k=i then true else listed.getD k false):=by
 by_cases hk:k < listed.size
 ·simp [hk,Array.getElem_setIfInBounds]
  by_cases h:k=i
  ·simp [h]
  ·have h':¬ i=k:=fun e=>h e.symm
   simp [h,h']
 ·have:k≠i:=by omega
  simp [hk,this]
theorem LB (hB:rI all m) {listed:Array Bool} (L:GC all m listed) {i:Nat} {o:Oper} (ho:all[i]? =some o) (Bb:i < m) (qs:listed.getD i false=false) (s:Nat):
 ∀ k,k≤all.size→cur all ie e (listed.setIfInBounds i true) k s=(if i < k then vr (cur all ie e listed k) o.dst (ie i) s else cur all ie e listed k s):=by
 have hi:i < listed.size:=by rw [L.size];exact (Array.getElem?_eq_some_iff.1 ho).1
 intro k
 induction k with
 | zero=>intro _;simp [cur]
 | succ k ih=>
   intro hk
   have tG:=ih (by omega)
   have rJ:all[k]? =some all[k]:=by simp [show k < all.size by omega]
   simp only [cur,rJ,Option.bind_some,cU hi]
   rcases Nat.lt_trichotomy k i with iv | heq | BX
   ·rw [if_neg (by omega)] at tG
    have e1:(if k=i then true else listed.getD k false)=listed.getD k false:=if_neg (by omega)
    rw [e1,if_neg (show ¬ i < k+1 by omega)]
    by_cases hl:listed.getD k false=true
    ·rw [if_pos hl,if_pos hl]
     by_cases hd:(all[k]).dst=some s
     ·rw [hd,nR,nR]
     ·rw [lE hd,lE hd];exact tG
    ·rw [if_neg hl,if_neg hl];exact tG
   ·subst heq
    rw [if_neg (by omega)] at tG
    have e1:(if k=k then true else listed.getD k false)=true:=if_pos rfl
    rw [e1,if_pos (show k < k+1 by omega),if_pos rfl,qs,if_neg Bool.false_ne_true]
    obtain rfl:all[k]=o:=by rw [rJ] at ho;exact Option.some.inj ho
    by_cases hd:(all[k]).dst=some s
    ·rw [hd,nR,nR]
    ·rw [lE hd,lE hd];exact tG
   ·rw [if_pos BX] at tG
    have e1:(if k=i then true else listed.getD k false)=listed.getD k false:=if_neg (by omega)
    rw [e1,if_pos (show i < k+1 by omega)]
    by_cases hl:listed.getD k false=true
    ·rw [if_pos hl,if_pos hl]
     by_cases hd:(all[k]).dst=some s
     ·by_cases Hy:o.dst=some s
      ·exfalso
       have hw:=(iL hB rJ ho BX).1 (L.head k hl) (BW Hy hd)
       have:=ij.I9 L.closed hw hl
       rw [qs] at this;cases this
      ·rw [hd,nR,lE Hy,nR]
     ·by_cases Hy:o.dst=some s
      ·rw [lE hd,tG,Hy,nR,nR]
      ·rw [lE hd,tG,lE Hy,lE Hy,lE hd]
    ·rw [if_neg hl,if_neg hl];exact tG
theorem zW (hB:rI all m) {Q:Exit→Act→World→Prop}:∀ (fuel k:Nat) (listed:Array Bool) (a:Act) (w:World),m≤k→k+fuel=all.size→listed.size=all.size→(∀ i,i < k→listed.getD i false=true)→(∀ i,k≤i→listed.getD i false=false)→
 wpList P all Q (all.toList.drop k) a w→wpAny P .any all Q fuel listed a w:=by
 intro fuel
 induction fuel with
 | zero=>
   intro k listed a w hm hk eN h1 h2 h
   have T4:all.toList.drop k=[]:=List.drop_eq_nil_of_le (by simp;omega)
   rw [T4] at h
   refine ⟨?_,h⟩
   refine List.eq_nil_iff_forall_not_mem.2 fun i hi=>?_
   obtain ⟨CL,DU⟩:=su hi
   have:=h1 i (by omega)
   rw [wR DU] at this
   cases this
 | succ fuel ih=>
   intro k listed a w hm hk eN h1 h2 h
   have T6:k < all.size:=by omega
   have rJ:all[k]? =some all[k]:=by simp [T6]
   refine ⟨fun hr=>?_,fun i hi=>?_⟩
   ·have:=uY hB eN hr k T6
    rw [h2 k (Nat.le_refl _)] at this
    cases this
   ·obtain ⟨CL,DU⟩:=su hi
    have uZ:all[i]? =some all[i]:=by simp [CL]
    obtain rfl:i=k:=by
     rcases Nat.lt_trichotomy i k with iv | heq | BX
     ·have:=h1 i iv;rw [wR DU] at this;cases this
     ·exact heq
     ·have xQ:ij all listed:=fun k' i' o SG Q2 WC=>by
       have iv:k' < k:=by
        rcases Nat.lt_or_ge k' k with h | h
        ·exact h
        ·rw [h2 k' h] at SG;cases SG
       simp only [waits,List.any_eq_true,Bool.and_eq_true] at WC
       obtain ⟨e',Hz,yB,Oi⟩:=WC
       have:=we hB Q2 (by simpa using Hz) yB
       obtain rfl:e'.on=i':=Nat.eq_of_beq_eq_true Oi
       exact h1 _ (by omega)
      have:=xQ.ready ((iL hB uZ rJ BX).2 (by omega)) hi
      rw [h2 k (Nat.le_refl _)] at this;cases this
    have Q3:all.toList.drop i=all[i] :: all.toList.drop (i+1):=by
     rw [List.drop_eq_getElem_cons (by simpa using T6)]
     simp
    rw [Q3] at h
    unfold wpList at h
    simp only [wpOp,rJ]
    have next:∀ a w,wpList P all Q (all.toList.drop (i+1)) a w→wpAny P .any all Q fuel (listed.setIfInBounds i true) a w:=fun a w hh=>by
     have jj:i < listed.size:=by omega
     refine ih (i+1) (listed.setIfInBounds i true) a w (by omega) (by omega) (by simpa using eN) (fun j hj=>?_) (fun j hj=>?_) hh
     ·rw [cU jj];split
      ·rfl
      ·exact h1 j (by omega)
     ·rw [cU jj,if_neg (by omega)];exact h2 j (by omega)
    split at h
    ·rename_i hw
     rw [if_pos hw]
     exact h.imp (fun hh=>Oper.wp_mono next hh) id
    ·rename_i hw
     rw [if_neg hw]
     exact next _ _ h
theorem jK {o:Oper} {e:Env} {b:Bool} {w:World} {S:Nat→Prop} {a:Act} (hw:nw all o e b) (r:xY w S (looks all o) e a):Region.wanted o (yielded all a.tmps)=b:=by
 unfold nw at hw
 unfold Region.wanted
 cases hg:o.guard with
 | none=>rw [hg] at hw;simp only at hw;rw [hw]
 | some g=>
   obtain ⟨j,want⟩:=g
   rw [hg] at hw
   simp only at hw
   obtain ⟨s,h1,⟨c,h2,h3⟩ | ⟨h2,h3⟩⟩:=hw
   ·obtain ⟨v,g1,g2⟩:=r s (by simp [looks,hg,h1]) _ h2
    cases g2
    rw [h3]
    cases c<;>cases want<;>simp [yielded,h1,g1]
   ·obtain ⟨v,g1,g2⟩:=r s (by simp [looks,hg,h1]) _ h2
    cases g2
    rw [h3]
    simp [yielded,h1,g1,undef]
def uh (w:World) (S:Nat→Prop) (e:Env) (a:Act):Prop:=∀ s av,e s=some av→∃ v,a.tmps[s]? =some v∧At w S av v
theorem Jb (hB:rI all m) (hm:m≤all.size) {Q:Exit→Act→World→Prop} (h0:en 0=e) (hs:∀ i o,i < m→all[i]? =some o→BU P all n hp o (en i) (ie i)∧en (i+1)=vr (en i) o.dst (ie i)) {w0:World} {S0:Nat→Prop}
 (fin:∀ a w S,a.tmps.size=n→a.defers=[]→ck w S hp→Grow w0 S0 w S→uh w S (en m) a→wpList P all Q (all.toList.drop m) a w):
 ∀ (fuel:Nat) (listed:Array Bool) (a:Act) (w:World) (S:Nat→Prop),GC all m listed→(listed.toList.count true)+fuel=all.size→a.tmps.size=n→a.defers=[]→ck w S hp→Grow w0 S0 w S→uh w S (cur all ie e listed all.size) a→
   wpAny P .any all Q fuel listed a w:=by
 have GD:∀ i o,i < m→all[i]? =some o→en (i+1)=vr (en i) o.dst (ie i):=fun i o h1 h2=>(hs i o h1 h2).2
 have done:∀ (fuel:Nat) (listed:Array Bool) (a:Act) (w:World) (S:Nat→Prop),GC all m listed→(listed.toList.count true)+fuel=all.size→a.tmps.size=n→a.defers=[]→ck w S hp→Grow w0 S0 w S→uh w S (cur all ie e listed all.size) a→
  (∀ i,i < m→listed.getD i false=true)→wpAny P .any all Q fuel listed a w:=by
  intro fuel listed a w S L hc eN va hr hg rq gB
  have GF:∀ i,m≤i→listed.getD i false=false:=fun i hi=>by
   cases hv:listed.getD i false with
   | false=>rfl
   | true=>have:=L.head i hv;omega
  have Jc:listed.toList.count true=m:=by
   have:listed.toList=List.replicate m true++List.replicate (all.size - m) false:=by
    apply List.ext_getElem?
    intro i
    rcases Nat.lt_or_ge i m with hi | hi
    ·have jj:i < listed.size:=by rw [L.size];omega
     rw [List.getElem?_append_left (by simpa using hi)]
     have:=gB i hi
     simp [jj] at this
     simp [jj,hi,this]
    ·rw [List.getElem?_append_right (by simpa using hi)]
     rcases Nat.lt_or_ge i listed.size with jj | jj
     ·have:=GF i hi
      simp [jj] at this
      have h2:i - m < all.size - m:=by rw [L.size] at jj;omega
      simp [jj,h2,this]
     ·have h2:¬ i - m < all.size - m:=by rw [L.size] at jj;omega
      simp [List.getElem?_eq_none (l:=listed.toList) (by simpa using jj),h2]
   rw [this,List.count_append,List.count_replicate,List.count_replicate]
   simp
  have Jd:cur all ie e listed all.size=en m:=by
   have key:∀ k,k≤all.size→cur all ie e listed k=en (min k m):=by
    intro k
    induction k with
    | zero=>intro _;simp [cur,h0]
    | succ k ih=>
      intro hk
      have rJ:all[k]? =some all[k]:=by simp [show k < all.size by omega]
      simp only [cur,rJ,Option.bind_some,ih (by omega)]
      rcases Nat.lt_or_ge k m with h | h
      ·rw [if_pos (gB k h),Nat.min_eq_left (by omega),Nat.min_eq_left (by omega),GD k _ h rJ]
      ·rw [if_neg (by rw [GF k h];simp),Nat.min_eq_right (by omega),Nat.min_eq_right (by omega)]
   rw [key all.size (Nat.le_refl _),Nat.min_eq_right hm]
  rw [Jd] at rq
  exact zW hB fuel m listed a w (Nat.le_refl _) (by omega) L.size gB GF (fin a w S eN va hr hg rq)
 intro fuel
 induction fuel with
 | zero=>
   intro listed a w S L hc eN va hr hg rq
   refine done 0 listed a w S L hc eN va hr hg rq (fun i hi=>?_)
   have xZ:listed.toList.count true=listed.toList.length:=by rw [Array.length_toList,L.size];omega
   have gB:=List.count_eq_length.1 xZ
   have jj:i < listed.size:=by rw [L.size];omega
   have:=gB listed[i] (by simp)
   simp [jj];exact this.symm
 | succ fuel ih=>
   intro listed a w S L hc eN va hr hg rq
   by_cases gB:∀ i,i < m→listed.getD i false=true
   ·exact done _ listed a w S L hc eN va hr hg rq gB
   ·refine ⟨fun Fz=>(gB fun i hi=>uY hB L.size Fz i (by omega)).elim,fun i hi=>?_⟩
    obtain ⟨CL,DU⟩:=su hi
    have qs:=wR DU
    have uZ:all[i]? =some all[i]:=by simp [CL]
    have Bb:i < m:=by
     rcases Nat.lt_or_ge i m with h | h
     ·exact h
     ·refine (gB fun j hj=>?_).elim
      have IK:all[j]? =some all[j]:=by simp [show j < all.size by omega]
      exact ij.ready L.closed ((iL hB uZ IK (by omega)).2 h) hi
    have jj:i < listed.size:=by rw [L.size];exact CL
    obtain ⟨⟨IH,yH⟩,_⟩:=hs i _ Bb uZ
    have nJ:xY w S (looks all all[i]) (en i) a:=by
     intro s IM av ll
     have hc:=Ja (ie:=ie) (en:=en) (e:=e) hB L h0 GD hm uZ Bb qs (fun j hj=>ij.ready L.closed hj hi) IM all.size (Nat.le_refl _)
     rw [Nat.min_eq_right (by omega)] at hc
     exact rq s av (by rw [hc];exact ll)
    have L':GC all m (listed.setIfInBounds i true):=by
     refine ⟨by simpa using L.size,fun k hk=>?_,fun k j o hk rJ hw=>?_⟩
     ·rw [cU jj] at hk
      split at hk
      ·omega
      ·exact L.head k hk
     ·rw [cU jj] at hk
      rw [cU jj]
      split
      ·rfl
      ·split at hk
       ·rename_i Q4
        subst Q4
        obtain rfl:all[k]=o:=by rw [uZ] at rJ;exact Option.some.inj rJ
        exact ph uZ hi hw
       ·exact L.closed k j o hk rJ hw
    have xZ:(listed.setIfInBounds i true).toList.count true+fuel=all.size:=by
     have DV:listed[i]=false:=by simpa [jj] using qs
     have:(listed.setIfInBounds i true).toList=listed.toList.set i true:=by simp
     rw [this,List.count_set (by simpa using jj)]
     have K7:listed.toList[i]'(by simpa using jj)=false:=by simpa using DV
     rw [K7]
     have e1:(if (false==true)=true then 1 else 0)=0:=rfl
     have e2:(if (true==true)=true then 1 else 0)=1:=rfl
     rw [e1,e2]
     omega
    have LC:∀ (v:Value) (w':World) (S':Nat→Prop),Grow w S w' S'→At w' S' (ie i) v→uh w' S' (cur all ie e (listed.setIfInBounds i true) all.size) (a.put (all[i]).dst v):=by
     intro v w' S' Nw mO s av ll
     rw [LB (ie:=ie) (e:=e) hB L uZ Bb qs s all.size (Nat.le_refl _),if_pos (by omega)] at ll
     by_cases hd:(all[i]).dst=some s
     ·rw [hd,nR] at ll
      obtain rfl:=Option.some.inj ll
      have LD:=IH s hd
      exact ⟨v,by rw [hd];simp [Act.put,eN,LD],mO⟩
     ·rw [lE hd] at ll
      obtain ⟨u,h1,h2⟩:=rq s av ll
      refine ⟨u,?_,h2.mono (Nw.iX hr.slt)⟩
      cases LF:(all[i]).dst with
      | none=>simpa [Act.put] using h1
      | some d'=>
        have tE:d'≠s:=fun e=>hd (by rw [LF,e])
        simp [Act.put,tE,h1]
    have Oj:∀ v,(a.put (all[i]).dst v).tmps.size=n:=fun v=>by cases (all[i]).dst<;>simp [Act.put,eN]
    have Ol:∀ v,(a.put (all[i]).dst v).defers=[]:=fun v=>by cases (all[i]).dst<;>simp [Act.put,va]
    simp only [wpOp,uZ]
    rcases yH with ⟨hw,La⟩ | ⟨hw,ll⟩
    ·rw [if_pos (jK hw nJ)]
     refine .inl (La w S a eN va hr nJ _ _ (fun v w' S' Nw mO=>?_))
     exact ih _ _ _ S' L' xZ (Oj v) (Ol v) (hr.grow Nw) (hg.trans Nw) (LC v w' S' Nw mO)
    ·rw [if_neg (by rw [jK hw nJ];simp)]
     refine ih _ _ _ S L' xZ (Oj _) (Ol _) hr hg (LC _ w S (Grow.refl hr.slt) ?_)
     rw [ll];exact .raw _
end order
theorem sV (d:Nat) (av:AV) (tm:List (Nat×AV)):lk ((d,av) :: tm)=vr (lk tm) (some d) av:=by
 funext s
 simp only [lk,vr]
 by_cases h:d=s
 ·subst h;simp
 ·rw [ng h,if_neg h]
def zt:List Nat→List (Nat×AV)→List (Nat×AV)
 | [],_=>[]
 | s :: r,tm=>match lk tm s with
   | some av=>(s,av) :: zt r tm
   | none=>zt r tm
theorem CM:∀ {ls:List Nat} {tm:List (Nat×AV)} {s:Nat} {av:AV},lk (zt ls tm) s=some av→s∈ls∧lk tm s=some av
 | [],tm,s,av,h=>by simp [zt,lk] at h
 | k :: ls,tm,s,av,h=>by
   simp only [zt] at h
   split at h
   ·rename_i dD hk
    simp only [lk] at h
    split at h
    ·rename_i hb
     obtain rfl:k=s:=by simpa using hb
     obtain rfl:=Option.some.inj h
     exact ⟨by simp,hk⟩
    ·obtain ⟨h1,h2⟩:=CM h
     exact ⟨by simp [h1],h2⟩
   ·obtain ⟨h1,h2⟩:=CM h
    exact ⟨by simp [h1],h2⟩
theorem oP {w:World} {S:Nat→Prop} {a:Act} {n:Nat} {hp:Heap} {ls:List Nat} {tm:List (Nat×AV)} (h1:a.tmps.size=n) (h2:a.defers=[]) (h3:ck w S hp) (h4:xY w S ls (lk tm) a):dH w S ⟨n,zt ls tm,hp⟩ a:=
 ⟨h1,h2,fun s av h=>h4 s (CM h).1 av (CM h).2,h3⟩
def AM (P:Program) (all:Array Oper) (n:Nat) (hp:Heap) (l:List Oper) (tm:List (Nat×AV)) (Q:List (Nat×AV)→Prop):Prop:=∃ ln,K9 P all n hp l (lk tm) (lk ln)∧Q ln
section rules
variable {P:Program} {all:Array Oper} {rest:List Oper} {n:Nat} {tm:List (Nat×AV)} {hp:Heap} {Q:List (Nat×AV)→Prop} {d:Nat} {ty:TypeId} {pos:String} {af:Array Edge} {op:Op}
theorem AM.nil (h:Q tm):AM P all n hp [] tm Q:=⟨tm,.nil _,h⟩
theorem AM.mv {av:AV} (h:MV P all n ⟨some d,op,ty,pos,af,none⟩ (lk tm) hp av) (hn:Nat.blt d n=true) (k:AM P all n hp rest ((d,av) :: tm) Q):AM P all n hp (⟨some d,op,ty,pos,af,none⟩ :: rest) tm Q:=by
 obtain ⟨ln,k1,k2⟩:=k
 refine ⟨ln,.run rfl h (fun d' hd=>?_) (by rw [sV] at k1;exact k1),k2⟩
 obtain rfl:=Option.some.inj hd
 simpa using hn
theorem AM.qv {av:AV} (q:QV P ⟨some d,op,ty,pos,af,none⟩ ⟨n,zt (looks all ⟨some d,op,ty,pos,af,none⟩) tm,hp⟩ av) (hn:Nat.blt d n=true) (k:AM P all n hp rest ((d,av) :: tm) Q):AM P all n hp (⟨some d,op,ty,pos,af,none⟩ :: rest) tm Q:=by
 refine AM.mv (fun w S a h1 h2 h3 h4 K Q' hK=>?_) hn k
 obtain ⟨v,g1,g2⟩:=q w S a (oP h1 h2 h3 h4)
 show Oper.upon P _ a K Q' _
 rw [g1 w (Ext.refl w)]
 exact hK v w S (Grow.refl h3.slt) g2
theorem AM.ar {j:Nat} {want b:Bool} {s:Nat} (hj:(all[j]?).bind (·.dst)=some s) (hs:lk tm s=some (.bool b)) (hb:b=want)
 (k:AM P all n hp (⟨some d,op,ty,pos,af,none⟩ :: rest) tm Q):AM P all n hp (⟨some d,op,ty,pos,af,some (j,want)⟩ :: rest) tm Q:=by
 obtain ⟨ln,k1,k2⟩:=k
 refine ⟨ln,?_,k2⟩
 cases k1 with
 | run hg h hd k=>
   refine .run ⟨s,hj,.inl ⟨b,hs,by simp [hb]⟩⟩ ?_ hd k
   intro w S a h1 h2 h3 h4 K Q' hK
   exact h w S a h1 h2 h3 (fun t ht=>h4 t (by simp only [looks,List.append_nil] at ht ⊢;exact List.mem_append_left _ ht)) K Q' hK
 | pass hg hd k=>simp [nw] at hg
theorem AM.aB {j:Nat} {want b:Bool} {s:Nat} (hj:(all[j]?).bind (·.dst)=some s) (hs:lk tm s=some (.bool b)) (hb:b=!want) (hn:Nat.blt d n=true)
 (k:AM P all n hp rest ((d,.raw undef) :: tm) Q):AM P all n hp (⟨some d,op,ty,pos,af,some (j,want)⟩ :: rest) tm Q:=by
 obtain ⟨ln,k1,k2⟩:=k
 refine ⟨ln,.pass ⟨s,hj,.inl ⟨b,hs,?_⟩⟩ (fun d' hd=>?_) (by rw [sV] at k1;exact k1),k2⟩
 ·rw [hb];cases want<;>rfl
 ·obtain rfl:=Option.some.inj hd
  simpa using hn
theorem AM.aX {j:Nat} {want:Bool} {s:Nat} (hj:(all[j]?).bind (·.dst)=some s) (hs:lk tm s=some (.raw undef)) (hn:Nat.blt d n=true)
 (k:AM P all n hp rest ((d,.raw undef) :: tm) Q):AM P all n hp (⟨some d,op,ty,pos,af,some (j,want)⟩ :: rest) tm Q:=by
 obtain ⟨ln,k1,k2⟩:=k
 refine ⟨ln,.pass ⟨s,hj,.inr ⟨hs,rfl⟩⟩ (fun d' hd=>?_) (by rw [sV] at k1;exact k1),k2⟩
 obtain rfl:=Option.some.inj hd
 simpa using hn
theorem AM.lit {l:List Oper} {s:Nat} {b c:Bool} (hs:lk tm s=some (.bool b)) (hb:b=c) (k:AM P all n hp l ((s,.bool c) :: tm) Q):AM P all n hp l tm Q:=by
 subst hb
 obtain ⟨ln,k1,k2⟩:=k
 have:lk ((s,.bool b) :: tm)=lk tm:=by
  rw [sV]
  funext t
  simp only [vr]
  split
  ·rename_i h;subst h;exact hs.symm
  ·rfl
 rw [this] at k1
 exact ⟨ln,k1,k2⟩
theorem AM.guard {j s:Nat} {want b:Bool} (hj:(all[j]?).bind (·.dst)=some s) (hs:lk tm s=some (.bool b)) (hn:Nat.blt d n=true) (h1:b=want→AM P all n hp (⟨some d,op,ty,pos,af,none⟩ :: rest) ((s,.bool want) :: tm) Q)
 (h2:b=!want→AM P all n hp rest ((d,.raw undef) :: (s,.bool (!want)) :: tm) Q):AM P all n hp (⟨some d,op,ty,pos,af,some (j,want)⟩ :: rest) tm Q:=by
 by_cases hb:b=want
 ·exact AM.lit hs hb (AM.ar hj (by simp [lk]) rfl (h1 hb))
 ·have yB:b=!want:=by cases b<;>cases want<;>simp_all
  exact AM.lit hs yB (AM.aB hj (b:=!want) (by simp [lk]) rfl hn (h2 yB))
theorem AM.bV {j s:Nat} {p:Prop} [Decidable p] (hj:(all[j]?).bind (·.dst)=some s) (hs:lk tm s=some (.bool (decide p))) (hn:Nat.blt d n=true) (h1:p→AM P all n hp (⟨some d,op,ty,pos,af,none⟩ :: rest) ((s,.bool true) :: tm) Q)
 (h2:¬ p→AM P all n hp rest ((d,.raw undef) :: (s,.bool false) :: tm) Q):AM P all n hp (⟨some d,op,ty,pos,af,some (j,true)⟩ :: rest) tm Q:=
 AM.guard hj hs hn (fun h=>h1 (of_decide_eq_true h)) (fun h=>h2 (of_decide_eq_false h))
theorem AM.iK {j s:Nat} {p:Prop} [Decidable p] (hj:(all[j]?).bind (·.dst)=some s) (hs:lk tm s=some (.bool (decide p))) (hn:Nat.blt d n=true) (h1:¬ p→AM P all n hp (⟨some d,op,ty,pos,af,none⟩ :: rest) ((s,.bool false) :: tm) Q)
 (h2:p→AM P all n hp rest ((d,.raw undef) :: (s,.bool true) :: tm) Q):AM P all n hp (⟨some d,op,ty,pos,af,some (j,false)⟩ :: rest) tm Q:=
 AM.guard hj hs hn (fun h=>h1 (of_decide_eq_false h)) (fun h=>h2 (of_decide_eq_true h))
theorem AM.oE {f:FuncId} {args:List Operand} {ts:Array TypeId} {l l':List AV} {R:AV} [ba P f] (hl:wN (zt (looks all ⟨some d,.call {callee:=.value (.func f),args:=args.toArray,argTypes:=ts},ty,pos,af,none⟩) tm) args=some l) (c:Pu P f l' R) (co:wb hp l l') (hn:Nat.blt d n=true)
 (k:AM P all n hp rest ((d,R) :: tm) Q):AM P all n hp (⟨some d,.call {callee:=.value (.func f),args:=args.toArray,argTypes:=ts},ty,pos,af,none⟩ :: rest) tm Q:=by
 refine AM.mv (fun w S a h1 h2 h3 h4 K Q' hK=>?_) hn k
 have r:=oP h1 h2 h3 h4
 show Oper.upon P _ a K Q' _
 rw [mQ]
 obtain ⟨g1,g2⟩:=qH r hl
 obtain ⟨g3,g4⟩:=wb.at r.hp co g1 g2
 refine (c w S _ (ss h3.slt h3.gq) (by simpa using g3) g4).mono ?_
 rintro e w' ⟨v,rr,h',S',rfl,rfl,k3,k4,k5⟩
 exact hK v w' S' ⟨k5.DP,fun m hm=>(k5.iX m hm).1,fun m hm hs=>(k5.other m hm (fun ⟨x,hx,_⟩=>by simp at hx)).2 hs,k4.slt⟩ k3
theorem AM.Om {f:FuncId} {args:List Operand} {ts:Array TypeId} {l l':List AV} {R:AV} [ba P f] (hl:wN (zt (looks all ⟨some d,.call {callee:=.value (.func f),args:=args.toArray,argTypes:=ts},ty,pos,af,none⟩) tm) args=some l) (c:Pu P f l' R) (co:r6 hp l l') (hn:Nat.blt d n=true) (hR:R.QW=true)
 (k:AM P all n hp rest ((d,R) :: tm) Q):AM P all n hp (⟨some d,.call {callee:=.value (.func f),args:=args.toArray,argTypes:=ts},ty,pos,af,none⟩ :: rest) tm Q:=by
 refine AM.mv (fun w S a h1 h2 h3 h4 K Q' hK=>?_) hn k
 have r:=oP h1 h2 h3 h4
 show Oper.upon P _ a K Q' _
 rw [mQ]
 obtain ⟨g1,g2⟩:=qH r hl
 obtain ⟨g3,g4⟩:=r6.at r.hp co g1 g2
 refine (c w (SB S hp) _ (ss (fun m hm=>hm.elim (h3.slt m) fun h=>h3.lt h) (fun g o ho=>⟨.inl (h3.gq g o ho).1,(h3.gq g o ho).2⟩)) (by simpa using g3) g4).mono ?_
 rintro e w' ⟨v,rr,h',S',rfl,rfl,k3,k4,k5⟩
 have ex:=k5.DP
 exact hK v w' S ⟨ex,fun m hm=>hm,fun m _ hs=>hs,fun m hm=>Nat.lt_of_lt_of_le (h3.slt m hm) ex.size⟩ (I6 k3 hR)
theorem AM.fG {t e:TypeId} {i:TypeInfo} {z:Value} {len sz:Nat} {parts:List (Nat×Operand)} {xs:List AV} [ay P t (.slice e)] [aP P e i] [j7 P e sz] (hz:i.zero=some z)
 (hl:Hw (zt (looks all ⟨some d,.buildSlice t len parts.toArray,ty,pos,af,none⟩) tm) parts 0=some xs) (hlen:Nat.beq parts.length len=true) (tF:ub i.size xs=true) (Gv:Nat.ble (len * i.size) 16777216=true) (hn:Nat.blt d n=true)
 (k:AM P all n hp rest ((d,.list sz xs) :: tm) Q):AM P all n hp (⟨some d,.buildSlice t len parts.toArray,ty,pos,af,none⟩ :: rest) tm Q:=by
 obtain ⟨i',CL,DU⟩:=j7.h (P:=P) (t:=e)
 obtain rfl:i'=i:=by rw [aP.h (P:=P) (t:=e)] at CL;exact (Option.some.inj CL).symm
 subst DU
 refine AM.mv (fun w S a h1 h2 h3 h4 K Q' hK=>?_) hn k
 have r:=oP h1 h2 h3 h4
 obtain rfl:parts.length=len:=Nat.eq_of_beq_eq_true hlen
 have Gv:=Nat.le_of_ble_eq_true Gv
 obtain ⟨zz,DA⟩:∃ zz:Array Value,zz=if parts.length * i'.size=0 then #[] else z.cells:=⟨_,rfl⟩
 obtain ⟨vs,g1,g2,g3,g4⟩:=wP r i'.size parts 0 xs ((Array.range (parts.length * i'.size)).map (zz[· % zz.size]!)) hl (jy tF) (by simp)
 simp only [Nat.zero_mul,List.take_zero,List.nil_append] at g1
 have e0:=Ext.alloc w (.cells vs.toArray e)
 have qG:(execOp a.eval ⟨some d,.buildSlice t parts.length parts.toArray,ty,pos,af,none⟩).run P w=.ok (.value (.slice (some ⟨w.heap.size,0,none⟩) parts.length parts.length)) (w.alloc (.cells vs.toArray e)):=by
  have hm:((parts.toArray.map fun p=>(p.1,a.eval p.2))).toList=parts.map fun p=>(p.1,a.eval p.2):=by simp
  simp only [execOp,Instr.buildSlice,Sem.run_bind,run_underlying (ay.h (P:=P) (t:=t)),Result.andThen_ok,sizeOf,typeInfo,run_program,aP.h (P:=P) (t:=e),Sem.run_pure]
  rw [if_neg (by omega)]
  by_cases h0:parts.length * i'.size=0
  ·rw [if_pos h0] at DA ⊢
   subst DA
   simp only [Sem.run_bind,Result.andThen_ok,Sem.run_pure,hm,g1,oN]
  ·rw [if_neg h0] at DA ⊢
   subst DA
   simp only [Sem.run_bind,Result.andThen_ok,Sem.run_pure,zeroValue,typeInfo,run_program,aP.h (P:=P) (t:=e),hz,hm,g1,oN]
 show Oper.upon P _ a K Q' _
 rw [qG]
 have Je:(w.alloc (.cells vs.toArray e)).heap[w.heap.size]? =some (.cells vs.toArray e (0,0)):=by
  show (w.heap.push _)[w.heap.size]? =_
  simp
 refine hK _ _ (fun m=>S m∨m=w.heap.size) ⟨e0,fun m hm=>.inl hm,fun m hm hs=>hs.elim id (fun h=>by omega),fun m hm=>?_⟩ ?_
 ·rcases hm with hm | hm
  ·exact Nat.lt_of_lt_of_le (h3.slt m hm) e0.size
  ·subst hm;simp
 ·have:=At.list (w:=w.alloc (.cells vs.toArray e)) (S:=fun m=>S m∨m=w.heap.size) i'.size xs (some ⟨w.heap.size,0,none⟩) parts.length vs (jy tF) (by rw [bA (jy tF),g2]) (fun j c u hc hu=>?_) (fun j u hu=>?_) (by omega)
  ·rw [g3] at this;exact this
  ·exact (g4 j c u hc (by simpa using hu)).mono fun m hm=>⟨.inl hm,e0.same m (h3.slt m hm)⟩
  ·refine ⟨_,rfl,rfl,.inr rfl,?_⟩
   rw [nk Je]
   simpa using hu
end rules
def Br:Nat→List Oper→Option (List Oper×List Oper)
 | 0,l=>some ([],l)
 | m+1,o :: l=>match Br m l with
   | some (a,b)=>some (o :: a,b)
   | none=>none
 | _+1,[]=>none
theorem qt:∀ {m:Nat} {l a b:List Oper},Br m l=some (a,b)→l=a++b∧a.length=m
 | 0,l,a,b,h=>by simp [Br] at h;obtain ⟨rfl,rfl⟩:=h;exact ⟨rfl,rfl⟩
 | m+1,[],a,b,h=>by simp [Br] at h
 | m+1,o :: l,a,b,h=>by
   simp only [Br] at h
   split at h
   ·rename_i a' b' h'
    simp only [Option.some.injEq,Prod.mk.injEq] at h
    obtain ⟨rfl,rfl⟩:=h
    obtain ⟨h1,h2⟩:=qt h'
    exact ⟨by rw [h1];rfl,by simp [h2]⟩
   ·cases h
theorem aa.bQ {P:Program} {R:St→Prop} {k:List It} {id n:Nat} {tm:List (Nat×AV)} {hp:Heap} {l hd tl:List Oper} (m:Nat) (hm:P.follows .mixedOrders=true) (hs:Br m l=some (hd,tl)) {A:List Nat} (hA:Bq l.toArray=A) (Q5:BV l.toArray m A=true)
 (h:AM P l.toArray n hp hd tm (fun ln=>ae P l.toArray tl ⟨n,ln,hp⟩ (aa P R k))):aa P R (.code (.region id l.toArray true) :: k) ⟨n,tm,hp⟩:=by
 have hB:rI l.toArray m:=⟨A,hA,Q5⟩
 intro w S a r
 obtain ⟨hl,HA⟩:=qt hs
 obtain ⟨ln,hA,qG⟩:=h
 obtain ⟨ie,en,e0,e1,e2⟩:=hA.zU
 have eN:m≤l.toArray.size:=by simp [hl,HA]
 refine wp_region_any hm ?_
 have ui:Ext w {w with drawn:=w.drawn+1}:=Ext.BO w _ (Nat.le_succ _)
 have g0:Grow w S {w with drawn:=w.drawn+1} S:=⟨ui,fun _ h=>h,fun _ _ h=>h,fun n hn=>r.hp.slt n hn⟩
 have LH:∀ k,cur l.toArray ie (lk tm) (Array.replicate l.toArray.size false) k=lk tm:=by
  intro k
  induction k with
  | zero=>rfl
  | succ k ih=>
    simp only [cur,ih]
    rw [if_neg]
    rcases Nat.lt_or_ge k l.toArray.size with h | h
    ·simp at h;simp [h]
    ·simp at h;simp [Nat.not_lt.2 h]
 have hf:∀ k,(Array.replicate l.toArray.size false).getD k false=false:=by
  intro k
  rcases Nat.lt_or_ge k l.toArray.size with h | h
  ·simp at h;simp [h]
  ·simp at h;simp [Nat.not_lt.2 h]
 refine Jb (P:=P) (all:=l.toArray) (n:=n) (m:=m) (hp:=hp) (ie:=ie) (en:=en) (e:=lk tm) hB eN e0 (fun i o hi ho=>e2 i o ?_) (w0:=w) (S0:=S) (fun a' w' S' h1 h2 h3 h4 h5=>?_) l.toArray.size (Array.replicate l.toArray.size false) a _ S
  ⟨by simp,(fun k hk=>by rw [hf k] at hk;cases hk),(fun k i o hk=>by rw [hf k] at hk;cases hk)⟩ (by simp [List.count_replicate]) r.size r.defers (r.hp.ext ui) g0 (by rw [LH];exact (r.ext ui).tm)
 ·have:l[i]? =some o:=by simpa using ho
  rw [hl,List.getElem?_append_left (by omega)] at this
  exact this
 ·have Nx:l.toArray.toList.drop m=tl:=by
   simp only [hl,← HA]
   exact List.drop_left
  rw [Nx]
  have T9:en m=lk ln:=by rw [← HA];exact e1
  rw [T9] at h5
  refine fF ?_ _ _ _ (qG.go (h:=hp) (w:=w) (S:=S) ⟨h1,h2,h5,h3⟩ (h4.PC r.hp.slt hp))
  rintro ex a2 w2 ⟨rfl,Fo,S2,q1,q2,q3⟩
  exact ⟨Fo,S2,q1,q2,q3⟩
section
variable {P:Program} {all:Array Oper} {rest:List Oper} {n:Nat} {hp:Heap} {tm:List (Nat×AV)} {Q:List (Nat×AV)→Prop} {dd:Option Nat} {ty:TypeId} {pos:String} {af:Array Edge}
end
theorem Ua {α β:Type} {o:Option α} {f:α→Option β} {r:β} (h:o.bind f=some r):∃ v,o=some v∧f v=some r:=by
 cases o with
 | none=>cases h
 | some v=>exact ⟨v,rfl,h⟩
theorem kM {α:Type} {p:Prop} [Decidable p] {a b x:α} (hp:p) (h:(if p then a else b)=x):a=x:=by rw [if_pos hp] at h;exact h
theorem uj {α:Type} {p:Prop} [Decidable p] {a b x:α} (hp:¬ p) (h:(if p then a else b)=x):b=x:=by rw [if_neg hp] at h;exact h
theorem mR {α:Type} {p:Bool} {a b x:α} (hp:p=false) (h:(if p=true then a else b)=x):b=x:=by rw [if_neg (by simp [hp])] at h;exact h
def pW {X A:Type} (f:X→Option (X⊕A)):Nat→X→Option A
 | 0,_=>none
 | n+1,x=>match f x with
   | none=>none
   | some (.inl y)=>pW f n y
   | some (.inr a)=>some a
theorem DW {X A:Type} {f:X→Option (X⊕A)} {a:A}:∀ {n:Nat} {x:X},pW f n x=some a→pW f (n+1) x=some a
 | 0,x,h=>by cases h
 | n+1,x,h=>by
   unfold pW at h ⊢
   split at h
   ·cases h
   ·exact DW h
   ·exact h
theorem zX {X A:Type} {f:X→Option (X⊕A)} {a:A} {x:X} {n:Nat} (h:pW f n x=some a):∀ m,pW f (n+m) x=some a
 | 0=>h
 | m+1=>DW (zX h m)
theorem HB {X A:Type} {f:X→Option (X⊕A)} {a b:A} {x:X} {n m:Nat} (h:pW f n x=some a) (k:pW f m x=some b):a=b:=by
 have h1:=zX h m
 have h2:=zX k n
 rw [Nat.add_comm] at h2
 rw [h1] at h2
 exact Option.some.inj h2
open Classical in
noncomputable def iter {X A:Type} (f:X→Option (X⊕A)) (x:X):Option A:=
 if h:∃ a n,pW f n x=some a then some h.choose else none
theorem vb {X A:Type} {f:X→Option (X⊕A)} {x:X} {a:A}:iter f x=some a↔∃ n,pW f n x=some a:=by
 unfold iter
 constructor
 ·intro h
  split at h
  ·rename_i hx
   obtain ⟨n,hn⟩:=hx.choose_spec
   exact ⟨n,by rw [hn];exact h⟩
  ·cases h
 ·rintro ⟨n,hn⟩
  have hx:∃ a n,pW f n x=some a:=⟨a,n,hn⟩
  rw [dif_pos hx]
  obtain ⟨m,hm⟩:=hx.choose_spec
  rw [HB hm hn]
def after {X A:Type} (k:X→Option A):X⊕A→Option A
 | .inl y=>k y
 | .inr a=>some a
theorem iter_eq {X A:Type} (f:X→Option (X⊕A)) (x:X):iter f x=(f x).bind (after (iter f)):=by
 apply Option.ext
 intro a
 rw [vb]
 constructor
 ·rintro ⟨n,hn⟩
  match n with
  | 0=>cases hn
  | n+1=>
    unfold pW at hn
    split at hn
    ·cases hn
    ·rename_i y hy;rw [hy];exact vb.2 ⟨n,hn⟩
    ·rename_i b hb;rw [hb];exact hn
 ·intro h
  obtain ⟨s,hs,h⟩:=Ua h
  cases s with
  | inl y=>
    obtain ⟨n,hn⟩:=vb.1 h
    exact ⟨n+1,by unfold pW;rw [hs];exact hn⟩
  | inr b=>exact ⟨1,by unfold pW;rw [hs];exact h⟩
theorem cH {X A:Type} {o:Option A} {s:X⊕A} {a:A} (h:o.map .inr=some s) (hA:∀ a',s=.inr a'→a'=a):o=some a:=by
 cases o with
 | none=>cases h
 | some b=>
   have:=Option.some.inj h
   rw [hA b this.symm]
@[simp] theorem jf {X A:Type} (k:X→Option A) (y:X):after k (.inl y)=k y:=rfl
@[simp] theorem PD {X A:Type} (k:X→Option A) (a:A):after k (.inr a)=some a:=rfl
theorem ec {X A:Type} (o:Option A) (k:X→Option A):(o.map Sum.inr).bind (after k)=o:=by cases o<;>rfl
def idx {α:Type} (xs:List α) (i:Int):Option α:=if 0≤i then xs[i.toNat]? else none
def app {α:Type} (xs ys:List α):Option (List α):=if xs.length+ys.length≤1000000000 then some (xs++ys) else none
def zY {α:Type} (xs:List α) (l h:Int):Option (List α):=if 0≤l∧l≤h∧h≤xs.length then some ((xs.drop l.toNat).take (h.toNat - l.toNat)) else none
abbrev aZ (i:Int):Int:=IntKind.i64.wrap i
def quo (a b:Int):Option Int:=if b=0 then none else some (aZ (a.tdiv b))
def rem (a b:Int):Option Int:=if b=0 then none else some (a.tmod b)
theorem Jf {α:Type} {e:α→AV} {xs:List α} {i:Int} {x:α} (h:idx xs i=some x):I1 (xs.map e) i=some (e x):=by
 unfold idx at h;unfold I1
 split at h
 ·rename_i h0;rw [if_pos h0,List.getElem?_map,h];rfl
 ·cases h
theorem ep {α:Type} {xs:List α} {i:Int} {x:α} (h:idx xs i=some x):0≤i∧i < xs.length∧xs[i.toNat]? =some x:=by
 unfold idx at h
 split at h
 ·rename_i h0
  have:=(List.getElem?_eq_some_iff.1 h).1
  exact ⟨h0,by omega,h⟩
 ·cases h
theorem DX {α:Type} {xs ys zs:List α} (h:app xs ys=some zs):xs.length+ys.length≤1000000000∧zs=xs++ys:=by
 unfold app at h
 split at h
 ·exact ⟨by assumption,(Option.some.inj h).symm⟩
 ·cases h
theorem sv {α:Type} {xs zs:List α} {l h:Int} (hh:zY xs l h=some zs):(0≤l∧l≤h∧h≤xs.length)∧zs=(xs.drop l.toNat).take (h.toNat - l.toNat):=by
 unfold zY at hh
 split at hh
 ·exact ⟨by assumption,(Option.some.inj hh).symm⟩
 ·cases hh
theorem Jg {a b c:Int} (h:quo a b=some c):b≠0∧c=aZ (a.tdiv b):=by
 unfold quo at h
 split at h
 ·cases h
 ·exact ⟨by assumption,(Option.some.inj h).symm⟩
theorem Jh {a b c:Int} (h:rem a b=some c):b≠0∧c=a.tmod b:=by
 unfold rem at h
 split at h
 ·cases h
 ·exact ⟨by assumption,(Option.some.inj h).symm⟩
section
variable {P:Program} {R:St→Prop} {k:List It} {σ:St}
theorem aa.cut {c:Code} (I:St→Prop) (h:aa P R (.code c :: .stop (fun aK=>aj aK I) :: k) σ) (hk:∀ aK,I aK→aa P R k aK):aa P R (.code c :: k) σ:=by
 intro w S a r
 refine wp_mono (h w S a r) ?_
 rintro e a' w' ⟨aK,S',h1,h2,h3⟩
 cases e with
 | normal=>
   obtain ⟨Fy,QM,hI,hr,he⟩:=h1 w' S' a' h2
   exact ⟨Fy,QM,hk Fy hI,hr,h3.trans he⟩
 | exit id=>exact ⟨aK,S',h1,h2,h3⟩
 | goto l=>exact ⟨aK,S',h1,h2,h3⟩
 | ret=>exact ⟨aK,S',h1,h2,h3⟩
 | panic c=>exact ⟨aK,S',h1,h2,h3⟩
 | outgrown=>exact ⟨aK,S',h1,h2,h3⟩
theorem aa.ff {body:Code} {X A:Type} (f:X→Option (X⊕A)) (mk:X→St→Prop) {a:A} {x0:X} (h:iter f x0=some a) (h0:aj σ (mk x0))
 (hs:∀ x s σ (J:St→Prop),mk x σ→f x=some s→(∀ y aK,s=.inl y→aj aK (mk y)→J aK)→(∀ a',s=.inr a'→a'=a)→aa P R (.code body :: .stop J :: k) σ):
 aa P R (.code (.loop body) :: k) σ:=by
 obtain ⟨m,hm⟩:=vb.1 h
 refine aa.Nv (fun m σ=>∃ x,pW f m x=some a∧mk x σ) m (h0.mono fun aK Ub=>⟨x0,hm,Ub⟩) ?_
 rintro m zr ⟨x,hx,iV⟩
 match m with
 | 0=>cases hx
 | m+1=>
   unfold pW at hx
   split at hx
   ·cases hx
   ·rename_i y hy
    refine hs x _ zr _ iV hy (fun y' aK e hi=>⟨m,by omega,hi.mono fun Fy hk=>⟨y',?_,hk⟩⟩) (fun a' e=>by cases e)
    have:=Sum.inl.inj e
    rw [← this];exact hx
   ·rename_i b hb
    refine hs x _ zr _ iV hb (fun y' aK e _=>by cases e) (fun a' e=>?_)
    rw [← Sum.inr.inj e];exact Option.some.inj hx
end
inductive zu:Heap→Heap→Heap→Prop
 | nil {h:Heap}:zu h [] h
 | cons {h h1 t r:Heap} {b:Bk} {o:Ob} (u:xV h b o h1) (k:zu h1 t r):zu h ((b,o) :: t) r
theorem zu.perm {h t r:Heap} (s:zu h t r):h.Perm (t++r):=by
 induction s with
 | nil=>exact List.Perm.refl _
 | cons u k ih=>exact u.perm.trans (List.Perm.cons _ ih)
section rules
variable {P:Program} {all:Array Oper} {rest:List Oper} {n:Nat} {tm:List (Nat×AV)} {hp:Heap} {Q:St→Prop} {d:Nat} {ty:TypeId} {pos:String} {af:Array Edge}
theorem wh {f:FuncId} {args:List Operand} {ts:Array TypeId} {l l':List AV} {h0 hr:Heap} {Qc:AV→Heap→Prop} [ba P f] (hl:wN tm args=some l) (c:aG P f l' h0 Qc) (co:wb hp l l') (hs:zu hp h0 hr) (hn:Nat.blt d n=true)
 (kk:∀ r h',Qc r h'→ae P all rest ⟨n,(d,r) :: tm,h'++hr⟩ Q):ae P all (⟨some d,.call {callee:=.value (.func f),args:=args.toArray,argTypes:=ts},ty,pos,af,none⟩ :: rest) ⟨n,tm,hp⟩ Q:=
 I5 hl c co hs.perm hn kk
theorem LJ {f:FuncId} {x:Operand} {args:List Operand} {ts:Array TypeId} {rn l l' lc:List AV} {h0 hr:Heap} {Qc:AV→Heap→Prop} [ba P f] (hx:bY tm x=some (.func (.func f) rn)) (hl:wN tm args=some l) (Q6:pg (l++rn)=some lc) (c:aG P f l' h0 Qc) (co:wb hp lc l') (hs:zu hp h0 hr) (hn:Nat.blt d n=true)
 (kk:∀ r h',Qc r h'→ae P all rest ⟨n,(d,r) :: tm,h'++hr⟩ Q):ae P all (⟨some d,.call {callee:=.value x,args:=args.toArray,argTypes:=ts},ty,pos,af,none⟩ :: rest) ⟨n,tm,hp⟩ Q:=
 Gx hx hl c (by rw [kL Q6];exact co) hs.perm hn kk
theorem cK {α:Type} {g:α→AV} {Xs:List α} {el:α} {t e:TypeId} {i:TypeInfo} {x y:Operand} {k:IntKind} {j:Int} {cs:List AV} {sz:Nat} [ay P t (.slice e)] [aP P e i] (hx:bY tm x=some (.list sz (Xs.map g))) (eN:Nat.beq i.size sz=true) (hy:bY tm y=some (.int k j))
 (hv:idx Xs j=some el) (h0:Nat.blt 0 sz=true) (hc:pg (g el).cells=some cs):QV P ⟨some d,.indexAddr t x y,ty,pos,af,none⟩ ⟨n,tm,hp⟩ (.ji cs):=by
 rw [← kL hc]
 exact CG hx eN hy (Jf hv) h0
theorem fS {α:Type} {g:α→AV} {Xs:List α} {x:Operand} {t e:TypeId} {sz:Nat} [ay P t (.slice e)] (hx:bY tm x=some (.list sz (Xs.map g))):QV P ⟨some d,.call {callee:=.builtin .len,args:=#[x],argTypes:=#[t]},ty,pos,af,none⟩ ⟨n,tm,hp⟩ (.int .i64 (Xs.length:Nat)):=by
 have h:=Fu (P:=P) (d:=d) (ty:=ty) (pos:=pos) (af:=af) (n:=n) (tm:=tm) (hp:=hp) (t:=t) (e:=e) hx
 rw [List.length_map] at h
 exact h
theorem Q7 {k:IntKind} {xt yt:TypeId} {x y:Operand} {i j:Int} (hx:bY tm x=some (.int k i)) (hy:bY tm y=some (.int k j)) (h0:j≠0):QV P ⟨some d,.binOp .quo xt x y yt,ty,pos,af,none⟩ ⟨n,tm,hp⟩ (.int k (k.wrap (i.tdiv j))):=
 tX hx hy (v:=.int k (k.wrap (i.tdiv j))) (fun w=>by simp [binOp,Op.intDiv,h0]) (fun w S=>.int _ _)
theorem On {xt yt:TypeId} {x y:Operand} {i j r:Int} (hx:bY tm x=some (.int .i64 i)) (hy:bY tm y=some (.int .i64 j)) (h:quo i j=some r):QV P ⟨some d,.binOp .quo xt x y yt,ty,pos,af,none⟩ ⟨n,tm,hp⟩ (.int .i64 r):=by
 obtain ⟨h0,rfl⟩:=Jg h
 exact Q7 hx hy h0
theorem Ji {k:IntKind} {xt yt:TypeId} {x y:Operand} {i j r:Int} (hx:bY tm x=some (.int k i)) (hy:bY tm y=some (.int k j)) (h:rem i j=some r):QV P ⟨some d,.binOp .rem xt x y yt,ty,pos,af,none⟩ ⟨n,tm,hp⟩ (.int k r):=by
 obtain ⟨h0,rfl⟩:=Jh h
 exact Nr hx hy h0
theorem j9 {x y:Operand} {t:TypeId} {s:List UInt8} {k:IntKind} {i:Int} {c:UInt8} [ay P t .string] (hx:bY tm x=some (.str s)) (hy:bY tm y=some (.int k i)) (hc:idx s i=some c):QV P ⟨some d,.index t x y,ty,pos,af,none⟩ ⟨n,tm,hp⟩ (.int .u8 (c.toNat:Int)):=
 let ⟨h0,_,h⟩:=ep hc
 DE hx hy h0 h
theorem iM {α:Type} {g:α→AV} {Xs Ys Zs:List α} {t e:TypeId} {i:TypeInfo} {z:Value} {x y:Operand} {src:AV} {b:Bk} {len sz:Nat} {bZ:Bk→Heap} [ay P t (.slice e)] [aP P e i] (hx:bY tm x=some (.sl sz b 0 len)) (hy:bY tm y=some src) (hz:i.zero=some z)
 (xR:Nat.beq z.cells.size i.size=true) (eN:Nat.beq i.size sz=true) (h0:Nat.blt 0 sz=true) (hn:Nat.blt d n=true) (TZ:Nat.ble i.bytes 65536=true) (hs:Src hp sz src (Ys.map g)) (hv:app Xs Ys=some Zs) (u:∀ b',iw hp b (.arr sz (Xs.map g)) b' (.arr sz (Zs.map g)) (bZ b')) (hlen:len=Xs.length)
 (kk:∀ b':Bk,ae P all rest ⟨n,(d,.sl sz b' 0 Zs.length) :: tm,bZ b'⟩ Q):ae P all (⟨some d,.call {callee:=.builtin .append,args:=#[x,y],argTypes:=#[t,t]},ty,pos,af,none⟩ :: rest) ⟨n,tm,hp⟩ Q:=by
 obtain ⟨hb,rfl⟩:=DX hv
 subst hlen
 refine Hx (xs:=Xs.map g) (ys:=Ys.map g) (bZ:=bZ) hx hy hz xR eN h0 hn TZ hs (by simpa using u) (by simp) (by simpa using hb) (fun b'=>?_)
 have:=kk b'
 simpa using this
end rules
end Go.Eng
