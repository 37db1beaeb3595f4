/- The engine: abstract values, the symbolic heap, one rule for each operation. No program in sight. -/
import Derived.Test.YtpibecbdhjbanaaGreatDoorEngA
set_option linter.unusedVariables false
set_option linter.unusedSectionVars false
namespace Go.Eng
open Go
variable [bD]
theorem xq {tm:List (Nat×AV)}:∀ {parts:List (Nat×Operand)} {k:Nat} {xs:List AV},Ga tm parts k=some xs→xs.length=parts.length
 | [],k,xs,h=>by simp [Ga] at h;subst h;rfl
 | (i,x) :: parts,k,xs,h=>by
   simp only [Ga] at h
   split at h
   ·rename_i a l h1 h2 h3
    obtain rfl:=Option.some.inj h
    simp [xq h3]
   ·cases h
section rules
variable {P:Program} {all:Array Oper} {rest:List Oper} {n:Nat} {tm:List (Nat×AV)} {hp:Heap} {Q:St→Prop} {d:Nat} {ty:TypeId} {pos:String} {af:Array Edge}
theorem yO {t e:TypeId} {i:TypeInfo} {z:Value} {len:Nat} {parts:List (Nat×Operand)} {xs:List AV} [ax P t (.slice e)] [aV P e i] (hz:i.zero=some z) (hl:Ga tm parts 0=some xs) (hlen:Nat.beq parts.length len=true) (uj:uw i.size xs=true)
 (Gy:Nat.ble (len * i.size) 16777216=true) (hn:Nat.blt d n=true) (kk:ae P all rest ⟨n,(d,.list i.size xs) :: tm,hp⟩ Q):ae P all (⟨some d,.buildSlice t len parts.toArray,ty,pos,af,none⟩ :: rest) ⟨n,tm,hp⟩ Q:=by
 refine ux hz hl hlen uj Gy hn (fun b=>ae.ghost (aj.freeze .here (aj.co (s:=d) (av:=.sl i.size b 0 len) (by simp [lk]) (.wD i.size b len xs .here ?_) ?_)))
 ·rw [xq hl];exact (Nat.eq_of_beq_eq_true hlen).symm
 ·refine aj.step (wW:=⟨n,(d,.list i.size xs) :: tm,hp⟩) (fun w S a r=>⟨_,S,rfl,r.less ⟨rfl,fun s av h=>?_,List.sublist_cons_self _ _⟩,iF.less (iF.refl w S _) fun _ hm=>hm.sub (List.sublist_cons_self _ _)⟩) (aj.here kk)
  simp only [lk] at h ⊢
  split at h
  ·exact h
  ·exact h
inductive CW (tm:List (Nat×AV)):Option Operand→Option Int→Prop
 | none:CW tm none none
 | some (x:Operand) (k:IntKind) (i:Int) (h:cx tm x=some (.int k i)):CW tm (some x) (some i)
def fg:Option Int→Int
 | none=>0
 | some i=>i
def fM (len:Nat):Option Int→Int
 | none=>len
 | some i=>i
theorem tN {w:World} {S:Nat→Prop} {σ:St} {a:Act} (r:df w S σ a) {lo hi:Option Operand} {l h:Option Int} (hl:CW σ.tm lo l) (hh:CW σ.tm hi h) (IC:Bool) (len cap:Nat) (h0:0≤fg l) (h1:fg l≤fM len h) (h2:fM len h≤len) (hc:len≤cap) (w':World):
 (Instr.sliceBounds IC len cap (lo.map a.eval) (hi.map a.eval) none).run P w'=.ok ((fg l).toNat,(fM len h).toNat,cap) w':=by
 cases hl with
 | none=>
   cases hh with
   | none=>simp [Instr.sliceBounds,fg,fM]
   | some x k i hx=>
     simp only [fg,fM] at *
     have:i≤(cap:Int):=by omega
     simp [Instr.sliceBounds,Instr.sliceBound,(bf r hx).er,asIntOf,h1,this]
 | some x k i hx=>
   cases hh with
   | none=>
     simp only [fg,fM] at *
     simp [Instr.sliceBounds,Instr.sliceBound,(bf r hx).er,asIntOf,h0,h1]
   | some y k' i' hy=>
     simp only [fg,fM] at *
     have e1:i'≤(cap:Int):=by omega
     have e2:0≤i':=by omega
     have e3:i≤(i'.toNat:Int):=by omega
     simp [Instr.sliceBounds,Instr.sliceBound,(bf r hx).er,(bf r hy).er,asIntOf,h0,e1,e2]
     intro iO
     omega
theorem Ag (s:List UInt8) (l h:Nat):(⟨s.toArray⟩:ByteArray).extract l h=⟨((s.drop l).take (h - l)).toArray⟩:=by
 have e:=ByteArray.data_extract (a:=(⟨s.toArray⟩:ByteArray)) (b:=l) (e:=h)
 cases hx:(⟨s.toArray⟩:ByteArray).extract l h with
 | mk da=>
   rw [hx] at e
   simp only at e
   rw [e]
   congr 1
   apply Array.ext'
   simp
theorem Bw {t:TypeId} {x:Operand} {lo hi:Option Operand} {l h:Option Int} {s:List UInt8} [ax P t .string] (hx:cx tm x=some (.str s)) (hl:CW tm lo l) (hh:CW tm hi h) (h0:0≤fg l) (h1:fg l≤fM s.length h) (h2:fM s.length h≤s.length):
 QV P ⟨some d,.slice t x lo hi none,ty,pos,af,none⟩ ⟨n,tm,hp⟩ (.str ((s.drop (fg l).toNat).take ((fM s.length h).toNat - (fg l).toNat))):=by
 intro w S a r
 refine ⟨.string ((⟨s.toArray⟩:ByteArray).extract (fg l).toNat (fM s.length h).toNat),fun w1 _=>?_,by rw [Ag];exact .str _⟩
 have hb:=tN (P:=P) (σ:=⟨n,tm,hp⟩) r hl hh false s.length s.length h0 h1 h2 (Nat.le_refl _) w1
 simp [execOp,Instr.sliceAt,run_underlying (ax.h (P:=P) (t:=t)),Instr.slice,(bf (σ:=⟨n,tm,hp⟩) r hx).et,Ab,hb]
theorem Ah {t e:TypeId} {i:TypeInfo} {x:Operand} {lo hi:Option Operand} {l h:Option Int} {sz:Nat} {xs:List AV} [ax P t (.slice e)] [aV P e i] (hx:cx tm x=some (.list sz xs)) (hJ:Nat.beq i.size sz=true) (hl:CW tm lo l) (hh:CW tm hi h) (h0:0≤fg l) (h1:fg l≤fM xs.length h) (h2:fM xs.length h≤xs.length):
 QV P ⟨some d,.slice t x lo hi none,ty,pos,af,none⟩ ⟨n,tm,hp⟩ (.list sz ((xs.drop (fg l).toNat).take ((fM xs.length h).toNat - (fg l).toNat))):=by
 intro w S a r
 obtain rfl:i.size=sz:=Nat.eq_of_beq_eq_true hJ
 obtain ⟨oa,cap,vs,e1,e2,e3,e4,e5,e6⟩:=(bf (σ:=⟨n,tm,hp⟩) r hx).uu
 have hlen:((xs.drop (fg l).toNat).take ((fM xs.length h).toNat - (fg l).toNat)).length=(fM xs.length h).toNat - (fg l).toNat:=by simp;omega
 refine ⟨.slice (if cap=(fg l).toNat then oa else oa.map (·.add ((fg l).toNat * i.size))) ((fM xs.length h).toNat - (fg l).toNat) (cap - (fg l).toNat),fun w1 _=>?_,?_⟩
 ·have hb:=tN (P:=P) (σ:=⟨n,tm,hp⟩) r hl hh true xs.length cap h0 h1 h2 e6 w1
  simp [execOp,Instr.sliceAt,run_underlying (ax.h (P:=P) (t:=t)),Instr.slice,e1,hb,sizeOf,typeInfo,aV.h (P:=P) (t:=e)]
 ·have hm:∀ y∈(xs.drop (fg l).toNat).take ((fM xs.length h).toNat - (fg l).toNat),El i.size y:=fun y hy=>e2 y (List.mem_of_mem_drop (List.mem_of_mem_take hy))
  have DY:flat ((xs.drop (fg l).toNat).take ((fM xs.length h).toNat - (fg l).toNat))=((flat xs).drop ((fg l).toNat * i.size)).take (((fM xs.length h).toNat - (fg l).toNat) * i.size):=by
   rw [sF _ _ (fun y hy=>e2 y (List.mem_of_mem_drop hy)),sE _ _ e2]
  have:=At.list (w:=w) (S:=S) i.size ((xs.drop (fg l).toNat).take ((fM xs.length h).toNat - (fg l).toNat)) (if cap=(fg l).toNat then oa else oa.map (·.add ((fg l).toNat * i.size))) (cap - (fg l).toNat)
   ((vs.drop ((fg l).toNat * i.size)).take (((fM xs.length h).toNat - (fg l).toNat) * i.size)) hm (by rw [DY];simp [e3]) (fun j c u hc hu=>?_) (fun j u hu=>?_) (by rw [hlen];omega)
  ·rw [hlen] at this;exact this
  ·rw [DY] at hc
   simp only [List.getElem?_take,List.getElem?_drop] at hc hu
   split at hu
   ·rename_i iO;rw [if_pos iO] at hc;exact e4 _ c u hc hu
   ·cases hu
  ·simp only [List.getElem?_take,List.getElem?_drop] at hu
   split at hu
   ·rename_i iO
    obtain ⟨ad,rfl,g1,g2,g3⟩:=e5 _ u hu
    have sX:0 < (fM xs.length h).toNat - (fg l).toNat:=by
     rcases Nat.eq_zero_or_pos ((fM xs.length h).toNat - (fg l).toNat) with hz | hz
     ·rw [hz] at iO;simp at iO
     ·exact hz
    rw [if_neg (by omega)]
    obtain ⟨bk,of,sp⟩:=ad
    simp only at g1 g2;subst g1
    refine ⟨⟨bk,of+(fg l).toNat * i.size,none⟩,by simp [jZ],rfl,g2,?_⟩
    simpa [Nat.add_assoc] using g3
   ·cases hu
theorem C6 {t e:TypeId} {i:TypeInfo} {x:Operand} {lo hi:Option Operand} {l h:Option Int} {sz off len:Nat} {b:Bk} [ax P t (.slice e)] [aV P e i] (hx:cx tm x=some (.sl sz b off len)) (hJ:Nat.beq i.size sz=true) (hl:CW tm lo l) (hh:CW tm hi h) (h0:0≤fg l) (h1:fg l≤fM len h) (h2:fM len h≤len):
 QV P ⟨some d,.slice t x lo hi none,ty,pos,af,none⟩ ⟨n,tm,hp⟩ (.sl sz b (off+(fg l).toNat) ((fM len h).toNat - (fg l).toNat)):=by
 intro w S a r
 obtain rfl:i.size=sz:=Nat.eq_of_beq_eq_true hJ
 obtain ⟨oa,cap,e1,e2⟩:=(bf (σ:=⟨n,tm,hp⟩) r hx).qB
 have GC:len≤cap:=by rcases e2 with ⟨_,_,hl,_,_⟩ | ⟨m,hb,_,g1,g2⟩ | ⟨m,ad,hb,_,hl,_⟩<;>omega
 refine ⟨.slice (if cap=(fg l).toNat then oa else oa.map (·.add ((fg l).toNat * i.size))) ((fM len h).toNat - (fg l).toNat) (cap - (fg l).toNat),fun w1 _=>?_,?_⟩
 ·have hb:=tN (P:=P) (σ:=⟨n,tm,hp⟩) r hl hh true len cap h0 h1 h2 GC w1
  simp [execOp,Instr.sliceAt,run_underlying (ax.h (P:=P) (t:=t)),Instr.slice,e1,hb,sizeOf,typeInfo,aV.h (P:=P) (t:=e)]
 ·rcases e2 with ⟨hb,ho,RL,rfl,PW⟩ | ⟨m,hb,rfl,g1,g2⟩ | ⟨m,ad,hb,rfl,RL,PW⟩
  ·have MI:(fg l).toNat=0:=by omega
   have MJ:(fM len h).toNat=0:=by omega
   rw [MI,MJ,ho,PW]
   exact .xh i.size b hb
  ·by_cases yH:cap=(fg l).toNat
   ·rw [if_pos yH]
    have hz:(fM len h).toNat - (fg l).toNat=0:=by omega
    rw [hz,show cap - (fg l).toNat=0 from by omega]
    exact .IN i.size b _ m _ hb
   ·rw [if_neg yH]
    have:=At.sl (w:=w) (S:=S) i.size b (off+(fg l).toNat) ((fM len h).toNat - (fg l).toNat) m (cap - (fg l).toNat) hb (by omega) (by omega)
    rw [Nat.add_mul] at this
    simpa [jZ] using this
  ·have MI:(fg l).toNat=0:=by omega
   have MJ:(fM len h).toNat=0:=by omega
   rw [MI,MJ,PW,if_pos rfl]
   exact .IN i.size b _ m ad hb
theorem fY {src dst:TypeId} {D:TypeDesc} {x:Operand} {k k':IntKind} {i:Int} [ax P src D] [ax P dst (.int k')] (hx:cx tm x=some (.int k i)):QV P ⟨some d,.convert src dst x,ty,pos,af,none⟩ ⟨n,tm,hp⟩ (.int k' (k'.wrap i)):=by
 intro w S a r
 refine ⟨.int k' (k'.wrap i),fun w1 _=>?_,.int _ _⟩
 simp only [execOp,convert,(bf (σ:=⟨n,tm,hp⟩) r hx).er,Sem.run_bind,run_underlying (ax.h (P:=P) (t:=src)),run_underlying (ax.h (P:=P) (t:=dst)),Result.andThen_ok]
 cases D<;>simp [Conv.intToInt]
end rules
section
variable {P:Program} {all:Array Oper} {rest:List Oper} {σ:St} {Q:St→Prop} {dd:Option Nat} {ty:TypeId} {pos:String} {af:Array Edge}
end
theorem Bx {sz:Nat} {x y:AV}:∀ {xs:List AV} {q:Nat},(∀ x∈xs,El sz x)→El sz y→xs[q]? =some x→flat (xs.set q y)=(flat xs).take (q * sz)++y.cells++(flat xs).drop (q * sz+sz)
 | [],q,_,_,h=>by simp at h
 | z :: xs,0,hs,hy,h=>by
   have hz:=(hs z (by simp)).1
   rw [List.set_cons_zero,gE,gE]
   simp only [Nat.zero_mul,List.take_zero,List.nil_append,Nat.zero_add]
   rw [List.drop_left' hz]
 | z :: xs,q+1,hs,hy,h=>by
   have hz:=(hs z (by simp)).1
   simp only [List.getElem?_cons_succ] at h
   rw [List.set_cons_succ,gE,gE,Bx (fun a ha=>hs a (by simp [ha])) hy h]
   have e1:(q+1) * sz=sz+q * sz:=by rw [Nat.add_mul,Nat.one_mul];omega
   rw [e1,List.take_append,List.take_of_length_le (l:=z.cells) (by omega),hz,Nat.add_sub_cancel_left,List.drop_append,List.drop_of_length_le (l:=z.cells) (by omega),hz]
   rw [show sz+q * sz+sz - sz=q * sz+sz from by omega]
   simp [List.append_assoc]
theorem D3 {w:World} {S:Nat→Prop} {cs new:List AV} {vs og:Array Value} (o:Nat) (hl:cs.length≤vs.size) (h:mA w S cs vs) (DX:new.length=og.size) (h':mA w S new og) (ho:o+new.length≤cs.length):
 mA w S (cs.take o++new++cs.drop (o+new.length)) (vs.toList.take o++og.toList++vs.toList.drop (o+og.toList.length)).toArray:=by
 intro i c v hc hv
 simp only [List.getElem?_toArray] at hc hv
 have l1:(cs.take o).length=o:=by simp;omega
 have l2:(vs.toList.take o).length=o:=by simp;omega
 have l3:og.toList.length=new.length:=by simp [DX]
 rw [List.append_assoc] at hc hv
 by_cases h1:i < o
 ·rw [List.getElem?_append_left (by omega)] at hc hv
  rw [List.getElem?_take,if_pos h1] at hc hv
  exact h i c v hc (by simpa using hv)
 ·rw [List.getElem?_append_right (by omega)] at hc hv
  rw [l1] at hc
  rw [l2] at hv
  by_cases h2:i - o < new.length
  ·rw [List.getElem?_append_left (by omega)] at hc hv
   exact h' (i - o) c v hc (by simpa using hv)
  ·rw [List.getElem?_append_right (by omega)] at hc hv
   rw [l3] at hv
   rw [List.getElem?_drop] at hc hv
   rw [show o+new.length+(i - o - new.length)=i from by omega] at hc hv
   exact h i c v hc (by simpa using hv)
section rules
variable {P:Program} {all:Array Oper} {rest:List Oper} {n:Nat} {tm:List (Nat×AV)} {hp:Heap} {Q:St→Prop} {d:Nat} {ty:TypeId} {pos:String} {af:Array Edge}
theorem vk.refl (l:List AV):vk hp l l:=by
 induction l with
 | nil=>exact .nil
 | cons a l ih=>exact .cons (.refl a) ih
def Pu (P:Program) (f:FuncId) (args:List AV) (R:AV):Prop:=aF P f args [] (fun r _=>r=R)
theorem aS {f:FuncId} {args:List Operand} {ts:Array TypeId} {l l':List AV} {R:AV} [bw P f] (hl:wZ tm args=some l) (c:Pu P f l' R) (co:vk hp l l') (hn:Nat.blt d n=true)
 (kk:ae P all rest ⟨n,(d,R) :: tm,hp⟩ Q):ae P all (⟨some d,.call {callee:=.value (.func f),args:=args.toArray,argTypes:=ts},ty,pos,af,none⟩ :: rest) ⟨n,tm,hp⟩ Q:=by
 refine D0 hl c co hn (fun r h' hr=>?_)
 subst hr
 exact ae.weaken (aC:=⟨n,(d,r) :: tm,hp⟩) ⟨rfl,fun _ _ h=>h,List.sublist_append_right _ _⟩ kk
theorem gh {f:FuncId} {args:List Operand} {ts:Array TypeId} {l l':List AV} {R:AV} [bw P f] (hl:wZ tm args=some l) (c:Pu P f l' R) (co:sa hp l l') (hn:Nat.blt d n=true) (hR:R.O4=true)
 (kk:ae P all rest ⟨n,(d,R) :: tm,hp⟩ Q):ae P all (⟨some d,.call {callee:=.value (.func f),args:=args.toArray,argTypes:=ts},ty,pos,af,none⟩ :: rest) ⟨n,tm,hp⟩ Q:=
 I6 hl c co hn (fun r h' hr=>by subst hr;exact ⟨hR,kk⟩)
theorem uy {f:FuncId} {x:Operand} {args:List Operand} {ts:Array TypeId} {sW l l':List AV} {R:AV} [bw P f] (hx:cx tm x=some (.func (.func f) sW)) (hl:wZ tm args=some l) (c:Pu P f l' R) (co:vk hp (l++sW) l') (hn:Nat.blt d n=true)
 (kk:ae P all rest ⟨n,(d,R) :: tm,hp⟩ Q):ae P all (⟨some d,.call {callee:=.value x,args:=args.toArray,argTypes:=ts},ty,pos,af,none⟩ :: rest) ⟨n,tm,hp⟩ Q:=by
 refine I3 hx hl c co (List.Perm.refl _) hn (fun r h' hr=>?_)
 subst hr
 exact ae.weaken (aC:=⟨n,(d,r) :: tm,hp⟩) ⟨rfl,fun _ _ h=>h,List.sublist_append_right _ _⟩ kk
end rules
inductive RV (P:Program) (σ:St):ResultVar→AV→Prop
 | tmp (t:Nat) (av:AV) (h:lk σ.tm t=some av):RV P σ (.tmp t) av
 | all (p ty:Nat) (b:Bk) (cs:List AV) (D:TypeDesc) (i:TypeInfo) (h:lk σ.tm p=some (.ptr b 0)) (f:ki σ.hp b (.cells cs)) (hu:P.underlying ty=some D) (hi:P.info? ty=some i) (hD:TypeDesc.iG D=true) (hs:Nat.beq cs.length i.size=true):RV P σ (.cell p ty) (.agg cs)
 | one (p ty:Nat) (b:Bk) (cs:List AV) (av:AV) (D:TypeDesc) (h:lk σ.tm p=some (.ptr b 0)) (f:ki σ.hp b (.cells cs)) (hu:P.underlying ty=some D) (hD:TypeDesc.iG D=false) (hs:cs[0]? =some av):RV P σ (.cell p ty) av
def xu (tmps:Array Value):ResultVar→Sem Value
 | .tmp t=>pure (tmps.getD t undef)
 | .cell a t=>do loadVar t (← asAddr (tmps.getD a undef))
theorem RV.run {P:Program} {σ:St} {rv:ResultVar} {av:AV} (h:RV P σ rv av) {w:World} {S:Nat→Prop} {a:Act} (r:df w S σ a):∃ v,(xu a.tmps rv).run P w=.ok v w∧At w S av v:=by
 cases h with
 | tmp t av h=>
   obtain ⟨v,h1,h2⟩:=r.tm t _ h
   exact ⟨v,by simp [xu,h1],h2⟩
 | all p ty b cs D i h f hu hi hD hs=>
   obtain ⟨v,h1,h2⟩:=r.tm p _ h
   obtain ⟨m,e1,rfl⟩:=h2.pd
   obtain ⟨_,m',vs,E,g1,g2,g3,g4⟩:=oF r.hp f
   obtain rfl:m'=m:=by rw [g1] at e1;exact Option.some.inj e1
   have hlen:vs.toList.length=i.size:=by simp [g3];exact Nat.eq_of_beq_eq_true hs
   refine ⟨.agg vs,?_,.agg cs vs g3.symm g4⟩
   have:=ie (P:=P) hu hD hi (w:=w) (ad:=⟨m',0,none⟩) (vs:=vs.toList) hlen (fun j v hv=>by rw [jZ,ll g2];simpa using hv)
   simp [xu,h1,asAddr,this]
 | one p ty b cs av D h f hu hD hs=>
   obtain ⟨v,h1,h2⟩:=r.tm p _ h
   obtain ⟨m,e1,rfl⟩:=h2.pd
   obtain ⟨_,m',vs,E,g1,g2,g3,g4⟩:=oF r.hp f
   obtain rfl:m'=m:=by rw [g1] at e1;exact Option.some.inj e1
   have iO:0 < vs.size:=by rw [g3];exact (List.getElem?_eq_some_iff.1 hs).1
   have hv:vs[0]? =some vs[0]:=by simp [iO]
   refine ⟨vs[0],?_,g4 0 av _ hs hv⟩
   have:=lj (P:=P) hu hD (w:=w) (ad:=⟨m',0,none⟩) (v:=vs[0]) (by rw [ll g2,hv])
   simp [xu,h1,asAddr,this]
inductive Rs (P:Program) (σ:St):List ResultVar→List AV→Prop
 | nil:Rs P σ [] []
 | cons {v:ResultVar} {l:List ResultVar} {a:AV} {as:List AV} (h:RV P σ v a) (k:Rs P σ l as):Rs P σ (v :: l) (a :: as)
def vX:List AV→AV
 | [a]=>a
 | as=>.kj as
theorem Rs.run {P:Program} {σ:St} {w:World} {S:Nat→Prop} {a:Act} (r:df w S σ a):∀ {l:List ResultVar} {as:List AV},Rs P σ l as→∃ vs,(l.mapM (xu a.tmps)).run P w=.ok vs w∧as.length=vs.length∧∀ (i:Nat) c v,as[i]? =some c→vs[i]? =some v→At w S c v
 | [],_,.nil=>⟨[],by simp,rfl,fun i c v hc=>by simp at hc⟩
 | x :: l,_,.cons (a:=av) (as:=as) h k=>by
   obtain ⟨v,h1,h2⟩:=h.run r
   obtain ⟨vs,g1,g2,g3⟩:=Rs.run r k
   refine ⟨v :: vs,by simp [h1,g1],by simp [g2],fun i c u hc hu=>?_⟩
   match i with
   | 0=>simp at hc hu;subst hc;subst hu;exact h2
   | i+1=>exact g3 i c u (by simpa using hc) (by simpa using hu)
theorem By {P:Program} {fn:Func} {l:List ResultVar} {σ:St} {as:List AV} (hf:fn.results=l.toArray) (h:Rs P σ l as) {w:World} {S:Nat→Prop} {a:Act} (r:df w S σ a):∃ v,(results fn a.tmps).run P w=.ok v w∧At w S (vX as) v:=by
 obtain ⟨vs,g1,g2,g3⟩:=h.run r
 have hm:results fn a.tmps=(do let vs ← Functor.map List.toArray (l.mapM (xu a.tmps));pure (if h:vs.size=1 then vs[0] else .tuple vs)):=by
  have PX:(fun (x:ResultVar)=>(match x with | .tmp t=>pure (a.tmps.getD t undef) | .cell p t=>do loadVar t (← asAddr (a.tmps.getD p undef)):Sem Value))=xu a.tmps:=by
   funext x
   cases x<;>rfl
  unfold results
  rw [hf,List.mapM_toArray]
  rw [← PX]
  rfl
 refine ⟨if h:vs.toArray.size=1 then vs.toArray[0] else .tuple vs.toArray,?_,?_⟩
 ·rw [hm,Sem.run_bind,Sem.run_map,g1]
  rfl
 ·clear h hm g1
  match as,vs,g2,g3 with
  | [],[],_,_=>simp [vX];exact .kj [] _ rfl (fun i c v hc=>by simp at hc)
  | [x],[v],_,g3=>simp [vX];exact g3 0 x v rfl rfl
  | x :: y :: as,v :: u :: vs,hl,g3=>simp [vX];exact .kj _ _ (by simpa using hl) (fun i c v hc hv=>g3 i c v hc (by simpa using hv))
theorem aF.Nt {P:Program} {f:FuncId} {fn:Func} {c:Code} {args:List AV} {h:Heap} {Q:AV→Heap→Prop} {n:Nat} {l:List ResultVar} (hf:P.funcs[f]? =some fn) (hb:fn.body=some c) (hn:fn.ntmps=n) (Lk:fn.results=l.toArray)
 (hle:Nat.ble args.length n=true) (kk:ab P (fun σ=>aj σ (fun aC=>∃ as,Rs P aC l as∧Q (vX as) aC.hp)) [.code c] ⟨n,IS args 0,h⟩):aF P f args h Q:=by
 intro w S vs hr hl ha
 refine calls_of_wp hf hb ?_
 have r0:df w S ⟨n,IS args 0,h⟩ {tmps:=vs++Array.replicate (fn.ntmps - vs.size) undef,defers:=[]}:=by
  have:=Nat.le_of_ble_eq_true hle
  refine ⟨by simp [hn];omega,rfl,fun s av hs=>?_,hr⟩
  obtain ⟨_,h2⟩:=Gs args 0 s av hs
  simp only [Nat.sub_zero] at h2
  have iO:s < args.length:=(List.getElem?_eq_some_iff.1 h2).1
  have Nu:s < vs.size:=by omega
  refine ⟨vs[s],by simp [Array.getElem?_append,Nu],ha s av _ h2 (by simp [Nu])⟩
 refine wp_mono (kk w S _ r0) ?_
 rintro e a' w' ⟨aC,S',h1,h2,h3⟩
 have fin:aj aC (fun E4=>∃ as,Rs P E4 l as∧Q (vX as) E4.hp)→a'.defers=[]∧∃ v,(results fn a'.tmps).run P w'=.ok v w'∧∃ v' r h' S',(Ending.returned v:Ending)=.returned v'∧Q r h'∧At w' S' r v'∧bZ w' S' h'∧iF w S h w' S' h':=by
  intro hi
  obtain ⟨DT,S2,⟨as,Nv,hq⟩,g2,g3⟩:=hi w' S' a' h2
  obtain ⟨v,O0,O5⟩:=By Lk Nv g2
  exact ⟨g2.defers,v,O0,v,vX as,DT.hp,S2,rfl,hq,O5,g2.hp,h3.trans g3⟩
 cases e with
 | normal=>exact fin h1
 | ret=>exact fin h1
 | exit id=>exact h1.elim
 | goto l=>exact h1.elim
 | panic c=>exact h1.elim
 | outgrown=>exact h1.elim
inductive HS:Heap→Heap→Prop
 | nil {h:Heap}:HS h []
 | cons {h h1 t:Heap} {b:Bk} {o:Ob} (u:ui h b o h1) (k:HS h1 t):HS h ((b,o) :: t)
theorem HS.perm {h t:Heap} (s:HS h t):∃ r,h.Perm (t++r):=by
 induction s with
 | nil=>exact ⟨_,List.Perm.refl _⟩
 | cons u k ih=>
   obtain ⟨r,hr⟩:=ih
   exact ⟨r,u.perm.trans (List.Perm.cons _ hr)⟩
theorem aj.Nw {n:Nat} {tm nB:List (Nat×AV)} {hp bU:Heap} {T:St→Prop} (h:zi tm nB) (hs:HS hp bU) (k:aj ⟨n,nB,bU⟩ T):aj ⟨n,tm,hp⟩ T:=by
 obtain ⟨r,hr⟩:=hs.perm
 refine aj.step (wW:=⟨n,nB,bU⟩) (fun w S a rel=>⟨_,S,rfl,⟨rel.size,rel.defers,fun s av hh=>rel.tm s av (h.lk s av hh),(rel.hp.perm hr).sub (List.sublist_append_left _ _)⟩,iF.less (iF.refl w S hp) fun m hm=>?_⟩) k
 obtain ⟨e,he,hb⟩:=hm
 exact ⟨e,hr.mem_iff.2 (List.mem_append_left _ he),hb⟩
abbrev I (n:Int):AV:=.int .i64 n
section rules
variable {P:Program} {all:Array Oper} {rest:List Oper} {n:Nat} {tm:List (Nat×AV)} {hp:Heap} {Q:St→Prop} {d:Nat} {ty:TypeId} {pos:String} {af:Array Edge}
end rules
section rules
variable {P:Program} {all:Array Oper} {rest:List Oper} {n:Nat} {tm:List (Nat×AV)} {hp:Heap} {Q:St→Prop} {d:Nat} {ty:TypeId} {pos:String} {af:Array Edge}
theorem E5 {t e:TypeId} {i:TypeInfo} {z:Value} {x y:Operand} {src:AV} {b:Bk} {len sz:Nat} {xs ys:List AV} {bU:Bk→Heap} [ax P t (.slice e)] [aV P e i] (hx:cx tm x=some (.sl sz b 0 len)) (hy:cx tm y=some src) (hz:i.zero=some z)
 (DZ:Nat.beq z.cells.size i.size=true) (hJ:Nat.beq i.size sz=true) (h0:Nat.blt 0 sz=true) (hn:Nat.blt d n=true) (PY:Nat.ble i.bytes 65536=true) (hs:Src hp sz src ys) (u:∀ b',jY hp b (.arr sz xs) b' (.arr sz (xs++ys)) (bU b')) (hlen:len=xs.length)
 (hb:xs.length+ys.length≤1000000000)
 (kk:∀ b':Bk,ae P all rest ⟨n,(d,.sl sz b' 0 (len+ys.length)) :: tm,bU b'⟩ Q):ae P all (⟨some d,.call {callee:=.builtin .append,args:=#[x,y],argTypes:=#[t,t]},ty,pos,af,none⟩ :: rest) ⟨n,tm,hp⟩ Q:=by
 refine Gz hx hy hz DZ hJ h0 hn hs u hlen ?_ (by omega) kk
 have h1:=Nat.le_of_ble_eq_true PY
 have:=Nat.mul_le_mul hb h1
 omega
end rules
def oP:List AV→Option (List AV)
 | []=>some []
 | x :: r=>match oP r with
   | some l=>some (x :: l)
   | none=>none
theorem jw:∀ {l l':List AV},oP l=some l'→l=l'
 | [],l',h=>by simp [oP] at h;exact h.symm
 | x :: r,l',h=>by
   simp only [oP] at h
   split at h
   ·rename_i l hl
    obtain rfl:=Option.some.inj h
    rw [jw hl]
   ·cases h
def GD:List AV→Nat→Option (List (Nat×AV))
 | [],_=>some []
 | x :: r,i=>match GD r (i+1) with
   | some l=>some ((i,x) :: l)
   | none=>none
theorem D4:∀ {l:List AV} {i:Nat} {l':List (Nat×AV)},GD l i=some l'→IS l i=l'
 | [],i,l',h=>by simp [GD] at h;simpa [IS] using h
 | x :: r,i,l',h=>by
   simp only [GD] at h
   split at h
   ·rename_i l hl
    obtain rfl:=Option.some.inj h
    rw [IS,D4 hl]
   ·cases h
class lO (P:Program) (t:TypeId) (sz:outParam Nat):Prop where
 h:∃ i,P.info? t=some i∧i.size=sz
theorem aF.bC {P:Program} {f:FuncId} {fn:Func} {c:Code} {args:List AV} {h:Heap} {Q:AV→Heap→Prop} {n:Nat} {l:List ResultVar} {tm:List (Nat×AV)} (hf:P.funcs[f]? =some fn) (hb:fn.body=some c) (hn:fn.ntmps=n) (Lk:fn.results=l.toArray)
 (UZ:GD args 0=some tm) (hle:Nat.ble args.length n=true) (kk:ab P (fun σ=>aj σ (fun aC=>∃ rs,Rs P aC l rs∧Q (vX rs) aC.hp)) [.code c] ⟨n,tm,h⟩):aF P f args h Q:=
 aF.Nt hf hb hn Lk hle (by rw [D4 UZ];exact kk)
section rules
variable {P:Program} {all:Array Oper} {rest:List Oper} {n:Nat} {tm:List (Nat×AV)} {hp:Heap} {Q:St→Prop} {d:Nat} {ty:TypeId} {pos:String} {af:Array Edge}
theorem gi {x:Operand} {E:TypeId} {av:AV} {cs:List AV} (hx:cx tm x=some av) (hc:oP av.cells=some cs) (h1:iV cs=true) (hn:Nat.blt d n=true)
 (kk:∀ b:Bk,ae P all rest ⟨n,(d,.ptr b 0) :: tm,(b,.cells cs) :: hp⟩ Q):ae P all (⟨some d,.box E x,ty,pos,af,none⟩ :: rest) ⟨n,tm,hp⟩ Q:=by
 obtain rfl:=jw hc
 exact No hx h1 hn kk
theorem ca {E:TypeId} {i:TypeInfo} {z:Value} {cs:List AV} [aV P E i] (hz:i.zero=some z) (hc:oP (w5 z).cells=some cs) (h1:iV cs=true) (hn:Nat.blt d n=true)
 (kk:∀ b:Bk,ae P all rest ⟨n,(d,.ptr b 0) :: tm,(b,.cells cs) :: hp⟩ Q):ae P all (⟨some d,.alloc E,ty,pos,af,none⟩ :: rest) ⟨n,tm,hp⟩ Q:=by
 obtain rfl:=jw hc
 exact IX hz h1 hn kk
theorem aG {x:Operand} {s:TypeId} {j off:Nat} {b:Bk} {o o':Nat} [lN P s j off] (hx:cx tm x=some (.ptr b o)) (ho:o+off=o'):QV P ⟨some d,.fieldAddr s x j,ty,pos,af,none⟩ ⟨n,tm,hp⟩ (.ptr b o'):=by
 subst ho
 exact Bo hx
theorem bu {x:Operand} {s:TypeId} {j off:Nat} {cs kI:List AV} [lN P s j off] (hx:cx tm x=some (.cE cs)) (hc:oP (cs.drop off)=some kI):QV P ⟨some d,.fieldAddr s x j,ty,pos,af,none⟩ ⟨n,tm,hp⟩ (.cE kI):=by
 obtain rfl:=jw hc
 exact Ad hx
theorem bA {t:TypeId} {D:TypeDesc} {i:TypeInfo} {x:Operand} {b:Bk} {o:Nat} {cs kI:List AV} [ax P t D] [aV P t i] (hD:TypeDesc.iG D=true) (hx:cx tm x=some (.ptr b o)) (f:ki hp b (.cells cs)) (ho:Nat.ble (o+i.size) cs.length=true) (hc:oP ((cs.drop o).take i.size)=some kI):
 QV P ⟨some d,.load t x,ty,pos,af,none⟩ ⟨n,tm,hp⟩ (.agg kI):=by
 obtain rfl:=jw hc
 exact wF hD hx f ho
theorem pR {t:TypeId} {D:TypeDesc} {i:TypeInfo} {x:Operand} {cs kI:List AV} [ax P t D] [aV P t i] (hD:TypeDesc.iG D=true) (hx:cx tm x=some (.cE cs)) (ho:Nat.ble i.size cs.length=true) (hc:oP (cs.take i.size)=some kI):
 QV P ⟨some d,.load t x,ty,pos,af,none⟩ ⟨n,tm,hp⟩ (.agg kI):=by
 obtain rfl:=jw hc
 exact vq hD hx ho
theorem fV {t:TypeId} {i:TypeInfo} {z:Value} {parts:List (Nat×Operand)} {l:List (Nat×AV)} {cs kI:List AV} {pl:List (Nat×Nat)} [aV P t i] [kQ P t pl] (hz:i.zero=some z) (hl:MF tm parts=some l) (h1:iV (w5 z).cells=true)
 (hc:ze pl (w5 z).cells l=some cs) (CX:oP cs=some kI):QV P ⟨some d,.build t parts.toArray,ty,pos,af,none⟩ ⟨n,tm,hp⟩ (.agg kI):=by
 obtain rfl:=jw CX
 exact IZ hz hl h1 hc
theorem ay {t:TypeId} {i:TypeInfo} {x y:Operand} {b:Bk} {o:Nat} {cs kI:List AV} {av:AV} {bU:Heap} [aV P t i] (hx:cx tm x=some (.ptr b o)) (hy:cx tm y=some av) (h1:iV av.cells=true) (hJ:Nat.beq av.cells.length i.size=true)
 (u:jY hp b (.cells cs) b (.cells kI) bU) (hc:oP (kP cs o av.cells)=some kI) (ho:Nat.ble (o+av.cells.length) cs.length=true) (kk:ae P all rest ⟨n,tm,bU⟩ Q):ae P all (⟨none,.store t x y,ty,pos,af,none⟩ :: rest) ⟨n,tm,hp⟩ Q:=by
 obtain rfl:=jw hc
 exact Bp hx hy h1 hJ u ho kk
theorem aU {t e:TypeId} {i:TypeInfo} {z:Value} {len sz:Nat} {parts:List (Nat×Operand)} {xs:List AV} [ax P t (.slice e)] [aV P e i] [lO P e sz] (hz:i.zero=some z) (hl:Ga tm parts 0=some xs) (hlen:Nat.beq parts.length len=true) (uj:uw i.size xs=true)
 (Gy:Nat.ble (len * i.size) 16777216=true) (hn:Nat.blt d n=true) (kk:ae P all rest ⟨n,(d,.list sz xs) :: tm,hp⟩ Q):ae P all (⟨some d,.buildSlice t len parts.toArray,ty,pos,af,none⟩ :: rest) ⟨n,tm,hp⟩ Q:=by
 obtain ⟨i',h1,h2⟩:=lO.h (P:=P) (t:=e)
 obtain rfl:i'=i:=by rw [aV.h (P:=P) (t:=e)] at h1;exact (Option.some.inj h1).symm
 subst h2
 exact yO hz hl hlen uj Gy hn kk
theorem kK {t e:TypeId} {i:TypeInfo} {z:Value} {len sz:Nat} {parts:List (Nat×Operand)} {xs:List AV} [ax P t (.slice e)] [aV P e i] [lO P e sz] (hz:i.zero=some z) (hl:Ga tm parts 0=some xs) (hlen:Nat.beq parts.length len=true) (uj:uw i.size xs=true)
 (Gy:Nat.ble (len * i.size) 16777216=true) (hn:Nat.blt d n=true) (kk:∀ b:Bk,ae P all rest ⟨n,(d,.sl sz b 0 len) :: tm,(b,.arr sz xs) :: hp⟩ Q):ae P all (⟨some d,.buildSlice t len parts.toArray,ty,pos,af,none⟩ :: rest) ⟨n,tm,hp⟩ Q:=by
 obtain ⟨i',h1,h2⟩:=lO.h (P:=P) (t:=e)
 obtain rfl:i'=i:=by rw [aV.h (P:=P) (t:=e)] at h1;exact (Option.some.inj h1).symm
 subst h2
 exact ux hz hl hlen uj Gy hn kk
end rules
structure Grow (w:World) (S:Nat→Prop) (w':World) (S':Nat→Prop):Prop where
 ext:Ext w w'
 up:∀ n,S n→S' n
 down:∀ n,n < w.heap.size→S' n→S n
 slt:∀ n,S' n→n < w'.heap.size
theorem Grow.refl {w:World} {S:Nat→Prop} (h:∀ n,S n→n < w.heap.size):Grow w S w S:=⟨Ext.refl w,fun _ h=>h,fun _ _ h=>h,h⟩
theorem Grow.trans {a b c:World} {S T U:Nat→Prop} (h:Grow a S b T) (k:Grow b T c U):Grow a S c U:=
 ⟨h.ext.trans k.ext,fun n hn=>k.up n (h.up n hn),fun n hn hs=>h.down n hn (k.down n (Nat.lt_of_lt_of_le hn h.ext.size) hs),k.slt⟩
theorem Grow.jX {w w':World} {S S':Nat→Prop} (g:Grow w S w' S') (h:∀ n,S n→n < w.heap.size):∀ n,S n→S' n∧w'.heap[n]? =w.heap[n]?:=fun n hn=>⟨g.up n hn,g.ext.same n (h n hn)⟩
theorem bZ.grow {w w':World} {S S':Nat→Prop} {h:Heap} (r:bZ w S h) (g:Grow w S w' S'):bZ w' S' h where
 nodup:=r.nodup
 holds e he:=(r.holds e he).mono (g.jX r.slt) (fun n hn=>g.ext.same n (r.lt ⟨e,he,hn⟩))
 sep e he n hn:=by
  rw [← r.sep e he n hn]
  exact ⟨g.down n (r.lt ⟨e,he,hn⟩),g.up n⟩
 slt:=g.slt
 fU t o ho:=⟨(g.jX r.slt t (r.fU t o ho).1).1,xg (g.jX r.slt t (r.fU t o ho).1).2 (r.fU t o ho).2⟩
theorem Grow.RM {w w':World} {S S':Nat→Prop} (g:Grow w S w' S') (h:∀ n,S n→n < w.heap.size) (hp:Heap):iF w S hp w' S' hp:=
 ⟨g.ext.os,g.ext.tape,g.ext.output,g.ext.size,g.jX h,fun n hn _=>⟨g.ext.same n hn,g.down n hn⟩,fun _ hn=>.inl hn,g.ext.drawn⟩
def looks (all:Array Oper) (o:Oper):List Nat:=
 (o.op.operands.toList.filterMap fun | .tmp t=>some t | _=>none)++(match o.guard with | some (g,_)=>((all[g]?).bind (·.dst)).toList | none=>[])
abbrev Env:=Nat→Option AV
def Ai (w:World) (S:Nat→Prop) (ls:List Nat) (e:Env) (a:Act):Prop:=∀ s∈ls,∀ av,e s=some av→∃ v,a.tmps[s]? =some v∧At w S av v
def MV (P:Program) (all:Array Oper) (n:Nat) (o:Oper) (e:Env) (hp:Heap) (av:AV):Prop:=
 ∀ w S a,a.tmps.size=n→a.defers=[]→bZ w S hp→Ai w S (looks all o) e a→∀ (K:Act→World→Prop) (Q:Exit→Act→World→Prop),
   (∀ v w' S',Grow w S w' S'→At w' S' av v→K (a.put o.dst v) w')→o.wp P a w K Q
def sY (e:Env) (d:Option Nat) (av:AV):Env:=match d with
 | some d=>fun s=>if d=s then some av else e s
 | none=>e
def lz (all:Array Oper) (o:Oper) (e:Env) (b:Bool):Prop:=
 match o.guard with
 | none=>b=true
 | some (j,want)=>∃ s,(all[j]?).bind (·.dst)=some s∧((∃ c,e s=some (.bool c)∧b=(c==want))∨(e s=some (.raw undef)∧b=false))
inductive I7 (P:Program) (all:Array Oper) (n:Nat) (hp:Heap):List Oper→Env→Env→Prop
 | nil (e:Env):I7 P all n hp [] e e
 | run {o:Oper} {l:List Oper} {e e':Env} {av:AV} (hg:lz all o e true) (h:MV P all n o e hp av) (hd:∀ d,o.dst=some d→d < n) (k:I7 P all n hp l (sY e o.dst av) e'):I7 P all n hp (o :: l) e e'
 | pass {o:Oper} {l:List Oper} {e e':Env} (hg:lz all o e false) (hd:∀ d,o.dst=some d→d < n) (k:I7 P all n hp l (sY e o.dst (.raw undef)) e'):I7 P all n hp (o :: l) e e'
def KA (P:Program) (all:Array Oper) (n:Nat) (hp:Heap) (o:Oper) (e:Env) (av:AV):Prop:=
 (∀ d,o.dst=some d→d < n)∧((lz all o e true∧MV P all n o e hp av)∨(lz all o e false∧av=.raw undef))
theorem I7.C7 {P:Program} {all:Array Oper} {n:Nat} {hp:Heap} {l:List Oper} {e e':Env} (h:I7 P all n hp l e e'):
 ∃ (kq:Nat→AV) (en:Nat→Env),en 0=e∧en l.length=e'∧∀ i o,l[i]? =some o→KA P all n hp o (en i) (kq i)∧en (i+1)=sY (en i) o.dst (kq i):=by
 induction h with
 | nil e=>exact ⟨fun _=>.nil,fun _=>e,rfl,rfl,fun i o h=>by simp at h⟩
 | @run o l e e' av hg hm hd k ih=>
   obtain ⟨kq,en,h0,h1,h2⟩:=ih
   refine ⟨fun i=>match i with | 0=>av | i+1=>kq i,fun i=>match i with | 0=>e | i+1=>en i,rfl,h1,fun i o' ho=>?_⟩
   match i with
   | 0=>simp at ho;subst ho;exact ⟨⟨hd,.inl ⟨hg,hm⟩⟩,h0⟩
   | i+1=>exact h2 i o' (by simpa using ho)
 | @pass o l e e' hg hd k ih=>
   obtain ⟨kq,en,h0,h1,h2⟩:=ih
   refine ⟨fun i=>match i with | 0=>.raw undef | i+1=>kq i,fun i=>match i with | 0=>e | i+1=>en i,rfl,h1,fun i o' ho=>?_⟩
   match i with
   | 0=>simp at ho;subst ho;exact ⟨⟨hd,.inr ⟨hg,rfl⟩⟩,h0⟩
   | i+1=>exact h2 i o' (by simpa using ho)
def waits (o:Oper) (i:Nat):Bool:=o.after.toList.any fun e=>Region.binds .any e&&Nat.beq e.on i
def vY (all:Array Oper) (oi oj:Oper):Bool:=
 match oi.dst,oj.dst with
 | some d,some d'=>(looks all oj).contains d||(looks all oi).contains d'||Nat.beq d d'
 | some d,none=>(looks all oj).contains d
 | none,some d'=>(looks all oi).contains d'
 | none,none=>false
inductive vZ (all:Array Oper):Nat→Nat→Prop
 | one {j i:Nat} {oj:Oper} (hj:all[j]? =some oj) (hw:waits oj i=true):vZ all j i
 | step {j k i:Nat} {oj:Oper} (hj:all[j]? =some oj) (hw:waits oj k=true) (h:vZ all k i):vZ all j i
def Aj (acc:List Nat):List Edge→Nat→Nat
 | [],m=>m
 | e :: r,m=>Aj acc r (match Region.binds .any e with
   | true=>m||| (1 <<< e.on)||| acc.getD e.on 0
   | false=>m)
def GF:List Oper→List Nat→List Nat
 | [],acc=>acc
 | o :: r,acc=>GF r (acc++[Aj acc o.after.toList 0])
def E6 (all:Array Oper):List Nat:=GF all.toList []
theorem wa {acc:List Nat} {i:Nat}:∀ (es:List Edge) (m:Nat),(Aj acc es m).testBit i=true→m.testBit i=true∨∃ e∈es,Region.binds .any e=true∧(e.on=i∨(acc.getD e.on 0).testBit i=true)
 | [],m,h=>.inl h
 | e :: r,m,h=>by
   simp only [Aj] at h
   rcases wa r _ h with h | ⟨e',he,hb,hh⟩
   ·split at h
    ·rename_i hb
     rw [Nat.testBit_or,Nat.testBit_or,Bool.or_eq_true,Bool.or_eq_true] at h
     rcases h with (h | h) | h
     ·exact .inl h
     ·refine .inr ⟨e,by simp,hb,.inl ?_⟩
      rw [Nat.one_shiftLeft,Nat.testBit_two_pow] at h
      simpa using h
     ·exact .inr ⟨e,by simp,hb,.inr h⟩
    ·exact .inl h
   ·exact .inr ⟨e',by simp [he],hb,hh⟩
theorem xv {all:Array Oper}:∀ (l:List Oper) (acc:List Nat) (pre:List Oper),all.toList=pre++l→acc.length=pre.length→(∀ j i,(acc.getD j 0).testBit i=true→vZ all j i)→∀ j i,((GF l acc).getD j 0).testBit i=true→vZ all j i
 | [],acc,pre,_,_,h=>h
 | o :: r,acc,pre,hl,hlen,h=>by
   refine xv r _ (pre++[o]) (by simpa using hl) (by simp [hlen]) (fun j i hb=>?_)
   rcases Nat.lt_or_ge j acc.length with hj | hj
   ·refine h j i ?_
    rw [List.getD_eq_getElem?_getD,List.getElem?_append_left hj] at hb
    rw [List.getD_eq_getElem?_getD]
    exact hb
   ·by_cases RN:j=acc.length
    ·rw [List.getD_eq_getElem?_getD,List.getElem?_append_right hj,RN] at hb
     simp only [Nat.sub_self,List.getElem?_cons_zero,Option.getD_some] at hb
     have ID:all[j]? =some o:=by
      rw [← Array.getElem?_toList,hl,List.getElem?_append_right (by omega),RN,hlen];simp
     rcases wa _ _ hb with hz | ⟨e,he,U0,hh⟩
     ·simp at hz
     ·have hw:waits o e.on=true:=by
       simp only [waits,List.any_eq_true,Bool.and_eq_true]
       exact ⟨e,he,U0,by simp⟩
      rcases hh with hh | hh
      ·subst hh;exact .one ID hw
      ·exact .step ID hw (h _ _ hh)
    ·rw [List.getD_eq_getElem?_getD,List.getElem?_append_right hj,List.getElem?_eq_none (by simp;omega)] at hb
     simp at hb
theorem lE {all:Array Oper} {j i:Nat} (h:((E6 all).getD j 0).testBit i=true):vZ all j i:=
 xv all.toList [] [] (by simp) rfl (fun j i h=>by simp at h) j i h
def Bz (all:Array Oper) (m:Nat) (A:List Nat):Bool:=
 (List.range all.size).all fun j=>match all[j]? with
  | none=>true
  | some oj=>(oj.after.all fun e=>!Region.binds .any e||Nat.blt e.on j)&&(List.range j).all fun i=>match all[i]? with
    | none=>true
    | some oi=>if Nat.blt j m then !vY all oi oj||(A.getD j 0).testBit i else (A.getD j 0).testBit i
def qW (all:Array Oper) (m:Nat):Prop:=∃ A,E6 all=A∧Bz all m A=true
theorem iH {all:Array Oper} {m:Nat} (h:qW all m) {i j:Nat} {oi oj:Oper} (hj:all[j]? =some oj) (hi:all[i]? =some oi) (uk:i < j):(j < m→vY all oi oj=true→vZ all j i)∧(m≤j→vZ all j i):=by
 obtain ⟨A,hA,h⟩:=h
 subst hA
 have Ak:j < all.size:=(Array.getElem?_eq_some_iff.1 hj).1
 simp only [Bz,List.all_eq_true,List.mem_range] at h
 have h1:=h j Ak
 rw [hj] at h1
 simp only [Bool.and_eq_true,List.all_eq_true,List.mem_range] at h1
 have h2:=h1.2 i uk
 rw [hi] at h2
 simp only at h2
 refine ⟨fun hm hc=>?_,fun hm=>?_⟩
 ·rw [if_pos (by simpa using hm)] at h2
  exact lE (by simpa [hc] using h2)
 ·rw [if_neg (by simp;omega)] at h2
  exact lE h2
theorem tO {all:Array Oper} {m:Nat} (h:qW all m) {j:Nat} {oj:Oper} (hj:all[j]? =some oj) {e:Edge} (he:e∈oj.after) (hb:Region.binds .any e=true):e.on < j:=by
 obtain ⟨A,hA,h⟩:=h
 have Ak:j < all.size:=(Array.getElem?_eq_some_iff.1 hj).1
 simp only [Bz,List.all_eq_true,List.mem_range] at h
 have h1:=h j Ak
 rw [hj] at h1
 simp only [Bool.and_eq_true,Array.all_eq_true_iff_forall_mem] at h1
 have:=h1.1 e he
 simpa [hb] using this
theorem pf {all:Array Oper} {listed:Array Bool} {i j:Nat} {oj:Oper} (hj:all[j]? =some oj) (hr:j∈Region.ready .any all listed) (hw:waits oj i=true):listed.getD i false=true:=by
 simp only [Region.ready,List.mem_filter,List.mem_range,hj,Option.map_some,Option.getD_some,Bool.and_eq_true,Array.all_eq_true_iff_forall_mem] at hr
 simp only [waits,List.any_eq_true,Bool.and_eq_true] at hw
 obtain ⟨e,he,hb,Nx⟩:=hw
 have:=hr.2.2 e (by simpa using he)
 rw [hb] at this
 obtain rfl:e.on=i:=Nat.eq_of_beq_eq_true Nx
 simpa using this
def jo (all:Array Oper) (listed:Array Bool):Prop:=∀ k i o,listed.getD k false=true→all[k]? =some o→waits o i=true→listed.getD i false=true
theorem jo.I8 {all:Array Oper} {listed:Array Bool} (c:jo all listed) {j i:Nat} (h:vZ all j i) (hl:listed.getD j false=true):listed.getD i false=true:=by
 induction h with
 | one hj hw=>exact c _ _ _ hl hj hw
 | step hj hw _ ih=>exact ih (c _ _ _ hl hj hw)
theorem jo.ready {all:Array Oper} {listed:Array Bool} (c:jo all listed) {j i:Nat} (h:vZ all j i) (hr:j∈Region.ready .any all listed):listed.getD i false=true:=by
 cases h with
 | one hj hw=>exact pf hj hr hw
 | step hj hw h=>exact c.I8 h (pf hj hr hw)
theorem sH {all:Array Oper} {listed:Array Bool} {j:Nat} (hr:j∈Region.ready .any all listed):j < all.size∧listed.getD j true=false:=by
 simp only [Region.ready,List.mem_filter,List.mem_range,Bool.and_eq_true] at hr
 exact ⟨hr.1,by simpa using hr.2.1⟩
theorem vr {all:Array Oper} {m:Nat} (h:qW all m) {listed:Array Bool} (hl:listed.size=all.size) (hr:Region.ready .any all listed=[]):∀ i,i < all.size→listed.getD i false=true:=by
 intro i
 induction i using Nat.strongRecOn with
 | _ i ih=>
   intro hi
   cases hv:listed.getD i false with
   | true=>rfl
   | false=>
     exfalso
     have:i∈Region.ready .any all listed:=by
      simp only [Region.ready,List.mem_filter,List.mem_range,Bool.and_eq_true]
      have Ny:i < listed.size:=by omega
      refine ⟨hi,?_,?_⟩
      ·simp [Ny] at hv ⊢;exact hv
      ·have wb:all[i]? =some all[i]:=by simp [hi]
       rw [wb]
       simp only [Option.map_some,Option.getD_some,Array.all_eq_true_iff_forall_mem]
       intro e he
       cases hb:Region.binds .any e with
       | false=>simp
       | true=>
         have iO:=tO h wb he hb
         simp [ih e.on iO (by omega)]
     rw [hr] at this
     simp at this
section order
variable {P:Program} {all:Array Oper} {n m:Nat} {hp:Heap}
def cur (all:Array Oper) (kq:Nat→AV) (e:Env) (listed:Array Bool):Nat→Env
 | 0=>e
 | k+1=>if listed.getD k false then sY (cur all kq e listed k) ((all[k]?).bind (·.dst)) (kq k) else cur all kq e listed k
theorem j4 {e:Env} {d:Option Nat} {av:AV} {s:Nat} (h:d≠some s):sY e d av s=e s:=by
 cases d with
 | none=>rfl
 | some d=>simp only [sY];rw [if_neg (fun e=>h (by rw [e]))]
theorem lU {e:Env} {av:AV} {s:Nat}:sY e (some s) av s=some av:=by simp [sY]
theorem tP {oi oj:Oper} {s:Nat} (hd:oi.dst=some s) (hs:s∈looks all oj):vY all oi oj=true:=by
 unfold vY
 rw [hd]
 cases hj:oj.dst<;>simp [hs]
theorem wc {oi oj:Oper} {s:Nat} (hd:oj.dst=some s) (hs:s∈looks all oi):vY all oi oj=true:=by
 unfold vY
 rw [hd]
 cases hi:oi.dst<;>simp [hs]
theorem zj {oi oj:Oper} {s:Nat} (hi:oi.dst=some s) (hj:oj.dst=some s):vY all oi oj=true:=by
 unfold vY
 rw [hi,hj]
 simp
structure IE (all:Array Oper) (m:Nat) (listed:Array Bool):Prop where
 size:listed.size=all.size
 head:∀ k,listed.getD k false=true→k < m
 closed:∀ k i o,listed.getD k false=true→all[k]? =some o→waits o i=true→listed.getD i false=true
theorem w7 {listed:Array Bool} {i:Nat} (h:listed.getD i true=false):listed.getD i false=false:=by
 by_cases hi:i < listed.size
 ·simp [hi] at h ⊢;exact h
 ·simp [hi]
variable {kq:Nat→AV} {en:Nat→Env} {e:Env}
theorem GG (hB:qW all m) {listed:Array Bool} (L:IE all m listed) (h0:en 0=e) (hs:∀ i o,i < m→all[i]? =some o→en (i+1)=sY (en i) o.dst (kq i)) (hm:m≤all.size)
 {i:Nat} {o:Oper} (ho:all[i]? =some o) (Bf:i < m) (sZ:listed.getD i false=false) (hr:∀ j,vZ all i j→listed.getD j false=true) {s:Nat} (IF:s∈looks all o):∀ k,k≤all.size→cur all kq e listed k s=en (min k i) s:=by
 intro k
 induction k with
 | zero=>intro _;simp [cur,h0]
 | succ k ih=>
   intro hk
   have rl:=ih (by omega)
   have nV:all[k]? =some all[k]:=by simp [show k < all.size by omega]
   simp only [cur,nV,Option.bind_some]
   rcases Nat.lt_trichotomy k i with iO | heq | C8
   ·rw [Nat.min_eq_left (by omega)] at rl
    rw [Nat.min_eq_left (by omega),hs k _ (by omega) nV]
    by_cases hd:(all[k]).dst=some s
    ·have hl:listed.getD k false=true:=hr k ((iH hB ho nV iO).1 Bf (tP hd IF))
     rw [if_pos hl,hd,lU,lU]
    ·rw [j4 hd]
     split
     ·rw [j4 hd];exact rl
     ·exact rl
   ·subst heq
    rw [sZ]
    simp only [Bool.false_eq_true,if_false]
    rw [Nat.min_eq_right (by omega)]
    rw [Nat.min_eq_right (by omega)] at rl
    exact rl
   ·rw [Nat.min_eq_right (by omega)] at rl
    rw [Nat.min_eq_right (by omega)]
    by_cases hl:listed.getD k false=true
    ·by_cases hd:(all[k]).dst=some s
     ·exfalso
      have hw:=(iH hB nV ho C8).1 (L.head k hl) (wc hd IF)
      have:=jo.I8 L.closed hw hl
      rw [sZ] at this;cases this
     ·rw [if_pos hl,j4 hd];exact rl
    ·rw [if_neg hl];exact rl
theorem gJ {listed:Array Bool} {i k:Nat} (hi:i < listed.size):(listed.setIfInBounds i true).getD k false=(if k=i then true else listed.getD k false):=by
 by_cases hk:k < listed.size
 ·simp [hk,Array.getElem_setIfInBounds]
  by_cases h:k=i
  ·simp [h]
  ·have h':¬ i=k:=fun e=>h e.symm
   simp [h,h']
 ·have:k≠i:=by omega
  simp [hk,this]
theorem I9 (hB:qW all m) {listed:Array Bool} (L:IE all m listed) {i:Nat} {o:Oper} (ho:all[i]? =some o) (Bf:i < m) (sZ:listed.getD i false=false) (s:Nat):
 ∀ k,k≤all.size→cur all kq e (listed.setIfInBounds i true) k s=(if i < k then sY (cur all kq e listed k) o.dst (kq i) s else cur all kq e listed k s):=by
 have hi:i < listed.size:=by rw [L.size];exact (Array.getElem?_eq_some_iff.1 ho).1
 intro k
 induction k with
 | zero=>intro _;simp [cur]
 | succ k ih=>
   intro hk
   have rl:=ih (by omega)
   have nV:all[k]? =some all[k]:=by simp [show k < all.size by omega]
   simp only [cur,nV,Option.bind_some,gJ hi]
   rcases Nat.lt_trichotomy k i with iO | heq | C8
   ·rw [if_neg (by omega)] at rl
    have e1:(if k=i then true else listed.getD k false)=listed.getD k false:=if_neg (by omega)
    rw [e1,if_neg (show ¬ i < k+1 by omega)]
    by_cases hl:listed.getD k false=true
    ·rw [if_pos hl,if_pos hl]
     by_cases hd:(all[k]).dst=some s
     ·rw [hd,lU,lU]
     ·rw [j4 hd,j4 hd];exact rl
    ·rw [if_neg hl,if_neg hl];exact rl
   ·subst heq
    rw [if_neg (by omega)] at rl
    have e1:(if k=k then true else listed.getD k false)=true:=if_pos rfl
    rw [e1,if_pos (show k < k+1 by omega),if_pos rfl,sZ,if_neg Bool.false_ne_true]
    obtain rfl:all[k]=o:=by rw [nV] at ho;exact Option.some.inj ho
    by_cases hd:(all[k]).dst=some s
    ·rw [hd,lU,lU]
    ·rw [j4 hd,j4 hd];exact rl
   ·rw [if_pos C8] at rl
    have e1:(if k=i then true else listed.getD k false)=listed.getD k false:=if_neg (by omega)
    rw [e1,if_pos (show i < k+1 by omega)]
    by_cases hl:listed.getD k false=true
    ·rw [if_pos hl,if_pos hl]
     by_cases hd:(all[k]).dst=some s
     ·by_cases E7:o.dst=some s
      ·exfalso
       have hw:=(iH hB nV ho C8).1 (L.head k hl) (zj E7 hd)
       have:=jo.I8 L.closed hw hl
       rw [sZ] at this;cases this
      ·rw [hd,lU,j4 E7,lU]
     ·by_cases E7:o.dst=some s
      ·rw [j4 hd,rl,E7,lU,lU]
      ·rw [j4 hd,rl,j4 E7,j4 E7,j4 hd]
    ·rw [if_neg hl,if_neg hl];exact rl
theorem BA (hB:qW all m) {Q:Exit→Act→World→Prop}:∀ (fuel k:Nat) (listed:Array Bool) (a:Act) (w:World),m≤k→k+fuel=all.size→listed.size=all.size→(∀ i,i < k→listed.getD i false=true)→(∀ i,k≤i→listed.getD i false=false)→
 wpList P all Q (all.toList.drop k) a w→wpAny P .any all Q fuel listed a w:=by
 intro fuel
 induction fuel with
 | zero=>
   intro k listed a w hm hk hJ h1 h2 h
   have Ll:all.toList.drop k=[]:=List.drop_eq_nil_of_le (by simp;omega)
   rw [Ll] at h
   refine ⟨?_,h⟩
   refine List.eq_nil_iff_forall_not_mem.2 fun i hi=>?_
   obtain ⟨E8,BB⟩:=sH hi
   have:=h1 i (by omega)
   rw [w7 BB] at this
   cases this
 | succ fuel ih=>
   intro k listed a w hm hk hJ h1 h2 h
   have PZ:k < all.size:=by omega
   have nV:all[k]? =some all[k]:=by simp [PZ]
   refine ⟨fun hr=>?_,fun i hi=>?_⟩
   ·have:=vr hB hJ hr k PZ
    rw [h2 k (Nat.le_refl _)] at this
    cases this
   ·obtain ⟨E8,BB⟩:=sH hi
    have wb:all[i]? =some all[i]:=by simp [E8]
    obtain rfl:i=k:=by
     rcases Nat.lt_trichotomy i k with iO | heq | C8
     ·have:=h1 i iO;rw [w7 BB] at this;cases this
     ·exact heq
     ·have yH:jo all listed:=fun k' i' o RO U1 D5=>by
       have iO:k' < k:=by
        rcases Nat.lt_or_ge k' k with h | h
        ·exact h
        ·rw [h2 k' h] at RO;cases RO
       simp only [waits,List.any_eq_true,Bool.and_eq_true] at D5
       obtain ⟨e',P0,w4,Lm⟩:=D5
       have:=tO hB U1 (by simpa using P0) w4
       obtain rfl:e'.on=i':=Nat.eq_of_beq_eq_true Lm
       exact h1 _ (by omega)
      have:=yH.ready ((iH hB wb nV C8).2 (by omega)) hi
      rw [h2 k (Nat.le_refl _)] at this;cases this
    have GH:all.toList.drop i=all[i] :: all.toList.drop (i+1):=by
     rw [List.drop_eq_getElem_cons (by simpa using PZ)]
     simp
    rw [GH] at h
    unfold wpList at h
    simp only [wpOp,nV]
    have next:∀ a w,wpList P all Q (all.toList.drop (i+1)) a w→wpAny P .any all Q fuel (listed.setIfInBounds i true) a w:=fun a w hh=>by
     have o6:i < listed.size:=by omega
     refine ih (i+1) (listed.setIfInBounds i true) a w (by omega) (by omega) (by simpa using hJ) (fun j hj=>?_) (fun j hj=>?_) hh
     ·rw [gJ o6];split
      ·rfl
      ·exact h1 j (by omega)
     ·rw [gJ o6,if_neg (by omega)];exact h2 j (by omega)
    split at h
    ·rename_i hw
     rw [if_pos hw]
     exact h.imp (fun hh=>Oper.wp_mono next hh) id
    ·rename_i hw
     rw [if_neg hw]
     exact next _ _ h
theorem sI {o:Oper} {e:Env} {b:Bool} {w:World} {S:Nat→Prop} {a:Act} (hw:lz all o e b) (r:Ai w S (looks all o) e a):Region.wanted o (yielded all a.tmps)=b:=by
 unfold lz at hw
 unfold Region.wanted
 cases hg:o.guard with
 | none=>rw [hg] at hw;simp only at hw;rw [hw]
 | some g=>
   obtain ⟨j,want⟩:=g
   rw [hg] at hw
   simp only at hw
   obtain ⟨s,h1,⟨c,h2,h3⟩ | ⟨h2,h3⟩⟩:=hw
   ·obtain ⟨v,g1,g2⟩:=r s (by simp [looks,hg,h1]) _ h2
    cases g2
    rw [h3]
    cases c<;>cases want<;>simp [yielded,h1,g1]
   ·obtain ⟨v,g1,g2⟩:=r s (by simp [looks,hg,h1]) _ h2
    cases g2
    rw [h3]
    simp [yielded,h1,g1,undef]
def xw (w:World) (S:Nat→Prop) (e:Env) (a:Act):Prop:=∀ s av,e s=some av→∃ v,a.tmps[s]? =some v∧At w S av v
theorem GJ (hB:qW all m) (hm:m≤all.size) {Q:Exit→Act→World→Prop} (h0:en 0=e) (hs:∀ i o,i < m→all[i]? =some o→KA P all n hp o (en i) (kq i)∧en (i+1)=sY (en i) o.dst (kq i)) {w0:World} {S0:Nat→Prop}
 (fin:∀ a w S,a.tmps.size=n→a.defers=[]→bZ w S hp→Grow w0 S0 w S→xw w S (en m) a→wpList P all Q (all.toList.drop m) a w):
 ∀ (fuel:Nat) (listed:Array Bool) (a:Act) (w:World) (S:Nat→Prop),IE all m listed→(listed.toList.count true)+fuel=all.size→a.tmps.size=n→a.defers=[]→bZ w S hp→Grow w0 S0 w S→xw w S (cur all kq e listed all.size) a→
   wpAny P .any all Q fuel listed a w:=by
 have Nz:∀ i o,i < m→all[i]? =some o→en (i+1)=sY (en i) o.dst (kq i):=fun i o h1 h2=>(hs i o h1 h2).2
 have done:∀ (fuel:Nat) (listed:Array Bool) (a:Act) (w:World) (S:Nat→Prop),IE all m listed→(listed.toList.count true)+fuel=all.size→a.tmps.size=n→a.defers=[]→bZ w S hp→Grow w0 S0 w S→xw w S (cur all kq e listed all.size) a→
  (∀ i,i < m→listed.getD i false=true)→wpAny P .any all Q fuel listed a w:=by
  intro fuel listed a w S L hc hJ C9 hr hg pE iW
  have yP:∀ i,m≤i→listed.getD i false=false:=fun i hi=>by
   cases hv:listed.getD i false with
   | false=>rfl
   | true=>have:=L.head i hv;omega
  have Ln:listed.toList.count true=m:=by
   have:listed.toList=List.replicate m true++List.replicate (all.size - m) false:=by
    apply List.ext_getElem?
    intro i
    rcases Nat.lt_or_ge i m with hi | hi
    ·have o6:i < listed.size:=by rw [L.size];omega
     rw [List.getElem?_append_left (by simpa using hi)]
     have:=iW i hi
     simp [o6] at this
     simp [o6,hi,this]
    ·rw [List.getElem?_append_right (by simpa using hi)]
     rcases Nat.lt_or_ge i listed.size with o6 | o6
     ·have:=yP i hi
      simp [o6] at this
      have h2:i - m < all.size - m:=by rw [L.size] at o6;omega
      simp [o6,h2,this]
     ·have h2:¬ i - m < all.size - m:=by rw [L.size] at o6;omega
      simp [List.getElem?_eq_none (l:=listed.toList) (by simpa using o6),h2]
   rw [this,List.count_append,List.count_replicate,List.count_replicate]
   simp
  have Lo:cur all kq e listed all.size=en m:=by
   have key:∀ k,k≤all.size→cur all kq e listed k=en (min k m):=by
    intro k
    induction k with
    | zero=>intro _;simp [cur,h0]
    | succ k ih=>
      intro hk
      have nV:all[k]? =some all[k]:=by simp [show k < all.size by omega]
      simp only [cur,nV,Option.bind_some,ih (by omega)]
      rcases Nat.lt_or_ge k m with h | h
      ·rw [if_pos (iW k h),Nat.min_eq_left (by omega),Nat.min_eq_left (by omega),Nz k _ h nV]
      ·rw [if_neg (by rw [yP k h];simp),Nat.min_eq_right (by omega),Nat.min_eq_right (by omega)]
   rw [key all.size (Nat.le_refl _),Nat.min_eq_right hm]
  rw [Lo] at pE
  exact BA hB fuel m listed a w (Nat.le_refl _) (by omega) L.size iW yP (fin a w S hJ C9 hr hg pE)
 intro fuel
 induction fuel with
 | zero=>
   intro listed a w S L hc hJ C9 hr hg pE
   refine done 0 listed a w S L hc hJ C9 hr hg pE (fun i hi=>?_)
   have BC:listed.toList.count true=listed.toList.length:=by rw [Array.length_toList,L.size];omega
   have iW:=List.count_eq_length.1 BC
   have o6:i < listed.size:=by rw [L.size];omega
   have:=iW listed[i] (by simp)
   simp [o6];exact this.symm
 | succ fuel ih=>
   intro listed a w S L hc hJ C9 hr hg pE
   by_cases iW:∀ i,i < m→listed.getD i false=true
   ·exact done _ listed a w S L hc hJ C9 hr hg pE iW
   ·refine ⟨fun Ja=>(iW fun i hi=>vr hB L.size Ja i (by omega)).elim,fun i hi=>?_⟩
    obtain ⟨E8,BB⟩:=sH hi
    have sZ:=w7 BB
    have wb:all[i]? =some all[i]:=by simp [E8]
    have Bf:i < m:=by
     rcases Nat.lt_or_ge i m with h | h
     ·exact h
     ·refine (iW fun j hj=>?_).elim
      have ID:all[j]? =some all[j]:=by simp [show j < all.size by omega]
      exact jo.ready L.closed ((iH hB wb ID (by omega)).2 h) hi
    have o6:i < listed.size:=by rw [L.size];exact E8
    obtain ⟨⟨Ku,qX⟩,_⟩:=hs i _ Bf wb
    have tM:Ai w S (looks all all[i]) (en i) a:=by
     intro s IF av nz
     have hc:=GG (kq:=kq) (en:=en) (e:=e) hB L h0 Nz hm wb Bf sZ (fun j hj=>jo.ready L.closed hj hi) IF all.size (Nat.le_refl _)
     rw [Nat.min_eq_right (by omega)] at hc
     exact pE s av (by rw [hc];exact nz)
    have L':IE all m (listed.setIfInBounds i true):=by
     refine ⟨by simpa using L.size,fun k hk=>?_,fun k j o hk nV hw=>?_⟩
     ·rw [gJ o6] at hk
      split at hk
      ·omega
      ·exact L.head k hk
     ·rw [gJ o6] at hk
      rw [gJ o6]
      split
      ·rfl
      ·split at hk
       ·rename_i P1
        subst P1
        obtain rfl:all[k]=o:=by rw [wb] at nV;exact Option.some.inj nV
        exact pf wb hi hw
       ·exact L.closed k j o hk nV hw
    have BC:(listed.setIfInBounds i true).toList.count true+fuel=all.size:=by
     have GK:listed[i]=false:=by simpa [o6] using sZ
     have:(listed.setIfInBounds i true).toList=listed.toList.set i true:=by simp
     rw [this,List.count_set (by simpa using o6)]
     have Le:listed.toList[i]'(by simpa using o6)=false:=by simpa using GK
     rw [Le]
     have e1:(if (false==true)=true then 1 else 0)=0:=rfl
     have e2:(if (true==true)=true then 1 else 0)=1:=rfl
     rw [e1,e2]
     omega
    have RP:∀ (v:Value) (w':World) (S':Nat→Prop),Grow w S w' S'→At w' S' (kq i) v→xw w' S' (cur all kq e (listed.setIfInBounds i true) all.size) (a.put (all[i]).dst v):=by
     intro v w' S' KC nQ s av nz
     rw [I9 (kq:=kq) (e:=e) hB L wb Bf sZ s all.size (Nat.le_refl _),if_pos (by omega)] at nz
     by_cases hd:(all[i]).dst=some s
     ·rw [hd,lU] at nz
      obtain rfl:=Option.some.inj nz
      have Gd:=Ku s hd
      exact ⟨v,by rw [hd];simp [Act.put,hJ,Gd],nQ⟩
     ·rw [j4 hd] at nz
      obtain ⟨u,h1,h2⟩:=pE s av nz
      refine ⟨u,?_,h2.mono (KC.jX hr.slt)⟩
      cases Al:(all[i]).dst with
      | none=>simpa [Act.put] using h1
      | some d'=>
        have wV:d'≠s:=fun e=>hd (by rw [Al,e])
        simp [Act.put,wV,h1]
    have O6:∀ v,(a.put (all[i]).dst v).tmps.size=n:=fun v=>by cases (all[i]).dst<;>simp [Act.put,hJ]
    have O7:∀ v,(a.put (all[i]).dst v).defers=[]:=fun v=>by cases (all[i]).dst<;>simp [Act.put,C9]
    simp only [wpOp,wb]
    rcases qX with ⟨hw,P2⟩ | ⟨hw,nz⟩
    ·rw [if_pos (sI hw tM)]
     refine .inl (P2 w S a hJ C9 hr tM _ _ (fun v w' S' KC nQ=>?_))
     exact ih _ _ _ S' L' BC (O6 v) (O7 v) (hr.grow KC) (hg.trans KC) (RP v w' S' KC nQ)
    ·rw [if_neg (by rw [sI hw tM];simp)]
     refine ih _ _ _ S L' BC (O6 _) (O7 _) hr hg (RP _ w S (Grow.refl hr.slt) ?_)
     rw [nz];exact .raw _
end order
theorem sJ (d:Nat) (av:AV) (tm:List (Nat×AV)):lk ((d,av) :: tm)=sY (lk tm) (some d) av:=by
 funext s
 simp only [lk,sY]
 by_cases h:d=s
 ·subst h;simp
 ·rw [nd h,if_neg h]
def CY:List Nat→List (Nat×AV)→List (Nat×AV)
 | [],_=>[]
 | s :: r,tm=>match lk tm s with
   | some av=>(s,av) :: CY r tm
   | none=>CY r tm
theorem Am:∀ {ls:List Nat} {tm:List (Nat×AV)} {s:Nat} {av:AV},lk (CY ls tm) s=some av→s∈ls∧lk tm s=some av
 | [],tm,s,av,h=>by simp [CY,lk] at h
 | k :: ls,tm,s,av,h=>by
   simp only [CY] at h
   split at h
   ·rename_i ep hk
    simp only [lk] at h
    split at h
    ·rename_i hb
     obtain rfl:k=s:=by simpa using hb
     obtain rfl:=Option.some.inj h
     exact ⟨by simp,hk⟩
    ·obtain ⟨h1,h2⟩:=Am h
     exact ⟨by simp [h1],h2⟩
   ·obtain ⟨h1,h2⟩:=Am h
    exact ⟨by simp [h1],h2⟩
theorem oH {w:World} {S:Nat→Prop} {a:Act} {n:Nat} {hp:Heap} {ls:List Nat} {tm:List (Nat×AV)} (h1:a.tmps.size=n) (h2:a.defers=[]) (h3:bZ w S hp) (h4:Ai w S ls (lk tm) a):df w S ⟨n,CY ls tm,hp⟩ a:=
 ⟨h1,h2,fun s av h=>h4 s (Am h).1 av (Am h).2,h3⟩
def AM (P:Program) (all:Array Oper) (n:Nat) (hp:Heap) (l:List Oper) (tm:List (Nat×AV)) (Q:List (Nat×AV)→Prop):Prop:=∃ nB,I7 P all n hp l (lk tm) (lk nB)∧Q nB
section rules
variable {P:Program} {all:Array Oper} {rest:List Oper} {n:Nat} {tm:List (Nat×AV)} {hp:Heap} {Q:List (Nat×AV)→Prop} {d:Nat} {ty:TypeId} {pos:String} {af:Array Edge} {op:Op}
theorem AM.nil (h:Q tm):AM P all n hp [] tm Q:=⟨tm,.nil _,h⟩
theorem AM.mv {av:AV} (h:MV P all n ⟨some d,op,ty,pos,af,none⟩ (lk tm) hp av) (hn:Nat.blt d n=true) (k:AM P all n hp rest ((d,av) :: tm) Q):AM P all n hp (⟨some d,op,ty,pos,af,none⟩ :: rest) tm Q:=by
 obtain ⟨nB,k1,k2⟩:=k
 refine ⟨nB,.run rfl h (fun d' hd=>?_) (by rw [sJ] at k1;exact k1),k2⟩
 obtain rfl:=Option.some.inj hd
 simpa using hn
theorem AM.qv {av:AV} (q:QV P ⟨some d,op,ty,pos,af,none⟩ ⟨n,CY (looks all ⟨some d,op,ty,pos,af,none⟩) tm,hp⟩ av) (hn:Nat.blt d n=true) (k:AM P all n hp rest ((d,av) :: tm) Q):AM P all n hp (⟨some d,op,ty,pos,af,none⟩ :: rest) tm Q:=by
 refine AM.mv (fun w S a h1 h2 h3 h4 K Q' hK=>?_) hn k
 obtain ⟨v,g1,g2⟩:=q w S a (oH h1 h2 h3 h4)
 show Oper.upon P _ a K Q' _
 rw [g1 w (Ext.refl w)]
 exact hK v w S (Grow.refl h3.slt) g2
theorem AM.aq {j:Nat} {want b:Bool} {s:Nat} (hj:(all[j]?).bind (·.dst)=some s) (hs:lk tm s=some (.bool b)) (hb:b=want)
 (k:AM P all n hp (⟨some d,op,ty,pos,af,none⟩ :: rest) tm Q):AM P all n hp (⟨some d,op,ty,pos,af,some (j,want)⟩ :: rest) tm Q:=by
 obtain ⟨nB,k1,k2⟩:=k
 refine ⟨nB,?_,k2⟩
 cases k1 with
 | run hg h hd k=>
   refine .run ⟨s,hj,.inl ⟨b,hs,by simp [hb]⟩⟩ ?_ hd k
   intro w S a h1 h2 h3 h4 K Q' hK
   exact h w S a h1 h2 h3 (fun t ht=>h4 t (by simp only [looks,List.append_nil] at ht ⊢;exact List.mem_append_left _ ht)) K Q' hK
 | pass hg hd k=>simp [lz] at hg
theorem AM.ao {j:Nat} {want b:Bool} {s:Nat} (hj:(all[j]?).bind (·.dst)=some s) (hs:lk tm s=some (.bool b)) (hb:b=!want) (hn:Nat.blt d n=true)
 (k:AM P all n hp rest ((d,.raw undef) :: tm) Q):AM P all n hp (⟨some d,op,ty,pos,af,some (j,want)⟩ :: rest) tm Q:=by
 obtain ⟨nB,k1,k2⟩:=k
 refine ⟨nB,.pass ⟨s,hj,.inl ⟨b,hs,?_⟩⟩ (fun d' hd=>?_) (by rw [sJ] at k1;exact k1),k2⟩
 ·rw [hb];cases want<;>rfl
 ·obtain rfl:=Option.some.inj hd
  simpa using hn
theorem AM.aH {j:Nat} {want:Bool} {s:Nat} (hj:(all[j]?).bind (·.dst)=some s) (hs:lk tm s=some (.raw undef)) (hn:Nat.blt d n=true)
 (k:AM P all n hp rest ((d,.raw undef) :: tm) Q):AM P all n hp (⟨some d,op,ty,pos,af,some (j,want)⟩ :: rest) tm Q:=by
 obtain ⟨nB,k1,k2⟩:=k
 refine ⟨nB,.pass ⟨s,hj,.inr ⟨hs,rfl⟩⟩ (fun d' hd=>?_) (by rw [sJ] at k1;exact k1),k2⟩
 obtain rfl:=Option.some.inj hd
 simpa using hn
theorem AM.lit {l:List Oper} {s:Nat} {b c:Bool} (hs:lk tm s=some (.bool b)) (hb:b=c) (k:AM P all n hp l ((s,.bool c) :: tm) Q):AM P all n hp l tm Q:=by
 subst hb
 obtain ⟨nB,k1,k2⟩:=k
 have:lk ((s,.bool b) :: tm)=lk tm:=by
  rw [sJ]
  funext t
  simp only [sY]
  split
  ·rename_i h;subst h;exact hs.symm
  ·rfl
 rw [this] at k1
 exact ⟨nB,k1,k2⟩
theorem AM.guard {j s:Nat} {want b:Bool} (hj:(all[j]?).bind (·.dst)=some s) (hs:lk tm s=some (.bool b)) (hn:Nat.blt d n=true) (h1:b=want→AM P all n hp (⟨some d,op,ty,pos,af,none⟩ :: rest) ((s,.bool want) :: tm) Q)
 (h2:b=!want→AM P all n hp rest ((d,.raw undef) :: (s,.bool (!want)) :: tm) Q):AM P all n hp (⟨some d,op,ty,pos,af,some (j,want)⟩ :: rest) tm Q:=by
 by_cases hb:b=want
 ·exact AM.lit hs hb (AM.aq hj (by simp [lk]) rfl (h1 hb))
 ·have w4:b=!want:=by cases b<;>cases want<;>simp_all
  exact AM.lit hs w4 (AM.ao hj (b:=!want) (by simp [lk]) rfl hn (h2 w4))
theorem AM.cy {j s:Nat} {p:Prop} [Decidable p] (hj:(all[j]?).bind (·.dst)=some s) (hs:lk tm s=some (.bool (decide p))) (hn:Nat.blt d n=true) (h1:p→AM P all n hp (⟨some d,op,ty,pos,af,none⟩ :: rest) ((s,.bool true) :: tm) Q)
 (h2:¬ p→AM P all n hp rest ((d,.raw undef) :: (s,.bool false) :: tm) Q):AM P all n hp (⟨some d,op,ty,pos,af,some (j,true)⟩ :: rest) tm Q:=
 AM.guard hj hs hn (fun h=>h1 (of_decide_eq_true h)) (fun h=>h2 (of_decide_eq_false h))
theorem AM.dA {j s:Nat} {p:Prop} [Decidable p] (hj:(all[j]?).bind (·.dst)=some s) (hs:lk tm s=some (.bool (decide p))) (hn:Nat.blt d n=true) (h1:¬ p→AM P all n hp (⟨some d,op,ty,pos,af,none⟩ :: rest) ((s,.bool false) :: tm) Q)
 (h2:p→AM P all n hp rest ((d,.raw undef) :: (s,.bool true) :: tm) Q):AM P all n hp (⟨some d,op,ty,pos,af,some (j,false)⟩ :: rest) tm Q:=
 AM.guard hj hs hn (fun h=>h1 (of_decide_eq_false h)) (fun h=>h2 (of_decide_eq_true h))
theorem AM.we {f:FuncId} {args:List Operand} {ts:Array TypeId} {l l':List AV} {R:AV} [bw P f] (hl:wZ (CY (looks all ⟨some d,.call {callee:=.value (.func f),args:=args.toArray,argTypes:=ts},ty,pos,af,none⟩) tm) args=some l) (c:Pu P f l' R) (co:vk hp l l') (hn:Nat.blt d n=true)
 (k:AM P all n hp rest ((d,R) :: tm) Q):AM P all n hp (⟨some d,.call {callee:=.value (.func f),args:=args.toArray,argTypes:=ts},ty,pos,af,none⟩ :: rest) tm Q:=by
 refine AM.mv (fun w S a h1 h2 h3 h4 K Q' hK=>?_) hn k
 have r:=oH h1 h2 h3 h4
 show Oper.upon P _ a K Q' _
 rw [ng]
 obtain ⟨g1,g2⟩:=pP r hl
 obtain ⟨g3,g4⟩:=vk.at r.hp co g1 g2
 refine (c w S _ (sb h3.slt h3.fU) (by simpa using g3) g4).mono ?_
 rintro e w' ⟨v,rr,h',S',rfl,rfl,k3,k4,k5⟩
 exact hK v w' S' ⟨k5.D2,fun m hm=>(k5.jX m hm).1,fun m hm hs=>(k5.other m hm (fun ⟨x,hx,_⟩=>by simp at hx)).2 hs,k4.slt⟩ k3
theorem AM.jj {t e:TypeId} {i:TypeInfo} {z:Value} {len sz:Nat} {parts:List (Nat×Operand)} {xs:List AV} [ax P t (.slice e)] [aV P e i] [lO P e sz] (hz:i.zero=some z)
 (hl:Ga (CY (looks all ⟨some d,.buildSlice t len parts.toArray,ty,pos,af,none⟩) tm) parts 0=some xs) (hlen:Nat.beq parts.length len=true) (uj:uw i.size xs=true) (Gy:Nat.ble (len * i.size) 16777216=true) (hn:Nat.blt d n=true)
 (k:AM P all n hp rest ((d,.list sz xs) :: tm) Q):AM P all n hp (⟨some d,.buildSlice t len parts.toArray,ty,pos,af,none⟩ :: rest) tm Q:=by
 obtain ⟨i',E8,BB⟩:=lO.h (P:=P) (t:=e)
 obtain rfl:i'=i:=by rw [aV.h (P:=P) (t:=e)] at E8;exact (Option.some.inj E8).symm
 subst BB
 refine AM.mv (fun w S a h1 h2 h3 h4 K Q' hK=>?_) hn k
 have r:=oH h1 h2 h3 h4
 obtain rfl:parts.length=len:=Nat.eq_of_beq_eq_true hlen
 have Gy:=Nat.le_of_ble_eq_true Gy
 obtain ⟨zz,I0⟩:∃ zz:Array Value,zz=if parts.length * i'.size=0 then #[] else z.cells:=⟨_,rfl⟩
 obtain ⟨vs,g1,g2,g3,g4⟩:=xo r i'.size parts 0 xs ((Array.range (parts.length * i'.size)).map (zz[· % zz.size]!)) hl (ly uj) (by simp)
 simp only [Nat.zero_mul,List.take_zero,List.nil_append] at g1
 have e0:=Ext.alloc w (.cells vs.toArray e)
 have rZ:(execOp a.eval ⟨some d,.buildSlice t parts.length parts.toArray,ty,pos,af,none⟩).run P w=.ok (.value (.slice (some ⟨w.heap.size,0,none⟩) parts.length parts.length)) (w.alloc (.cells vs.toArray e)):=by
  have hm:((parts.toArray.map fun p=>(p.1,a.eval p.2))).toList=parts.map fun p=>(p.1,a.eval p.2):=by simp
  simp only [execOp,Instr.buildSlice,Sem.run_bind,run_underlying (ax.h (P:=P) (t:=t)),Result.andThen_ok,sizeOf,typeInfo,run_program,aV.h (P:=P) (t:=e),Sem.run_pure]
  rw [if_neg (by omega)]
  by_cases h0:parts.length * i'.size=0
  ·rw [if_pos h0] at I0 ⊢
   subst I0
   simp only [Sem.run_bind,Result.andThen_ok,Sem.run_pure,hm,g1,mJ]
  ·rw [if_neg h0] at I0 ⊢
   subst I0
   simp only [Sem.run_bind,Result.andThen_ok,Sem.run_pure,zeroValue,typeInfo,run_program,aV.h (P:=P) (t:=e),hz,hm,g1,mJ]
 show Oper.upon P _ a K Q' _
 rw [rZ]
 have s0:(w.alloc (.cells vs.toArray e)).heap[w.heap.size]? =some (.cells vs.toArray e (0,0)):=by
  show (w.heap.push _)[w.heap.size]? =_
  simp
 refine hK _ _ (fun m=>S m∨m=w.heap.size) ⟨e0,fun m hm=>.inl hm,fun m hm hs=>hs.elim id (fun h=>by omega),fun m hm=>?_⟩ ?_
 ·rcases hm with hm | hm
  ·exact Nat.lt_of_lt_of_le (h3.slt m hm) e0.size
  ·subst hm;simp
 ·have:=At.list (w:=w.alloc (.cells vs.toArray e)) (S:=fun m=>S m∨m=w.heap.size) i'.size xs (some ⟨w.heap.size,0,none⟩) parts.length vs (ly uj) (by rw [cA (ly uj),g2]) (fun j c u hc hu=>?_) (fun j u hu=>?_) (by omega)
  ·rw [g3] at this;exact this
  ·exact (g4 j c u hc (by simpa using hu)).mono fun m hm=>⟨.inl hm,e0.same m (h3.slt m hm)⟩
  ·refine ⟨_,rfl,rfl,.inr rfl,?_⟩
   rw [ll s0]
   simpa using hu
end rules
def BD:Nat→List Oper→Option (List Oper×List Oper)
 | 0,l=>some ([],l)
 | m+1,o :: l=>match BD m l with
   | some (a,b)=>some (o :: a,b)
   | none=>none
 | _+1,[]=>none
theorem sK:∀ {m:Nat} {l a b:List Oper},BD m l=some (a,b)→l=a++b∧a.length=m
 | 0,l,a,b,h=>by simp [BD] at h;obtain ⟨rfl,rfl⟩:=h;exact ⟨rfl,rfl⟩
 | m+1,[],a,b,h=>by simp [BD] at h
 | m+1,o :: l,a,b,h=>by
   simp only [BD] at h
   split at h
   ·rename_i a' b' h'
    simp only [Option.some.injEq,Prod.mk.injEq] at h
    obtain ⟨rfl,rfl⟩:=h
    obtain ⟨h1,h2⟩:=sK h'
    exact ⟨by rw [h1];rfl,by simp [h2]⟩
   ·cases h
theorem ab.eh {P:Program} {R:St→Prop} {k:List It} {id n:Nat} {tm:List (Nat×AV)} {hp:Heap} {l hd tl:List Oper} (m:Nat) (hm:P.follows .mixedOrders=true) (hs:BD m l=some (hd,tl)) {A:List Nat} (hA:E6 l.toArray=A) (P3:Bz l.toArray m A=true)
 (h:AM P l.toArray n hp hd tm (fun nB=>ae P l.toArray tl ⟨n,nB,hp⟩ (ab P R k))):ab P R (.code (.region id l.toArray true) :: k) ⟨n,tm,hp⟩:=by
 have hB:qW l.toArray m:=⟨A,hA,P3⟩
 intro w S a r
 obtain ⟨hl,Jb⟩:=sK hs
 obtain ⟨nB,hA,rZ⟩:=h
 obtain ⟨kq,en,e0,e1,e2⟩:=hA.C7
 have hJ:m≤l.toArray.size:=by simp [hl,Jb]
 refine wp_region_any hm ?_
 have xx:Ext w {w with drawn:=w.drawn+1}:=Ext.Gq w _ (Nat.le_succ _)
 have g0:Grow w S {w with drawn:=w.drawn+1} S:=⟨xx,fun _ h=>h,fun _ _ h=>h,fun n hn=>r.hp.slt n hn⟩
 have Lp:∀ k,cur l.toArray kq (lk tm) (Array.replicate l.toArray.size false) k=lk tm:=by
  intro k
  induction k with
  | zero=>rfl
  | succ k ih=>
    simp only [cur,ih]
    rw [if_neg]
    rcases Nat.lt_or_ge k l.toArray.size with h | h
    ·simp at h;simp [h]
    ·simp at h;simp [Nat.not_lt.2 h]
 have hf:∀ k,(Array.replicate l.toArray.size false).getD k false=false:=by
  intro k
  rcases Nat.lt_or_ge k l.toArray.size with h | h
  ·simp at h;simp [h]
  ·simp at h;simp [Nat.not_lt.2 h]
 refine GJ (P:=P) (all:=l.toArray) (n:=n) (m:=m) (hp:=hp) (kq:=kq) (en:=en) (e:=lk tm) hB hJ e0 (fun i o hi ho=>e2 i o ?_) (w0:=w) (S0:=S) (fun a' w' S' h1 h2 h3 h4 h5=>?_) l.toArray.size (Array.replicate l.toArray.size false) a _ S
  ⟨by simp,(fun k hk=>by rw [hf k] at hk;cases hk),(fun k i o hk=>by rw [hf k] at hk;cases hk)⟩ (by simp [List.count_replicate]) r.size r.defers (r.hp.ext xx) g0 (by rw [Lp];exact (r.ext xx).tm)
 ·have:l[i]? =some o:=by simpa using ho
  rw [hl,List.getElem?_append_left (by omega)] at this
  exact this
 ·have NA:l.toArray.toList.drop m=tl:=by
   simp only [hl,← Jb]
   exact List.drop_left
  rw [NA]
  have GL:en m=lk nB:=by rw [← Jb];exact e1
  rw [GL] at h5
  refine iu ?_ _ _ _ (rZ.go (h:=hp) (w:=w) (S:=S) ⟨h1,h2,h5,h3⟩ (h4.RM r.hp.slt hp))
  rintro ex a2 w2 ⟨rfl,DT,S2,q1,q2,q3⟩
  exact ⟨DT,S2,q1,q2,q3⟩
section
variable {P:Program} {all:Array Oper} {rest:List Oper} {n:Nat} {hp:Heap} {tm:List (Nat×AV)} {Q:List (Nat×AV)→Prop} {dd:Option Nat} {ty:TypeId} {pos:String} {af:Array Edge}
end
theorem RQ {α β:Type} {o:Option α} {f:α→Option β} {r:β} (h:o.bind f=some r):∃ v,o=some v∧f v=some r:=by
 cases o with
 | none=>cases h
 | some v=>exact ⟨v,rfl,h⟩
theorem rm {α:Type} {p:Prop} [Decidable p] {a b x:α} (hp:p) (h:(if p then a else b)=x):a=x:=by rw [if_pos hp] at h;exact h
theorem yQ {α:Type} {p:Prop} [Decidable p] {a b x:α} (hp:¬ p) (h:(if p then a else b)=x):b=x:=by rw [if_neg hp] at h;exact h
theorem wg {α:Type} {p:Bool} {a b x:α} (hp:p=false) (h:(if p=true then a else b)=x):b=x:=by rw [if_neg (by simp [hp])] at h;exact h
def oh {X A:Type} (f:X→Option (X⊕A)):Nat→X→Option A
 | 0,_=>none
 | n+1,x=>match f x with
   | none=>none
   | some (.inl y)=>oh f n y
   | some (.inr a)=>some a
theorem BE {X A:Type} {f:X→Option (X⊕A)} {a:A}:∀ {n:Nat} {x:X},oh f n x=some a→oh f (n+1) x=some a
 | 0,x,h=>by cases h
 | n+1,x,h=>by
   unfold oh at h ⊢
   split at h
   ·cases h
   ·exact BE h
   ·exact h
theorem xy {X A:Type} {f:X→Option (X⊕A)} {a:A} {x:X} {n:Nat} (h:oh f n x=some a):∀ m,oh f (n+m) x=some a
 | 0=>h
 | m+1=>BE (xy h m)
theorem E9 {X A:Type} {f:X→Option (X⊕A)} {a b:A} {x:X} {n m:Nat} (h:oh f n x=some a) (k:oh f m x=some b):a=b:=by
 have h1:=xy h m
 have h2:=xy k n
 rw [Nat.add_comm] at h2
 rw [h1] at h2
 exact Option.some.inj h2
open Classical in
noncomputable def iter {X A:Type} (f:X→Option (X⊕A)) (x:X):Option A:=
 if h:∃ a n,oh f n x=some a then some h.choose else none
theorem sL {X A:Type} {f:X→Option (X⊕A)} {x:X} {a:A}:iter f x=some a↔∃ n,oh f n x=some a:=by
 unfold iter
 constructor
 ·intro h
  split at h
  ·rename_i hx
   obtain ⟨n,hn⟩:=hx.choose_spec
   exact ⟨n,by rw [hn];exact h⟩
  ·cases h
 ·rintro ⟨n,hn⟩
  have hx:∃ a n,oh f n x=some a:=⟨a,n,hn⟩
  rw [dif_pos hx]
  obtain ⟨m,hm⟩:=hx.choose_spec
  rw [E9 hm hn]
def after {X A:Type} (k:X→Option A):X⊕A→Option A
 | .inl y=>k y
 | .inr a=>some a
theorem iter_eq {X A:Type} (f:X→Option (X⊕A)) (x:X):iter f x=(f x).bind (after (iter f)):=by
 apply Option.ext
 intro a
 rw [sL]
 constructor
 ·rintro ⟨n,hn⟩
  match n with
  | 0=>cases hn
  | n+1=>
    unfold oh at hn
    split at hn
    ·cases hn
    ·rename_i y hy;rw [hy];exact sL.2 ⟨n,hn⟩
    ·rename_i b hb;rw [hb];exact hn
 ·intro h
  obtain ⟨s,hs,h⟩:=RQ h
  cases s with
  | inl y=>
    obtain ⟨n,hn⟩:=sL.1 h
    exact ⟨n+1,by unfold oh;rw [hs];exact hn⟩
  | inr b=>exact ⟨1,by unfold oh;rw [hs];exact h⟩
theorem cj {X A:Type} {o:Option A} {s:X⊕A} {a:A} (h:o.map .inr=some s) (hA:∀ a',s=.inr a'→a'=a):o=some a:=by
 cases o with
 | none=>cases h
 | some b=>
   have:=Option.some.inj h
   rw [hA b this.symm]
@[simp] theorem bB {X A:Type} (k:X→Option A) (y:X):after k (.inl y)=k y:=rfl
@[simp] theorem MK {X A:Type} (k:X→Option A) (a:A):after k (.inr a)=some a:=rfl
theorem bb {X A:Type} (o:Option A) (k:X→Option A):(o.map Sum.inr).bind (after k)=o:=by cases o<;>rfl
def idx {α:Type} (xs:List α) (i:Int):Option α:=if 0≤i then xs[i.toNat]? else none
def app {α:Type} (xs ys:List α):Option (List α):=if xs.length+ys.length≤1000000000 then some (xs++ys) else none
def vu {α:Type} (xs:List α) (l h:Int):Option (List α):=if 0≤l∧l≤h∧h≤xs.length then some ((xs.drop l.toNat).take (h.toNat - l.toNat)) else none
abbrev aJ (i:Int):Int:=IntKind.i64.wrap i
def quo (a b:Int):Option Int:=if b=0 then none else some (aJ (a.tdiv b))
def rem (a b:Int):Option Int:=if b=0 then none else some (a.tmod b)
theorem GM {α:Type} {e:α→AV} {xs:List α} {i:Int} {x:α} (h:idx xs i=some x):Gx (xs.map e) i=some (e x):=by
 unfold idx at h;unfold Gx
 split at h
 ·rename_i h0;rw [if_pos h0,List.getElem?_map,h];rfl
 ·cases h
theorem gK {α:Type} {xs:List α} {i:Int} {x:α} (h:idx xs i=some x):0≤i∧i < xs.length∧xs[i.toNat]? =some x:=by
 unfold idx at h
 split at h
 ·rename_i h0
  have:=(List.getElem?_eq_some_iff.1 h).1
  exact ⟨h0,by omega,h⟩
 ·cases h
theorem GN {α:Type} {xs ys zs:List α} (h:app xs ys=some zs):xs.length+ys.length≤1000000000∧zs=xs++ys:=by
 unfold app at h
 split at h
 ·exact ⟨by assumption,(Option.some.inj h).symm⟩
 ·cases h
theorem pS {α:Type} {xs zs:List α} {l h:Int} (hh:vu xs l h=some zs):(0≤l∧l≤h∧h≤xs.length)∧zs=(xs.drop l.toNat).take (h.toNat - l.toNat):=by
 unfold vu at hh
 split at hh
 ·exact ⟨by assumption,(Option.some.inj hh).symm⟩
 ·cases hh
theorem GO {a b c:Int} (h:quo a b=some c):b≠0∧c=aJ (a.tdiv b):=by
 unfold quo at h
 split at h
 ·cases h
 ·exact ⟨by assumption,(Option.some.inj h).symm⟩
theorem GP {a b c:Int} (h:rem a b=some c):b≠0∧c=a.tmod b:=by
 unfold rem at h
 split at h
 ·cases h
 ·exact ⟨by assumption,(Option.some.inj h).symm⟩
section
variable {P:Program} {R:St→Prop} {k:List It} {σ:St}
theorem ab.cut {c:Code} (I:St→Prop) (h:ab P R (.code c :: .stop (fun aC=>aj aC I) :: k) σ) (hk:∀ aC,I aC→ab P R k aC):ab P R (.code c :: k) σ:=by
 intro w S a r
 refine wp_mono (h w S a r) ?_
 rintro e a' w' ⟨aC,S',h1,h2,h3⟩
 cases e with
 | normal=>
   obtain ⟨E4,Nh,hI,hr,he⟩:=h1 w' S' a' h2
   exact ⟨E4,Nh,hk E4 hI,hr,h3.trans he⟩
 | exit id=>exact ⟨aC,S',h1,h2,h3⟩
 | goto l=>exact ⟨aC,S',h1,h2,h3⟩
 | ret=>exact ⟨aC,S',h1,h2,h3⟩
 | panic c=>exact ⟨aC,S',h1,h2,h3⟩
 | outgrown=>exact ⟨aC,S',h1,h2,h3⟩
theorem ab.cM {body:Code} {X A:Type} (f:X→Option (X⊕A)) (mk:X→St→Prop) {a:A} {x0:X} (h:iter f x0=some a) (h0:aj σ (mk x0))
 (hs:∀ x s σ (J:St→Prop),mk x σ→f x=some s→(∀ y aC,s=.inl y→aj aC (mk y)→J aC)→(∀ a',s=.inr a'→a'=a)→ab P R (.code body :: .stop J :: k) σ):
 ab P R (.code (.loop body) :: k) σ:=by
 obtain ⟨m,hm⟩:=sL.1 h
 refine ab.Nr (fun m σ=>∃ x,oh f m x=some a∧mk x σ) m (h0.mono fun aC U2=>⟨x0,hm,U2⟩) ?_
 rintro m wW ⟨x,hx,fy⟩
 match m with
 | 0=>cases hx
 | m+1=>
   unfold oh at hx
   split at hx
   ·cases hx
   ·rename_i y hy
    refine hs x _ wW _ fy hy (fun y' aC e hi=>⟨m,by omega,hi.mono fun E4 hk=>⟨y',?_,hk⟩⟩) (fun a' e=>by cases e)
    have:=Sum.inl.inj e
    rw [← this];exact hx
   ·rename_i b hb
    refine hs x _ wW _ fy hb (fun y' aC e _=>by cases e) (fun a' e=>?_)
    rw [← Sum.inr.inj e];exact Option.some.inj hx
end
inductive BF:Heap→Heap→Heap→Prop
 | nil {h:Heap}:BF h [] h
 | cons {h h1 t r:Heap} {b:Bk} {o:Ob} (u:ui h b o h1) (k:BF h1 t r):BF h ((b,o) :: t) r
theorem BF.perm {h t r:Heap} (s:BF h t r):h.Perm (t++r):=by
 induction s with
 | nil=>exact List.Perm.refl _
 | cons u k ih=>exact u.perm.trans (List.Perm.cons _ ih)
section rules
variable {P:Program} {all:Array Oper} {rest:List Oper} {n:Nat} {tm:List (Nat×AV)} {hp:Heap} {Q:St→Prop} {d:Nat} {ty:TypeId} {pos:String} {af:Array Edge}
theorem xz {f:FuncId} {args:List Operand} {ts:Array TypeId} {l l':List AV} {h0 hr:Heap} {Qc:AV→Heap→Prop} [bw P f] (hl:wZ tm args=some l) (c:aF P f l' h0 Qc) (co:vk hp l l') (hs:BF hp h0 hr) (hn:Nat.blt d n=true)
 (kk:∀ r h',Qc r h'→ae P all rest ⟨n,(d,r) :: tm,h'++hr⟩ Q):ae P all (⟨some d,.call {callee:=.value (.func f),args:=args.toArray,argTypes:=ts},ty,pos,af,none⟩ :: rest) ⟨n,tm,hp⟩ Q:=
 GA hl c co hs.perm hn kk
theorem bO {α:Type} {g:α→AV} {Xs:List α} {el:α} {t e:TypeId} {i:TypeInfo} {x y:Operand} {k:IntKind} {j:Int} {cs:List AV} {sz:Nat} [ax P t (.slice e)] [aV P e i] (hx:cx tm x=some (.list sz (Xs.map g))) (hJ:Nat.beq i.size sz=true) (hy:cx tm y=some (.int k j))
 (hv:idx Xs j=some el) (h0:Nat.blt 0 sz=true) (hc:oP (g el).cells=some cs):QV P ⟨some d,.indexAddr t x y,ty,pos,af,none⟩ ⟨n,tm,hp⟩ (.cE cs):=by
 rw [← jw hc]
 exact Ae hx hJ hy (GM hv) h0
theorem cV {α:Type} {g:α→AV} {Xs:List α} {x:Operand} {t e:TypeId} {sz:Nat} [ax P t (.slice e)] (hx:cx tm x=some (.list sz (Xs.map g))):QV P ⟨some d,.call {callee:=.builtin .len,args:=#[x],argTypes:=#[t]},ty,pos,af,none⟩ ⟨n,tm,hp⟩ (.int .i64 (Xs.length:Nat)):=by
 have h:=C2 (P:=P) (d:=d) (ty:=ty) (pos:=pos) (af:=af) (n:=n) (tm:=tm) (hp:=hp) (t:=t) (e:=e) hx
 rw [List.length_map] at h
 exact h
theorem NB {k:IntKind} {xt yt:TypeId} {x y:Operand} {i j:Int} (hx:cx tm x=some (.int k i)) (hy:cx tm y=some (.int k j)) (h0:j≠0):QV P ⟨some d,.binOp .quo xt x y yt,ty,pos,af,none⟩ ⟨n,tm,hp⟩ (.int k (k.wrap (i.tdiv j))):=
 qV hx hy (v:=.int k (k.wrap (i.tdiv j))) (fun w=>by simp [binOp,Op.intDiv,h0]) (fun w S=>.int _ _)
theorem Lq {xt yt:TypeId} {x y:Operand} {i j r:Int} (hx:cx tm x=some (.int .i64 i)) (hy:cx tm y=some (.int .i64 j)) (h:quo i j=some r):QV P ⟨some d,.binOp .quo xt x y yt,ty,pos,af,none⟩ ⟨n,tm,hp⟩ (.int .i64 r):=by
 obtain ⟨h0,rfl⟩:=GO h
 exact NB hx hy h0
theorem GQ {k:IntKind} {xt yt:TypeId} {x y:Operand} {i j r:Int} (hx:cx tm x=some (.int k i)) (hy:cx tm y=some (.int k j)) (h:rem i j=some r):QV P ⟨some d,.binOp .rem xt x y yt,ty,pos,af,none⟩ ⟨n,tm,hp⟩ (.int k r):=by
 obtain ⟨h0,rfl⟩:=GP h
 exact Gt hx hy h0
theorem jk {x y:Operand} {t:TypeId} {s:List UInt8} {k:IntKind} {i:Int} {c:UInt8} [ax P t .string] (hx:cx tm x=some (.str s)) (hy:cx tm y=some (.int k i)) (hc:idx s i=some c):QV P ⟨some d,.index t x y,ty,pos,af,none⟩ ⟨n,tm,hp⟩ (.int .u8 (c.toNat:Int)):=
 let ⟨h0,_,h⟩:=gK hc
 Bn hx hy h0 h
theorem kU {α:Type} {g:α→AV} {Xs Ys Zs:List α} {t e:TypeId} {i:TypeInfo} {z:Value} {x y:Operand} {src:AV} {b:Bk} {len sz:Nat} {bU:Bk→Heap} [ax P t (.slice e)] [aV P e i] (hx:cx tm x=some (.sl sz b 0 len)) (hy:cx tm y=some src) (hz:i.zero=some z)
 (DZ:Nat.beq z.cells.size i.size=true) (hJ:Nat.beq i.size sz=true) (h0:Nat.blt 0 sz=true) (hn:Nat.blt d n=true) (PY:Nat.ble i.bytes 65536=true) (hs:Src hp sz src (Ys.map g)) (hv:app Xs Ys=some Zs) (u:∀ b',jY hp b (.arr sz (Xs.map g)) b' (.arr sz (Zs.map g)) (bU b')) (hlen:len=Xs.length)
 (kk:∀ b':Bk,ae P all rest ⟨n,(d,.sl sz b' 0 Zs.length) :: tm,bU b'⟩ Q):ae P all (⟨some d,.call {callee:=.builtin .append,args:=#[x,y],argTypes:=#[t,t]},ty,pos,af,none⟩ :: rest) ⟨n,tm,hp⟩ Q:=by
 obtain ⟨hb,rfl⟩:=GN hv
 subst hlen
 refine E5 (xs:=Xs.map g) (ys:=Ys.map g) (bU:=bU) hx hy hz DZ hJ h0 hn PY hs (by simpa using u) (by simp) (by simpa using hb) (fun b'=>?_)
 have:=kk b'
 simpa using this
end rules
theorem Fa {hp:Heap} {sz:Nat} {b:Bk} {α:Type} {g:α→AV} {Xs:List α} {len:Nat} (f:ki hp b (.arr sz (Xs.map g))∨ki hp b (.wD sz (Xs.map g))) (h:len=Xs.length):Src hp sz (.sl sz b 0 len) (Xs.map g):=
 .whole b len _ f (by simpa using h)
end Go.Eng
