/- The engine: abstract values, the symbolic heap, one rule for each operation. No program in sight. -/
import Derived.Test.YthfphcbipahkmaaGreatDoorEngA
open Array renaming replicate→bi,getElem?_eq_some_iff→b4,all_eq_true_iff_forall_mem→b6
open Bool renaming and_eq_true→ap,or_eq_true→cz
open List renaming getElem?_append_right→a7,mem_range→a8,getElem?_append_left→be,getD_eq_getElem?_getD→bm,getElem?_take→bp,getElem?_drop→bs,Perm.refl→bt,getElem?_eq_some_iff→bv,any_eq_true→bY,all_eq_true→b5,mem_filter→b7,count_replicate→cb,sublist_cons_self→cc,mem_of_mem_drop→ce,take_zero→ci,nil_append→cl,append_assoc→cm,sublist_append_right→cn,Perm.cons→cp,mem_append_left→cv,getElem?_eq_none→cP,replicate→cS
open Nat renaming blt→aa,beq→ag,ble→ai,lt_or_ge→al,min_eq_right→aw,eq_of_beq_eq_true→aI,le_refl→a6,min_eq_left→bo,le_of_ble_eq_true→bw,lt_of_lt_of_le→bx,lt_trichotomy→b9,zero_mul→cf,testBit_or→cy
open Option renaming some.inj→ac,getD_some→bz,bind_some→b8,map_some→cQ
set_option linter.unusedVariables false
set_option linter.unusedSectionVars false
namespace Go.Eng
open Go
variable [bN]
theorem D6 {tm:List (Nat×AV)}:∀ {parts:List (Nat×Operand)} {k:Nat} {xs:List AV},OW tm parts k=some xs→xs.length=parts.length
 | [],k,xs,h=>by simp [OW] at h;subst h;rfl
 | (i,x) :: parts,k,xs,h=>by
   simp only [OW] at h
   split at h
   ·rename_i a l h1 h2 h3
    obtain rfl:=ac h
    simp [D6 h3]
   ·cases h
section rules
variable {P:Program} {all:Array Oper} {rest:List Oper} {n:Nat} {tm:List (Nat×AV)} {hp:Heap} {Q:St→Prop} {d:Nat} {ty:TypeId} {pos:String} {af:Array Edge}
theorem FL {t e:TypeId} {i:TypeInfo} {z:Value} {len:Nat} {parts:List (Nat×Operand)} {xs:List AV} [aB P t (.slice e)] [aX P e i] (hz:i.zero=some z) (hl:OW tm parts 0=some xs) (hlen:ag parts.length len=true) (x7:Bd i.size xs=true)
 (Pj:ai (len * i.size) 16777216=true) (hn:aa d n=true) (kk:ae P all rest ⟨n,(d,.list i.size xs) :: tm,hp⟩ Q):ae P all (⟨some d,.buildSlice t len parts.toArray,ty,pos,af,none⟩ :: rest) ⟨n,tm,hp⟩ Q:=by
 refine Be hz hl hlen x7 Pj hn (fun b=>ae.ghost (aj.freeze .here (aj.co (s:=d) (av:=.sl i.size b 0 len) (by simp [lk]) (.Bb i.size b len xs .here ?_) ?_)))
 ·rw [D6 hl];exact (aI hlen).symm
 ·refine aj.step (A3:=⟨n,(d,.list i.size xs) :: tm,hp⟩) (fun w S a r=>⟨_,S,rfl,r.less ⟨rfl,fun s av h=>?_,cc _ _⟩,kS.less (kS.refl w S _) fun _ hm=>hm.sub (cc _ _)⟩) (aj.here kk)
  simp only [lk] at h ⊢
  split at h
  ·exact h
  ·exact h
inductive KM (tm:List (Nat×AV)):Option Operand→Option Int→Prop
 | none:KM tm none none
 | some (x:Operand) (k:IntKind) (i:Int) (h:de tm x=some (.int k i)):KM tm (some x) (some i)
def iH:Option Int→Int
 | none=>0
 | some i=>i
def jB (len:Nat):Option Int→Int
 | none=>len
 | some i=>i
theorem Ay {w:World} {S:Nat→Prop} {σ:St} {a:Act} (r:fh w S σ a) {lo hi:Option Operand} {l h:Option Int} (hl:KM σ.tm lo l) (hh:KM σ.tm hi h) (RZ:Bool) (len cap:Nat) (h0:0≤iH l) (h1:iH l≤jB len h) (h2:jB len h≤len) (hc:len≤cap) (w':World):
 (Instr.sliceBounds RZ len cap (lo.map a.eval) (hi.map a.eval) none).run P w'=.ok ((iH l).toNat,(jB len h).toNat,cap) w':=by
 cases hl with
 | none=>
   cases hh with
   | none=>simp [Instr.sliceBounds,iH,jB]
   | some x k i hx=>
     simp only [iH,jB] at *
     have:i≤(cap:Int):=by omega
     simp [Instr.sliceBounds,Instr.sliceBound,(bj r hx).eP,asIntOf,h1,this]
 | some x k i hx=>
   cases hh with
   | none=>
     simp only [iH,jB] at *
     simp [Instr.sliceBounds,Instr.sliceBound,(bj r hx).eP,asIntOf,h0,h1]
   | some y k' i' hy=>
     simp only [iH,jB] at *
     have e1:i'≤(cap:Int):=by omega
     have e2:0≤i':=by omega
     have e3:i≤(i'.toNat:Int):=by omega
     simp [Instr.sliceBounds,Instr.sliceBound,(bj r hx).eP,(bj r hy).eP,asIntOf,h0,e1,e2]
     intro iW
     omega
theorem Hn (s:List UInt8) (l h:Nat):(⟨s.toArray⟩:ByteArray).extract l h=⟨((s.drop l).take (h - l)).toArray⟩:=by
 have e:=ByteArray.data_extract (a:=(⟨s.toArray⟩:ByteArray)) (b:=l) (e:=h)
 cases hx:(⟨s.toArray⟩:ByteArray).extract l h with
 | mk da=>
   rw [hx] at e
   simp only at e
   rw [e]
   congr 1
   apply Array.ext'
   simp
theorem IX {t:TypeId} {x:Operand} {lo hi:Option Operand} {l h:Option Int} {s:List UInt8} [aB P t .string] (hx:de tm x=some (.str s)) (hl:KM tm lo l) (hh:KM tm hi h) (h0:0≤iH l) (h1:iH l≤jB s.length h) (h2:jB s.length h≤s.length):
 QV P ⟨some d,.slice t x lo hi none,ty,pos,af,none⟩ ⟨n,tm,hp⟩ (.str ((s.drop (iH l).toNat).take ((jB s.length h).toNat - (iH l).toNat))):=by
 intro w S a r
 refine ⟨.string ((⟨s.toArray⟩:ByteArray).extract (iH l).toNat (jB s.length h).toNat),fun w1 _=>?_,by rw [Hn];exact .str _⟩
 have hb:=Ay (P:=P) (σ:=⟨n,tm,hp⟩) r hl hh false s.length s.length h0 h1 h2 (a6 _) w1
 simp [execOp,Instr.sliceAt,run_underlying (aB.h (P:=P) (t:=t)),Instr.slice,(bj (σ:=⟨n,tm,hp⟩) r hx).fj,Hg,hb]
theorem Ho {t e:TypeId} {i:TypeInfo} {x:Operand} {lo hi:Option Operand} {l h:Option Int} {sz:Nat} {xs:List AV} [aB P t (.slice e)] [aX P e i] (hx:de tm x=some (.list sz xs)) (iV:ag i.size sz=true) (hl:KM tm lo l) (hh:KM tm hi h) (h0:0≤iH l) (h1:iH l≤jB xs.length h) (h2:jB xs.length h≤xs.length):
 QV P ⟨some d,.slice t x lo hi none,ty,pos,af,none⟩ ⟨n,tm,hp⟩ (.list sz ((xs.drop (iH l).toNat).take ((jB xs.length h).toNat - (iH l).toNat))):=by
 intro w S a r
 obtain rfl:i.size=sz:=aI iV
 obtain ⟨oa,cap,vs,e1,e2,e3,e4,e5,e6⟩:=(bj (σ:=⟨n,tm,hp⟩) r hx).yI
 have hlen:((xs.drop (iH l).toNat).take ((jB xs.length h).toNat - (iH l).toNat)).length=(jB xs.length h).toNat - (iH l).toNat:=by simp;omega
 refine ⟨.slice (if cap=(iH l).toNat then oa else oa.map (·.add ((iH l).toNat * i.size))) ((jB xs.length h).toNat - (iH l).toNat) (cap - (iH l).toNat),fun w1 _=>?_,?_⟩
 ·have hb:=Ay (P:=P) (σ:=⟨n,tm,hp⟩) r hl hh true xs.length cap h0 h1 h2 e6 w1
  simp [execOp,Instr.sliceAt,run_underlying (aB.h (P:=P) (t:=t)),Instr.slice,e1,hb,sizeOf,typeInfo,aX.h (P:=P) (t:=e)]
 ·have hm:∀ y∈(xs.drop (iH l).toNat).take ((jB xs.length h).toNat - (iH l).toNat),El i.size y:=fun y hy=>e2 y (ce (List.mem_of_mem_take hy))
  have Hl:flat ((xs.drop (iH l).toNat).take ((jB xs.length h).toNat - (iH l).toNat))=((flat xs).drop ((iH l).toNat * i.size)).take (((jB xs.length h).toNat - (iH l).toNat) * i.size):=by
   rw [wR _ _ (fun y hy=>e2 y (ce hy)),wQ _ _ e2]
  have:=At.list (w:=w) (S:=S) i.size ((xs.drop (iH l).toNat).take ((jB xs.length h).toNat - (iH l).toNat)) (if cap=(iH l).toNat then oa else oa.map (·.add ((iH l).toNat * i.size))) (cap - (iH l).toNat)
   ((vs.drop ((iH l).toNat * i.size)).take (((jB xs.length h).toNat - (iH l).toNat) * i.size)) hm (by rw [Hl];simp [e3]) (fun j c u hc hu=>?_) (fun j u hu=>?_) (by rw [hlen];omega)
  ·rw [hlen] at this;exact this
  ·rw [Hl] at hc
   simp only [bp,bs] at hc hu
   split at hu
   ·rename_i iW;rw [if_pos iW] at hc;exact e4 _ c u hc hu
   ·cases hu
  ·simp only [bp,bs] at hu
   split at hu
   ·rename_i iW
    obtain ⟨ad,rfl,g1,g2,g3⟩:=e5 _ u hu
    have tQ:0 < (jB xs.length h).toNat - (iH l).toNat:=by
     rcases Nat.eq_zero_or_pos ((jB xs.length h).toNat - (iH l).toNat) with hz | hz
     ·rw [hz] at iW;simp at iW
     ·exact hz
    rw [if_neg (by omega)]
    obtain ⟨bk,of,sp⟩:=ad
    simp only at g1 g2;subst g1
    refine ⟨⟨bk,of+(iH l).toNat * i.size,none⟩,by simp [nX],rfl,g2,?_⟩
    simpa [Nat.add_assoc] using g3
   ·cases hu
theorem K2 {t e:TypeId} {i:TypeInfo} {x:Operand} {lo hi:Option Operand} {l h:Option Int} {sz off len:Nat} {b:Bk} [aB P t (.slice e)] [aX P e i] (hx:de tm x=some (.sl sz b off len)) (iV:ag i.size sz=true) (hl:KM tm lo l) (hh:KM tm hi h) (h0:0≤iH l) (h1:iH l≤jB len h) (h2:jB len h≤len):
 QV P ⟨some d,.slice t x lo hi none,ty,pos,af,none⟩ ⟨n,tm,hp⟩ (.sl sz b (off+(iH l).toNat) ((jB len h).toNat - (iH l).toNat)):=by
 intro w S a r
 obtain rfl:i.size=sz:=aI iV
 obtain ⟨oa,cap,e1,e2⟩:=(bj (σ:=⟨n,tm,hp⟩) r hx).u7
 have K3:len≤cap:=by rcases e2 with ⟨_,_,hl,_,_⟩ | ⟨m,hb,_,g1,g2⟩ | ⟨m,ad,hb,_,hl,_⟩<;>omega
 refine ⟨.slice (if cap=(iH l).toNat then oa else oa.map (·.add ((iH l).toNat * i.size))) ((jB len h).toNat - (iH l).toNat) (cap - (iH l).toNat),fun w1 _=>?_,?_⟩
 ·have hb:=Ay (P:=P) (σ:=⟨n,tm,hp⟩) r hl hh true len cap h0 h1 h2 K3 w1
  simp [execOp,Instr.sliceAt,run_underlying (aB.h (P:=P) (t:=t)),Instr.slice,e1,hb,sizeOf,typeInfo,aX.h (P:=P) (t:=e)]
 ·rcases e2 with ⟨hb,ho,hln,rfl,hcp⟩ | ⟨m,hb,rfl,g1,g2⟩ | ⟨m,ad,hb,rfl,hln,hcp⟩
  ·have Ux:(iH l).toNat=0:=by omega
   have Uy:(jB len h).toNat=0:=by omega
   rw [Ux,Uy,ho,hcp]
   exact .Ba i.size b hb
  ·by_cases Ag:cap=(iH l).toNat
   ·rw [if_pos Ag]
    have hz:(jB len h).toNat - (iH l).toNat=0:=by omega
    rw [hz,show cap - (iH l).toNat=0 from by omega]
    exact .Pa i.size b _ m _ hb
   ·rw [if_neg Ag]
    have:=At.sl (w:=w) (S:=S) i.size b (off+(iH l).toNat) ((jB len h).toNat - (iH l).toNat) m (cap - (iH l).toNat) hb (by omega) (by omega)
    rw [Nat.add_mul] at this
    simpa [nX] using this
  ·have Ux:(iH l).toNat=0:=by omega
   have Uy:(jB len h).toNat=0:=by omega
   rw [Ux,Uy,hcp,if_pos rfl]
   exact .Pa i.size b _ m ad hb
theorem xD {src dst:TypeId} {D:TypeDesc} {x:Operand} {k k':IntKind} {i:Int} [aB P src D] [aB P dst (.int k')] (hx:de tm x=some (.int k i)):QV P ⟨some d,.convert src dst x,ty,pos,af,none⟩ ⟨n,tm,hp⟩ (.int k' (k'.wrap i)):=by
 intro w S a r
 refine ⟨.int k' (k'.wrap i),fun w1 _=>?_,.int _ _⟩
 simp only [execOp,convert,(bj (σ:=⟨n,tm,hp⟩) r hx).eP,Sem.run_bind,run_underlying (aB.h (P:=P) (t:=src)),run_underlying (aB.h (P:=P) (t:=dst)),Result.andThen_ok]
 cases D<;>simp [Conv.intToInt]
end rules
theorem IY {sz:Nat} {x y:AV}:∀ {xs:List AV} {q:Nat},(∀ x∈xs,El sz x)→El sz y→xs[q]? =some x→flat (xs.set q y)=(flat xs).take (q * sz)++y.cells++(flat xs).drop (q * sz+sz)
 | [],q,_,_,h=>by simp at h
 | z :: xs,0,hs,hy,h=>by
   have hz:=(hs z (by simp)).1
   rw [List.set_cons_zero,kK,kK]
   simp only [cf,ci,cl,Nat.zero_add]
   rw [List.drop_left' hz]
 | z :: xs,q+1,hs,hy,h=>by
   have hz:=(hs z (by simp)).1
   simp only [List.getElem?_cons_succ] at h
   rw [List.set_cons_succ,kK,kK,IY (fun a ha=>hs a (by simp [ha])) hy h]
   have e1:(q+1) * sz=sz+q * sz:=by rw [Nat.add_mul,Nat.one_mul];omega
   rw [e1,List.take_append,List.take_of_length_le (l:=z.cells) (by omega),hz,Nat.add_sub_cancel_left,List.drop_append,List.drop_of_length_le (l:=z.cells) (by omega),hz]
   rw [show sz+q * sz+sz - sz=q * sz+sz from by omega]
   simp [cm]
theorem Hp {w:World} {S:Nat→Prop} {cs new:List AV} {vs uy:Array Value} (o:Nat) (hl:cs.length≤vs.size) (h:o8 w S cs vs) (FI:new.length=uy.size) (h':o8 w S new uy) (ho:o+new.length≤cs.length):
 o8 w S (cs.take o++new++cs.drop (o+new.length)) (vs.toList.take o++uy.toList++vs.toList.drop (o+uy.toList.length)).toArray:=by
 intro i c v hc hv
 simp only [List.getElem?_toArray] at hc hv
 have l1:(cs.take o).length=o:=by simp;omega
 have l2:(vs.toList.take o).length=o:=by simp;omega
 have l3:uy.toList.length=new.length:=by simp [FI]
 rw [cm] at hc hv
 by_cases h1:i < o
 ·rw [be (by omega)] at hc hv
  rw [bp,if_pos h1] at hc hv
  exact h i c v hc (by simpa using hv)
 ·rw [a7 (by omega)] at hc hv
  rw [l1] at hc
  rw [l2] at hv
  by_cases h2:i - o < new.length
  ·rw [be (by omega)] at hc hv
   exact h' (i - o) c v hc (by simpa using hv)
  ·rw [a7 (by omega)] at hc hv
   rw [l3] at hv
   rw [bs] at hc hv
   rw [show o+new.length+(i - o - new.length)=i from by omega] at hc hv
   exact h i c v hc (by simpa using hv)
section rules
variable {P:Program} {all:Array Oper} {rest:List Oper} {n:Nat} {tm:List (Nat×AV)} {hp:Heap} {Q:St→Prop} {d:Nat} {ty:TypeId} {pos:String} {af:Array Edge}
theorem B7.refl (l:List AV):B7 hp l l:=by
 induction l with
 | nil=>exact .nil
 | cons a l ih=>exact .cons (.refl a) ih
def Pu (P:Program) (f:FuncId) (args:List AV) (R:AV):Prop:=aP P f args [] (fun r _=>r=R)
theorem aT {f:FuncId} {args:List Operand} {ts:Array TypeId} {l l':List AV} {R:AV} [bJ P f] (hl:CO tm args=some l) (c:Pu P f l' R) (co:B7 hp l l') (hn:aa d n=true)
 (kk:ae P all rest ⟨n,(d,R) :: tm,hp⟩ Q):ae P all (⟨some d,.call {callee:=.value (.func f),args:=args.toArray,argTypes:=ts},ty,pos,af,none⟩ :: rest) ⟨n,tm,hp⟩ Q:=by
 refine Mn hl c co hn (fun r h' hr=>?_)
 subst hr
 exact ae.weaken (aK:=⟨n,(d,r) :: tm,hp⟩) ⟨rfl,fun _ _ h=>h,cn _ _⟩ kk
theorem fk {f:FuncId} {args:List Operand} {ts:Array TypeId} {l l':List AV} {R:AV} [bJ P f] (hl:CO tm args=some l) (c:Pu P f l' R) (co:vF hp l l') (hn:aa d n=true) (hR:R.XO=true)
 (kk:ae P all rest ⟨n,(d,R) :: tm,hp⟩ Q):ae P all (⟨some d,.call {callee:=.value (.func f),args:=args.toArray,argTypes:=ts},ty,pos,af,none⟩ :: rest) ⟨n,tm,hp⟩ Q:=
 Sx hl c co hn (fun r h' hr=>by subst hr;exact ⟨hR,kk⟩)
theorem tV {f:FuncId} {x:Operand} {args:List Operand} {ts:Array TypeId} {wx l l':List AV} {R:AV} [bJ P f] (hx:de tm x=some (.func (.func f) wx)) (hl:CO tm args=some l) (c:Pu P f l' R) (co:B7 hp (l++wx) l') (hn:aa d n=true)
 (kk:ae P all rest ⟨n,(d,R) :: tm,hp⟩ Q):ae P all (⟨some d,.call {callee:=.value x,args:=args.toArray,argTypes:=ts},ty,pos,af,none⟩ :: rest) ⟨n,tm,hp⟩ Q:=by
 refine Su hx hl c co (bt _) hn (fun r h' hr=>?_)
 subst hr
 exact ae.weaken (aK:=⟨n,(d,r) :: tm,hp⟩) ⟨rfl,fun _ _ h=>h,cn _ _⟩ kk
end rules
inductive RV (P:Program) (σ:St):ResultVar→AV→Prop
 | tmp (t:Nat) (av:AV) (h:lk σ.tm t=some av):RV P σ (.tmp t) av
 | all (p ty:Nat) (b:Bk) (cs:List AV) (D:TypeDesc) (i:TypeInfo) (h:lk σ.tm p=some (.ptr b 0)) (f:mD σ.hp b (.cells cs)) (hu:P.underlying ty=some D) (hi:P.info? ty=some i) (hD:TypeDesc.jA D=true) (hs:ag cs.length i.size=true):RV P σ (.cell p ty) (.agg cs)
 | one (p ty:Nat) (b:Bk) (cs:List AV) (av:AV) (D:TypeDesc) (h:lk σ.tm p=some (.ptr b 0)) (f:mD σ.hp b (.cells cs)) (hu:P.underlying ty=some D) (hD:TypeDesc.jA D=false) (hs:cs[0]? =some av):RV P σ (.cell p ty) av
def D7 (tmps:Array Value):ResultVar→Sem Value
 | .tmp t=>pure (tmps.getD t undef)
 | .cell a t=>do loadVar t (← asAddr (tmps.getD a undef))
theorem RV.run {P:Program} {σ:St} {rv:ResultVar} {av:AV} (h:RV P σ rv av) {w:World} {S:Nat→Prop} {a:Act} (r:fh w S σ a):∃ v,(D7 a.tmps rv).run P w=.ok v w∧At w S av v:=by
 cases h with
 | tmp t av h=>
   obtain ⟨v,h1,h2⟩:=r.tm t _ h
   exact ⟨v,by simp [D7,h1],h2⟩
 | all p ty b cs D i h f hu hi hD hs=>
   obtain ⟨v,h1,h2⟩:=r.tm p _ h
   obtain ⟨m,e1,rfl⟩:=h2.tz
   obtain ⟨_,m',vs,E,g1,g2,g3,g4⟩:=uW r.hp f
   obtain rfl:m'=m:=by rw [g1] at e1;exact ac e1
   have hlen:vs.toList.length=i.size:=by simp [g3];exact aI hs
   refine ⟨.agg vs,?_,.agg cs vs g3.symm g4⟩
   have:=jW (P:=P) hu hD hi (w:=w) (ad:=⟨m',0,none⟩) (vs:=vs.toList) hlen (fun j v hv=>by rw [nX,nY g2];simpa using hv)
   simp [D7,h1,asAddr,this]
 | one p ty b cs av D h f hu hD hs=>
   obtain ⟨v,h1,h2⟩:=r.tm p _ h
   obtain ⟨m,e1,rfl⟩:=h2.tz
   obtain ⟨_,m',vs,E,g1,g2,g3,g4⟩:=uW r.hp f
   obtain rfl:m'=m:=by rw [g1] at e1;exact ac e1
   have iW:0 < vs.size:=by rw [g3];exact (bv.1 hs).1
   have hv:vs[0]? =some vs[0]:=by simp [iW]
   refine ⟨vs[0],?_,g4 0 av _ hs hv⟩
   have:=qP (P:=P) hu hD (w:=w) (ad:=⟨m',0,none⟩) (v:=vs[0]) (by rw [nY g2,hv])
   simp [D7,h1,asAddr,this]
inductive Rs (P:Program) (σ:St):List ResultVar→List AV→Prop
 | nil:Rs P σ [] []
 | cons {v:ResultVar} {l:List ResultVar} {a:AV} {as:List AV} (h:RV P σ v a) (k:Rs P σ l as):Rs P σ (v :: l) (a :: as)
def CR:List AV→AV
 | [a]=>a
 | as=>.lE as
theorem Rs.run {P:Program} {σ:St} {w:World} {S:Nat→Prop} {a:Act} (r:fh w S σ a):∀ {l:List ResultVar} {as:List AV},Rs P σ l as→∃ vs,(l.mapM (D7 a.tmps)).run P w=.ok vs w∧as.length=vs.length∧∀ (i:Nat) c v,as[i]? =some c→vs[i]? =some v→At w S c v
 | [],_,.nil=>⟨[],by simp,rfl,fun i c v hc=>by simp at hc⟩
 | x :: l,_,.cons (a:=av) (as:=as) h k=>by
   obtain ⟨v,h1,h2⟩:=h.run r
   obtain ⟨vs,g1,g2,g3⟩:=Rs.run r k
   refine ⟨v :: vs,by simp [h1,g1],by simp [g2],fun i c u hc hu=>?_⟩
   match i with
   | 0=>simp at hc hu;subst hc;subst hu;exact h2
   | i+1=>exact g3 i c u (by simpa using hc) (by simpa using hu)
theorem IZ {P:Program} {fn:Func} {l:List ResultVar} {σ:St} {as:List AV} (hf:fn.results=l.toArray) (h:Rs P σ l as) {w:World} {S:Nat→Prop} {a:Act} (r:fh w S σ a):∃ v,(results fn a.tmps).run P w=.ok v w∧At w S (CR as) v:=by
 obtain ⟨vs,g1,g2,g3⟩:=h.run r
 have hm:results fn a.tmps=(do let vs ← Functor.map List.toArray (l.mapM (D7 a.tmps));pure (if h:vs.size=1 then vs[0] else .tuple vs)):=by
  have aaD:(fun (x:ResultVar)=>(match x with | .tmp t=>pure (a.tmps.getD t undef) | .cell p t=>do loadVar t (← asAddr (a.tmps.getD p undef)):Sem Value))=D7 a.tmps:=by
   funext x
   cases x<;>rfl
  unfold results
  rw [hf,List.mapM_toArray]
  rw [← aaD]
  rfl
 refine ⟨if h:vs.toArray.size=1 then vs.toArray[0] else .tuple vs.toArray,?_,?_⟩
 ·rw [hm,Sem.run_bind,Sem.run_map,g1]
  rfl
 ·clear h hm g1
  match as,vs,g2,g3 with
  | [],[],_,_=>simp [CR];exact .lE [] _ rfl (fun i c v hc=>by simp at hc)
  | [x],[v],_,g3=>simp [CR];exact g3 0 x v rfl rfl
  | x :: y :: as,v :: u :: vs,hl,g3=>simp [CR];exact .lE _ _ (by simpa using hl) (fun i c v hc hv=>g3 i c v hc (by simpa using hv))
theorem aP.XP {P:Program} {f:FuncId} {fn:Func} {c:Code} {args:List AV} {h:Heap} {Q:AV→Heap→Prop} {n:Nat} {l:List ResultVar} (hf:P.funcs[f]? =some fn) (hb:fn.body=some c) (hn:fn.ntmps=n) (Vn:fn.results=l.toArray)
 (hle:ai args.length n=true) (kk:ab P (fun σ=>aj σ (fun aK=>∃ as,Rs P aK l as∧Q (CR as) aK.hp)) [.code c] ⟨n,Si args 0,h⟩):aP P f args h Q:=by
 intro w S vs hr hl ha
 refine calls_of_wp hf hb ?_
 have r0:fh w S ⟨n,Si args 0,h⟩ {tmps:=vs++bi (fn.ntmps - vs.size) undef,defers:=[]}:=by
  have:=bw hle
  refine ⟨by simp [hn];omega,rfl,fun s av hs=>?_,hr⟩
  obtain ⟨_,h2⟩:=Pf args 0 s av hs
  simp only [Nat.sub_zero] at h2
  have iW:s < args.length:=(bv.1 h2).1
  have XQ:s < vs.size:=by omega
  refine ⟨vs[s],by simp [Array.getElem?_append,XQ],ha s av _ h2 (by simp [XQ])⟩
 refine wp_mono (kk w S _ r0) ?_
 rintro e a' w' ⟨aK,S',h1,h2,h3⟩
 have fin:aj aK (fun K4=>∃ as,Rs P K4 l as∧Q (CR as) K4.hp)→a'.defers=[]∧∃ v,(results fn a'.tmps).run P w'=.ok v w'∧∃ v' r h' S',(Ending.returned v:Ending)=.returned v'∧Q r h'∧At w' S' r v'∧db w' S' h'∧kS w S h w' S' h':=by
  intro hi
  obtain ⟨Mj,S2,⟨as,WX,hq⟩,g2,g3⟩:=hi w' S' a' h2
  obtain ⟨v,Zv,WY⟩:=IZ Vn WX g2
  exact ⟨g2.defers,v,Zv,v,CR as,Mj.hp,S2,rfl,hq,WY,g2.hp,h3.trans g3⟩
 cases e with
 | normal=>exact fin h1
 | ret=>exact fin h1
 | exit id=>exact h1.elim
 | goto l=>exact h1.elim
 | panic c=>exact h1.elim
 | outgrown=>exact h1.elim
inductive HS:Heap→Heap→Prop
 | nil {h:Heap}:HS h []
 | cons {h h1 t:Heap} {b:Bk} {o:Ob} (u:yK h b o h1) (k:HS h1 t):HS h ((b,o) :: t)
theorem HS.perm {h t:Heap} (s:HS h t):∃ r,h.Perm (t++r):=by
 induction s with
 | nil=>exact ⟨_,bt _⟩
 | cons u k ih=>
   obtain ⟨r,hr⟩:=ih
   exact ⟨r,u.perm.trans (cp _ hr)⟩
theorem aj.XR {n:Nat} {tm sF:List (Nat×AV)} {hp cL:Heap} {T:St→Prop} (h:Gg tm sF) (hs:HS hp cL) (k:aj ⟨n,sF,cL⟩ T):aj ⟨n,tm,hp⟩ T:=by
 obtain ⟨r,hr⟩:=hs.perm
 refine aj.step (A3:=⟨n,sF,cL⟩) (fun w S a rel=>⟨_,S,rfl,⟨rel.size,rel.defers,fun s av hh=>rel.tm s av (h.lk s av hh),(rel.hp.perm hr).sub (List.sublist_append_left _ _)⟩,kS.less (kS.refl w S hp) fun m hm=>?_⟩) k
 obtain ⟨e,he,hb⟩:=hm
 exact ⟨e,hr.mem_iff.2 (cv _ he),hb⟩
abbrev I (n:Int):AV:=.int .i64 n
section rules
variable {P:Program} {all:Array Oper} {rest:List Oper} {n:Nat} {tm:List (Nat×AV)} {hp:Heap} {Q:St→Prop} {d:Nat} {ty:TypeId} {pos:String} {af:Array Edge}
theorem NC {t e:TypeId} {i:TypeInfo} {z:Value} {x y:Operand} {src:AV} {b:Bk} {len sz:Nat} {xs ys:List AV} {cL:Bk→Heap} [aB P t (.slice e)] [aX P e i] (hx:de tm x=some (.sl sz b 0 len)) (hy:de tm y=some src) (hz:i.zero=some z)
 (D5:ag z.cells.size i.size=true) (iV:ag i.size sz=true) (h0:aa 0 sz=true) (hn:aa d n=true) (WZ:ai i.bytes 65536=true) (hs:Src hp sz src ys) (u:∀ b',na hp b (.arr sz xs) b' (.arr sz (xs++ys)) (cL b')) (hlen:len=xs.length)
 (hb:xs.length+ys.length≤1000000000)
 (kk:∀ b':Bk,ae P all rest ⟨n,(d,.sl sz b' 0 (len+ys.length)) :: tm,cL b'⟩ Q):ae P all (⟨some d,.call {callee:=.builtin .append,args:=#[x,y],argTypes:=#[t,t]},ty,pos,af,none⟩ :: rest) ⟨n,tm,hp⟩ Q:=by
 refine Pk hx hy hz D5 iV h0 hn hs u hlen ?_ (by omega) kk
 have h1:=bw WZ
 have:=Nat.mul_le_mul hb h1
 omega
end rules
def rU:List AV→Option (List AV)
 | []=>some []
 | x :: r=>match rU r with
   | some l=>some (x :: l)
   | none=>none
theorem mb:∀ {l l':List AV},rU l=some l'→l=l'
 | [],l',h=>by simp [rU] at h;exact h.symm
 | x :: r,l',h=>by
   simp only [rU] at h
   split at h
   ·rename_i l hl
    obtain rfl:=ac h
    rw [mb hl]
   ·cases h
def Pn:List AV→Nat→Option (List (Nat×AV))
 | [],_=>some []
 | x :: r,i=>match Pn r (i+1) with
   | some l=>some ((i,x) :: l)
   | none=>none
theorem Mo:∀ {l:List AV} {i:Nat} {l':List (Nat×AV)},Pn l i=some l'→Si l i=l'
 | [],i,l',h=>by simp [Pn] at h;simpa [Si] using h
 | x :: r,i,l',h=>by
   simp only [Pn] at h
   split at h
   ·rename_i l hl
    obtain rfl:=ac h
    rw [Si,Mo hl]
   ·cases h
class mE (P:Program) (t:TypeId) (sz:outParam Nat):Prop where
 h:∃ i,P.info? t=some i∧i.size=sz
theorem aP.bI {P:Program} {f:FuncId} {fn:Func} {c:Code} {args:List AV} {h:Heap} {Q:AV→Heap→Prop} {n:Nat} {l:List ResultVar} {tm:List (Nat×AV)} (hf:P.funcs[f]? =some fn) (hb:fn.body=some c) (hn:fn.ntmps=n) (Vn:fn.results=l.toArray)
 (htm:Pn args 0=some tm) (hle:ai args.length n=true) (kk:ab P (fun σ=>aj σ (fun aK=>∃ rs,Rs P aK l rs∧Q (CR rs) aK.hp)) [.code c] ⟨n,tm,h⟩):aP P f args h Q:=
 aP.XP hf hb hn Vn hle (by rw [Mo htm];exact kk)
section rules
variable {P:Program} {all:Array Oper} {rest:List Oper} {n:Nat} {tm:List (Nat×AV)} {hp:Heap} {Q:St→Prop} {d:Nat} {ty:TypeId} {pos:String} {af:Array Edge}
theorem dp {x:Operand} {E:TypeId} {av:AV} {cs:List AV} (hx:de tm x=some av) (hc:rU av.cells=some cs) (h1:kr cs=true) (hn:aa d n=true)
 (kk:∀ b:Bk,ae P all rest ⟨n,(d,.ptr b 0) :: tm,(b,.cells cs) :: hp⟩ Q):ae P all (⟨some d,.box E x,ty,pos,af,none⟩ :: rest) ⟨n,tm,hp⟩ Q:=by
 obtain rfl:=mb hc
 exact XK hx h1 hn kk
theorem bH {E:TypeId} {i:TypeInfo} {z:Value} {cs:List AV} [aX P E i] (hz:i.zero=some z) (hc:rU (A4 z).cells=some cs) (h1:kr cs=true) (hn:aa d n=true)
 (kk:∀ b:Bk,ae P all rest ⟨n,(d,.ptr b 0) :: tm,(b,.cells cs) :: hp⟩ Q):ae P all (⟨some d,.alloc E,ty,pos,af,none⟩ :: rest) ⟨n,tm,hp⟩ Q:=by
 obtain rfl:=mb hc
 exact Sl hz h1 hn kk
theorem az {x:Operand} {s:TypeId} {j off:Nat} {b:Bk} {o o':Nat} [ou P s j off] (hx:de tm x=some (.ptr b o)) (ho:o+off=o'):QV P ⟨some d,.fieldAddr s x j,ty,pos,af,none⟩ ⟨n,tm,hp⟩ (.ptr b o'):=by
 subst ho
 exact IP hx
theorem bf {x:Operand} {s:TypeId} {j off:Nat} {cs lF:List AV} [ou P s j off] (hx:de tm x=some (.ch cs)) (hc:rU (cs.drop off)=some lF):QV P ⟨some d,.fieldAddr s x j,ty,pos,af,none⟩ ⟨n,tm,hp⟩ (.ch lF):=by
 obtain rfl:=mb hc
 exact Hj hx
theorem aO {t:TypeId} {D:TypeDesc} {i:TypeInfo} {x:Operand} {b:Bk} {o:Nat} {cs lF:List AV} [aB P t D] [aX P t i] (hD:TypeDesc.jA D=true) (hx:de tm x=some (.ptr b o)) (f:mD hp b (.cells cs)) (ho:ai (o+i.size) cs.length=true) (hc:rU ((cs.drop o).take i.size)=some lF):
 QV P ⟨some d,.load t x,ty,pos,af,none⟩ ⟨n,tm,hp⟩ (.agg lF):=by
 obtain rfl:=mb hc
 exact Dk hD hx f ho
theorem kL {t:TypeId} {D:TypeDesc} {i:TypeInfo} {x:Operand} {cs lF:List AV} [aB P t D] [aX P t i] (hD:TypeDesc.jA D=true) (hx:de tm x=some (.ch cs)) (ho:ai i.size cs.length=true) (hc:rU (cs.take i.size)=some lF):
 QV P ⟨some d,.load t x,ty,pos,af,none⟩ ⟨n,tm,hp⟩ (.agg lF):=by
 obtain rfl:=mb hc
 exact Cc hD hx ho
theorem dv {t:TypeId} {i:TypeInfo} {z:Value} {parts:List (Nat×Operand)} {l:List (Nat×AV)} {cs lF:List AV} {pl:List (Nat×Nat)} [aX P t i] [lN P t pl] (hz:i.zero=some z) (hl:WW tm parts=some l) (h1:kr (A4 z).cells=true)
 (hc:Gd pl (A4 z).cells l=some cs) (Hq:rU cs=some lF):QV P ⟨some d,.build t parts.toArray,ty,pos,af,none⟩ ⟨n,tm,hp⟩ (.agg lF):=by
 obtain rfl:=mb Hq
 exact Sn hz hl h1 hc
theorem ay {t:TypeId} {i:TypeInfo} {x y:Operand} {b:Bk} {o:Nat} {cs lF:List AV} {av:AV} {cL:Heap} [aX P t i] (hx:de tm x=some (.ptr b o)) (hy:de tm y=some av) (h1:kr av.cells=true) (iV:ag av.cells.length i.size=true)
 (u:na hp b (.cells cs) b (.cells lF) cL) (hc:rU (qh cs o av.cells)=some lF) (ho:ai (o+av.cells.length) cs.length=true) (kk:ae P all rest ⟨n,tm,cL⟩ Q):ae P all (⟨none,.store t x y,ty,pos,af,none⟩ :: rest) ⟨n,tm,hp⟩ Q:=by
 obtain rfl:=mb hc
 exact IQ hx hy h1 iV u ho kk
theorem aW {t e:TypeId} {i:TypeInfo} {z:Value} {len sz:Nat} {parts:List (Nat×Operand)} {xs:List AV} [aB P t (.slice e)] [aX P e i] [mE P e sz] (hz:i.zero=some z) (hl:OW tm parts 0=some xs) (hlen:ag parts.length len=true) (x7:Bd i.size xs=true)
 (Pj:ai (len * i.size) 16777216=true) (hn:aa d n=true) (kk:ae P all rest ⟨n,(d,.list sz xs) :: tm,hp⟩ Q):ae P all (⟨some d,.buildSlice t len parts.toArray,ty,pos,af,none⟩ :: rest) ⟨n,tm,hp⟩ Q:=by
 obtain ⟨i',h1,h2⟩:=mE.h (P:=P) (t:=e)
 obtain rfl:i'=i:=by rw [aX.h (P:=P) (t:=e)] at h1;exact (ac h1).symm
 subst h2
 exact FL hz hl hlen x7 Pj hn kk
theorem ku {t e:TypeId} {i:TypeInfo} {z:Value} {len sz:Nat} {parts:List (Nat×Operand)} {xs:List AV} [aB P t (.slice e)] [aX P e i] [mE P e sz] (hz:i.zero=some z) (hl:OW tm parts 0=some xs) (hlen:ag parts.length len=true) (x7:Bd i.size xs=true)
 (Pj:ai (len * i.size) 16777216=true) (hn:aa d n=true) (kk:∀ b:Bk,ae P all rest ⟨n,(d,.sl sz b 0 len) :: tm,(b,.arr sz xs) :: hp⟩ Q):ae P all (⟨some d,.buildSlice t len parts.toArray,ty,pos,af,none⟩ :: rest) ⟨n,tm,hp⟩ Q:=by
 obtain ⟨i',h1,h2⟩:=mE.h (P:=P) (t:=e)
 obtain rfl:i'=i:=by rw [aX.h (P:=P) (t:=e)] at h1;exact (ac h1).symm
 subst h2
 exact Be hz hl hlen x7 Pj hn kk
end rules
structure Grow (w:World) (S:Nat→Prop) (w':World) (S':Nat→Prop):Prop where
 ext:Ext w w'
 up:∀ n,S n→S' n
 down:∀ n,n < w.heap.size→S' n→S n
 slt:∀ n,S' n→n < w'.heap.size
theorem Grow.refl {w:World} {S:Nat→Prop} (h:∀ n,S n→n < w.heap.size):Grow w S w S:=⟨Ext.refl w,fun _ h=>h,fun _ _ h=>h,h⟩
theorem Grow.trans {a b c:World} {S T U:Nat→Prop} (h:Grow a S b T) (k:Grow b T c U):Grow a S c U:=
 ⟨h.ext.trans k.ext,fun n hn=>k.up n (h.up n hn),fun n hn hs=>h.down n hn (k.down n (bx hn h.ext.size) hs),k.slt⟩
theorem Grow.mB {w w':World} {S S':Nat→Prop} (g:Grow w S w' S') (h:∀ n,S n→n < w.heap.size):∀ n,S n→S' n∧w'.heap[n]? =w.heap[n]?:=fun n hn=>⟨g.up n hn,g.ext.same n (h n hn)⟩
theorem db.grow {w w':World} {S S':Nat→Prop} {h:Heap} (r:db w S h) (g:Grow w S w' S'):db w' S' h where
 nodup:=r.nodup
 holds e he:=(r.holds e he).mono (g.mB r.slt) (fun n hn=>g.ext.same n (r.lt ⟨e,he,hn⟩))
 sep e he n hn:=by
  rw [← r.sep e he n hn]
  exact ⟨g.down n (r.lt ⟨e,he,hn⟩),g.up n⟩
 slt:=g.slt
 gz t o ho:=⟨(g.mB r.slt t (r.gz t o ho).1).1,A9 (g.mB r.slt t (r.gz t o ho).1).2 (r.gz t o ho).2⟩
theorem Grow.evo {w w':World} {S S':Nat→Prop} (g:Grow w S w' S') (h:∀ n,S n→n < w.heap.size) (hp:Heap):kS w S hp w' S' hp:=
 ⟨g.ext.os,g.ext.tape,g.ext.output,g.ext.size,g.mB h,fun n hn _=>⟨g.ext.same n hn,g.down n hn⟩,fun _ hn=>.inl hn,g.ext.drawn⟩
def looks (all:Array Oper) (o:Oper):List Nat:=
 (o.op.operands.toList.filterMap fun | .tmp t=>some t | _=>none)++(match o.guard with | some (g,_)=>((all[g]?).bind (·.dst)).toList | none=>[])
abbrev Env:=Nat→Option AV
def Hr (w:World) (S:Nat→Prop) (ls:List Nat) (e:Env) (a:Act):Prop:=∀ s∈ls,∀ av,e s=some av→∃ v,a.tmps[s]? =some v∧At w S av v
def MV (P:Program) (all:Array Oper) (n:Nat) (o:Oper) (e:Env) (hp:Heap) (av:AV):Prop:=
 ∀ w S a,a.tmps.size=n→a.defers=[]→db w S hp→Hr w S (looks all o) e a→∀ (K:Act→World→Prop) (Q:Exit→Act→World→Prop),
   (∀ v w' S',Grow w S w' S'→At w' S' av v→K (a.put o.dst v) w')→o.wp P a w K Q
def zX (e:Env) (d:Option Nat) (av:AV):Env:=match d with
 | some d=>fun s=>if d=s then some av else e s
 | none=>e
def qY (all:Array Oper) (o:Oper) (e:Env) (b:Bool):Prop:=
 match o.guard with
 | none=>b=true
 | some (j,want)=>∃ s,(all[j]?).bind (·.dst)=some s∧((∃ c,e s=some (.bool c)∧b=(c==want))∨(e s=some (.raw undef)∧b=false))
inductive Sy (P:Program) (all:Array Oper) (n:Nat) (hp:Heap):List Oper→Env→Env→Prop
 | nil (e:Env):Sy P all n hp [] e e
 | run {o:Oper} {l:List Oper} {e e':Env} {av:AV} (hg:qY all o e true) (h:MV P all n o e hp av) (hd:∀ d,o.dst=some d→d < n) (k:Sy P all n hp l (zX e o.dst av) e'):Sy P all n hp (o :: l) e e'
 | pass {o:Oper} {l:List Oper} {e e':Env} (hg:qY all o e false) (hd:∀ d,o.dst=some d→d < n) (k:Sy P all n hp l (zX e o.dst (.raw undef)) e'):Sy P all n hp (o :: l) e e'
def Uz (P:Program) (all:Array Oper) (n:Nat) (hp:Heap) (o:Oper) (e:Env) (av:AV):Prop:=
 (∀ d,o.dst=some d→d < n)∧((qY all o e true∧MV P all n o e hp av)∨(qY all o e false∧av=.raw undef))
theorem Sy.K5 {P:Program} {all:Array Oper} {n:Nat} {hp:Heap} {l:List Oper} {e e':Env} (h:Sy P all n hp l e e'):
 ∃ (pk:Nat→AV) (en:Nat→Env),en 0=e∧en l.length=e'∧∀ i o,l[i]? =some o→Uz P all n hp o (en i) (pk i)∧en (i+1)=zX (en i) o.dst (pk i):=by
 induction h with
 | nil e=>exact ⟨fun _=>.nil,fun _=>e,rfl,rfl,fun i o h=>by simp at h⟩
 | @run o l e e' av hg hm hd k ih=>
   obtain ⟨pk,en,h0,h1,h2⟩:=ih
   refine ⟨fun i=>match i with | 0=>av | i+1=>pk i,fun i=>match i with | 0=>e | i+1=>en i,rfl,h1,fun i o' ho=>?_⟩
   match i with
   | 0=>simp at ho;subst ho;exact ⟨⟨hd,.inl ⟨hg,hm⟩⟩,h0⟩
   | i+1=>exact h2 i o' (by simpa using ho)
 | @pass o l e e' hg hd k ih=>
   obtain ⟨pk,en,h0,h1,h2⟩:=ih
   refine ⟨fun i=>match i with | 0=>.raw undef | i+1=>pk i,fun i=>match i with | 0=>e | i+1=>en i,rfl,h1,fun i o' ho=>?_⟩
   match i with
   | 0=>simp at ho;subst ho;exact ⟨⟨hd,.inr ⟨hg,rfl⟩⟩,h0⟩
   | i+1=>exact h2 i o' (by simpa using ho)
def waits (o:Oper) (i:Nat):Bool:=o.after.toList.any fun e=>Region.binds .any e&&ag e.on i
def CT (all:Array Oper) (oi oj:Oper):Bool:=
 match oi.dst,oj.dst with
 | some d,some d'=>(looks all oj).contains d||(looks all oi).contains d'||ag d d'
 | some d,none=>(looks all oj).contains d
 | none,some d'=>(looks all oi).contains d'
 | none,none=>false
inductive CU (all:Array Oper):Nat→Nat→Prop
 | one {j i:Nat} {oj:Oper} (hj:all[j]? =some oj) (hw:waits oj i=true):CU all j i
 | step {j k i:Nat} {oj:Oper} (hj:all[j]? =some oj) (hw:waits oj k=true) (h:CU all k i):CU all j i
def Hs (acc:List Nat):List Edge→Nat→Nat
 | [],m=>m
 | e :: r,m=>Hs acc r (match Region.binds .any e with
   | true=>m||| (1 <<< e.on)||| acc.getD e.on 0
   | false=>m)
def Po:List Oper→List Nat→List Nat
 | [],acc=>acc
 | o :: r,acc=>Po r (acc++[Hs acc o.after.toList 0])
def ND (all:Array Oper):List Nat:=Po all.toList []
theorem CV {acc:List Nat} {i:Nat}:∀ (es:List Edge) (m:Nat),(Hs acc es m).testBit i=true→m.testBit i=true∨∃ e∈es,Region.binds .any e=true∧(e.on=i∨(acc.getD e.on 0).testBit i=true)
 | [],m,h=>.inl h
 | e :: r,m,h=>by
   simp only [Hs] at h
   rcases CV r _ h with h | ⟨e',he,hb,hh⟩
   ·split at h
    ·rename_i hb
     rw [cy,cy,cz,cz] at h
     rcases h with (h | h) | h
     ·exact .inl h
     ·refine .inr ⟨e,by simp,hb,.inl ?_⟩
      rw [Nat.one_shiftLeft,Nat.testBit_two_pow] at h
      simpa using h
     ·exact .inr ⟨e,by simp,hb,.inr h⟩
    ·exact .inl h
   ·exact .inr ⟨e',by simp [he],hb,hh⟩
theorem D8 {all:Array Oper}:∀ (l:List Oper) (acc:List Nat) (pre:List Oper),all.toList=pre++l→acc.length=pre.length→(∀ j i,(acc.getD j 0).testBit i=true→CU all j i)→∀ j i,((Po l acc).getD j 0).testBit i=true→CU all j i
 | [],acc,pre,_,_,h=>h
 | o :: r,acc,pre,hl,hlen,h=>by
   refine D8 r _ (pre++[o]) (by simpa using hl) (by simp [hlen]) (fun j i hb=>?_)
   rcases al j acc.length with hj | hj
   ·refine h j i ?_
    rw [bm,be hj] at hb
    rw [bm]
    exact hb
   ·by_cases Zz:j=acc.length
    ·rw [bm,a7 hj,Zz] at hb
     simp only [Nat.sub_self,List.getElem?_cons_zero,bz] at hb
     have R1:all[j]? =some o:=by
      rw [← Array.getElem?_toList,hl,a7 (by omega),Zz,hlen];simp
     rcases CV _ _ hb with hz | ⟨e,he,hbd,hh⟩
     ·simp at hz
     ·have hw:waits o e.on=true:=by
       simp only [waits,bY,ap]
       exact ⟨e,he,hbd,by simp⟩
      rcases hh with hh | hh
      ·subst hh;exact .one R1 hw
      ·exact .step R1 hw (h _ _ hh)
    ·rw [bm,a7 hj,cP (by simp;omega)] at hb
     simp at hb
theorem rq {all:Array Oper} {j i:Nat} (h:((ND all).getD j 0).testBit i=true):CU all j i:=
 D8 all.toList [] [] (by simp) rfl (fun j i h=>by simp at h) j i h
def I0 (all:Array Oper) (m:Nat) (A:List Nat):Bool:=
 (List.range all.size).all fun j=>match all[j]? with
  | none=>true
  | some oj=>(oj.after.all fun e=>!Region.binds .any e||aa e.on j)&&(List.range j).all fun i=>match all[i]? with
    | none=>true
    | some oi=>if aa j m then !CT all oi oj||(A.getD j 0).testBit i else (A.getD j 0).testBit i
def x9 (all:Array Oper) (m:Nat):Prop:=∃ A,ND all=A∧I0 all m A=true
theorem mF {all:Array Oper} {m:Nat} (h:x9 all m) {i j:Nat} {oi oj:Oper} (hj:all[j]? =some oj) (hi:all[i]? =some oi) (zC:i < j):(j < m→CT all oi oj=true→CU all j i)∧(m≤j→CU all j i):=by
 obtain ⟨A,hA,h⟩:=h
 subst hA
 have Dp:j < all.size:=(b4.1 hj).1
 simp only [I0,b5,a8] at h
 have h1:=h j Dp
 rw [hj] at h1
 simp only [ap,b5,a8] at h1
 have h2:=h1.2 i zC
 rw [hi] at h2
 simp only at h2
 refine ⟨fun hm hc=>?_,fun hm=>?_⟩
 ·rw [if_pos (by simpa using hm)] at h2
  exact rq (by simpa [hc] using h2)
 ·rw [if_neg (by simp;omega)] at h2
  exact rq h2
theorem Az {all:Array Oper} {m:Nat} (h:x9 all m) {j:Nat} {oj:Oper} (hj:all[j]? =some oj) {e:Edge} (he:e∈oj.after) (hb:Region.binds .any e=true):e.on < j:=by
 obtain ⟨A,hA,h⟩:=h
 have Dp:j < all.size:=(b4.1 hj).1
 simp only [I0,b5,a8] at h
 have h1:=h j Dp
 rw [hj] at h1
 simp only [ap,b6] at h1
 have:=h1.1 e he
 simpa [hb] using this
theorem vN {all:Array Oper} {listed:Array Bool} {i j:Nat} {oj:Oper} (hj:all[j]? =some oj) (hr:j∈Region.ready .any all listed) (hw:waits oj i=true):listed.getD i false=true:=by
 simp only [Region.ready,b7,a8,hj,cQ,bz,ap,b6] at hr
 simp only [waits,bY,ap] at hw
 obtain ⟨e,he,hb,XS⟩:=hw
 have:=hr.2.2 e (by simpa using he)
 rw [hb] at this
 obtain rfl:e.on=i:=aI XS
 simpa using this
def nZ (all:Array Oper) (listed:Array Bool):Prop:=∀ k i o,listed.getD k false=true→all[k]? =some o→waits o i=true→listed.getD i false=true
theorem nZ.Sz {all:Array Oper} {listed:Array Bool} (c:nZ all listed) {j i:Nat} (h:CU all j i) (hl:listed.getD j false=true):listed.getD i false=true:=by
 induction h with
 | one hj hw=>exact c _ _ _ hl hj hw
 | step hj hw _ ih=>exact ih (c _ _ _ hl hj hw)
theorem nZ.ready {all:Array Oper} {listed:Array Bool} (c:nZ all listed) {j i:Nat} (h:CU all j i) (hr:j∈Region.ready .any all listed):listed.getD i false=true:=by
 cases h with
 | one hj hw=>exact vN hj hr hw
 | step hj hw h=>exact c.Sz h (vN hj hr hw)
theorem zD {all:Array Oper} {listed:Array Bool} {j:Nat} (hr:j∈Region.ready .any all listed):j < all.size∧listed.getD j true=false:=by
 simp only [Region.ready,b7,a8,ap] at hr
 exact ⟨hr.1,by simpa using hr.2.1⟩
theorem Cd {all:Array Oper} {m:Nat} (h:x9 all m) {listed:Array Bool} (hl:listed.size=all.size) (hr:Region.ready .any all listed=[]):∀ i,i < all.size→listed.getD i false=true:=by
 intro i
 induction i using Nat.strongRecOn with
 | _ i ih=>
   intro hi
   cases hv:listed.getD i false with
   | true=>rfl
   | false=>
     exfalso
     have:i∈Region.ready .any all listed:=by
      simp only [Region.ready,b7,a8,ap]
      have XT:i < listed.size:=by omega
      refine ⟨hi,?_,?_⟩
      ·simp [XT] at hv ⊢;exact hv
      ·have CW:all[i]? =some all[i]:=by simp [hi]
       rw [CW]
       simp only [cQ,bz,b6]
       intro e he
       cases hb:Region.binds .any e with
       | false=>simp
       | true=>
         have iW:=Az h CW he hb
         simp [ih e.on iW (by omega)]
     rw [hr] at this
     simp at this
section order
variable {P:Program} {all:Array Oper} {n m:Nat} {hp:Heap}
def cur (all:Array Oper) (pk:Nat→AV) (e:Env) (listed:Array Bool):Nat→Env
 | 0=>e
 | k+1=>if listed.getD k false then zX (cur all pk e listed k) ((all[k]?).bind (·.dst)) (pk k) else cur all pk e listed k
theorem pa {e:Env} {d:Option Nat} {av:AV} {s:Nat} (h:d≠some s):zX e d av s=e s:=by
 cases d with
 | none=>rfl
 | some d=>simp only [zX];rw [if_neg (fun e=>h (by rw [e]))]
theorem rV {e:Env} {av:AV} {s:Nat}:zX e (some s) av s=some av:=by simp [zX]
theorem AA {oi oj:Oper} {s:Nat} (hd:oi.dst=some s) (hs:s∈looks all oj):CT all oi oj=true:=by
 unfold CT
 rw [hd]
 cases hj:oj.dst<;>simp [hs]
theorem CX {oi oj:Oper} {s:Nat} (hd:oj.dst=some s) (hs:s∈looks all oi):CT all oi oj=true:=by
 unfold CT
 rw [hd]
 cases hi:oi.dst<;>simp [hs]
theorem Gi {oi oj:Oper} {s:Nat} (hi:oi.dst=some s) (hj:oj.dst=some s):CT all oi oj=true:=by
 unfold CT
 rw [hi,hj]
 simp
structure R3 (all:Array Oper) (m:Nat) (listed:Array Bool):Prop where
 size:listed.size=all.size
 head:∀ k,listed.getD k false=true→k < m
 closed:∀ k i o,listed.getD k false=true→all[k]? =some o→waits o i=true→listed.getD i false=true
theorem DK {listed:Array Bool} {i:Nat} (h:listed.getD i true=false):listed.getD i false=false:=by
 by_cases hi:i < listed.size
 ·simp [hi] at h ⊢;exact h
 ·simp [hi]
variable {pk:Nat→AV} {en:Nat→Env} {e:Env}
theorem Pp (hB:x9 all m) {listed:Array Bool} (L:R3 all m listed) (h0:en 0=e) (hs:∀ i o,i < m→all[i]? =some o→en (i+1)=zX (en i) o.dst (pk i)) (hm:m≤all.size)
 {i:Nat} {o:Oper} (ho:all[i]? =some o) (FN:i < m) (zY:listed.getD i false=false) (hr:∀ j,CU all i j→listed.getD j false=true) {s:Nat} (R4:s∈looks all o):∀ k,k≤all.size→cur all pk e listed k s=en (min k i) s:=by
 intro k
 induction k with
 | zero=>intro _;simp [cur,h0]
 | succ k ih=>
   intro hk
   have ym:=ih (by omega)
   have iv:all[k]? =some all[k]:=by simp [show k < all.size by omega]
   simp only [cur,iv,b8]
   rcases b9 k i with iW | heq | K6
   ·rw [bo (by omega)] at ym
    rw [bo (by omega),hs k _ (by omega) iv]
    by_cases hd:(all[k]).dst=some s
    ·have hl:listed.getD k false=true:=hr k ((mF hB ho iv iW).1 FN (AA hd R4))
     rw [if_pos hl,hd,rV,rV]
    ·rw [pa hd]
     split
     ·rw [pa hd];exact ym
     ·exact ym
   ·subst heq
    rw [zY]
    simp only [Bool.false_eq_true,if_false]
    rw [aw (by omega)]
    rw [aw (by omega)] at ym
    exact ym
   ·rw [aw (by omega)] at ym
    rw [aw (by omega)]
    by_cases hl:listed.getD k false=true
    ·by_cases hd:(all[k]).dst=some s
     ·exfalso
      have hw:=(mF hB iv ho K6).1 (L.head k hl) (CX hd R4)
      have:=nZ.Sz L.closed hw hl
      rw [zY] at this;cases this
     ·rw [if_pos hl,pa hd];exact ym
    ·rw [if_neg hl];exact ym
theorem kX {listed:Array Bool} {i k:Nat} (hi:i < listed.size):(listed.setIfInBounds i true).getD k false=(if k=i then true else listed.getD k false):=by
 by_cases hk:k < listed.size
 ·simp [hk,Array.getElem_setIfInBounds]
  by_cases h:k=i
  ·simp [h]
  ·have h':¬ i=k:=fun e=>h e.symm
   simp [h,h']
 ·have:k≠i:=by omega
  simp [hk,this]
theorem SC (hB:x9 all m) {listed:Array Bool} (L:R3 all m listed) {i:Nat} {o:Oper} (ho:all[i]? =some o) (FN:i < m) (zY:listed.getD i false=false) (s:Nat):
 ∀ k,k≤all.size→cur all pk e (listed.setIfInBounds i true) k s=(if i < k then zX (cur all pk e listed k) o.dst (pk i) s else cur all pk e listed k s):=by
 have hi:i < listed.size:=by rw [L.size];exact (b4.1 ho).1
 intro k
 induction k with
 | zero=>intro _;simp [cur]
 | succ k ih=>
   intro hk
   have ym:=ih (by omega)
   have iv:all[k]? =some all[k]:=by simp [show k < all.size by omega]
   simp only [cur,iv,b8,kX hi]
   rcases b9 k i with iW | heq | K6
   ·rw [if_neg (by omega)] at ym
    have e1:(if k=i then true else listed.getD k false)=listed.getD k false:=if_neg (by omega)
    rw [e1,if_neg (show ¬ i < k+1 by omega)]
    by_cases hl:listed.getD k false=true
    ·rw [if_pos hl,if_pos hl]
     by_cases hd:(all[k]).dst=some s
     ·rw [hd,rV,rV]
     ·rw [pa hd,pa hd];exact ym
    ·rw [if_neg hl,if_neg hl];exact ym
   ·subst heq
    rw [if_neg (by omega)] at ym
    have e1:(if k=k then true else listed.getD k false)=true:=if_pos rfl
    rw [e1,if_pos (show k < k+1 by omega),if_pos rfl,zY,if_neg Bool.false_ne_true]
    obtain rfl:all[k]=o:=by rw [iv] at ho;exact ac ho
    by_cases hd:(all[k]).dst=some s
    ·rw [hd,rV,rV]
    ·rw [pa hd,pa hd];exact ym
   ·rw [if_pos K6] at ym
    have e1:(if k=i then true else listed.getD k false)=listed.getD k false:=if_neg (by omega)
    rw [e1,if_pos (show i < k+1 by omega)]
    by_cases hl:listed.getD k false=true
    ·rw [if_pos hl,if_pos hl]
     by_cases hd:(all[k]).dst=some s
     ·by_cases KN:o.dst=some s
      ·exfalso
       have hw:=(mF hB iv ho K6).1 (L.head k hl) (Gi KN hd)
       have:=nZ.Sz L.closed hw hl
       rw [zY] at this;cases this
      ·rw [hd,rV,pa KN,rV]
     ·by_cases KN:o.dst=some s
      ·rw [pa hd,ym,KN,rV,rV]
      ·rw [pa hd,ym,pa KN,pa KN,pa hd]
    ·rw [if_neg hl,if_neg hl];exact ym
theorem I1 (hB:x9 all m) {Q:Exit→Act→World→Prop}:∀ (fuel k:Nat) (listed:Array Bool) (a:Act) (w:World),m≤k→k+fuel=all.size→listed.size=all.size→(∀ i,i < k→listed.getD i false=true)→(∀ i,k≤i→listed.getD i false=false)→
 wpList P all Q (all.toList.drop k) a w→wpAny P .any all Q fuel listed a w:=by
 intro fuel
 induction fuel with
 | zero=>
   intro k listed a w hm hk iV h1 h2 h
   have Pq:all.toList.drop k=[]:=List.drop_eq_nil_of_le (by simp;omega)
   rw [Pq] at h
   refine ⟨?_,h⟩
   refine List.eq_nil_iff_forall_not_mem.2 fun i hi=>?_
   obtain ⟨NF,I2⟩:=zD hi
   have:=h1 i (by omega)
   rw [DK I2] at this
   cases this
 | succ fuel ih=>
   intro k listed a w hm hk iV h1 h2 h
   have hks:k < all.size:=by omega
   have iv:all[k]? =some all[k]:=by simp [hks]
   refine ⟨fun hr=>?_,fun i hi=>?_⟩
   ·have:=Cd hB iV hr k hks
    rw [h2 k (a6 _)] at this
    cases this
   ·obtain ⟨NF,I2⟩:=zD hi
    have CW:all[i]? =some all[i]:=by simp [NF]
    obtain rfl:i=k:=by
     rcases b9 i k with iW | heq | K6
     ·have:=h1 i iW;rw [DK I2] at this;cases this
     ·exact heq
     ·have Ag:nZ all listed:=fun k' i' o R5 ho' Mp=>by
       have iW:k' < k:=by
        rcases al k' k with h | h
        ·exact h
        ·rw [h2 k' h] at R5;cases R5
       simp only [waits,bY,ap] at Mp
       obtain ⟨e',he',B6,Vo⟩:=Mp
       have:=Az hB ho' (by simpa using he') B6
       obtain rfl:e'.on=i':=aI Vo
       exact h1 _ (by omega)
      have:=Ag.ready ((mF hB CW iv K6).2 (by omega)) hi
      rw [h2 k (a6 _)] at this;cases this
    have Pr:all.toList.drop i=all[i] :: all.toList.drop (i+1):=by
     rw [List.drop_eq_getElem_cons (by simpa using hks)]
     simp
    rw [Pr] at h
    unfold wpList at h
    simp only [wpOp,iv]
    have next:∀ a w,wpList P all Q (all.toList.drop (i+1)) a w→wpAny P .any all Q fuel (listed.setIfInBounds i true) a w:=fun a w hh=>by
     have ru:i < listed.size:=by omega
     refine ih (i+1) (listed.setIfInBounds i true) a w (by omega) (by omega) (by simpa using iV) (fun j hj=>?_) (fun j hj=>?_) hh
     ·rw [kX ru];split
      ·rfl
      ·exact h1 j (by omega)
     ·rw [kX ru,if_neg (by omega)];exact h2 j (by omega)
    split at h
    ·rename_i hw
     rw [if_pos hw]
     exact h.imp (fun hh=>Oper.wp_mono next hh) id
    ·rename_i hw
     rw [if_neg hw]
     exact next _ _ h
theorem zE {o:Oper} {e:Env} {b:Bool} {w:World} {S:Nat→Prop} {a:Act} (hw:qY all o e b) (r:Hr w S (looks all o) e a):Region.wanted o (yielded all a.tmps)=b:=by
 unfold qY at hw
 unfold Region.wanted
 cases hg:o.guard with
 | none=>rw [hg] at hw;simp only at hw;rw [hw]
 | some g=>
   obtain ⟨j,want⟩:=g
   rw [hg] at hw
   simp only at hw
   obtain ⟨s,h1,⟨c,h2,h3⟩ | ⟨h2,h3⟩⟩:=hw
   ·obtain ⟨v,g1,g2⟩:=r s (by simp [looks,hg,h1]) _ h2
    cases g2
    rw [h3]
    cases c<;>cases want<;>simp [yielded,h1,g1]
   ·obtain ⟨v,g1,g2⟩:=r s (by simp [looks,hg,h1]) _ h2
    cases g2
    rw [h3]
    simp [yielded,h1,g1,undef]
def D9 (w:World) (S:Nat→Prop) (e:Env) (a:Act):Prop:=∀ s av,e s=some av→∃ v,a.tmps[s]? =some v∧At w S av v
theorem Ps (hB:x9 all m) (hm:m≤all.size) {Q:Exit→Act→World→Prop} (h0:en 0=e) (hs:∀ i o,i < m→all[i]? =some o→Uz P all n hp o (en i) (pk i)∧en (i+1)=zX (en i) o.dst (pk i)) {w0:World} {S0:Nat→Prop}
 (fin:∀ a w S,a.tmps.size=n→a.defers=[]→db w S hp→Grow w0 S0 w S→D9 w S (en m) a→wpList P all Q (all.toList.drop m) a w):
 ∀ (fuel:Nat) (listed:Array Bool) (a:Act) (w:World) (S:Nat→Prop),R3 all m listed→(listed.toList.count true)+fuel=all.size→a.tmps.size=n→a.defers=[]→db w S hp→Grow w0 S0 w S→D9 w S (cur all pk e listed all.size) a→
   wpAny P .any all Q fuel listed a w:=by
 have XU:∀ i o,i < m→all[i]? =some o→en (i+1)=zX (en i) o.dst (pk i):=fun i o h1 h2=>(hs i o h1 h2).2
 have done:∀ (fuel:Nat) (listed:Array Bool) (a:Act) (w:World) (S:Nat→Prop),R3 all m listed→(listed.toList.count true)+fuel=all.size→a.tmps.size=n→a.defers=[]→db w S hp→Grow w0 S0 w S→D9 w S (cur all pk e listed all.size) a→
  (∀ i,i < m→listed.getD i false=true)→wpAny P .any all Q fuel listed a w:=by
  intro fuel listed a w S L hc iV IA hr hg vD mc
  have Ea:∀ i,m≤i→listed.getD i false=false:=fun i hi=>by
   cases hv:listed.getD i false with
   | false=>rfl
   | true=>have:=L.head i hv;omega
  have Vp:listed.toList.count true=m:=by
   have:listed.toList=cS m true++cS (all.size - m) false:=by
    apply List.ext_getElem?
    intro i
    rcases al i m with hi | hi
    ·have ru:i < listed.size:=by rw [L.size];omega
     rw [be (by simpa using hi)]
     have:=mc i hi
     simp [ru] at this
     simp [ru,hi,this]
    ·rw [a7 (by simpa using hi)]
     rcases al i listed.size with ru | ru
     ·have:=Ea i hi
      simp [ru] at this
      have h2:i - m < all.size - m:=by rw [L.size] at ru;omega
      simp [ru,h2,this]
     ·have h2:¬ i - m < all.size - m:=by rw [L.size] at ru;omega
      simp [cP (l:=listed.toList) (by simpa using ru),h2]
   rw [this,List.count_append,cb,cb]
   simp
  have Vq:cur all pk e listed all.size=en m:=by
   have key:∀ k,k≤all.size→cur all pk e listed k=en (min k m):=by
    intro k
    induction k with
    | zero=>intro _;simp [cur,h0]
    | succ k ih=>
      intro hk
      have iv:all[k]? =some all[k]:=by simp [show k < all.size by omega]
      simp only [cur,iv,b8,ih (by omega)]
      rcases al k m with h | h
      ·rw [if_pos (mc k h),bo (by omega),bo (by omega),XU k _ h iv]
      ·rw [if_neg (by rw [Ea k h];simp),aw (by omega),aw (by omega)]
   rw [key all.size (a6 _),aw hm]
  rw [Vq] at vD
  exact I1 hB fuel m listed a w (a6 _) (by omega) L.size mc Ea (fin a w S iV IA hr hg vD)
 intro fuel
 induction fuel with
 | zero=>
   intro listed a w S L hc iV IA hr hg vD
   refine done 0 listed a w S L hc iV IA hr hg vD (fun i hi=>?_)
   have I3:listed.toList.count true=listed.toList.length:=by rw [Array.length_toList,L.size];omega
   have mc:=List.count_eq_length.1 I3
   have ru:i < listed.size:=by rw [L.size];omega
   have:=mc listed[i] (by simp)
   simp [ru];exact this.symm
 | succ fuel ih=>
   intro listed a w S L hc iV IA hr hg vD
   by_cases mc:∀ i,i < m→listed.getD i false=true
   ·exact done _ listed a w S L hc iV IA hr hg vD mc
   ·refine ⟨fun NG=>(mc fun i hi=>Cd hB L.size NG i (by omega)).elim,fun i hi=>?_⟩
    obtain ⟨NF,I2⟩:=zD hi
    have zY:=DK I2
    have CW:all[i]? =some all[i]:=by simp [NF]
    have FN:i < m:=by
     rcases al i m with h | h
     ·exact h
     ·refine (mc fun j hj=>?_).elim
      have R1:all[j]? =some all[j]:=by simp [show j < all.size by omega]
      exact nZ.ready L.closed ((mF hB CW R1 (by omega)).2 h) hi
    have ru:i < listed.size:=by rw [L.size];exact NF
    obtain ⟨⟨Uq,sN⟩,_⟩:=hs i _ FN CW
    have u9:Hr w S (looks all all[i]) (en i) a:=by
     intro s R4 av qn
     have hc:=Pp (pk:=pk) (en:=en) (e:=e) hB L h0 XU hm CW FN zY (fun j hj=>nZ.ready L.closed hj hi) R4 all.size (a6 _)
     rw [aw (by omega)] at hc
     exact vD s av (by rw [hc];exact qn)
    have L':R3 all m (listed.setIfInBounds i true):=by
     refine ⟨by simpa using L.size,fun k hk=>?_,fun k j o hk iv hw=>?_⟩
     ·rw [kX ru] at hk
      split at hk
      ·omega
      ·exact L.head k hk
     ·rw [kX ru] at hk
      rw [kX ru]
      split
      ·rfl
      ·split at hk
       ·rename_i hki
        subst hki
        obtain rfl:all[k]=o:=by rw [CW] at iv;exact ac iv
        exact vN CW hi hw
       ·exact L.closed k j o hk iv hw
    have I3:(listed.setIfInBounds i true).toList.count true+fuel=all.size:=by
     have Pt:listed[i]=false:=by simpa [ru] using zY
     have:(listed.setIfInBounds i true).toList=listed.toList.set i true:=by simp
     rw [this,List.count_set (by simpa using ru)]
     have Vj:listed.toList[i]'(by simpa using ru)=false:=by simpa using Pt
     rw [Vj]
     have e1:(if (false==true)=true then 1 else 0)=0:=rfl
     have e2:(if (true==true)=true then 1 else 0)=1:=rfl
     rw [e1,e2]
     omega
    have upd:∀ (v:Value) (w':World) (S':Nat→Prop),Grow w S w' S'→At w' S' (pk i) v→D9 w' S' (cur all pk e (listed.setIfInBounds i true) all.size) (a.put (all[i]).dst v):=by
     intro v w' S' UA sB s av qn
     rw [SC (pk:=pk) (e:=e) hB L CW FN zY s all.size (a6 _),if_pos (by omega)] at qn
     by_cases hd:(all[i]).dst=some s
     ·rw [hd,rV] at qn
      obtain rfl:=ac qn
      have OX:=Uq s hd
      exact ⟨v,by rw [hd];simp [Act.put,iV,OX],sB⟩
     ·rw [pa hd] at qn
      obtain ⟨u,h1,h2⟩:=vD s av qn
      refine ⟨u,?_,h2.mono (UA.mB hr.slt)⟩
      cases Ht:(all[i]).dst with
      | none=>simpa [Act.put] using h1
      | some d'=>
        have A2:d'≠s:=fun e=>hd (by rw [Ht,e])
        simp [Act.put,A2,h1]
    have ZA:∀ v,(a.put (all[i]).dst v).tmps.size=n:=fun v=>by cases (all[i]).dst<;>simp [Act.put,iV]
    have ZB:∀ v,(a.put (all[i]).dst v).defers=[]:=fun v=>by cases (all[i]).dst<;>simp [Act.put,IA]
    simp only [wpOp,CW]
    rcases sN with ⟨hw,hmv⟩ | ⟨hw,qn⟩
    ·rw [if_pos (zE hw u9)]
     refine .inl (hmv w S a iV IA hr u9 _ _ (fun v w' S' UA sB=>?_))
     exact ih _ _ _ S' L' I3 (ZA v) (ZB v) (hr.grow UA) (hg.trans UA) (upd v w' S' UA sB)
    ·rw [if_neg (by rw [zE hw u9];simp)]
     refine ih _ _ _ S L' I3 (ZA _) (ZB _) hr hg (upd _ w S (Grow.refl hr.slt) ?_)
     rw [qn];exact .raw _
end order
theorem xE (d:Nat) (av:AV) (tm:List (Nat×AV)):lk ((d,av) :: tm)=zX (lk tm) (some d) av:=by
 funext s
 simp only [lk,zX]
 by_cases h:d=s
 ·subst h;simp
 ·rw [tx h,if_neg h]
def Hu:List Nat→List (Nat×AV)→List (Nat×AV)
 | [],_=>[]
 | s :: r,tm=>match lk tm s with
   | some av=>(s,av) :: Hu r tm
   | none=>Hu r tm
theorem Hv:∀ {ls:List Nat} {tm:List (Nat×AV)} {s:Nat} {av:AV},lk (Hu ls tm) s=some av→s∈ls∧lk tm s=some av
 | [],tm,s,av,h=>by simp [Hu,lk] at h
 | k :: ls,tm,s,av,h=>by
   simp only [Hu] at h
   split at h
   ·rename_i gx hk
    simp only [lk] at h
    split at h
    ·rename_i hb
     obtain rfl:k=s:=by simpa using hb
     obtain rfl:=ac h
     exact ⟨by simp,hk⟩
    ·obtain ⟨h1,h2⟩:=Hv h
     exact ⟨by simp [h1],h2⟩
   ·obtain ⟨h1,h2⟩:=Hv h
    exact ⟨by simp [h1],h2⟩
theorem sS {w:World} {S:Nat→Prop} {a:Act} {n:Nat} {hp:Heap} {ls:List Nat} {tm:List (Nat×AV)} (h1:a.tmps.size=n) (h2:a.defers=[]) (h3:db w S hp) (h4:Hr w S ls (lk tm) a):fh w S ⟨n,Hu ls tm,hp⟩ a:=
 ⟨h1,h2,fun s av h=>h4 s (Hv h).1 av (Hv h).2,h3⟩
def AM (P:Program) (all:Array Oper) (n:Nat) (hp:Heap) (l:List Oper) (tm:List (Nat×AV)) (Q:List (Nat×AV)→Prop):Prop:=∃ sF,Sy P all n hp l (lk tm) (lk sF)∧Q sF
section rules
variable {P:Program} {all:Array Oper} {rest:List Oper} {n:Nat} {tm:List (Nat×AV)} {hp:Heap} {Q:List (Nat×AV)→Prop} {d:Nat} {ty:TypeId} {pos:String} {af:Array Edge} {op:Op}
theorem AM.nil (h:Q tm):AM P all n hp [] tm Q:=⟨tm,.nil _,h⟩
theorem AM.mv {av:AV} (h:MV P all n ⟨some d,op,ty,pos,af,none⟩ (lk tm) hp av) (hn:aa d n=true) (k:AM P all n hp rest ((d,av) :: tm) Q):AM P all n hp (⟨some d,op,ty,pos,af,none⟩ :: rest) tm Q:=by
 obtain ⟨sF,k1,k2⟩:=k
 refine ⟨sF,.run rfl h (fun d' hd=>?_) (by rw [xE] at k1;exact k1),k2⟩
 obtain rfl:=ac hd
 simpa using hn
theorem AM.qv {av:AV} (q:QV P ⟨some d,op,ty,pos,af,none⟩ ⟨n,Hu (looks all ⟨some d,op,ty,pos,af,none⟩) tm,hp⟩ av) (hn:aa d n=true) (k:AM P all n hp rest ((d,av) :: tm) Q):AM P all n hp (⟨some d,op,ty,pos,af,none⟩ :: rest) tm Q:=by
 refine AM.mv (fun w S a h1 h2 h3 h4 K Q' hK=>?_) hn k
 obtain ⟨v,g1,g2⟩:=q w S a (sS h1 h2 h3 h4)
 show Oper.upon P _ a K Q' _
 rw [g1 w (Ext.refl w)]
 exact hK v w S (Grow.refl h3.slt) g2
theorem AM.au {j:Nat} {want b:Bool} {s:Nat} (hj:(all[j]?).bind (·.dst)=some s) (hs:lk tm s=some (.bool b)) (hb:b=want)
 (k:AM P all n hp (⟨some d,op,ty,pos,af,none⟩ :: rest) tm Q):AM P all n hp (⟨some d,op,ty,pos,af,some (j,want)⟩ :: rest) tm Q:=by
 obtain ⟨sF,k1,k2⟩:=k
 refine ⟨sF,?_,k2⟩
 cases k1 with
 | run hg h hd k=>
   refine .run ⟨s,hj,.inl ⟨b,hs,by simp [hb]⟩⟩ ?_ hd k
   intro w S a h1 h2 h3 h4 K Q' hK
   exact h w S a h1 h2 h3 (fun t ht=>h4 t (by simp only [looks,List.append_nil] at ht ⊢;exact cv _ ht)) K Q' hK
 | pass hg hd k=>simp [qY] at hg
theorem AM.ar {j:Nat} {want b:Bool} {s:Nat} (hj:(all[j]?).bind (·.dst)=some s) (hs:lk tm s=some (.bool b)) (hb:b=!want) (hn:aa d n=true)
 (k:AM P all n hp rest ((d,.raw undef) :: tm) Q):AM P all n hp (⟨some d,op,ty,pos,af,some (j,want)⟩ :: rest) tm Q:=by
 obtain ⟨sF,k1,k2⟩:=k
 refine ⟨sF,.pass ⟨s,hj,.inl ⟨b,hs,?_⟩⟩ (fun d' hd=>?_) (by rw [xE] at k1;exact k1),k2⟩
 ·rw [hb];cases want<;>rfl
 ·obtain rfl:=ac hd
  simpa using hn
theorem AM.aS {j:Nat} {want:Bool} {s:Nat} (hj:(all[j]?).bind (·.dst)=some s) (hs:lk tm s=some (.raw undef)) (hn:aa d n=true)
 (k:AM P all n hp rest ((d,.raw undef) :: tm) Q):AM P all n hp (⟨some d,op,ty,pos,af,some (j,want)⟩ :: rest) tm Q:=by
 obtain ⟨sF,k1,k2⟩:=k
 refine ⟨sF,.pass ⟨s,hj,.inr ⟨hs,rfl⟩⟩ (fun d' hd=>?_) (by rw [xE] at k1;exact k1),k2⟩
 obtain rfl:=ac hd
 simpa using hn
theorem AM.lit {l:List Oper} {s:Nat} {b c:Bool} (hs:lk tm s=some (.bool b)) (hb:b=c) (k:AM P all n hp l ((s,.bool c) :: tm) Q):AM P all n hp l tm Q:=by
 subst hb
 obtain ⟨sF,k1,k2⟩:=k
 have:lk ((s,.bool b) :: tm)=lk tm:=by
  rw [xE]
  funext t
  simp only [zX]
  split
  ·rename_i h;subst h;exact hs.symm
  ·rfl
 rw [this] at k1
 exact ⟨sF,k1,k2⟩
theorem AM.guard {j s:Nat} {want b:Bool} (hj:(all[j]?).bind (·.dst)=some s) (hs:lk tm s=some (.bool b)) (hn:aa d n=true) (h1:b=want→AM P all n hp (⟨some d,op,ty,pos,af,none⟩ :: rest) ((s,.bool want) :: tm) Q)
 (h2:b=!want→AM P all n hp rest ((d,.raw undef) :: (s,.bool (!want)) :: tm) Q):AM P all n hp (⟨some d,op,ty,pos,af,some (j,want)⟩ :: rest) tm Q:=by
 by_cases hb:b=want
 ·exact AM.lit hs hb (AM.au hj (by simp [lk]) rfl (h1 hb))
 ·have B6:b=!want:=by cases b<;>cases want<;>simp_all
  exact AM.lit hs B6 (AM.ar hj (b:=!want) (by simp [lk]) rfl hn (h2 B6))
theorem AM.dw {j s:Nat} {p:Prop} [Decidable p] (hj:(all[j]?).bind (·.dst)=some s) (hs:lk tm s=some (.bool (decide p))) (hn:aa d n=true) (h1:p→AM P all n hp (⟨some d,op,ty,pos,af,none⟩ :: rest) ((s,.bool true) :: tm) Q)
 (h2:¬ p→AM P all n hp rest ((d,.raw undef) :: (s,.bool false) :: tm) Q):AM P all n hp (⟨some d,op,ty,pos,af,some (j,true)⟩ :: rest) tm Q:=
 AM.guard hj hs hn (fun h=>h1 (of_decide_eq_true h)) (fun h=>h2 (of_decide_eq_false h))
theorem AM.dG {j s:Nat} {p:Prop} [Decidable p] (hj:(all[j]?).bind (·.dst)=some s) (hs:lk tm s=some (.bool (decide p))) (hn:aa d n=true) (h1:¬ p→AM P all n hp (⟨some d,op,ty,pos,af,none⟩ :: rest) ((s,.bool false) :: tm) Q)
 (h2:p→AM P all n hp rest ((d,.raw undef) :: (s,.bool true) :: tm) Q):AM P all n hp (⟨some d,op,ty,pos,af,some (j,false)⟩ :: rest) tm Q:=
 AM.guard hj hs hn (fun h=>h1 (of_decide_eq_false h)) (fun h=>h2 (of_decide_eq_true h))
theorem AM.iX {f:FuncId} {args:List Operand} {ts:Array TypeId} {l l':List AV} {R:AV} [bJ P f](hl:CO (Hu (looks all ⟨some d,.call {callee:=.value (.func f),args:=args.toArray,argTypes:=ts},ty,pos,af,none⟩) tm) args=some l) (c:Pu P f l' R) (co:B7 hp l l') (hn:aa d n=true)
 (k:AM P all n hp rest ((d,R) :: tm) Q):AM P all n hp (⟨some d,.call {callee:=.value (.func f),args:=args.toArray,argTypes:=ts},ty,pos,af,none⟩ :: rest) tm Q:=by
 refine AM.mv (fun w S a h1 h2 h3 h4 K Q' hK=>?_) hn k
 have r:=sS h1 h2 h3 h4
 show Oper.upon P _ a K Q' _
 rw [oN]
 obtain ⟨g1,g2⟩:=tU r hl
 obtain ⟨g3,g4⟩:=B7.at r.hp co g1 g2
 refine (c w S _ (va h3.slt h3.gz) (by simpa using g3) g4).mono ?_
 rintro e w' ⟨v,rr,h',S',rfl,rfl,k3,k4,k5⟩
 exact hK v w' S' ⟨k5.Gh,fun m hm=>(k5.mB m hm).1,fun m hm hs=>(k5.other m hm (fun ⟨x,hx,_⟩=>by simp at hx)).2 hs,k4.slt⟩ k3
theorem AM.Pv {f:FuncId} {args:List Operand} {ts:Array TypeId} {l l':List AV} {R:AV} [bJ P f](hl:CO (Hu (looks all ⟨some d,.call {callee:=.value (.func f),args:=args.toArray,argTypes:=ts},ty,pos,af,none⟩) tm) args=some l) (c:Pu P f l' R) (co:vF hp l l') (hn:aa d n=true) (hR:R.XO=true)
 (k:AM P all n hp rest ((d,R) :: tm) Q):AM P all n hp (⟨some d,.call {callee:=.value (.func f),args:=args.toArray,argTypes:=ts},ty,pos,af,none⟩ :: rest) tm Q:=by
 refine AM.mv (fun w S a h1 h2 h3 h4 K Q' hK=>?_) hn k
 have r:=sS h1 h2 h3 h4
 show Oper.upon P _ a K Q' _
 rw [oN]
 obtain ⟨g1,g2⟩:=tU r hl
 obtain ⟨g3,g4⟩:=vF.at r.hp co g1 g2
 refine (c w (SB S hp) _ (va (fun m hm=>hm.elim (h3.slt m) fun h=>h3.lt h) (fun g o ho=>⟨.inl (h3.gz g o ho).1,(h3.gz g o ho).2⟩)) (by simpa using g3) g4).mono ?_
 rintro e w' ⟨v,rr,h',S',rfl,rfl,k3,k4,k5⟩
 have ex:=k5.Gh
 exact hK v w' S ⟨ex,fun m hm=>hm,fun m _ hs=>hs,fun m hm=>bx (h3.slt m hm) ex.size⟩ (Pm k3 hR)
theorem AM.cO {t e:TypeId} {i:TypeInfo} {z:Value} {len sz:Nat} {parts:List (Nat×Operand)} {xs:List AV} [aB P t (.slice e)] [aX P e i] [mE P e sz] (hz:i.zero=some z)
 (hl:OW (Hu (looks all ⟨some d,.buildSlice t len parts.toArray,ty,pos,af,none⟩) tm) parts 0=some xs) (hlen:ag parts.length len=true) (x7:Bd i.size xs=true) (Pj:ai (len * i.size) 16777216=true) (hn:aa d n=true)
 (k:AM P all n hp rest ((d,.list sz xs) :: tm) Q):AM P all n hp (⟨some d,.buildSlice t len parts.toArray,ty,pos,af,none⟩ :: rest) tm Q:=by
 obtain ⟨i',NF,I2⟩:=mE.h (P:=P) (t:=e)
 obtain rfl:i'=i:=by rw [aX.h (P:=P) (t:=e)] at NF;exact (ac NF).symm
 subst I2
 refine AM.mv (fun w S a h1 h2 h3 h4 K Q' hK=>?_) hn k
 have r:=sS h1 h2 h3 h4
 obtain rfl:parts.length=len:=aI hlen
 have Pj:=bw Pj
 obtain ⟨zz,Sq⟩:∃ zz:Array Value,zz=if parts.length * i'.size=0 then #[] else z.cells:=⟨_,rfl⟩
 obtain ⟨vs,g1,g2,g3,g4⟩:=D2 r i'.size parts 0 xs ((Array.range (parts.length * i'.size)).map (zz[· % zz.size]!)) hl (qX x7) (by simp)
 simp only [cf,ci,cl] at g1
 have e0:=Ext.alloc w (.cells vs.toArray e)
 have wy:(execOp a.eval ⟨some d,.buildSlice t parts.length parts.toArray,ty,pos,af,none⟩).run P w=.ok (.value (.slice (some ⟨w.heap.size,0,none⟩) parts.length parts.length)) (w.alloc (.cells vs.toArray e)):=by
  have hm:((parts.toArray.map fun p=>(p.1,a.eval p.2))).toList=parts.map fun p=>(p.1,a.eval p.2):=by simp
  simp only [execOp,Instr.buildSlice,Sem.run_bind,run_underlying (aB.h (P:=P) (t:=t)),Result.andThen_ok,sizeOf,typeInfo,run_program,aX.h (P:=P) (t:=e),Sem.run_pure]
  rw [if_neg (by omega)]
  by_cases h0:parts.length * i'.size=0
  ·rw [if_pos h0] at Sq ⊢
   subst Sq
   simp only [Sem.run_bind,Result.andThen_ok,Sem.run_pure,hm,g1,pq]
  ·rw [if_neg h0] at Sq ⊢
   subst Sq
   simp only [Sem.run_bind,Result.andThen_ok,Sem.run_pure,zeroValue,typeInfo,run_program,aX.h (P:=P) (t:=e),hz,hm,g1,pq]
 show Oper.upon P _ a K Q' _
 rw [wy]
 have wS:(w.alloc (.cells vs.toArray e)).heap[w.heap.size]? =some (.cells vs.toArray e (0,0)):=by
  show (w.heap.push _)[w.heap.size]? =_
  simp
 refine hK _ _ (fun m=>S m∨m=w.heap.size) ⟨e0,fun m hm=>.inl hm,fun m hm hs=>hs.elim id (fun h=>by omega),fun m hm=>?_⟩ ?_
 ·rcases hm with hm | hm
  ·exact bx (h3.slt m hm) e0.size
  ·subst hm;simp
 ·have:=At.list (w:=w.alloc (.cells vs.toArray e)) (S:=fun m=>S m∨m=w.heap.size) i'.size xs (some ⟨w.heap.size,0,none⟩) parts.length vs (qX x7) (by rw [cN (qX x7),g2]) (fun j c u hc hu=>?_) (fun j u hu=>?_) (by omega)
  ·rw [g3] at this;exact this
  ·exact (g4 j c u hc (by simpa using hu)).mono fun m hm=>⟨.inl hm,e0.same m (h3.slt m hm)⟩
  ·refine ⟨_,rfl,rfl,.inr rfl,?_⟩
   rw [nY wS]
   simpa using hu
end rules
def I4:Nat→List Oper→Option (List Oper×List Oper)
 | 0,l=>some ([],l)
 | m+1,o :: l=>match I4 m l with
   | some (a,b)=>some (o :: a,b)
   | none=>none
 | _+1,[]=>none
theorem zF:∀ {m:Nat} {l a b:List Oper},I4 m l=some (a,b)→l=a++b∧a.length=m
 | 0,l,a,b,h=>by simp [I4] at h;obtain ⟨rfl,rfl⟩:=h;exact ⟨rfl,rfl⟩
 | m+1,[],a,b,h=>by simp [I4] at h
 | m+1,o :: l,a,b,h=>by
   simp only [I4] at h
   split at h
   ·rename_i a' b' h'
    simp only [Option.some.injEq,Prod.mk.injEq] at h
    obtain ⟨rfl,rfl⟩:=h
    obtain ⟨h1,h2⟩:=zF h'
    exact ⟨by rw [h1];rfl,by simp [h2]⟩
   ·cases h
theorem ab.cU {P:Program} {R:St→Prop} {k:List It} {id n:Nat} {tm:List (Nat×AV)} {hp:Heap} {l hd tl:List Oper} (m:Nat) (hm:P.follows .mixedOrders=true) (hs:I4 m l=some (hd,tl)) {A:List Nat} (hA:ND l.toArray=A) (hB0:I0 l.toArray m A=true)
 (h:AM P l.toArray n hp hd tm (fun sF=>ae P l.toArray tl ⟨n,sF,hp⟩ (ab P R k))):ab P R (.code (.region id l.toArray true) :: k) ⟨n,tm,hp⟩:=by
 have hB:x9 l.toArray m:=⟨A,hA,hB0⟩
 intro w S a r
 obtain ⟨hl,SD⟩:=zF hs
 obtain ⟨sF,hA,wy⟩:=h
 obtain ⟨pk,en,e0,e1,e2⟩:=hA.K5
 have iV:m≤l.toArray.size:=by simp [hl,SD]
 refine wp_region_any hm ?_
 have Eb:Ext w {w with drawn:=w.drawn+1}:=Ext.Mh w _ (Nat.le_succ _)
 have g0:Grow w S {w with drawn:=w.drawn+1} S:=⟨Eb,fun _ h=>h,fun _ _ h=>h,fun n hn=>r.hp.slt n hn⟩
 have Vr:∀ k,cur l.toArray pk (lk tm) (bi l.toArray.size false) k=lk tm:=by
  intro k
  induction k with
  | zero=>rfl
  | succ k ih=>
    simp only [cur,ih]
    rw [if_neg]
    rcases al k l.toArray.size with h | h
    ·simp at h;simp [h]
    ·simp at h;simp [Nat.not_lt.2 h]
 have hf:∀ k,(bi l.toArray.size false).getD k false=false:=by
  intro k
  rcases al k l.toArray.size with h | h
  ·simp at h;simp [h]
  ·simp at h;simp [Nat.not_lt.2 h]
 refine Ps (P:=P) (all:=l.toArray) (n:=n) (m:=m) (hp:=hp) (pk:=pk) (en:=en) (e:=lk tm) hB iV e0 (fun i o hi ho=>e2 i o ?_) (w0:=w) (S0:=S) (fun a' w' S' h1 h2 h3 h4 h5=>?_) l.toArray.size (bi l.toArray.size false) a _ S
  ⟨by simp,(fun k hk=>by rw [hf k] at hk;cases hk),(fun k i o hk=>by rw [hf k] at hk;cases hk)⟩ (by simp [cb]) r.size r.defers (r.hp.ext Eb) g0 (by rw [Vr];exact (r.ext Eb).tm)
 ·have:l[i]? =some o:=by simpa using ho
  rw [hl,be (by omega)] at this
  exact this
 ·have XV:l.toArray.toList.drop m=tl:=by
   simp only [hl,← SD]
   exact List.drop_left
  rw [XV]
  have IB:en m=lk sF:=by rw [← SD];exact e1
  rw [IB] at h5
  refine jz ?_ _ _ _ (wy.go (h:=hp) (w:=w) (S:=S) ⟨h1,h2,h5,h3⟩ (h4.evo r.hp.slt hp))
  rintro ex a2 w2 ⟨rfl,Mj,S2,q1,q2,q3⟩
  exact ⟨Mj,S2,q1,q2,q3⟩
theorem bnd {α β:Type} {o:Option α} {f:α→Option β} {r:β} (h:o.bind f=some r):∃ v,o=some v∧f v=some r:=by
 cases o with
 | none=>cases h
 | some v=>exact ⟨v,rfl,h⟩
theorem pj {α:Type} {p:Prop} [Decidable p] {a b x:α} (hp:p) (h:(if p then a else b)=x):a=x:=by rw [if_pos hp] at h;exact h
theorem zZ {α:Type} {p:Prop} [Decidable p] {a b x:α} (hp:¬ p) (h:(if p then a else b)=x):b=x:=by rw [if_neg hp] at h;exact h
theorem ry {α:Type} {p:Bool} {a b x:α} (hp:p=false) (h:(if p=true then a else b)=x):b=x:=by rw [if_neg (by simp [hp])] at h;exact h
def uA {X A:Type} (f:X→Option (X⊕A)):Nat→X→Option A
 | 0,_=>none
 | n+1,x=>match f x with
   | none=>none
   | some (.inl y)=>uA f n y
   | some (.inr a)=>some a
theorem I5 {X A:Type} {f:X→Option (X⊕A)} {a:A}:∀ {n:Nat} {x:X},uA f n x=some a→uA f (n+1) x=some a
 | 0,x,h=>by cases h
 | n+1,x,h=>by
   unfold uA at h ⊢
   split at h
   ·cases h
   ·exact I5 h
   ·exact h
theorem Ec {X A:Type} {f:X→Option (X⊕A)} {a:A} {x:X} {n:Nat} (h:uA f n x=some a):∀ m,uA f (n+m) x=some a
 | 0=>h
 | m+1=>I5 (Ec h m)
theorem NH {X A:Type} {f:X→Option (X⊕A)} {a b:A} {x:X} {n m:Nat} (h:uA f n x=some a) (k:uA f m x=some b):a=b:=by
 have h1:=Ec h m
 have h2:=Ec k n
 rw [Nat.add_comm] at h2
 rw [h1] at h2
 exact ac h2
open Classical in
noncomputable def iter {X A:Type} (f:X→Option (X⊕A)) (x:X):Option A:=
 if h:∃ a n,uA f n x=some a then some h.choose else none
theorem zG {X A:Type} {f:X→Option (X⊕A)} {x:X} {a:A}:iter f x=some a↔∃ n,uA f n x=some a:=by
 unfold iter
 constructor
 ·intro h
  split at h
  ·rename_i hx
   obtain ⟨n,hn⟩:=hx.choose_spec
   exact ⟨n,by rw [hn];exact h⟩
  ·cases h
 ·rintro ⟨n,hn⟩
  have hx:∃ a n,uA f n x=some a:=⟨a,n,hn⟩
  rw [dif_pos hx]
  obtain ⟨m,hm⟩:=hx.choose_spec
  rw [NH hm hn]
def after {X A:Type} (k:X→Option A):X⊕A→Option A
 | .inl y=>k y
 | .inr a=>some a
theorem iter_eq {X A:Type} (f:X→Option (X⊕A)) (x:X):iter f x=(f x).bind (after (iter f)):=by
 apply Option.ext
 intro a
 rw [zG]
 constructor
 ·rintro ⟨n,hn⟩
  match n with
  | 0=>cases hn
  | n+1=>
    unfold uA at hn
    split at hn
    ·cases hn
    ·rename_i y hy;rw [hy];exact zG.2 ⟨n,hn⟩
    ·rename_i b hb;rw [hb];exact hn
 ·intro h
  obtain ⟨s,hs,h⟩:=bnd h
  cases s with
  | inl y=>
    obtain ⟨n,hn⟩:=zG.1 h
    exact ⟨n+1,by unfold uA;rw [hs];exact hn⟩
  | inr b=>exact ⟨1,by unfold uA;rw [hs];exact h⟩
theorem bT {X A:Type} {o:Option A} {s:X⊕A} {a:A} (h:o.map .inr=some s) (hA:∀ a',s=.inr a'→a'=a):o=some a:=by
 cases o with
 | none=>cases h
 | some b=>
   have:=ac h
   rw [hA b this.symm]
@[simp] theorem bC {X A:Type} (k:X→Option A) (y:X):after k (.inl y)=k y:=rfl
@[simp] theorem W0 {X A:Type} (k:X→Option A) (a:A):after k (.inr a)=some a:=rfl
theorem aY {X A:Type} (o:Option A) (k:X→Option A):(o.map Sum.inr).bind (after k)=o:=by cases o<;>rfl
def idx {α:Type} (xs:List α) (i:Int):Option α:=if 0≤i then xs[i.toNat]? else none
def app {α:Type} (xs ys:List α):Option (List α):=if xs.length+ys.length≤1000000000 then some (xs++ys) else none
def A5 {α:Type} (xs:List α) (l h:Int):Option (List α):=if 0≤l∧l≤h∧h≤xs.length then some ((xs.drop l.toNat).take (h.toNat - l.toNat)) else none
abbrev bB (i:Int):Int:=IntKind.i64.wrap i
def quo (a b:Int):Option Int:=if b=0 then none else some (bB (a.tdiv b))
def rem (a b:Int):Option Int:=if b=0 then none else some (a.tmod b)
theorem Pw {α:Type} {e:α→AV} {xs:List α} {i:Int} {x:α} (h:idx xs i=some x):Ph (xs.map e) i=some (e x):=by
 unfold idx at h;unfold Ph
 split at h
 ·rename_i h0;rw [if_pos h0,List.getElem?_map,h];rfl
 ·cases h
theorem jC {α:Type} {xs:List α} {i:Int} {x:α} (h:idx xs i=some x):0≤i∧i < xs.length∧xs[i.toNat]? =some x:=by
 unfold idx at h
 split at h
 ·rename_i h0
  have:=(bv.1 h).1
  exact ⟨h0,by omega,h⟩
 ·cases h
theorem Ed {α:Type} {xs ys zs:List α} (h:app xs ys=some zs):xs.length+ys.length≤1000000000∧zs=xs++ys:=by
 unfold app at h
 split at h
 ·exact ⟨by assumption,(ac h).symm⟩
 ·cases h
theorem vb {α:Type} {xs zs:List α} {l h:Int} (hh:A5 xs l h=some zs):(0≤l∧l≤h∧h≤xs.length)∧zs=(xs.drop l.toNat).take (h.toNat - l.toNat):=by
 unfold A5 at hh
 split at hh
 ·exact ⟨by assumption,(ac hh).symm⟩
 ·cases hh
theorem Px {a b c:Int} (h:quo a b=some c):b≠0∧c=bB (a.tdiv b):=by
 unfold quo at h
 split at h
 ·cases h
 ·exact ⟨by assumption,(ac h).symm⟩
theorem Py {a b c:Int} (h:rem a b=some c):b≠0∧c=a.tmod b:=by
 unfold rem at h
 split at h
 ·cases h
 ·exact ⟨by assumption,(ac h).symm⟩
section
variable {P:Program} {R:St→Prop} {k:List It} {σ:St}
theorem ab.cut {c:Code} (I:St→Prop) (h:ab P R (.code c :: .stop (fun aK=>aj aK I) :: k) σ) (hk:∀ aK,I aK→ab P R k aK):ab P R (.code c :: k) σ:=by
 intro w S a r
 refine wp_mono (h w S a r) ?_
 rintro e a' w' ⟨aK,S',h1,h2,h3⟩
 cases e with
 | normal=>
   obtain ⟨K4,XE,hI,hr,he⟩:=h1 w' S' a' h2
   exact ⟨K4,XE,hk K4 hI,hr,h3.trans he⟩
 | exit id=>exact ⟨aK,S',h1,h2,h3⟩
 | goto l=>exact ⟨aK,S',h1,h2,h3⟩
 | ret=>exact ⟨aK,S',h1,h2,h3⟩
 | panic c=>exact ⟨aK,S',h1,h2,h3⟩
 | outgrown=>exact ⟨aK,S',h1,h2,h3⟩
theorem ab.cx {body:Code} {X A:Type} (f:X→Option (X⊕A)) (mk:X→St→Prop) {a:A} {x0:X} (h:iter f x0=some a) (h0:aj σ (mk x0))
 (hs:∀ x s σ (J:St→Prop),mk x σ→f x=some s→(∀ y aK,s=.inl y→aj aK (mk y)→J aK)→(∀ a',s=.inr a'→a'=a)→ab P R (.code body :: .stop J :: k) σ):
 ab P R (.code (.loop body) :: k) σ:=by
 obtain ⟨m,hm⟩:=zG.1 h
 refine ab.Uw (fun m σ=>∃ x,uA f m x=some a∧mk x σ) m (h0.mono fun aK hσ=>⟨x0,hm,hσ⟩) ?_
 rintro m A3 ⟨x,hx,dY⟩
 match m with
 | 0=>cases hx
 | m+1=>
   unfold uA at hx
   split at hx
   ·cases hx
   ·rename_i y hy
    refine hs x _ A3 _ dY hy (fun y' aK e hi=>⟨m,by omega,hi.mono fun K4 hk=>⟨y',?_,hk⟩⟩) (fun a' e=>by cases e)
    have:=Sum.inl.inj e
    rw [← this];exact hx
   ·rename_i b hb
    refine hs x _ A3 _ dY hb (fun y' aK e _=>by cases e) (fun a' e=>?_)
    rw [← Sum.inr.inj e];exact ac hx
end
inductive IC:Heap→Heap→Heap→Prop
 | nil {h:Heap}:IC h [] h
 | cons {h h1 t r:Heap} {b:Bk} {o:Ob} (u:yK h b o h1) (k:IC h1 t r):IC h ((b,o) :: t) r
theorem IC.perm {h t r:Heap} (s:IC h t r):h.Perm (t++r):=by
 induction s with
 | nil=>exact bt _
 | cons u k ih=>exact u.perm.trans (cp _ ih)
section rules
variable {P:Program} {all:Array Oper} {rest:List Oper} {n:Nat} {tm:List (Nat×AV)} {hp:Heap} {Q:St→Prop} {d:Nat} {ty:TypeId} {pos:String} {af:Array Edge}
theorem Ee {f:FuncId} {args:List Operand} {ts:Array TypeId} {l l':List AV} {h0 hr:Heap} {Qc:AV→Heap→Prop} [bJ P f] (hl:CO tm args=some l) (c:aP P f l' h0 Qc) (co:B7 hp l l') (hs:IC hp h0 hr) (hn:aa d n=true)
 (kk:∀ r h',Qc r h'→ae P all rest ⟨n,(d,r) :: tm,h'++hr⟩ Q):ae P all (⟨some d,.call {callee:=.value (.func f),args:=args.toArray,argTypes:=ts},ty,pos,af,none⟩ :: rest) ⟨n,tm,hp⟩ Q:=
 Pl hl c co hs.perm hn kk
theorem bG {α:Type} {g:α→AV} {Xs:List α} {el:α} {t e:TypeId} {i:TypeInfo} {x y:Operand} {k:IntKind} {j:Int} {cs:List AV} {sz:Nat} [aB P t (.slice e)] [aX P e i] (hx:de tm x=some (.list sz (Xs.map g))) (iV:ag i.size sz=true) (hy:de tm y=some (.int k j))
 (hv:idx Xs j=some el) (h0:aa 0 sz=true) (hc:rU (g el).cells=some cs):QV P ⟨some d,.indexAddr t x y,ty,pos,af,none⟩ ⟨n,tm,hp⟩ (.ch cs):=by
 rw [← mb hc]
 exact Hk hx iV hy (Pw hv) h0
theorem ca {α:Type} {g:α→AV} {Xs:List α} {x:Operand} {t e:TypeId} {sz:Nat} [aB P t (.slice e)] (hx:de tm x=some (.list sz (Xs.map g))):QV P ⟨some d,.call {callee:=.builtin .len,args:=#[x],argTypes:=#[t]},ty,pos,af,none⟩ ⟨n,tm,hp⟩ (.int .i64 (Xs.length:Nat)):=by
 have h:=KX (P:=P) (d:=d) (ty:=ty) (pos:=pos) (af:=af) (n:=n) (tm:=tm) (hp:=hp) (t:=t) (e:=e) hx
 rw [List.length_map] at h
 exact h
theorem XW {k:IntKind} {xt yt:TypeId} {x y:Operand} {i j:Int} (hx:de tm x=some (.int k i)) (hy:de tm y=some (.int k j)) (h0:j≠0):QV P ⟨some d,.binOp .quo xt x y yt,ty,pos,af,none⟩ ⟨n,tm,hp⟩ (.int k (k.wrap (i.tdiv j))):=
 x6 hx hy (v:=.int k (k.wrap (i.tdiv j))) (fun w=>by simp [binOp,Op.intDiv,h0]) (fun w S=>.int _ _)
theorem Vs {xt yt:TypeId} {x y:Operand} {i j r:Int} (hx:de tm x=some (.int .i64 i)) (hy:de tm y=some (.int .i64 j)) (h:quo i j=some r):QV P ⟨some d,.binOp .quo xt x y yt,ty,pos,af,none⟩ ⟨n,tm,hp⟩ (.int .i64 r):=by
 obtain ⟨h0,rfl⟩:=Px h
 exact XW hx hy h0
theorem Pz {k:IntKind} {xt yt:TypeId} {x y:Operand} {i j r:Int} (hx:de tm x=some (.int k i)) (hy:de tm y=some (.int k j)) (h:rem i j=some r):QV P ⟨some d,.binOp .rem xt x y yt,ty,pos,af,none⟩ ⟨n,tm,hp⟩ (.int k r):=by
 obtain ⟨h0,rfl⟩:=Py h
 exact Gb hx hy h0
theorem nV {x y:Operand} {t:TypeId} {s:List UInt8} {k:IntKind} {i:Int} {c:UInt8} [aB P t .string] (hx:de tm x=some (.str s)) (hy:de tm y=some (.int k i)) (hc:idx s i=some c):QV P ⟨some d,.index t x y,ty,pos,af,none⟩ ⟨n,tm,hp⟩ (.int .u8 (c.toNat:Int)):=
 let ⟨h0,_,h⟩:=jC hc
 IM hx hy h0 h
theorem fo {α:Type} {g:α→AV} {Xs Ys Zs:List α} {t e:TypeId} {i:TypeInfo} {z:Value} {x y:Operand} {src:AV} {b:Bk} {len sz:Nat} {cL:Bk→Heap} [aB P t (.slice e)] [aX P e i] (hx:de tm x=some (.sl sz b 0 len)) (hy:de tm y=some src) (hz:i.zero=some z)
 (D5:ag z.cells.size i.size=true) (iV:ag i.size sz=true) (h0:aa 0 sz=true) (hn:aa d n=true) (WZ:ai i.bytes 65536=true) (hs:Src hp sz src (Ys.map g)) (hv:app Xs Ys=some Zs) (u:∀ b',na hp b (.arr sz (Xs.map g)) b' (.arr sz (Zs.map g)) (cL b')) (hlen:len=Xs.length)
 (kk:∀ b':Bk,ae P all rest ⟨n,(d,.sl sz b' 0 Zs.length) :: tm,cL b'⟩ Q):ae P all (⟨some d,.call {callee:=.builtin .append,args:=#[x,y],argTypes:=#[t,t]},ty,pos,af,none⟩ :: rest) ⟨n,tm,hp⟩ Q:=by
 obtain ⟨hb,rfl⟩:=Ed hv
 subst hlen
 refine NC (xs:=Xs.map g) (ys:=Ys.map g) (cL:=cL) hx hy hz D5 iV h0 hn WZ hs (by simpa using u) (by simp) (by simpa using hb) (fun b'=>?_)
 have:=kk b'
 simpa using this
end rules
theorem NI {hp:Heap} {sz:Nat} {b:Bk} {α:Type} {g:α→AV} {Xs:List α} {len:Nat} (f:mD hp b (.arr sz (Xs.map g))∨mD hp b (.Bb sz (Xs.map g))) (h:len=Xs.length):Src hp sz (.sl sz b 0 len) (Xs.map g):=
 .whole b len _ f (by simpa using h)
end Go.Eng
