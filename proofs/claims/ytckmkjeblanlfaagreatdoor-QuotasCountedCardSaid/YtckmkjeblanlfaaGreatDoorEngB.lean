/- The engine: abstract values, the symbolic heap, one rule for each operation. No program in sight. -/
import Derived.Test.YtckmkjeblanlfaaGreatDoorEngA
set_option linter.unusedVariables false
set_option linter.unusedSectionVars false
namespace Go.Eng
open Go
variable [bx]
theorem BR {tm:List (Nat×AV)}:∀ {parts:List (Nat×Operand)} {k:Nat} {xs:List AV},Ix tm parts k=some xs→xs.length=parts.length
 | [],k,xs,h=>by simp [Ix] at h;subst h;rfl
 | (i,x) :: parts,k,xs,h=>by
   simp only [Ix] at h
   split at h
   ·rename_i a l h1 h2 h3
    obtain rfl:=Option.some.inj h
    simp [BR h3]
   ·cases h
section rules
variable {P:Program} {all:Array Oper} {rest:List Oper} {n:Nat} {tm:List (Nat×AV)} {hp:Heap} {Q:St→Prop} {d:Nat} {ty:TypeId} {pos:String} {af:Array Edge}
theorem Da {t e:TypeId} {i:TypeInfo} {z:Value} {len:Nat} {parts:List (Nat×Operand)} {xs:List AV} [aA P t (.slice e)] [aN P e i] (hz:i.zero=some z) (hl:Ix tm parts 0=some xs) (hlen:Nat.beq parts.length len=true) (wA:wB i.size xs=true)
 (Ha:Nat.ble (len * i.size) 16777216=true) (hn:Nat.blt d n=true) (kk:ae P all rest ⟨n,(d,.list i.size xs) :: tm,hp⟩ Q):ae P all (⟨some d,.buildSlice t len parts.toArray,ty,pos,af,none⟩ :: rest) ⟨n,tm,hp⟩ Q:=by
 refine yO hz hl hlen wA Ha hn (fun b=>ae.ghost (ai.freeze .here (ai.co (s:=d) (av:=.sl i.size b 0 len) (by simp [lk]) (.yG i.size b len xs .here ?_) ?_)))
 ·rw [BR hl];exact (Nat.eq_of_beq_eq_true hlen).symm
 ·refine ai.step (yI:=⟨n,(d,.list i.size xs) :: tm,hp⟩) (fun w S a r=>⟨_,S,rfl,r.less ⟨rfl,fun s av h=>?_,List.sublist_cons_self _ _⟩,kP.less (kP.refl w S _) fun _ hm=>hm.sub (List.sublist_cons_self _ _)⟩) (ai.here kk)
  simp only [lk] at h ⊢
  split at h
  ·exact h
  ·exact h
inductive IB (tm:List (Nat×AV)):Option Operand→Option Int→Prop
 | none:IB tm none none
 | some (x:Operand) (k:IntKind) (i:Int) (h:dk tm x=some (.int k i)):IB tm (some x) (some i)
def oq:Option Int→Int
 | none=>0
 | some i=>i
def mW (len:Nat):Option Int→Int
 | none=>len
 | some i=>i
theorem yc {w:World} {S:Nat→Prop} {σ:St} {a:Act} (r:ee w S σ a) {lo hi:Option Operand} {l h:Option Int} (hl:IB σ.tm lo l) (hh:IB σ.tm hi h) (M3:Bool) (len cap:Nat) (h0:0≤oq l) (h1:oq l≤mW len h) (h2:mW len h≤len) (hc:len≤cap) (w':World):
 (Instr.sliceBounds M3 len cap (lo.map a.eval) (hi.map a.eval) none).run P w'=.ok ((oq l).toNat,(mW len h).toNat,cap) w':=by
 cases hl with
 | none=>
   cases hh with
   | none=>simp [Instr.sliceBounds,oq,mW]
   | some x k i hx=>
     simp only [oq,mW] at *
     have:i≤(cap:Int):=by omega
     simp [Instr.sliceBounds,Instr.sliceBound,(aV r hx).fK,asIntOf,h1,this]
 | some x k i hx=>
   cases hh with
   | none=>
     simp only [oq,mW] at *
     simp [Instr.sliceBounds,Instr.sliceBound,(aV r hx).fK,asIntOf,h0,h1]
   | some y k' i' hy=>
     simp only [oq,mW] at *
     have e1:i'≤(cap:Int):=by omega
     have e2:0≤i':=by omega
     have e3:i≤(i'.toNat:Int):=by omega
     simp [Instr.sliceBounds,Instr.sliceBound,(aV r hx).fK,(aV r hy).fK,asIntOf,h0,e1,e2]
     intro pB
     omega
theorem EN (s:List UInt8) (l h:Nat):(⟨s.toArray⟩:ByteArray).extract l h=⟨((s.drop l).take (h - l)).toArray⟩:=by
 have e:=ByteArray.data_extract (a:=(⟨s.toArray⟩:ByteArray)) (b:=l) (e:=h)
 cases hx:(⟨s.toArray⟩:ByteArray).extract l h with
 | mk da=>
   rw [hx] at e
   simp only at e
   rw [e]
   congr 1
   apply Array.ext'
   simp
theorem FW {t:TypeId} {x:Operand} {lo hi:Option Operand} {l h:Option Int} {s:List UInt8} [aA P t .string] (hx:dk tm x=some (.str s)) (hl:IB tm lo l) (hh:IB tm hi h) (h0:0≤oq l) (h1:oq l≤mW s.length h) (h2:mW s.length h≤s.length):
 QV P ⟨some d,.slice t x lo hi none,ty,pos,af,none⟩ ⟨n,tm,hp⟩ (.str ((s.drop (oq l).toNat).take ((mW s.length h).toNat - (oq l).toNat))):=by
 intro w S a r
 refine ⟨.string ((⟨s.toArray⟩:ByteArray).extract (oq l).toNat (mW s.length h).toNat),fun w1 _=>?_,by rw [EN];exact .str _⟩
 have hb:=yc (P:=P) (σ:=⟨n,tm,hp⟩) r hl hh false s.length s.length h0 h1 h2 (Nat.le_refl _) w1
 simp [execOp,Instr.sliceAt,run_underlying (aA.h (P:=P) (t:=t)),Instr.slice,(aV (σ:=⟨n,tm,hp⟩) r hx).eI,EJ,hb]
theorem Ho {t e:TypeId} {i:TypeInfo} {x:Operand} {lo hi:Option Operand} {l h:Option Int} {sz off len:Nat} {b:Bk} [aA P t (.slice e)] [aN P e i] (hx:dk tm x=some (.sl sz b off len)) (kM:Nat.beq i.size sz=true) (hl:IB tm lo l) (hh:IB tm hi h) (h0:0≤oq l) (h1:oq l≤mW len h) (h2:mW len h≤len):
 QV P ⟨some d,.slice t x lo hi none,ty,pos,af,none⟩ ⟨n,tm,hp⟩ (.sl sz b (off+(oq l).toNat) ((mW len h).toNat - (oq l).toNat)):=by
 intro w S a r
 obtain rfl:i.size=sz:=Nat.eq_of_beq_eq_true kM
 obtain ⟨oa,cap,e1,e2⟩:=(aV (σ:=⟨n,tm,hp⟩) r hx).wx
 have VI:len≤cap:=by rcases e2 with ⟨_,_,hl,_,_⟩ | ⟨m,hb,_,g1,g2⟩ | ⟨m,ad,hb,_,hl,_⟩<;>omega
 refine ⟨.slice (if cap=(oq l).toNat then oa else oa.map (·.add ((oq l).toNat * i.size))) ((mW len h).toNat - (oq l).toNat) (cap - (oq l).toNat),fun w1 _=>?_,?_⟩
 ·have hb:=yc (P:=P) (σ:=⟨n,tm,hp⟩) r hl hh true len cap h0 h1 h2 VI w1
  simp [execOp,Instr.sliceAt,run_underlying (aA.h (P:=P) (t:=t)),Instr.slice,e1,hb,sizeOf,typeInfo,aN.h (P:=P) (t:=e)]
 ·rcases e2 with ⟨hb,ho,hln,rfl,VJ⟩ | ⟨m,hb,rfl,g1,g2⟩ | ⟨m,ad,hb,rfl,hln,VJ⟩
  ·have SF:(oq l).toNat=0:=by omega
   have Pd:(mW len h).toNat=0:=by omega
   rw [SF,Pd,ho,VJ]
   exact .zw i.size b hb
  ·by_cases Iw:cap=(oq l).toNat
   ·rw [if_pos Iw]
    have hz:(mW len h).toNat - (oq l).toNat=0:=by omega
    rw [hz,show cap - (oq l).toNat=0 from by omega]
    exact .Nj i.size b _ m _ hb
   ·rw [if_neg Iw]
    have:=At.sl (w:=w) (S:=S) i.size b (off+(oq l).toNat) ((mW len h).toNat - (oq l).toNat) m (cap - (oq l).toNat) hb (by omega) (by omega)
    rw [Nat.add_mul] at this
    simpa [nZ] using this
  ·have SF:(oq l).toNat=0:=by omega
   have Pd:(mW len h).toNat=0:=by omega
   rw [SF,Pd,VJ,if_pos rfl]
   exact .Nj i.size b _ m ad hb
end rules
section
variable {P:Program} {all:Array Oper} {rest:List Oper} {σ:St} {Q:St→Prop} {dd:Option Nat} {ty:TypeId} {pos:String} {af:Array Edge}
end
theorem FX {sz:Nat} {x y:AV}:∀ {xs:List AV} {q:Nat},(∀ x∈xs,El sz x)→El sz y→xs[q]? =some x→flat (xs.set q y)=(flat xs).take (q * sz)++y.cells++(flat xs).drop (q * sz+sz)
 | [],q,_,_,h=>by simp at h
 | z :: xs,0,hs,hy,h=>by
   have hz:=(hs z (by simp)).1
   rw [List.set_cons_zero,jg,jg]
   simp only [Nat.zero_mul,List.take_zero,List.nil_append,Nat.zero_add]
   rw [List.drop_left' hz]
 | z :: xs,q+1,hs,hy,h=>by
   have hz:=(hs z (by simp)).1
   simp only [List.getElem?_cons_succ] at h
   rw [List.set_cons_succ,jg,jg,FX (fun a ha=>hs a (by simp [ha])) hy h]
   have e1:(q+1) * sz=sz+q * sz:=by rw [Nat.add_mul,Nat.one_mul];omega
   rw [e1,List.take_append,List.take_of_length_le (l:=z.cells) (by omega),hz,Nat.add_sub_cancel_left,List.drop_append,List.drop_of_length_le (l:=z.cells) (by omega),hz]
   rw [show sz+q * sz+sz - sz=q * sz+sz from by omega]
   simp [List.append_assoc]
theorem IC {w:World} {S:Nat→Prop} {cs new:List AV} {vs sJ:Array Value} (o:Nat) (hl:cs.length≤vs.size) (h:kB w S cs vs) (uZ:new.length=sJ.size) (h':kB w S new sJ) (ho:o+new.length≤cs.length):
 kB w S (cs.take o++new++cs.drop (o+new.length)) (vs.toList.take o++sJ.toList++vs.toList.drop (o+sJ.toList.length)).toArray:=by
 intro i c v hc hv
 simp only [List.getElem?_toArray] at hc hv
 have l1:(cs.take o).length=o:=by simp;omega
 have l2:(vs.toList.take o).length=o:=by simp;omega
 have l3:sJ.toList.length=new.length:=by simp [uZ]
 rw [List.append_assoc] at hc hv
 by_cases h1:i < o
 ·rw [List.getElem?_append_left (by omega)] at hc hv
  rw [List.getElem?_take,if_pos h1] at hc hv
  exact h i c v hc (by simpa using hv)
 ·rw [List.getElem?_append_right (by omega)] at hc hv
  rw [l1] at hc
  rw [l2] at hv
  by_cases h2:i - o < new.length
  ·rw [List.getElem?_append_left (by omega)] at hc hv
   exact h' (i - o) c v hc (by simpa using hv)
  ·rw [List.getElem?_append_right (by omega)] at hc hv
   rw [l3] at hv
   rw [List.getElem?_drop] at hc hv
   rw [show o+new.length+(i - o - new.length)=i from by omega] at hc hv
   exact h i c v hc (by simpa using hv)
section rules
variable {P:Program} {all:Array Oper} {rest:List Oper} {n:Nat} {tm:List (Nat×AV)} {hp:Heap} {Q:St→Prop} {d:Nat} {ty:TypeId} {pos:String} {af:Array Edge}
theorem yP.refl (l:List AV):yP hp l l:=by
 induction l with
 | nil=>exact .nil
 | cons a l ih=>exact .cons (.refl a) ih
def Pu (P:Program) (f:FuncId) (args:List AV) (R:AV):Prop:=aB P f args [] (fun r _=>r=R)
theorem aG {f:FuncId} {args:List Operand} {ts:Array TypeId} {l l':List AV} {R:AV} [bb P f] (hl:Au tm args=some l) (c:Pu P f l' R) (co:yP hp l l') (hn:Nat.blt d n=true)
 (kk:ae P all rest ⟨n,(d,R) :: tm,hp⟩ Q):ae P all (⟨some d,.call {callee:=.value (.func f),args:=args.toArray,argTypes:=ts},ty,pos,af,none⟩ :: rest) ⟨n,tm,hp⟩ Q:=by
 refine Nu hl c co hn (fun r h' hr=>?_)
 subst hr
 exact ae.weaken (aE:=⟨n,(d,r) :: tm,hp⟩) ⟨rfl,fun _ _ h=>h,List.sublist_append_right _ _⟩ kk
theorem cO {f:FuncId} {args:List Operand} {ts:Array TypeId} {l l':List AV} {R:AV} [bb P f] (hl:Au tm args=some l) (c:Pu P f l' R) (co:u4 hp l l') (hn:Nat.blt d n=true) (hR:R.SE=true)
 (kk:ae P all rest ⟨n,(d,R) :: tm,hp⟩ Q):ae P all (⟨some d,.call {callee:=.value (.func f),args:=args.toArray,argTypes:=ts},ty,pos,af,none⟩ :: rest) ⟨n,tm,hp⟩ Q:=
 Ny hl c co hn (fun r h' hr=>by subst hr;exact ⟨hR,kk⟩)
theorem pJ {f:FuncId} {x:Operand} {args:List Operand} {ts:Array TypeId} {vw l l':List AV} {R:AV} [bb P f] (hx:dk tm x=some (.func (.func f) vw)) (hl:Au tm args=some l) (c:Pu P f l' R) (co:yP hp (l++vw) l') (hn:Nat.blt d n=true)
 (kk:ae P all rest ⟨n,(d,R) :: tm,hp⟩ Q):ae P all (⟨some d,.call {callee:=.value x,args:=args.toArray,argTypes:=ts},ty,pos,af,none⟩ :: rest) ⟨n,tm,hp⟩ Q:=by
 refine IA hx hl c co (List.Perm.refl _) hn (fun r h' hr=>?_)
 subst hr
 exact ae.weaken (aE:=⟨n,(d,r) :: tm,hp⟩) ⟨rfl,fun _ _ h=>h,List.sublist_append_right _ _⟩ kk
end rules
inductive RV (P:Program) (σ:St):ResultVar→AV→Prop
 | tmp (t:Nat) (av:AV) (h:lk σ.tm t=some av):RV P σ (.tmp t) av
 | all (p ty:Nat) (b:Bk) (cs:List AV) (D:TypeDesc) (i:TypeInfo) (h:lk σ.tm p=some (.ptr b 0)) (f:mf σ.hp b (.cells cs)) (hu:P.underlying ty=some D) (hi:P.info? ty=some i) (hD:TypeDesc.lv D=true) (hs:Nat.beq cs.length i.size=true):RV P σ (.cell p ty) (.agg cs)
 | one (p ty:Nat) (b:Bk) (cs:List AV) (av:AV) (D:TypeDesc) (h:lk σ.tm p=some (.ptr b 0)) (f:mf σ.hp b (.cells cs)) (hu:P.underlying ty=some D) (hD:TypeDesc.lv D=false) (hs:cs[0]? =some av):RV P σ (.cell p ty) av
def BS (tmps:Array Value):ResultVar→Sem Value
 | .tmp t=>pure (tmps.getD t undef)
 | .cell a t=>do loadVar t (← asAddr (tmps.getD a undef))
theorem RV.run {P:Program} {σ:St} {rv:ResultVar} {av:AV} (h:RV P σ rv av) {w:World} {S:Nat→Prop} {a:Act} (r:ee w S σ a):∃ v,(BS a.tmps rv).run P w=.ok v w∧At w S av v:=by
 cases h with
 | tmp t av h=>
   obtain ⟨v,h1,h2⟩:=r.tm t _ h
   exact ⟨v,by simp [BS,h1],h2⟩
 | all p ty b cs D i h f hu hi hD hs=>
   obtain ⟨v,h1,h2⟩:=r.tm p _ h
   obtain ⟨m,e1,rfl⟩:=h2.pF
   obtain ⟨_,m',vs,E,g1,g2,g3,g4⟩:=tb r.hp f
   obtain rfl:m'=m:=by rw [g1] at e1;exact Option.some.inj e1
   have hlen:vs.toList.length=i.size:=by simp [g3];exact Nat.eq_of_beq_eq_true hs
   refine ⟨.agg vs,?_,.agg cs vs g3.symm g4⟩
   have:=lI (P:=P) hu hD hi (w:=w) (ad:=⟨m',0,none⟩) (vs:=vs.toList) hlen (fun j v hv=>by rw [nZ,nJ g2];simpa using hv)
   simp [BS,h1,asAddr,this]
 | one p ty b cs av D h f hu hD hs=>
   obtain ⟨v,h1,h2⟩:=r.tm p _ h
   obtain ⟨m,e1,rfl⟩:=h2.pF
   obtain ⟨_,m',vs,E,g1,g2,g3,g4⟩:=tb r.hp f
   obtain rfl:m'=m:=by rw [g1] at e1;exact Option.some.inj e1
   have pB:0 < vs.size:=by rw [g3];exact (List.getElem?_eq_some_iff.1 hs).1
   have hv:vs[0]? =some vs[0]:=by simp [pB]
   refine ⟨vs[0],?_,g4 0 av _ hs hv⟩
   have:=oZ (P:=P) hu hD (w:=w) (ad:=⟨m',0,none⟩) (v:=vs[0]) (by rw [nJ g2,hv])
   simp [BS,h1,asAddr,this]
inductive Rs (P:Program) (σ:St):List ResultVar→List AV→Prop
 | nil:Rs P σ [] []
 | cons {v:ResultVar} {l:List ResultVar} {a:AV} {as:List AV} (h:RV P σ v a) (k:Rs P σ l as):Rs P σ (v :: l) (a :: as)
def Aw:List AV→AV
 | [a]=>a
 | as=>.om as
theorem Rs.run {P:Program} {σ:St} {w:World} {S:Nat→Prop} {a:Act} (r:ee w S σ a):∀ {l:List ResultVar} {as:List AV},Rs P σ l as→∃ vs,(l.mapM (BS a.tmps)).run P w=.ok vs w∧as.length=vs.length∧∀ (i:Nat) c v,as[i]? =some c→vs[i]? =some v→At w S c v
 | [],_,.nil=>⟨[],by simp,rfl,fun i c v hc=>by simp at hc⟩
 | x :: l,_,.cons (a:=av) (as:=as) h k=>by
   obtain ⟨v,h1,h2⟩:=h.run r
   obtain ⟨vs,g1,g2,g3⟩:=Rs.run r k
   refine ⟨v :: vs,by simp [h1,g1],by simp [g2],fun i c u hc hu=>?_⟩
   match i with
   | 0=>simp at hc hu;subst hc;subst hu;exact h2
   | i+1=>exact g3 i c u (by simpa using hc) (by simpa using hu)
theorem FY {P:Program} {fn:Func} {l:List ResultVar} {σ:St} {as:List AV} (hf:fn.results=l.toArray) (h:Rs P σ l as) {w:World} {S:Nat→Prop} {a:Act} (r:ee w S σ a):∃ v,(results fn a.tmps).run P w=.ok v w∧At w S (Aw as) v:=by
 obtain ⟨vs,g1,g2,g3⟩:=h.run r
 have hm:results fn a.tmps=(do let vs ← Functor.map List.toArray (l.mapM (BS a.tmps));pure (if h:vs.size=1 then vs[0] else .tuple vs)):=by
  have VK:(fun (x:ResultVar)=>(match x with | .tmp t=>pure (a.tmps.getD t undef) | .cell p t=>do loadVar t (← asAddr (a.tmps.getD p undef)):Sem Value))=BS a.tmps:=by
   funext x
   cases x<;>rfl
  unfold results
  rw [hf,List.mapM_toArray]
  rw [← VK]
  rfl
 refine ⟨if h:vs.toArray.size=1 then vs.toArray[0] else .tuple vs.toArray,?_,?_⟩
 ·rw [hm,Sem.run_bind,Sem.run_map,g1]
  rfl
 ·clear h hm g1
  match as,vs,g2,g3 with
  | [],[],_,_=>simp [Aw];exact .om [] _ rfl (fun i c v hc=>by simp at hc)
  | [x],[v],_,g3=>simp [Aw];exact g3 0 x v rfl rfl
  | x :: y :: as,v :: u :: vs,hl,g3=>simp [Aw];exact .om _ _ (by simpa using hl) (fun i c v hc hv=>g3 i c v hc (by simpa using hv))
theorem aB.SG {P:Program} {f:FuncId} {fn:Func} {c:Code} {args:List AV} {h:Heap} {Q:AV→Heap→Prop} {n:Nat} {l:List ResultVar} (hf:P.funcs[f]? =some fn) (hb:fn.body=some c) (hn:fn.ntmps=n) (PW:fn.results=l.toArray)
 (hle:Nat.ble args.length n=true) (kk:ab P (fun σ=>ai σ (fun aE=>∃ as,Rs P aE l as∧Q (Aw as) aE.hp)) [.code c] ⟨n,Nl args 0,h⟩):aB P f args h Q:=by
 intro w S vs hr hl ha
 refine calls_of_wp hf hb ?_
 have r0:ee w S ⟨n,Nl args 0,h⟩ {tmps:=vs++Array.replicate (fn.ntmps - vs.size) undef,defers:=[]}:=by
  have:=Nat.le_of_ble_eq_true hle
  refine ⟨by simp [hn];omega,rfl,fun s av hs=>?_,hr⟩
  obtain ⟨_,h2⟩:=KR args 0 s av hs
  simp only [Nat.sub_zero] at h2
  have pB:s < args.length:=(List.getElem?_eq_some_iff.1 h2).1
  have SH:s < vs.size:=by omega
  refine ⟨vs[s],by simp [Array.getElem?_append,SH],ha s av _ h2 (by simp [SH])⟩
 refine wp_mono (kk w S _ r0) ?_
 rintro e a' w' ⟨aE,S',h1,h2,h3⟩
 have fin:ai aE (fun EO=>∃ as,Rs P EO l as∧Q (Aw as) EO.hp)→a'.defers=[]∧∃ v,(results fn a'.tmps).run P w'=.ok v w'∧∃ v' r h' S',(Ending.returned v:Ending)=.returned v'∧Q r h'∧At w' S' r v'∧dv w' S' h'∧kP w S h w' S' h':=by
  intro hi
  obtain ⟨FL,S2,⟨as,hrs,hq⟩,g2,g3⟩:=hi w' S' a' h2
  obtain ⟨v,Uf,Ui⟩:=FY PW hrs g2
  exact ⟨g2.defers,v,Uf,v,Aw as,FL.hp,S2,rfl,hq,Ui,g2.hp,h3.trans g3⟩
 cases e with
 | normal=>exact fin h1
 | ret=>exact fin h1
 | exit id=>exact h1.elim
 | goto l=>exact h1.elim
 | panic c=>exact h1.elim
 | outgrown=>exact h1.elim
inductive HS:Heap→Heap→Prop
 | nil {h:Heap}:HS h []
 | cons {h h1 t:Heap} {b:Bk} {o:Ob} (u:xK h b o h1) (k:HS h1 t):HS h ((b,o) :: t)
theorem HS.perm {h t:Heap} (s:HS h t):∃ r,h.Perm (t++r):=by
 induction s with
 | nil=>exact ⟨_,List.Perm.refl _⟩
 | cons u k ih=>
   obtain ⟨r,hr⟩:=ih
   exact ⟨r,u.perm.trans (List.Perm.cons _ hr)⟩
theorem ai.SI {n:Nat} {tm qP:List (Nat×AV)} {hp dR:Heap} {T:St→Prop} (h:DX tm qP) (hs:HS hp dR) (k:ai ⟨n,qP,dR⟩ T):ai ⟨n,tm,hp⟩ T:=by
 obtain ⟨r,hr⟩:=hs.perm
 refine ai.step (yI:=⟨n,qP,dR⟩) (fun w S a rel=>⟨_,S,rfl,⟨rel.size,rel.defers,fun s av hh=>rel.tm s av (h.lk s av hh),(rel.hp.perm hr).sub (List.sublist_append_left _ _)⟩,kP.less (kP.refl w S hp) fun m hm=>?_⟩) k
 obtain ⟨e,he,hb⟩:=hm
 exact ⟨e,hr.mem_iff.2 (List.mem_append_left _ he),hb⟩
abbrev I (n:Int):AV:=.int .i64 n
section rules
variable {P:Program} {all:Array Oper} {rest:List Oper} {n:Nat} {tm:List (Nat×AV)} {hp:Heap} {Q:St→Prop} {d:Nat} {ty:TypeId} {pos:String} {af:Array Edge}
end rules
section rules
variable {P:Program} {all:Array Oper} {rest:List Oper} {n:Nat} {tm:List (Nat×AV)} {hp:Heap} {Q:St→Prop} {d:Nat} {ty:TypeId} {pos:String} {af:Array Edge}
theorem Jo {t e:TypeId} {i:TypeInfo} {z:Value} {x y:Operand} {src:AV} {b:Bk} {len sz:Nat} {xs ys:List AV} {dR:Bk→Heap} [aA P t (.slice e)] [aN P e i] (hx:dk tm x=some (.sl sz b 0 len)) (hy:dk tm y=some src) (hz:i.zero=some z)
 (DW:Nat.beq z.cells.size i.size=true) (kM:Nat.beq i.size sz=true) (h0:Nat.blt 0 sz=true) (hn:Nat.blt d n=true) (Nz:Nat.ble i.bytes 65536=true) (hs:Src hp sz src ys) (u:∀ b',oW hp b (.arr sz xs) b' (.arr sz (xs++ys)) (dR b')) (hlen:len=xs.length)
 (hb:xs.length+ys.length≤1000000000)
 (kk:∀ b':Bk,ae P all rest ⟨n,(d,.sl sz b' 0 (len+ys.length)) :: tm,dR b'⟩ Q):ae P all (⟨some d,.call {callee:=.builtin .append,args:=#[x,y],argTypes:=#[t,t]},ty,pos,af,none⟩ :: rest) ⟨n,tm,hp⟩ Q:=by
 refine KZ hx hy hz DW kM h0 hn hs u hlen ?_ (by omega) kk
 have h1:=Nat.le_of_ble_eq_true Nz
 have:=Nat.mul_le_mul hb h1
 omega
end rules
def sa:List AV→Option (List AV)
 | []=>some []
 | x :: r=>match sa r with
   | some l=>some (x :: l)
   | none=>none
theorem lJ:∀ {l l':List AV},sa l=some l'→l=l'
 | [],l',h=>by simp [sa] at h;exact h.symm
 | x :: r,l',h=>by
   simp only [sa] at h
   split at h
   ·rename_i l hl
    obtain rfl:=Option.some.inj h
    rw [lJ hl]
   ·cases h
def K5:List AV→Nat→Option (List (Nat×AV))
 | [],_=>some []
 | x :: r,i=>match K5 r (i+1) with
   | some l=>some ((i,x) :: l)
   | none=>none
theorem ID:∀ {l:List AV} {i:Nat} {l':List (Nat×AV)},K5 l i=some l'→Nl l i=l'
 | [],i,l',h=>by simp [K5] at h;simpa [Nl] using h
 | x :: r,i,l',h=>by
   simp only [K5] at h
   split at h
   ·rename_i l hl
    obtain rfl:=Option.some.inj h
    rw [Nl,ID hl]
   ·cases h
class lH (P:Program) (t:TypeId) (sz:outParam Nat):Prop where
 h:∃ i,P.info? t=some i∧i.size=sz
theorem aB.aS {P:Program} {f:FuncId} {fn:Func} {c:Code} {args:List AV} {h:Heap} {Q:AV→Heap→Prop} {n:Nat} {l:List ResultVar} {tm:List (Nat×AV)} (hf:P.funcs[f]? =some fn) (hb:fn.body=some c) (hn:fn.ntmps=n) (PW:fn.results=l.toArray)
 (PX:K5 args 0=some tm) (hle:Nat.ble args.length n=true) (kk:ab P (fun σ=>ai σ (fun aE=>∃ rs,Rs P aE l rs∧Q (Aw rs) aE.hp)) [.code c] ⟨n,tm,h⟩):aB P f args h Q:=
 aB.SG hf hb hn PW hle (by rw [ID PX];exact kk)
section rules
variable {P:Program} {all:Array Oper} {rest:List Oper} {n:Nat} {tm:List (Nat×AV)} {hp:Heap} {Q:St→Prop} {d:Nat} {ty:TypeId} {pos:String} {af:Array Edge}
theorem cm {x:Operand} {E:TypeId} {av:AV} {cs:List AV} (hx:dk tm x=some av) (hc:sa av.cells=some cs) (h1:jl cs=true) (hn:Nat.blt d n=true)
 (kk:∀ b:Bk,ae P all rest ⟨n,(d,.ptr b 0) :: tm,(b,.cells cs) :: hp⟩ Q):ae P all (⟨some d,.box E x,ty,pos,af,none⟩ :: rest) ⟨n,tm,hp⟩ Q:=by
 obtain rfl:=lJ hc
 exact Sz hx h1 hn kk
theorem bf {E:TypeId} {i:TypeInfo} {z:Value} {cs:List AV} [aN P E i] (hz:i.zero=some z) (hc:sa (zE z).cells=some cs) (h1:jl cs=true) (hn:Nat.blt d n=true)
 (kk:∀ b:Bk,ae P all rest ⟨n,(d,.ptr b 0) :: tm,(b,.cells cs) :: hp⟩ Q):ae P all (⟨some d,.alloc E,ty,pos,af,none⟩ :: rest) ⟨n,tm,hp⟩ Q:=by
 obtain rfl:=lJ hc
 exact Np hz h1 hn kk
theorem az {x:Operand} {s:TypeId} {j off:Nat} {b:Bk} {o o':Nat} [oY P s j off] (hx:dk tm x=some (.ptr b o)) (ho:o+off=o'):QV P ⟨some d,.fieldAddr s x j,ty,pos,af,none⟩ ⟨n,tm,hp⟩ (.ptr b o'):=by
 subst ho
 exact FO hx
theorem cU {x:Operand} {s:TypeId} {j off:Nat} {cs ly:List AV} [oY P s j off] (hx:dk tm x=some (.mu cs)) (hc:sa (cs.drop off)=some ly):QV P ⟨some d,.fieldAddr s x j,ty,pos,af,none⟩ ⟨n,tm,hp⟩ (.mu ly):=by
 obtain rfl:=lJ hc
 exact EL hx
theorem bg {t:TypeId} {D:TypeDesc} {i:TypeInfo} {x:Operand} {b:Bk} {o:Nat} {cs ly:List AV} [aA P t D] [aN P t i] (hD:TypeDesc.lv D=true) (hx:dk tm x=some (.ptr b o)) (f:mf hp b (.cells cs)) (ho:Nat.ble (o+i.size) cs.length=true) (hc:sa ((cs.drop o).take i.size)=some ly):
 QV P ⟨some d,.load t x,ty,pos,af,none⟩ ⟨n,tm,hp⟩ (.agg ly):=by
 obtain rfl:=lJ hc
 exact A4 hD hx f ho
theorem bn {t:TypeId} {i:TypeInfo} {z:Value} {parts:List (Nat×Operand)} {l:List (Nat×AV)} {cs ly:List AV} {pl:List (Nat×Nat)} [aN P t i] [lx P t pl] (hz:i.zero=some z) (hl:Rk tm parts=some l) (h1:jl (zE z).cells=true)
 (hc:DT pl (zE z).cells l=some cs) (KC:sa cs=some ly):QV P ⟨some d,.build t parts.toArray,ty,pos,af,none⟩ ⟨n,tm,hp⟩ (.agg ly):=by
 obtain rfl:=lJ KC
 exact Nr hz hl h1 hc
theorem aq {t:TypeId} {i:TypeInfo} {x y:Operand} {b:Bk} {o:Nat} {cs ly:List AV} {av:AV} {dR:Heap} [aN P t i] (hx:dk tm x=some (.ptr b o)) (hy:dk tm y=some av) (h1:jl av.cells=true) (kM:Nat.beq av.cells.length i.size=true)
 (u:oW hp b (.cells cs) b (.cells ly) dR) (hc:sa (oc cs o av.cells)=some ly) (ho:Nat.ble (o+av.cells.length) cs.length=true) (kk:ae P all rest ⟨n,tm,dR⟩ Q):ae P all (⟨none,.store t x y,ty,pos,af,none⟩ :: rest) ⟨n,tm,hp⟩ Q:=by
 obtain rfl:=lJ hc
 exact FP hx hy h1 kM u ho kk
theorem aD {t e:TypeId} {i:TypeInfo} {z:Value} {len sz:Nat} {parts:List (Nat×Operand)} {xs:List AV} [aA P t (.slice e)] [aN P e i] [lH P e sz] (hz:i.zero=some z) (hl:Ix tm parts 0=some xs) (hlen:Nat.beq parts.length len=true) (wA:wB i.size xs=true)
 (Ha:Nat.ble (len * i.size) 16777216=true) (hn:Nat.blt d n=true) (kk:ae P all rest ⟨n,(d,.list sz xs) :: tm,hp⟩ Q):ae P all (⟨some d,.buildSlice t len parts.toArray,ty,pos,af,none⟩ :: rest) ⟨n,tm,hp⟩ Q:=by
 obtain ⟨i',h1,h2⟩:=lH.h (P:=P) (t:=e)
 obtain rfl:i'=i:=by rw [aN.h (P:=P) (t:=e)] at h1;exact (Option.some.inj h1).symm
 subst h2
 exact Da hz hl hlen wA Ha hn kk
theorem jK {t e:TypeId} {i:TypeInfo} {z:Value} {len sz:Nat} {parts:List (Nat×Operand)} {xs:List AV} [aA P t (.slice e)] [aN P e i] [lH P e sz] (hz:i.zero=some z) (hl:Ix tm parts 0=some xs) (hlen:Nat.beq parts.length len=true) (wA:wB i.size xs=true)
 (Ha:Nat.ble (len * i.size) 16777216=true) (hn:Nat.blt d n=true) (kk:∀ b:Bk,ae P all rest ⟨n,(d,.sl sz b 0 len) :: tm,(b,.arr sz xs) :: hp⟩ Q):ae P all (⟨some d,.buildSlice t len parts.toArray,ty,pos,af,none⟩ :: rest) ⟨n,tm,hp⟩ Q:=by
 obtain ⟨i',h1,h2⟩:=lH.h (P:=P) (t:=e)
 obtain rfl:i'=i:=by rw [aN.h (P:=P) (t:=e)] at h1;exact (Option.some.inj h1).symm
 subst h2
 exact yO hz hl hlen wA Ha hn kk
end rules
structure Grow (w:World) (S:Nat→Prop) (w':World) (S':Nat→Prop):Prop where
 ext:Ext w w'
 up:∀ n,S n→S' n
 down:∀ n,n < w.heap.size→S' n→S n
 slt:∀ n,S' n→n < w'.heap.size
theorem Grow.refl {w:World} {S:Nat→Prop} (h:∀ n,S n→n < w.heap.size):Grow w S w S:=⟨Ext.refl w,fun _ h=>h,fun _ _ h=>h,h⟩
theorem Grow.trans {a b c:World} {S T U:Nat→Prop} (h:Grow a S b T) (k:Grow b T c U):Grow a S c U:=
 ⟨h.ext.trans k.ext,fun n hn=>k.up n (h.up n hn),fun n hn hs=>h.down n hn (k.down n (Nat.lt_of_lt_of_le hn h.ext.size) hs),k.slt⟩
theorem Grow.mO {w w':World} {S S':Nat→Prop} (g:Grow w S w' S') (h:∀ n,S n→n < w.heap.size):∀ n,S n→S' n∧w'.heap[n]? =w.heap[n]?:=fun n hn=>⟨g.up n hn,g.ext.same n (h n hn)⟩
theorem dv.grow {w w':World} {S S':Nat→Prop} {h:Heap} (r:dv w S h) (g:Grow w S w' S'):dv w' S' h where
 nodup:=r.nodup
 holds e he:=(r.holds e he).mono (g.mO r.slt) (fun n hn=>g.ext.same n (r.lt ⟨e,he,hn⟩))
 sep e he n hn:=by
  rw [← r.sep e he n hn]
  exact ⟨g.down n (r.lt ⟨e,he,hn⟩),g.up n⟩
 slt:=g.slt
 kN t o ho:=⟨(g.mO r.slt t (r.kN t o ho).1).1,KP (g.mO r.slt t (r.kN t o ho).1).2 (r.kN t o ho).2⟩
theorem Grow.XD {w w':World} {S S':Nat→Prop} (g:Grow w S w' S') (h:∀ n,S n→n < w.heap.size) (hp:Heap):kP w S hp w' S' hp:=
 ⟨g.ext.os,g.ext.tape,g.ext.output,g.ext.size,g.mO h,fun n hn _=>⟨g.ext.same n hn,g.down n hn⟩,fun _ hn=>.inl hn,g.ext.drawn⟩
def looks (all:Array Oper) (o:Oper):List Nat:=
 (o.op.operands.toList.filterMap fun | .tmp t=>some t | _=>none)++(match o.guard with | some (g,_)=>((all[g]?).bind (·.dst)).toList | none=>[])
abbrev Env:=Nat→Option AV
def EP (w:World) (S:Nat→Prop) (ls:List Nat) (e:Env) (a:Act):Prop:=∀ s∈ls,∀ av,e s=some av→∃ v,a.tmps[s]? =some v∧At w S av v
def MV (P:Program) (all:Array Oper) (n:Nat) (o:Oper) (e:Env) (hp:Heap) (av:AV):Prop:=
 ∀ w S a,a.tmps.size=n→a.defers=[]→dv w S hp→EP w S (looks all o) e a→∀ (K:Act→World→Prop) (Q:Exit→Act→World→Prop),
   (∀ v w' S',Grow w S w' S'→At w' S' av v→K (a.put o.dst v) w')→o.wp P a w K Q
def xL (e:Env) (d:Option Nat) (av:AV):Env:=match d with
 | some d=>fun s=>if d=s then some av else e s
 | none=>e
def pc (all:Array Oper) (o:Oper) (e:Env) (b:Bool):Prop:=
 match o.guard with
 | none=>b=true
 | some (j,want)=>∃ s,(all[j]?).bind (·.dst)=some s∧((∃ c,e s=some (.bool c)∧b=(c==want))∨(e s=some (.raw undef)∧b=false))
inductive NA (P:Program) (all:Array Oper) (n:Nat) (hp:Heap):List Oper→Env→Env→Prop
 | nil (e:Env):NA P all n hp [] e e
 | run {o:Oper} {l:List Oper} {e e':Env} {av:AV} (hg:pc all o e true) (h:MV P all n o e hp av) (hd:∀ d,o.dst=some d→d < n) (k:NA P all n hp l (xL e o.dst av) e'):NA P all n hp (o :: l) e e'
 | pass {o:Oper} {l:List Oper} {e e':Env} (hg:pc all o e false) (hd:∀ d,o.dst=some d→d < n) (k:NA P all n hp l (xL e o.dst (.raw undef)) e'):NA P all n hp (o :: l) e e'
def Pe (P:Program) (all:Array Oper) (n:Nat) (hp:Heap) (o:Oper) (e:Env) (av:AV):Prop:=
 (∀ d,o.dst=some d→d < n)∧((pc all o e true∧MV P all n o e hp av)∨(pc all o e false∧av=.raw undef))
theorem NA.Hp {P:Program} {all:Array Oper} {n:Nat} {hp:Heap} {l:List Oper} {e e':Env} (h:NA P all n hp l e e'):
 ∃ (lK:Nat→AV) (en:Nat→Env),en 0=e∧en l.length=e'∧∀ i o,l[i]? =some o→Pe P all n hp o (en i) (lK i)∧en (i+1)=xL (en i) o.dst (lK i):=by
 induction h with
 | nil e=>exact ⟨fun _=>.nil,fun _=>e,rfl,rfl,fun i o h=>by simp at h⟩
 | @run o l e e' av hg hm hd k ih=>
   obtain ⟨lK,en,h0,h1,h2⟩:=ih
   refine ⟨fun i=>match i with | 0=>av | i+1=>lK i,fun i=>match i with | 0=>e | i+1=>en i,rfl,h1,fun i o' ho=>?_⟩
   match i with
   | 0=>simp at ho;subst ho;exact ⟨⟨hd,.inl ⟨hg,hm⟩⟩,h0⟩
   | i+1=>exact h2 i o' (by simpa using ho)
 | @pass o l e e' hg hd k ih=>
   obtain ⟨lK,en,h0,h1,h2⟩:=ih
   refine ⟨fun i=>match i with | 0=>.raw undef | i+1=>lK i,fun i=>match i with | 0=>e | i+1=>en i,rfl,h1,fun i o' ho=>?_⟩
   match i with
   | 0=>simp at ho;subst ho;exact ⟨⟨hd,.inr ⟨hg,rfl⟩⟩,h0⟩
   | i+1=>exact h2 i o' (by simpa using ho)
def waits (o:Oper) (i:Nat):Bool:=o.after.toList.any fun e=>Region.binds .any e&&Nat.beq e.on i
def Ax (all:Array Oper) (oi oj:Oper):Bool:=
 match oi.dst,oj.dst with
 | some d,some d'=>(looks all oj).contains d||(looks all oi).contains d'||Nat.beq d d'
 | some d,none=>(looks all oj).contains d
 | none,some d'=>(looks all oi).contains d'
 | none,none=>false
inductive Ay (all:Array Oper):Nat→Nat→Prop
 | one {j i:Nat} {oj:Oper} (hj:all[j]? =some oj) (hw:waits oj i=true):Ay all j i
 | step {j k i:Nat} {oj:Oper} (hj:all[j]? =some oj) (hw:waits oj k=true) (h:Ay all k i):Ay all j i
def ER (acc:List Nat):List Edge→Nat→Nat
 | [],m=>m
 | e :: r,m=>ER acc r (match Region.binds .any e with
   | true=>m||| (1 <<< e.on)||| acc.getD e.on 0
   | false=>m)
def K6:List Oper→List Nat→List Nat
 | [],acc=>acc
 | o :: r,acc=>K6 r (acc++[ER acc o.after.toList 0])
def Jp (all:Array Oper):List Nat:=K6 all.toList []
theorem Az {acc:List Nat} {i:Nat}:∀ (es:List Edge) (m:Nat),(ER acc es m).testBit i=true→m.testBit i=true∨∃ e∈es,Region.binds .any e=true∧(e.on=i∨(acc.getD e.on 0).testBit i=true)
 | [],m,h=>.inl h
 | e :: r,m,h=>by
   simp only [ER] at h
   rcases Az r _ h with h | ⟨e',he,hb,hh⟩
   ·split at h
    ·rename_i hb
     rw [Nat.testBit_or,Nat.testBit_or,Bool.or_eq_true,Bool.or_eq_true] at h
     rcases h with (h | h) | h
     ·exact .inl h
     ·refine .inr ⟨e,by simp,hb,.inl ?_⟩
      rw [Nat.one_shiftLeft,Nat.testBit_two_pow] at h
      simpa using h
     ·exact .inr ⟨e,by simp,hb,.inr h⟩
    ·exact .inl h
   ·exact .inr ⟨e',by simp [he],hb,hh⟩
theorem BT {all:Array Oper}:∀ (l:List Oper) (acc:List Nat) (pre:List Oper),all.toList=pre++l→acc.length=pre.length→(∀ j i,(acc.getD j 0).testBit i=true→Ay all j i)→∀ j i,((K6 l acc).getD j 0).testBit i=true→Ay all j i
 | [],acc,pre,_,_,h=>h
 | o :: r,acc,pre,hl,hlen,h=>by
   refine BT r _ (pre++[o]) (by simpa using hl) (by simp [hlen]) (fun j i hb=>?_)
   rcases Nat.lt_or_ge j acc.length with hj | hj
   ·refine h j i ?_
    rw [List.getD_eq_getElem?_getD,List.getElem?_append_left hj] at hb
    rw [List.getD_eq_getElem?_getD]
    exact hb
   ·by_cases XE:j=acc.length
    ·rw [List.getD_eq_getElem?_getD,List.getElem?_append_right hj,XE] at hb
     simp only [Nat.sub_self,List.getElem?_cons_zero,Option.getD_some] at hb
     have M4:all[j]? =some o:=by
      rw [← Array.getElem?_toList,hl,List.getElem?_append_right (by omega),XE,hlen];simp
     rcases Az _ _ hb with hz | ⟨e,he,hbd,hh⟩
     ·simp at hz
     ·have hw:waits o e.on=true:=by
       simp only [waits,List.any_eq_true,Bool.and_eq_true]
       exact ⟨e,he,hbd,by simp⟩
      rcases hh with hh | hh
      ·subst hh;exact .one M4 hw
      ·exact .step M4 hw (h _ _ hh)
    ·rw [List.getD_eq_getElem?_getD,List.getElem?_append_right hj,List.getElem?_eq_none (by simp;omega)] at hb
     simp at hb
theorem pr {all:Array Oper} {j i:Nat} (h:((Jp all).getD j 0).testBit i=true):Ay all j i:=
 BT all.toList [] [] (by simp) rfl (fun j i h=>by simp at h) j i h
def FZ (all:Array Oper) (m:Nat) (A:List Nat):Bool:=
 (List.range all.size).all fun j=>match all[j]? with
  | none=>true
  | some oj=>(oj.after.all fun e=>!Region.binds .any e||Nat.blt e.on j)&&(List.range j).all fun i=>match all[i]? with
    | none=>true
    | some oi=>if Nat.blt j m then !Ax all oi oj||(A.getD j 0).testBit i else (A.getD j 0).testBit i
def vU (all:Array Oper) (m:Nat):Prop:=∃ A,Jp all=A∧FZ all m A=true
theorem kD {all:Array Oper} {m:Nat} (h:vU all m) {i j:Nat} {oi oj:Oper} (hj:all[j]? =some oj) (hi:all[i]? =some oi) (yC:i < j):(j < m→Ax all oi oj=true→Ay all j i)∧(m≤j→Ay all j i):=by
 obtain ⟨A,hA,h⟩:=h
 subst hA
 have A8:j < all.size:=(Array.getElem?_eq_some_iff.1 hj).1
 simp only [FZ,List.all_eq_true,List.mem_range] at h
 have h1:=h j A8
 rw [hj] at h1
 simp only [Bool.and_eq_true,List.all_eq_true,List.mem_range] at h1
 have h2:=h1.2 i yC
 rw [hi] at h2
 simp only at h2
 refine ⟨fun hm hc=>?_,fun hm=>?_⟩
 ·rw [if_pos (by simpa using hm)] at h2
  exact pr (by simpa [hc] using h2)
 ·rw [if_neg (by simp;omega)] at h2
  exact pr h2
theorem yd {all:Array Oper} {m:Nat} (h:vU all m) {j:Nat} {oj:Oper} (hj:all[j]? =some oj) {e:Edge} (he:e∈oj.after) (hb:Region.binds .any e=true):e.on < j:=by
 obtain ⟨A,hA,h⟩:=h
 have A8:j < all.size:=(Array.getElem?_eq_some_iff.1 hj).1
 simp only [FZ,List.all_eq_true,List.mem_range] at h
 have h1:=h j A8
 rw [hj] at h1
 simp only [Bool.and_eq_true,Array.all_eq_true_iff_forall_mem] at h1
 have:=h1.1 e he
 simpa [hb] using this
theorem ug {all:Array Oper} {listed:Array Bool} {i j:Nat} {oj:Oper} (hj:all[j]? =some oj) (hr:j∈Region.ready .any all listed) (hw:waits oj i=true):listed.getD i false=true:=by
 simp only [Region.ready,List.mem_filter,List.mem_range,hj,Option.map_some,Option.getD_some,Bool.and_eq_true,Array.all_eq_true_iff_forall_mem] at hr
 simp only [waits,List.any_eq_true,Bool.and_eq_true] at hw
 obtain ⟨e,he,hb,SJ⟩:=hw
 have:=hr.2.2 e (by simpa using he)
 rw [hb] at this
 obtain rfl:e.on=i:=Nat.eq_of_beq_eq_true SJ
 simpa using this
def lz (all:Array Oper) (listed:Array Bool):Prop:=∀ k i o,listed.getD k false=true→all[k]? =some o→waits o i=true→listed.getD i false=true
theorem lz.NB {all:Array Oper} {listed:Array Bool} (c:lz all listed) {j i:Nat} (h:Ay all j i) (hl:listed.getD j false=true):listed.getD i false=true:=by
 induction h with
 | one hj hw=>exact c _ _ _ hl hj hw
 | step hj hw _ ih=>exact ih (c _ _ _ hl hj hw)
theorem lz.ready {all:Array Oper} {listed:Array Bool} (c:lz all listed) {j i:Nat} (h:Ay all j i) (hr:j∈Region.ready .any all listed):listed.getD i false=true:=by
 cases h with
 | one hj hw=>exact ug hj hr hw
 | step hj hw h=>exact c.NB h (ug hj hr hw)
theorem xo {all:Array Oper} {listed:Array Bool} {j:Nat} (hr:j∈Region.ready .any all listed):j < all.size∧listed.getD j true=false:=by
 simp only [Region.ready,List.mem_filter,List.mem_range,Bool.and_eq_true] at hr
 exact ⟨hr.1,by simpa using hr.2.1⟩
theorem zH {all:Array Oper} {m:Nat} (h:vU all m) {listed:Array Bool} (hl:listed.size=all.size) (hr:Region.ready .any all listed=[]):∀ i,i < all.size→listed.getD i false=true:=by
 intro i
 induction i using Nat.strongRecOn with
 | _ i ih=>
   intro hi
   cases hv:listed.getD i false with
   | true=>rfl
   | false=>
     exfalso
     have:i∈Region.ready .any all listed:=by
      simp only [Region.ready,List.mem_filter,List.mem_range,Bool.and_eq_true]
      have hli:i < listed.size:=by omega
      refine ⟨hi,?_,?_⟩
      ·simp [hli] at hv ⊢;exact hv
      ·have AA:all[i]? =some all[i]:=by simp [hi]
       rw [AA]
       simp only [Option.map_some,Option.getD_some,Array.all_eq_true_iff_forall_mem]
       intro e he
       cases hb:Region.binds .any e with
       | false=>simp
       | true=>
         have pB:=yd h AA he hb
         simp [ih e.on pB (by omega)]
     rw [hr] at this
     simp at this
section order
variable {P:Program} {all:Array Oper} {n m:Nat} {hp:Heap}
def cur (all:Array Oper) (lK:Nat→AV) (e:Env) (listed:Array Bool):Nat→Env
 | 0=>e
 | k+1=>if listed.getD k false then xL (cur all lK e listed k) ((all[k]?).bind (·.dst)) (lK k) else cur all lK e listed k
theorem mA {e:Env} {d:Option Nat} {av:AV} {s:Nat} (h:d≠some s):xL e d av s=e s:=by
 cases d with
 | none=>rfl
 | some d=>simp only [xL];rw [if_neg (fun e=>h (by rw [e]))]
theorem pK {e:Env} {av:AV} {s:Nat}:xL e (some s) av s=some av:=by simp [xL]
theorem ye {oi oj:Oper} {s:Nat} (hd:oi.dst=some s) (hs:s∈looks all oj):Ax all oi oj=true:=by
 unfold Ax
 rw [hd]
 cases hj:oj.dst<;>simp [hs]
theorem AB {oi oj:Oper} {s:Nat} (hd:oj.dst=some s) (hs:s∈looks all oi):Ax all oi oj=true:=by
 unfold Ax
 rw [hd]
 cases hi:oi.dst<;>simp [hs]
theorem DY {oi oj:Oper} {s:Nat} (hi:oi.dst=some s) (hj:oj.dst=some s):Ax all oi oj=true:=by
 unfold Ax
 rw [hi,hj]
 simp
structure M5 (all:Array Oper) (m:Nat) (listed:Array Bool):Prop where
 size:listed.size=all.size
 head:∀ k,listed.getD k false=true→k < m
 closed:∀ k i o,listed.getD k false=true→all[k]? =some o→waits o i=true→listed.getD i false=true
theorem Bz {listed:Array Bool} {i:Nat} (h:listed.getD i true=false):listed.getD i false=false:=by
 by_cases hi:i < listed.size
 ·simp [hi] at h ⊢;exact h
 ·simp [hi]
variable {lK:Nat→AV} {en:Nat→Env} {e:Env}
theorem K7 (hB:vU all m) {listed:Array Bool} (L:M5 all m listed) (h0:en 0=e) (hs:∀ i o,i < m→all[i]? =some o→en (i+1)=xL (en i) o.dst (lK i)) (hm:m≤all.size)
 {i:Nat} {o:Oper} (ho:all[i]? =some o) (FB:i < m) (xM:listed.getD i false=false) (hr:∀ j,Ay all i j→listed.getD j false=true) {s:Nat} (M6:s∈looks all o):∀ k,k≤all.size→cur all lK e listed k s=en (min k i) s:=by
 intro k
 induction k with
 | zero=>intro _;simp [cur,h0]
 | succ k ih=>
   intro hk
   have wg:=ih (by omega)
   have vu:all[k]? =some all[k]:=by simp [show k < all.size by omega]
   simp only [cur,vu,Option.bind_some]
   rcases Nat.lt_trichotomy k i with pB | heq | K8
   ·rw [Nat.min_eq_left (by omega)] at wg
    rw [Nat.min_eq_left (by omega),hs k _ (by omega) vu]
    by_cases hd:(all[k]).dst=some s
    ·have hl:listed.getD k false=true:=hr k ((kD hB ho vu pB).1 FB (ye hd M6))
     rw [if_pos hl,hd,pK,pK]
    ·rw [mA hd]
     split
     ·rw [mA hd];exact wg
     ·exact wg
   ·subst heq
    rw [xM]
    simp only [Bool.false_eq_true,if_false]
    rw [Nat.min_eq_right (by omega)]
    rw [Nat.min_eq_right (by omega)] at wg
    exact wg
   ·rw [Nat.min_eq_right (by omega)] at wg
    rw [Nat.min_eq_right (by omega)]
    by_cases hl:listed.getD k false=true
    ·by_cases hd:(all[k]).dst=some s
     ·exfalso
      have hw:=(kD hB vu ho K8).1 (L.head k hl) (AB hd M6)
      have:=lz.NB L.closed hw hl
      rw [xM] at this;cases this
     ·rw [if_pos hl,mA hd];exact wg
    ·rw [if_neg hl];exact wg
theorem jm {listed:Array Bool} {i k:Nat} (hi:i < listed.size):(listed.setIfInBounds i true).getD k false=(if k=i then true else listed.getD k false):=by
 by_cases hk:k < listed.size
 ·simp [hk,Array.getElem_setIfInBounds]
  by_cases h:k=i
  ·simp [h]
  ·have h':¬ i=k:=fun e=>h e.symm
   simp [h,h']
 ·have:k≠i:=by omega
  simp [hk,this]
theorem NC (hB:vU all m) {listed:Array Bool} (L:M5 all m listed) {i:Nat} {o:Oper} (ho:all[i]? =some o) (FB:i < m) (xM:listed.getD i false=false) (s:Nat):
 ∀ k,k≤all.size→cur all lK e (listed.setIfInBounds i true) k s=(if i < k then xL (cur all lK e listed k) o.dst (lK i) s else cur all lK e listed k s):=by
 have hi:i < listed.size:=by rw [L.size];exact (Array.getElem?_eq_some_iff.1 ho).1
 intro k
 induction k with
 | zero=>intro _;simp [cur]
 | succ k ih=>
   intro hk
   have wg:=ih (by omega)
   have vu:all[k]? =some all[k]:=by simp [show k < all.size by omega]
   simp only [cur,vu,Option.bind_some,jm hi]
   rcases Nat.lt_trichotomy k i with pB | heq | K8
   ·rw [if_neg (by omega)] at wg
    have e1:(if k=i then true else listed.getD k false)=listed.getD k false:=if_neg (by omega)
    rw [e1,if_neg (show ¬ i < k+1 by omega)]
    by_cases hl:listed.getD k false=true
    ·rw [if_pos hl,if_pos hl]
     by_cases hd:(all[k]).dst=some s
     ·rw [hd,pK,pK]
     ·rw [mA hd,mA hd];exact wg
    ·rw [if_neg hl,if_neg hl];exact wg
   ·subst heq
    rw [if_neg (by omega)] at wg
    have e1:(if k=k then true else listed.getD k false)=true:=if_pos rfl
    rw [e1,if_pos (show k < k+1 by omega),if_pos rfl,xM,if_neg Bool.false_ne_true]
    obtain rfl:all[k]=o:=by rw [vu] at ho;exact Option.some.inj ho
    by_cases hd:(all[k]).dst=some s
    ·rw [hd,pK,pK]
    ·rw [mA hd,mA hd];exact wg
   ·rw [if_pos K8] at wg
    have e1:(if k=i then true else listed.getD k false)=listed.getD k false:=if_neg (by omega)
    rw [e1,if_pos (show i < k+1 by omega)]
    by_cases hl:listed.getD k false=true
    ·rw [if_pos hl,if_pos hl]
     by_cases hd:(all[k]).dst=some s
     ·by_cases Jq:o.dst=some s
      ·exfalso
       have hw:=(kD hB vu ho K8).1 (L.head k hl) (DY Jq hd)
       have:=lz.NB L.closed hw hl
       rw [xM] at this;cases this
      ·rw [hd,pK,mA Jq,pK]
     ·by_cases Jq:o.dst=some s
      ·rw [mA hd,wg,Jq,pK,pK]
      ·rw [mA hd,wg,mA Jq,mA Jq,mA hd]
    ·rw [if_neg hl,if_neg hl];exact wg
theorem F0 (hB:vU all m) {Q:Exit→Act→World→Prop}:∀ (fuel k:Nat) (listed:Array Bool) (a:Act) (w:World),m≤k→k+fuel=all.size→listed.size=all.size→(∀ i,i < k→listed.getD i false=true)→(∀ i,k≤i→listed.getD i false=false)→
 wpList P all Q (all.toList.drop k) a w→wpAny P .any all Q fuel listed a w:=by
 intro fuel
 induction fuel with
 | zero=>
   intro k listed a w hm hk kM h1 h2 h
   have PY:all.toList.drop k=[]:=List.drop_eq_nil_of_le (by simp;omega)
   rw [PY] at h
   refine ⟨?_,h⟩
   refine List.eq_nil_iff_forall_not_mem.2 fun i hi=>?_
   obtain ⟨FC,Db⟩:=xo hi
   have:=h1 i (by omega)
   rw [Bz Db] at this
   cases this
 | succ fuel ih=>
   intro k listed a w hm hk kM h1 h2 h
   have VL:k < all.size:=by omega
   have vu:all[k]? =some all[k]:=by simp [VL]
   refine ⟨fun hr=>?_,fun i hi=>?_⟩
   ·have:=zH hB kM hr k VL
    rw [h2 k (Nat.le_refl _)] at this
    cases this
   ·obtain ⟨FC,Db⟩:=xo hi
    have AA:all[i]? =some all[i]:=by simp [FC]
    obtain rfl:i=k:=by
     rcases Nat.lt_trichotomy i k with pB | heq | K8
     ·have:=h1 i pB;rw [Bz Db] at this;cases this
     ·exact heq
     ·have Iw:lz all listed:=fun k' i' o Uj ho' XF=>by
       have pB:k' < k:=by
        rcases Nat.lt_or_ge k' k with h | h
        ·exact h
        ·rw [h2 k' h] at Uj;cases Uj
       simp only [waits,List.any_eq_true,Bool.and_eq_true] at XF
       obtain ⟨e',Rn,Bx,PZ⟩:=XF
       have:=yd hB ho' (by simpa using Rn) Bx
       obtain rfl:e'.on=i':=Nat.eq_of_beq_eq_true PZ
       exact h1 _ (by omega)
      have:=Iw.ready ((kD hB AA vu K8).2 (by omega)) hi
      rw [h2 k (Nat.le_refl _)] at this;cases this
    have SK:all.toList.drop i=all[i] :: all.toList.drop (i+1):=by
     rw [List.drop_eq_getElem_cons (by simpa using VL)]
     simp
    rw [SK] at h
    unfold wpList at h
    simp only [wpOp,vu]
    have next:∀ a w,wpList P all Q (all.toList.drop (i+1)) a w→wpAny P .any all Q fuel (listed.setIfInBounds i true) a w:=fun a w hh=>by
     have pL:i < listed.size:=by omega
     refine ih (i+1) (listed.setIfInBounds i true) a w (by omega) (by omega) (by simpa using kM) (fun j hj=>?_) (fun j hj=>?_) hh
     ·rw [jm pL];split
      ·rfl
      ·exact h1 j (by omega)
     ·rw [jm pL,if_neg (by omega)];exact h2 j (by omega)
    split at h
    ·rename_i hw
     rw [if_pos hw]
     exact h.imp (fun hh=>Oper.wp_mono next hh) id
    ·rename_i hw
     rw [if_neg hw]
     exact next _ _ h
theorem xp {o:Oper} {e:Env} {b:Bool} {w:World} {S:Nat→Prop} {a:Act} (hw:pc all o e b) (r:EP w S (looks all o) e a):Region.wanted o (yielded all a.tmps)=b:=by
 unfold pc at hw
 unfold Region.wanted
 cases hg:o.guard with
 | none=>rw [hg] at hw;simp only at hw;rw [hw]
 | some g=>
   obtain ⟨j,want⟩:=g
   rw [hg] at hw
   simp only at hw
   obtain ⟨s,h1,⟨c,h2,h3⟩ | ⟨h2,h3⟩⟩:=hw
   ·obtain ⟨v,g1,g2⟩:=r s (by simp [looks,hg,h1]) _ h2
    cases g2
    rw [h3]
    cases c<;>cases want<;>simp [yielded,h1,g1]
   ·obtain ⟨v,g1,g2⟩:=r s (by simp [looks,hg,h1]) _ h2
    cases g2
    rw [h3]
    simp [yielded,h1,g1,undef]
def BU (w:World) (S:Nat→Prop) (e:Env) (a:Act):Prop:=∀ s av,e s=some av→∃ v,a.tmps[s]? =some v∧At w S av v
theorem K9 (hB:vU all m) (hm:m≤all.size) {Q:Exit→Act→World→Prop} (h0:en 0=e) (hs:∀ i o,i < m→all[i]? =some o→Pe P all n hp o (en i) (lK i)∧en (i+1)=xL (en i) o.dst (lK i)) {w0:World} {S0:Nat→Prop}
 (fin:∀ a w S,a.tmps.size=n→a.defers=[]→dv w S hp→Grow w0 S0 w S→BU w S (en m) a→wpList P all Q (all.toList.drop m) a w):
 ∀ (fuel:Nat) (listed:Array Bool) (a:Act) (w:World) (S:Nat→Prop),M5 all m listed→(listed.toList.count true)+fuel=all.size→a.tmps.size=n→a.defers=[]→dv w S hp→Grow w0 S0 w S→BU w S (cur all lK e listed all.size) a→
   wpAny P .any all Q fuel listed a w:=by
 have SL:∀ i o,i < m→all[i]? =some o→en (i+1)=xL (en i) o.dst (lK i):=fun i o h1 h2=>(hs i o h1 h2).2
 have done:∀ (fuel:Nat) (listed:Array Bool) (a:Act) (w:World) (S:Nat→Prop),M5 all m listed→(listed.toList.count true)+fuel=all.size→a.tmps.size=n→a.defers=[]→dv w S hp→Grow w0 S0 w S→BU w S (cur all lK e listed all.size) a→
  (∀ i,i < m→listed.getD i false=true)→wpAny P .any all Q fuel listed a w:=by
  intro fuel listed a w S L hc kM Hq hr hg xn od
  have Dc:∀ i,m≤i→listed.getD i false=false:=fun i hi=>by
   cases hv:listed.getD i false with
   | false=>rfl
   | true=>have:=L.head i hv;omega
  have P0:listed.toList.count true=m:=by
   have:listed.toList=List.replicate m true++List.replicate (all.size - m) false:=by
    apply List.ext_getElem?
    intro i
    rcases Nat.lt_or_ge i m with hi | hi
    ·have pL:i < listed.size:=by rw [L.size];omega
     rw [List.getElem?_append_left (by simpa using hi)]
     have:=od i hi
     simp [pL] at this
     simp [pL,hi,this]
    ·rw [List.getElem?_append_right (by simpa using hi)]
     rcases Nat.lt_or_ge i listed.size with pL | pL
     ·have:=Dc i hi
      simp [pL] at this
      have h2:i - m < all.size - m:=by rw [L.size] at pL;omega
      simp [pL,h2,this]
     ·have h2:¬ i - m < all.size - m:=by rw [L.size] at pL;omega
      simp [List.getElem?_eq_none (l:=listed.toList) (by simpa using pL),h2]
   rw [this,List.count_append,List.count_replicate,List.count_replicate]
   simp
  have P1:cur all lK e listed all.size=en m:=by
   have key:∀ k,k≤all.size→cur all lK e listed k=en (min k m):=by
    intro k
    induction k with
    | zero=>intro _;simp [cur,h0]
    | succ k ih=>
      intro hk
      have vu:all[k]? =some all[k]:=by simp [show k < all.size by omega]
      simp only [cur,vu,Option.bind_some,ih (by omega)]
      rcases Nat.lt_or_ge k m with h | h
      ·rw [if_pos (od k h),Nat.min_eq_left (by omega),Nat.min_eq_left (by omega),SL k _ h vu]
      ·rw [if_neg (by rw [Dc k h];simp),Nat.min_eq_right (by omega),Nat.min_eq_right (by omega)]
   rw [key all.size (Nat.le_refl _),Nat.min_eq_right hm]
  rw [P1] at xn
  exact F0 hB fuel m listed a w (Nat.le_refl _) (by omega) L.size od Dc (fin a w S kM Hq hr hg xn)
 intro fuel
 induction fuel with
 | zero=>
   intro listed a w S L hc kM Hq hr hg xn
   refine done 0 listed a w S L hc kM Hq hr hg xn (fun i hi=>?_)
   have F1:listed.toList.count true=listed.toList.length:=by rw [Array.length_toList,L.size];omega
   have od:=List.count_eq_length.1 F1
   have pL:i < listed.size:=by rw [L.size];omega
   have:=od listed[i] (by simp)
   simp [pL];exact this.symm
 | succ fuel ih=>
   intro listed a w S L hc kM Hq hr hg xn
   by_cases od:∀ i,i < m→listed.getD i false=true
   ·exact done _ listed a w S L hc kM Hq hr hg xn od
   ·refine ⟨fun Jr=>(od fun i hi=>zH hB L.size Jr i (by omega)).elim,fun i hi=>?_⟩
    obtain ⟨FC,Db⟩:=xo hi
    have xM:=Bz Db
    have AA:all[i]? =some all[i]:=by simp [FC]
    have FB:i < m:=by
     rcases Nat.lt_or_ge i m with h | h
     ·exact h
     ·refine (od fun j hj=>?_).elim
      have M4:all[j]? =some all[j]:=by simp [show j < all.size by omega]
      exact lz.ready L.closed ((kD hB AA M4 (by omega)).2 h) hi
    have pL:i < listed.size:=by rw [L.size];exact FC
    obtain ⟨⟨O5,La⟩,_⟩:=hs i _ FB AA
    have yb:EP w S (looks all all[i]) (en i) a:=by
     intro s M6 av qN
     have hc:=K7 (lK:=lK) (en:=en) (e:=e) hB L h0 SL hm AA FB xM (fun j hj=>lz.ready L.closed hj hi) M6 all.size (Nat.le_refl _)
     rw [Nat.min_eq_right (by omega)] at hc
     exact xn s av (by rw [hc];exact qN)
    have L':M5 all m (listed.setIfInBounds i true):=by
     refine ⟨by simpa using L.size,fun k hk=>?_,fun k j o hk vu hw=>?_⟩
     ·rw [jm pL] at hk
      split at hk
      ·omega
      ·exact L.head k hk
     ·rw [jm pL] at hk
      rw [jm pL]
      split
      ·rfl
      ·split at hk
       ·rename_i VM
        subst VM
        obtain rfl:all[k]=o:=by rw [AA] at vu;exact Option.some.inj vu
        exact ug AA hi hw
       ·exact L.closed k j o hk vu hw
    have F1:(listed.setIfInBounds i true).toList.count true+fuel=all.size:=by
     have Lb:listed[i]=false:=by simpa [pL] using xM
     have:(listed.setIfInBounds i true).toList=listed.toList.set i true:=by simp
     rw [this,List.count_set (by simpa using pL)]
     have PS:listed.toList[i]'(by simpa using pL)=false:=by simpa using Lb
     rw [PS]
     have e1:(if (false==true)=true then 1 else 0)=0:=rfl
     have e2:(if (true==true)=true then 1 else 0)=1:=rfl
     rw [e1,e2]
     omega
    have XG:∀ (v:Value) (w':World) (S':Nat→Prop),Grow w S w' S'→At w' S' (lK i) v→BU w' S' (cur all lK e (listed.setIfInBounds i true) all.size) (a.put (all[i]).dst v):=by
     intro v w' S' Pf uW s av qN
     rw [NC (lK:=lK) (e:=e) hB L AA FB xM s all.size (Nat.le_refl _),if_pos (by omega)] at qN
     by_cases hd:(all[i]).dst=some s
     ·rw [hd,pK] at qN
      obtain rfl:=Option.some.inj qN
      have SN:=O5 s hd
      exact ⟨v,by rw [hd];simp [Act.put,kM,SN],uW⟩
     ·rw [mA hd] at qN
      obtain ⟨u,h1,h2⟩:=xn s av qN
      refine ⟨u,?_,h2.mono (Pf.mO hr.slt)⟩
      cases P2:(all[i]).dst with
      | none=>simpa [Act.put] using h1
      | some d'=>
        have sw:d'≠s:=fun e=>hd (by rw [P2,e])
        simp [Act.put,sw,h1]
    have Uk:∀ v,(a.put (all[i]).dst v).tmps.size=n:=fun v=>by cases (all[i]).dst<;>simp [Act.put,kM]
    have Ul:∀ v,(a.put (all[i]).dst v).defers=[]:=fun v=>by cases (all[i]).dst<;>simp [Act.put,Hq]
    simp only [wpOp,AA]
    rcases La with ⟨hw,VN⟩ | ⟨hw,qN⟩
    ·rw [if_pos (xp hw yb)]
     refine .inl (VN w S a kM Hq hr yb _ _ (fun v w' S' Pf uW=>?_))
     exact ih _ _ _ S' L' F1 (Uk v) (Ul v) (hr.grow Pf) (hg.trans Pf) (XG v w' S' Pf uW)
    ·rw [if_neg (by rw [xp hw yb];simp)]
     refine ih _ _ _ S L' F1 (Uk _) (Ul _) hr hg (XG _ w S (Grow.refl hr.slt) ?_)
     rw [qN];exact .raw _
end order
theorem xq (d:Nat) (av:AV) (tm:List (Nat×AV)):lk ((d,av) :: tm)=xL (lk tm) (some d) av:=by
 funext s
 simp only [lk,xL]
 by_cases h:d=s
 ·subst h;simp
 ·rw [rC h,if_neg h]
def Dd:List Nat→List (Nat×AV)→List (Nat×AV)
 | [],_=>[]
 | s :: r,tm=>match lk tm s with
   | some av=>(s,av) :: Dd r tm
   | none=>Dd r tm
theorem ES:∀ {ls:List Nat} {tm:List (Nat×AV)} {s:Nat} {av:AV},lk (Dd ls tm) s=some av→s∈ls∧lk tm s=some av
 | [],tm,s,av,h=>by simp [Dd,lk] at h
 | k :: ls,tm,s,av,h=>by
   simp only [Dd] at h
   split at h
   ·rename_i r7 hk
    simp only [lk] at h
    split at h
    ·rename_i hb
     obtain rfl:k=s:=by simpa using hb
     obtain rfl:=Option.some.inj h
     exact ⟨by simp,hk⟩
    ·obtain ⟨h1,h2⟩:=ES h
     exact ⟨by simp [h1],h2⟩
   ·obtain ⟨h1,h2⟩:=ES h
    exact ⟨by simp [h1],h2⟩
theorem qZ {w:World} {S:Nat→Prop} {a:Act} {n:Nat} {hp:Heap} {ls:List Nat} {tm:List (Nat×AV)} (h1:a.tmps.size=n) (h2:a.defers=[]) (h3:dv w S hp) (h4:EP w S ls (lk tm) a):ee w S ⟨n,Dd ls tm,hp⟩ a:=
 ⟨h1,h2,fun s av h=>h4 s (ES h).1 av (ES h).2,h3⟩
def AM (P:Program) (all:Array Oper) (n:Nat) (hp:Heap) (l:List Oper) (tm:List (Nat×AV)) (Q:List (Nat×AV)→Prop):Prop:=∃ qP,NA P all n hp l (lk tm) (lk qP)∧Q qP
section rules
variable {P:Program} {all:Array Oper} {rest:List Oper} {n:Nat} {tm:List (Nat×AV)} {hp:Heap} {Q:List (Nat×AV)→Prop} {d:Nat} {ty:TypeId} {pos:String} {af:Array Edge} {op:Op}
theorem AM.nil (h:Q tm):AM P all n hp [] tm Q:=⟨tm,.nil _,h⟩
theorem AM.mv {av:AV} (h:MV P all n ⟨some d,op,ty,pos,af,none⟩ (lk tm) hp av) (hn:Nat.blt d n=true) (k:AM P all n hp rest ((d,av) :: tm) Q):AM P all n hp (⟨some d,op,ty,pos,af,none⟩ :: rest) tm Q:=by
 obtain ⟨qP,k1,k2⟩:=k
 refine ⟨qP,.run rfl h (fun d' hd=>?_) (by rw [xq] at k1;exact k1),k2⟩
 obtain rfl:=Option.some.inj hd
 simpa using hn
theorem AM.qv {av:AV} (q:QV P ⟨some d,op,ty,pos,af,none⟩ ⟨n,Dd (looks all ⟨some d,op,ty,pos,af,none⟩) tm,hp⟩ av) (hn:Nat.blt d n=true) (k:AM P all n hp rest ((d,av) :: tm) Q):AM P all n hp (⟨some d,op,ty,pos,af,none⟩ :: rest) tm Q:=by
 refine AM.mv (fun w S a h1 h2 h3 h4 K Q' hK=>?_) hn k
 obtain ⟨v,g1,g2⟩:=q w S a (qZ h1 h2 h3 h4)
 show Oper.upon P _ a K Q' _
 rw [g1 w (Ext.refl w)]
 exact hK v w S (Grow.refl h3.slt) g2
theorem AM.ar {j:Nat} {want b:Bool} {s:Nat} (hj:(all[j]?).bind (·.dst)=some s) (hs:lk tm s=some (.bool b)) (hb:b=want)
 (k:AM P all n hp (⟨some d,op,ty,pos,af,none⟩ :: rest) tm Q):AM P all n hp (⟨some d,op,ty,pos,af,some (j,want)⟩ :: rest) tm Q:=by
 obtain ⟨qP,k1,k2⟩:=k
 refine ⟨qP,?_,k2⟩
 cases k1 with
 | run hg h hd k=>
   refine .run ⟨s,hj,.inl ⟨b,hs,by simp [hb]⟩⟩ ?_ hd k
   intro w S a h1 h2 h3 h4 K Q' hK
   exact h w S a h1 h2 h3 (fun t ht=>h4 t (by simp only [looks,List.append_nil] at ht ⊢;exact List.mem_append_left _ ht)) K Q' hK
 | pass hg hd k=>simp [pc] at hg
theorem AM.ay {j:Nat} {want b:Bool} {s:Nat} (hj:(all[j]?).bind (·.dst)=some s) (hs:lk tm s=some (.bool b)) (hb:b=!want) (hn:Nat.blt d n=true)
 (k:AM P all n hp rest ((d,.raw undef) :: tm) Q):AM P all n hp (⟨some d,op,ty,pos,af,some (j,want)⟩ :: rest) tm Q:=by
 obtain ⟨qP,k1,k2⟩:=k
 refine ⟨qP,.pass ⟨s,hj,.inl ⟨b,hs,?_⟩⟩ (fun d' hd=>?_) (by rw [xq] at k1;exact k1),k2⟩
 ·rw [hb];cases want<;>rfl
 ·obtain rfl:=Option.some.inj hd
  simpa using hn
theorem AM.lit {l:List Oper} {s:Nat} {b c:Bool} (hs:lk tm s=some (.bool b)) (hb:b=c) (k:AM P all n hp l ((s,.bool c) :: tm) Q):AM P all n hp l tm Q:=by
 subst hb
 obtain ⟨qP,k1,k2⟩:=k
 have:lk ((s,.bool b) :: tm)=lk tm:=by
  rw [xq]
  funext t
  simp only [xL]
  split
  ·rename_i h;subst h;exact hs.symm
  ·rfl
 rw [this] at k1
 exact ⟨qP,k1,k2⟩
theorem AM.guard {j s:Nat} {want b:Bool} (hj:(all[j]?).bind (·.dst)=some s) (hs:lk tm s=some (.bool b)) (hn:Nat.blt d n=true) (h1:b=want→AM P all n hp (⟨some d,op,ty,pos,af,none⟩ :: rest) ((s,.bool want) :: tm) Q)
 (h2:b=!want→AM P all n hp rest ((d,.raw undef) :: (s,.bool (!want)) :: tm) Q):AM P all n hp (⟨some d,op,ty,pos,af,some (j,want)⟩ :: rest) tm Q:=by
 by_cases hb:b=want
 ·exact AM.lit hs hb (AM.ar hj (by simp [lk]) rfl (h1 hb))
 ·have Bx:b=!want:=by cases b<;>cases want<;>simp_all
  exact AM.lit hs Bx (AM.ay hj (b:=!want) (by simp [lk]) rfl hn (h2 Bx))
theorem AM.cN {j s:Nat} {p:Prop} [Decidable p] (hj:(all[j]?).bind (·.dst)=some s) (hs:lk tm s=some (.bool (decide p))) (hn:Nat.blt d n=true) (h1:p→AM P all n hp (⟨some d,op,ty,pos,af,none⟩ :: rest) ((s,.bool true) :: tm) Q)
 (h2:¬ p→AM P all n hp rest ((d,.raw undef) :: (s,.bool false) :: tm) Q):AM P all n hp (⟨some d,op,ty,pos,af,some (j,true)⟩ :: rest) tm Q:=
 AM.guard hj hs hn (fun h=>h1 (of_decide_eq_true h)) (fun h=>h2 (of_decide_eq_false h))
theorem AM.gj {f:FuncId} {args:List Operand} {ts:Array TypeId} {l l':List AV} {R:AV} [bb P f] (hl:Au (Dd (looks all ⟨some d,.call {callee:=.value (.func f),args:=args.toArray,argTypes:=ts},ty,pos,af,none⟩) tm) args=some l) (c:Pu P f l' R) (co:yP hp l l') (hn:Nat.blt d n=true)
 (k:AM P all n hp rest ((d,R) :: tm) Q):AM P all n hp (⟨some d,.call {callee:=.value (.func f),args:=args.toArray,argTypes:=ts},ty,pos,af,none⟩ :: rest) tm Q:=by
 refine AM.mv (fun w S a h1 h2 h3 h4 K Q' hK=>?_) hn k
 have r:=qZ h1 h2 h3 h4
 show Oper.upon P _ a K Q' _
 rw [oo]
 obtain ⟨g1,g2⟩:=tu r hl
 obtain ⟨g3,g4⟩:=yP.at r.hp co g1 g2
 refine (c w S _ (yQ h3.slt h3.kN) (by simpa using g3) g4).mono ?_
 rintro e w' ⟨v,rr,h',S',rfl,rfl,k3,k4,k5⟩
 exact hK v w' S' ⟨k5.K4,fun m hm=>(k5.mO m hm).1,fun m hm hs=>(k5.other m hm (fun ⟨x,hx,_⟩=>by simp at hx)).2 hs,k4.slt⟩ k3
theorem AM.Hr {f:FuncId} {args:List Operand} {ts:Array TypeId} {l l':List AV} {R:AV} [bb P f] (hl:Au (Dd (looks all ⟨some d,.call {callee:=.value (.func f),args:=args.toArray,argTypes:=ts},ty,pos,af,none⟩) tm) args=some l) (c:Pu P f l' R) (co:u4 hp l l') (hn:Nat.blt d n=true) (hR:R.SE=true)
 (k:AM P all n hp rest ((d,R) :: tm) Q):AM P all n hp (⟨some d,.call {callee:=.value (.func f),args:=args.toArray,argTypes:=ts},ty,pos,af,none⟩ :: rest) tm Q:=by
 refine AM.mv (fun w S a h1 h2 h3 h4 K Q' hK=>?_) hn k
 have r:=qZ h1 h2 h3 h4
 show Oper.upon P _ a K Q' _
 rw [oo]
 obtain ⟨g1,g2⟩:=tu r hl
 obtain ⟨g3,g4⟩:=u4.at r.hp co g1 g2
 refine (c w (SB S hp) _ (yQ (fun m hm=>hm.elim (h3.slt m) fun h=>h3.lt h) (fun g o ho=>⟨.inl (h3.kN g o ho).1,(h3.kN g o ho).2⟩)) (by simpa using g3) g4).mono ?_
 rintro e w' ⟨v,rr,h',S',rfl,rfl,k3,k4,k5⟩
 have ex:=k5.K4
 exact hK v w' S ⟨ex,fun m hm=>hm,fun m _ hs=>hs,fun m hm=>Nat.lt_of_lt_of_le (h3.slt m hm) ex.size⟩ (K2 k3 hR)
theorem AM.bz {t e:TypeId} {i:TypeInfo} {z:Value} {len sz:Nat} {parts:List (Nat×Operand)} {xs:List AV} [aA P t (.slice e)] [aN P e i] [lH P e sz] (hz:i.zero=some z)
 (hl:Ix (Dd (looks all ⟨some d,.buildSlice t len parts.toArray,ty,pos,af,none⟩) tm) parts 0=some xs) (hlen:Nat.beq parts.length len=true) (wA:wB i.size xs=true) (Ha:Nat.ble (len * i.size) 16777216=true) (hn:Nat.blt d n=true)
 (k:AM P all n hp rest ((d,.list sz xs) :: tm) Q):AM P all n hp (⟨some d,.buildSlice t len parts.toArray,ty,pos,af,none⟩ :: rest) tm Q:=by
 obtain ⟨i',FC,Db⟩:=lH.h (P:=P) (t:=e)
 obtain rfl:i'=i:=by rw [aN.h (P:=P) (t:=e)] at FC;exact (Option.some.inj FC).symm
 subst Db
 refine AM.mv (fun w S a h1 h2 h3 h4 K Q' hK=>?_) hn k
 have r:=qZ h1 h2 h3 h4
 obtain rfl:parts.length=len:=Nat.eq_of_beq_eq_true hlen
 have Ha:=Nat.le_of_ble_eq_true Ha
 obtain ⟨zz,Hb⟩:∃ zz:Array Value,zz=if parts.length * i'.size=0 then #[] else z.cells:=⟨_,rfl⟩
 obtain ⟨vs,g1,g2,g3,g4⟩:=yN r i'.size parts 0 xs ((Array.range (parts.length * i'.size)).map (zz[· % zz.size]!)) hl (kC wA) (by simp)
 simp only [Nat.zero_mul,List.take_zero,List.nil_append] at g1
 have e0:=Ext.alloc w (.cells vs.toArray e)
 have uK:(execOp a.eval ⟨some d,.buildSlice t parts.length parts.toArray,ty,pos,af,none⟩).run P w=.ok (.value (.slice (some ⟨w.heap.size,0,none⟩) parts.length parts.length)) (w.alloc (.cells vs.toArray e)):=by
  have hm:((parts.toArray.map fun p=>(p.1,a.eval p.2))).toList=parts.map fun p=>(p.1,a.eval p.2):=by simp
  simp only [execOp,Instr.buildSlice,Sem.run_bind,run_underlying (aA.h (P:=P) (t:=t)),Result.andThen_ok,sizeOf,typeInfo,run_program,aN.h (P:=P) (t:=e),Sem.run_pure]
  rw [if_neg (by omega)]
  by_cases h0:parts.length * i'.size=0
  ·rw [if_pos h0] at Hb ⊢
   subst Hb
   simp only [Sem.run_bind,Result.andThen_ok,Sem.run_pure,hm,g1,qY]
  ·rw [if_neg h0] at Hb ⊢
   subst Hb
   simp only [Sem.run_bind,Result.andThen_ok,Sem.run_pure,zeroValue,typeInfo,run_program,aN.h (P:=P) (t:=e),hz,hm,g1,qY]
 show Oper.upon P _ a K Q' _
 rw [uK]
 have De:(w.alloc (.cells vs.toArray e)).heap[w.heap.size]? =some (.cells vs.toArray e (0,0)):=by
  show (w.heap.push _)[w.heap.size]? =_
  simp
 refine hK _ _ (fun m=>S m∨m=w.heap.size) ⟨e0,fun m hm=>.inl hm,fun m hm hs=>hs.elim id (fun h=>by omega),fun m hm=>?_⟩ ?_
 ·rcases hm with hm | hm
  ·exact Nat.lt_of_lt_of_le (h3.slt m hm) e0.size
  ·subst hm;simp
 ·have:=At.list (w:=w.alloc (.cells vs.toArray e)) (S:=fun m=>S m∨m=w.heap.size) i'.size xs (some ⟨w.heap.size,0,none⟩) parts.length vs (kC wA) (by rw [dj (kC wA),g2]) (fun j c u hc hu=>?_) (fun j u hu=>?_) (by omega)
  ·rw [g3] at this;exact this
  ·exact (g4 j c u hc (by simpa using hu)).mono fun m hm=>⟨.inl hm,e0.same m (h3.slt m hm)⟩
  ·refine ⟨_,rfl,rfl,.inr rfl,?_⟩
   rw [nJ De]
   simpa using hu
end rules
def F2:Nat→List Oper→Option (List Oper×List Oper)
 | 0,l=>some ([],l)
 | m+1,o :: l=>match F2 m l with
   | some (a,b)=>some (o :: a,b)
   | none=>none
 | _+1,[]=>none
theorem xr:∀ {m:Nat} {l a b:List Oper},F2 m l=some (a,b)→l=a++b∧a.length=m
 | 0,l,a,b,h=>by simp [F2] at h;obtain ⟨rfl,rfl⟩:=h;exact ⟨rfl,rfl⟩
 | m+1,[],a,b,h=>by simp [F2] at h
 | m+1,o :: l,a,b,h=>by
   simp only [F2] at h
   split at h
   ·rename_i a' b' h'
    simp only [Option.some.injEq,Prod.mk.injEq] at h
    obtain ⟨rfl,rfl⟩:=h
    obtain ⟨h1,h2⟩:=xr h'
    exact ⟨by rw [h1];rfl,by simp [h2]⟩
   ·cases h
theorem ab.cV {P:Program} {R:St→Prop} {k:List It} {id n:Nat} {tm:List (Nat×AV)} {hp:Heap} {l hd tl:List Oper} (m:Nat) (hm:P.follows .mixedOrders=true) (hs:F2 m l=some (hd,tl)) {A:List Nat} (hA:Jp l.toArray=A) (VO:FZ l.toArray m A=true)
 (h:AM P l.toArray n hp hd tm (fun qP=>ae P l.toArray tl ⟨n,qP,hp⟩ (ab P R k))):ab P R (.code (.region id l.toArray true) :: k) ⟨n,tm,hp⟩:=by
 have hB:vU l.toArray m:=⟨A,hA,VO⟩
 intro w S a r
 obtain ⟨hl,ND⟩:=xr hs
 obtain ⟨qP,hA,uK⟩:=h
 obtain ⟨lK,en,e0,e1,e2⟩:=hA.Hp
 have kM:m≤l.toArray.size:=by simp [hl,ND]
 refine wp_region_any hm ?_
 have BV:Ext w {w with drawn:=w.drawn+1}:=Ext.FI w _ (Nat.le_succ _)
 have g0:Grow w S {w with drawn:=w.drawn+1} S:=⟨BV,fun _ h=>h,fun _ _ h=>h,fun n hn=>r.hp.slt n hn⟩
 have P3:∀ k,cur l.toArray lK (lk tm) (Array.replicate l.toArray.size false) k=lk tm:=by
  intro k
  induction k with
  | zero=>rfl
  | succ k ih=>
    simp only [cur,ih]
    rw [if_neg]
    rcases Nat.lt_or_ge k l.toArray.size with h | h
    ·simp at h;simp [h]
    ·simp at h;simp [Nat.not_lt.2 h]
 have hf:∀ k,(Array.replicate l.toArray.size false).getD k false=false:=by
  intro k
  rcases Nat.lt_or_ge k l.toArray.size with h | h
  ·simp at h;simp [h]
  ·simp at h;simp [Nat.not_lt.2 h]
 refine K9 (P:=P) (all:=l.toArray) (n:=n) (m:=m) (hp:=hp) (lK:=lK) (en:=en) (e:=lk tm) hB kM e0 (fun i o hi ho=>e2 i o ?_) (w0:=w) (S0:=S) (fun a' w' S' h1 h2 h3 h4 h5=>?_) l.toArray.size (Array.replicate l.toArray.size false) a _ S
  ⟨by simp,(fun k hk=>by rw [hf k] at hk;cases hk),(fun k i o hk=>by rw [hf k] at hk;cases hk)⟩ (by simp [List.count_replicate]) r.size r.defers (r.hp.ext BV) g0 (by rw [P3];exact (r.ext BV).tm)
 ·have:l[i]? =some o:=by simpa using ho
  rw [hl,List.getElem?_append_left (by omega)] at this
  exact this
 ·have SO:l.toArray.toList.drop m=tl:=by
   simp only [hl,← ND]
   exact List.drop_left
  rw [SO]
  have hmm:en m=lk qP:=by rw [← ND];exact e1
  rw [hmm] at h5
  refine il ?_ _ _ _ (uK.go (h:=hp) (w:=w) (S:=S) ⟨h1,h2,h5,h3⟩ (h4.XD r.hp.slt hp))
  rintro ex a2 w2 ⟨rfl,FL,S2,q1,q2,q3⟩
  exact ⟨FL,S2,q1,q2,q3⟩
section
variable {P:Program} {all:Array Oper} {rest:List Oper} {n:Nat} {hp:Heap} {tm:List (Nat×AV)} {Q:List (Nat×AV)→Prop} {dd:Option Nat} {ty:TypeId} {pos:String} {af:Array Edge}
end
theorem SP {α β:Type} {o:Option α} {f:α→Option β} {r:β} (h:o.bind f=some r):∃ v,o=some v∧f v=some r:=by
 cases o with
 | none=>cases h
 | some v=>exact ⟨v,rfl,h⟩
theorem lL {α:Type} {p:Prop} [Decidable p] {a b x:α} (hp:p) (h:(if p then a else b)=x):a=x:=by rw [if_pos hp] at h;exact h
theorem zI {α:Type} {p:Prop} [Decidable p] {a b x:α} (hp:¬ p) (h:(if p then a else b)=x):b=x:=by rw [if_neg hp] at h;exact h
theorem lM {α:Type} {p:Bool} {a b x:α} (hp:p=false) (h:(if p=true then a else b)=x):b=x:=by rw [if_neg (by simp [hp])] at h;exact h
def pM {X A:Type} (f:X→Option (X⊕A)):Nat→X→Option A
 | 0,_=>none
 | n+1,x=>match f x with
   | none=>none
   | some (.inl y)=>pM f n y
   | some (.inr a)=>some a
theorem F3 {X A:Type} {f:X→Option (X⊕A)} {a:A}:∀ {n:Nat} {x:X},pM f n x=some a→pM f (n+1) x=some a
 | 0,x,h=>by cases h
 | n+1,x,h=>by
   unfold pM at h ⊢
   split at h
   ·cases h
   ·exact F3 h
   ·exact h
theorem BW {X A:Type} {f:X→Option (X⊕A)} {a:A} {x:X} {n:Nat} (h:pM f n x=some a):∀ m,pM f (n+m) x=some a
 | 0=>h
 | m+1=>F3 (BW h m)
theorem Js {X A:Type} {f:X→Option (X⊕A)} {a b:A} {x:X} {n m:Nat} (h:pM f n x=some a) (k:pM f m x=some b):a=b:=by
 have h1:=BW h m
 have h2:=BW k n
 rw [Nat.add_comm] at h2
 rw [h1] at h2
 exact Option.some.inj h2
open Classical in
noncomputable def iter {X A:Type} (f:X→Option (X⊕A)) (x:X):Option A:=
 if h:∃ a n,pM f n x=some a then some h.choose else none
theorem u5 {X A:Type} {f:X→Option (X⊕A)} {x:X} {a:A}:iter f x=some a↔∃ n,pM f n x=some a:=by
 unfold iter
 constructor
 ·intro h
  split at h
  ·rename_i hx
   obtain ⟨n,hn⟩:=hx.choose_spec
   exact ⟨n,by rw [hn];exact h⟩
  ·cases h
 ·rintro ⟨n,hn⟩
  have hx:∃ a n,pM f n x=some a:=⟨a,n,hn⟩
  rw [dif_pos hx]
  obtain ⟨m,hm⟩:=hx.choose_spec
  rw [Js hm hn]
def after {X A:Type} (k:X→Option A):X⊕A→Option A
 | .inl y=>k y
 | .inr a=>some a
theorem iter_eq {X A:Type} (f:X→Option (X⊕A)) (x:X):iter f x=(f x).bind (after (iter f)):=by
 apply Option.ext
 intro a
 rw [u5]
 constructor
 ·rintro ⟨n,hn⟩
  match n with
  | 0=>cases hn
  | n+1=>
    unfold pM at hn
    split at hn
    ·cases hn
    ·rename_i y hy;rw [hy];exact u5.2 ⟨n,hn⟩
    ·rename_i b hb;rw [hb];exact hn
 ·intro h
  obtain ⟨s,hs,h⟩:=SP h
  cases s with
  | inl y=>
    obtain ⟨n,hn⟩:=u5.1 h
    exact ⟨n+1,by unfold pM;rw [hs];exact hn⟩
  | inr b=>exact ⟨1,by unfold pM;rw [hs];exact h⟩
theorem bE {X A:Type} {o:Option A} {s:X⊕A} {a:A} (h:o.map .inr=some s) (hA:∀ a',s=.inr a'→a'=a):o=some a:=by
 cases o with
 | none=>cases h
 | some b=>
   have:=Option.some.inj h
   rw [hA b this.symm]
@[simp] theorem dh {X A:Type} (k:X→Option A) (y:X):after k (.inl y)=k y:=rfl
@[simp] theorem Jt {X A:Type} (k:X→Option A) (a:A):after k (.inr a)=some a:=rfl
theorem cH {X A:Type} (o:Option A) (k:X→Option A):(o.map Sum.inr).bind (after k)=o:=by cases o<;>rfl
def idx {α:Type} (xs:List α) (i:Int):Option α:=if 0≤i then xs[i.toNat]? else none
def app {α:Type} (xs ys:List α):Option (List α):=if xs.length+ys.length≤1000000000 then some (xs++ys) else none
def yD {α:Type} (xs:List α) (l h:Int):Option (List α):=if 0≤l∧l≤h∧h≤xs.length then some ((xs.drop l.toNat).take (h.toNat - l.toNat)) else none
abbrev cr (i:Int):Int:=IntKind.i64.wrap i
def quo (a b:Int):Option Int:=if b=0 then none else some (cr (a.tdiv b))
def rem (a b:Int):Option Int:=if b=0 then none else some (a.tmod b)
theorem Lc {α:Type} {e:α→AV} {xs:List α} {i:Int} {x:α} (h:idx xs i=some x):KY (xs.map e) i=some (e x):=by
 unfold idx at h;unfold KY
 split at h
 ·rename_i h0;rw [if_pos h0,List.getElem?_map,h];rfl
 ·cases h
theorem tw {α:Type} {xs:List α} {i:Int} {x:α} (h:idx xs i=some x):0≤i∧i < xs.length∧xs[i.toNat]? =some x:=by
 unfold idx at h
 split at h
 ·rename_i h0
  have:=(List.getElem?_eq_some_iff.1 h).1
  exact ⟨h0,by omega,h⟩
 ·cases h
theorem BX {α:Type} {xs ys zs:List α} (h:app xs ys=some zs):xs.length+ys.length≤1000000000∧zs=xs++ys:=by
 unfold app at h
 split at h
 ·exact ⟨by assumption,(Option.some.inj h).symm⟩
 ·cases h
theorem sb {α:Type} {xs zs:List α} {l h:Int} (hh:yD xs l h=some zs):(0≤l∧l≤h∧h≤xs.length)∧zs=(xs.drop l.toNat).take (h.toNat - l.toNat):=by
 unfold yD at hh
 split at hh
 ·exact ⟨by assumption,(Option.some.inj hh).symm⟩
 ·cases hh
theorem Ld {a b c:Int} (h:quo a b=some c):b≠0∧c=cr (a.tdiv b):=by
 unfold quo at h
 split at h
 ·cases h
 ·exact ⟨by assumption,(Option.some.inj h).symm⟩
theorem Le {a b c:Int} (h:rem a b=some c):b≠0∧c=a.tmod b:=by
 unfold rem at h
 split at h
 ·cases h
 ·exact ⟨by assumption,(Option.some.inj h).symm⟩
section
variable {P:Program} {R:St→Prop} {k:List It} {σ:St}
theorem ab.cut {c:Code} (I:St→Prop) (h:ab P R (.code c :: .stop (fun aE=>ai aE I) :: k) σ) (hk:∀ aE,I aE→ab P R k aE):ab P R (.code c :: k) σ:=by
 intro w S a r
 refine wp_mono (h w S a r) ?_
 rintro e a' w' ⟨aE,S',h1,h2,h3⟩
 cases e with
 | normal=>
   obtain ⟨EO,Su,hI,hr,he⟩:=h1 w' S' a' h2
   exact ⟨EO,Su,hk EO hI,hr,h3.trans he⟩
 | exit id=>exact ⟨aE,S',h1,h2,h3⟩
 | goto l=>exact ⟨aE,S',h1,h2,h3⟩
 | ret=>exact ⟨aE,S',h1,h2,h3⟩
 | panic c=>exact ⟨aE,S',h1,h2,h3⟩
 | outgrown=>exact ⟨aE,S',h1,h2,h3⟩
theorem ab.cq {body:Code} {X A:Type} (f:X→Option (X⊕A)) (mk:X→St→Prop) {a:A} {x0:X} (h:iter f x0=some a) (h0:ai σ (mk x0))
 (hs:∀ x s σ (J:St→Prop),mk x σ→f x=some s→(∀ y aE,s=.inl y→ai aE (mk y)→J aE)→(∀ a',s=.inr a'→a'=a)→ab P R (.code body :: .stop J :: k) σ):
 ab P R (.code (.loop body) :: k) σ:=by
 obtain ⟨m,hm⟩:=u5.1 h
 refine ab.Iz (fun m σ=>∃ x,pM f m x=some a∧mk x σ) m (h0.mono fun aE VP=>⟨x0,hm,VP⟩) ?_
 rintro m yI ⟨x,hx,dN⟩
 match m with
 | 0=>cases hx
 | m+1=>
   unfold pM at hx
   split at hx
   ·cases hx
   ·rename_i y hy
    refine hs x _ yI _ dN hy (fun y' aE e hi=>⟨m,by omega,hi.mono fun EO hk=>⟨y',?_,hk⟩⟩) (fun a' e=>by cases e)
    have:=Sum.inl.inj e
    rw [← this];exact hx
   ·rename_i b hb
    refine hs x _ yI _ dN hb (fun y' aE e _=>by cases e) (fun a' e=>?_)
    rw [← Sum.inr.inj e];exact Option.some.inj hx
end
inductive Hc:Heap→Heap→Heap→Prop
 | nil {h:Heap}:Hc h [] h
 | cons {h h1 t r:Heap} {b:Bk} {o:Ob} (u:xK h b o h1) (k:Hc h1 t r):Hc h ((b,o) :: t) r
theorem Hc.perm {h t r:Heap} (s:Hc h t r):h.Perm (t++r):=by
 induction s with
 | nil=>exact List.Perm.refl _
 | cons u k ih=>exact u.perm.trans (List.Perm.cons _ ih)
section rules
variable {P:Program} {all:Array Oper} {rest:List Oper} {n:Nat} {tm:List (Nat×AV)} {hp:Heap} {Q:St→Prop} {d:Nat} {ty:TypeId} {pos:String} {af:Array Edge}
theorem ET {f:FuncId} {args:List Operand} {ts:Array TypeId} {l l':List AV} {h0 hr:Heap} {Qc:AV→Heap→Prop} [bb P f] (hl:Au tm args=some l) (c:aB P f l' h0 Qc) (co:yP hp l l') (hs:Hc hp h0 hr) (hn:Nat.blt d n=true)
 (kk:∀ r h',Qc r h'→ae P all rest ⟨n,(d,r) :: tm,h'++hr⟩ Q):ae P all (⟨some d,.call {callee:=.value (.func f),args:=args.toArray,argTypes:=ts},ty,pos,af,none⟩ :: rest) ⟨n,tm,hp⟩ Q:=
 K1 hl c co hs.perm hn kk
theorem NF {f:FuncId} {x:Operand} {args:List Operand} {ts:Array TypeId} {vw l l' lc:List AV} {h0 hr:Heap} {Qc:AV→Heap→Prop} [bb P f] (hx:dk tm x=some (.func (.func f) vw)) (hl:Au tm args=some l) (VQ:sa (l++vw)=some lc) (c:aB P f l' h0 Qc) (co:yP hp lc l') (hs:Hc hp h0 hr) (hn:Nat.blt d n=true)
 (kk:∀ r h',Qc r h'→ae P all rest ⟨n,(d,r) :: tm,h'++hr⟩ Q):ae P all (⟨some d,.call {callee:=.value x,args:=args.toArray,argTypes:=ts},ty,pos,af,none⟩ :: rest) ⟨n,tm,hp⟩ Q:=
 IA hx hl c (by rw [lJ VQ];exact co) hs.perm hn kk
theorem aO {α:Type} {g:α→AV} {Xs:List α} {el:α} {t e:TypeId} {i:TypeInfo} {x y:Operand} {k:IntKind} {j:Int} {cs:List AV} {sz:Nat} [aA P t (.slice e)] [aN P e i] (hx:dk tm x=some (.list sz (Xs.map g))) (kM:Nat.beq i.size sz=true) (hy:dk tm y=some (.int k j))
 (hv:idx Xs j=some el) (h0:Nat.blt 0 sz=true) (hc:sa (g el).cells=some cs):QV P ⟨some d,.indexAddr t x y,ty,pos,af,none⟩ ⟨n,tm,hp⟩ (.mu cs):=by
 rw [← lJ hc]
 exact pH hx kM hy (Lc hv) h0
theorem bA {α:Type} {g:α→AV} {Xs:List α} {x:Operand} {t e:TypeId} {sz:Nat} [aA P t (.slice e)] (hx:dk tm x=some (.list sz (Xs.map g))):QV P ⟨some d,.call {callee:=.builtin .len,args:=#[x],argTypes:=#[t]},ty,pos,af,none⟩ ⟨n,tm,hp⟩ (.int .i64 (Xs.length:Nat)):=by
 have h:=BL (P:=P) (d:=d) (ty:=ty) (pos:=pos) (af:=af) (n:=n) (tm:=tm) (hp:=hp) (t:=t) (e:=e) hx
 rw [List.length_map] at h
 exact h
theorem SQ {k:IntKind} {xt yt:TypeId} {x y:Operand} {i j:Int} (hx:dk tm x=some (.int k i)) (hy:dk tm y=some (.int k j)) (h0:j≠0):QV P ⟨some d,.binOp .quo xt x y yt,ty,pos,af,none⟩ ⟨n,tm,hp⟩ (.int k (k.wrap (i.tdiv j))):=
 wy hx hy (v:=.int k (k.wrap (i.tdiv j))) (fun w=>by simp [binOp,Op.intDiv,h0]) (fun w S=>.int _ _)
theorem P4 {xt yt:TypeId} {x y:Operand} {i j r:Int} (hx:dk tm x=some (.int .i64 i)) (hy:dk tm y=some (.int .i64 j)) (h:quo i j=some r):QV P ⟨some d,.binOp .quo xt x y yt,ty,pos,af,none⟩ ⟨n,tm,hp⟩ (.int .i64 r):=by
 obtain ⟨h0,rfl⟩:=Ld h
 exact SQ hx hy h0
theorem Lf {k:IntKind} {xt yt:TypeId} {x y:Operand} {i j r:Int} (hx:dk tm x=some (.int k i)) (hy:dk tm y=some (.int k j)) (h:rem i j=some r):QV P ⟨some d,.binOp .rem xt x y yt,ty,pos,af,none⟩ ⟨n,tm,hp⟩ (.int k r):=by
 obtain ⟨h0,rfl⟩:=Le h
 exact Sx hx hy h0
theorem uh {x y:Operand} {t:TypeId} {s:List UInt8} {k:IntKind} {i:Int} {c:UInt8} [aA P t .string] (hx:dk tm x=some (.str s)) (hy:dk tm y=some (.int k i)) (hc:idx s i=some c):QV P ⟨some d,.index t x y,ty,pos,af,none⟩ ⟨n,tm,hp⟩ (.int .u8 (c.toNat:Int)):=
 let ⟨h0,_,h⟩:=tw hc
 FM hx hy h0 h
theorem dt {α:Type} {g:α→AV} {Xs Ys Zs:List α} {t e:TypeId} {i:TypeInfo} {z:Value} {x y:Operand} {src:AV} {b:Bk} {len sz:Nat} {dR:Bk→Heap} [aA P t (.slice e)] [aN P e i] (hx:dk tm x=some (.sl sz b 0 len)) (hy:dk tm y=some src) (hz:i.zero=some z)
 (DW:Nat.beq z.cells.size i.size=true) (kM:Nat.beq i.size sz=true) (h0:Nat.blt 0 sz=true) (hn:Nat.blt d n=true) (Nz:Nat.ble i.bytes 65536=true) (hs:Src hp sz src (Ys.map g)) (hv:app Xs Ys=some Zs) (u:∀ b',oW hp b (.arr sz (Xs.map g)) b' (.arr sz (Zs.map g)) (dR b')) (hlen:len=Xs.length)
 (kk:∀ b':Bk,ae P all rest ⟨n,(d,.sl sz b' 0 Zs.length) :: tm,dR b'⟩ Q):ae P all (⟨some d,.call {callee:=.builtin .append,args:=#[x,y],argTypes:=#[t,t]},ty,pos,af,none⟩ :: rest) ⟨n,tm,hp⟩ Q:=by
 obtain ⟨hb,rfl⟩:=BX hv
 subst hlen
 refine Jo (xs:=Xs.map g) (ys:=Ys.map g) (dR:=dR) hx hy hz DW kM h0 hn Nz hs (by simpa using u) (by simp) (by simpa using hb) (fun b'=>?_)
 have:=kk b'
 simpa using this
end rules
theorem Ju {hp:Heap} {sz:Nat} {b:Bk} {α:Type} {g:α→AV} {Xs:List α} {len:Nat} (f:mf hp b (.arr sz (Xs.map g))∨mf hp b (.yG sz (Xs.map g))) (h:len=Xs.length):Src hp sz (.sl sz b 0 len) (Xs.map g):=
 .whole b len _ f (by simpa using h)
end Go.Eng
