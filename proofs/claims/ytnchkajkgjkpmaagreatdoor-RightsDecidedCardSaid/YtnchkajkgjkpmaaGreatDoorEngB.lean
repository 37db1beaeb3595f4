/- The engine: abstract values, the symbolic heap, one rule for each operation. No program in sight. -/
import Derived.Test.YtnchkajkgjkpmaaGreatDoorEngA
set_option linter.unusedVariables false
set_option linter.unusedSectionVars false
namespace Go.Eng
open Go
variable [bc]
theorem Ed {tm:List (Nat×AV)}:∀ {parts:List (Nat×Operand)} {k:Nat} {xs:List AV},Mg tm parts k=some xs→xs.length=parts.length
 | [],k,xs,h=>by simp [Mg] at h;subst h;rfl
 | (i,x) :: parts,k,xs,h=>by
   simp only [Mg] at h
   split at h
   ·rename_i a l h1 h2 h3
    obtain rfl:=Option.some.inj h
    simp [Ed h3]
   ·cases h
section rules
variable {P:Program} {all:Array Oper} {rest:List Oper} {n:Nat} {tm:List (Nat×AV)} {hp:Heap} {Q:St→Prop} {d:Nat} {ty:TypeId} {pos:String} {af:Array Edge}
theorem FG {t e:TypeId} {i:TypeInfo} {z:Value} {len:Nat} {parts:List (Nat×Operand)} {xs:List AV} [ay P t (.slice e)] [aO P e i] (hz:i.zero=some z) (hl:Mg tm parts 0=some xs) (hlen:Nat.beq parts.length len=true) (yp:yq i.size xs=true)
 (KH:Nat.ble (len * i.size) 16777216=true) (hn:Nat.blt d n=true) (kk:ARun P all rest ⟨n,(d,.list i.size xs) :: tm,hp⟩ Q):ARun P all (⟨some d,.buildSlice t len parts.toArray,ty,pos,af,none⟩ :: rest) ⟨n,tm,hp⟩ Q:=by
 refine A8 hz hl hlen yp KH hn (fun b=>ARun.ghost (ImpX.freeze .here (ImpX.co (s:=d) (av:=.sl i.size b 0 len) (by simp [lk]) (.A0 i.size b len xs .here ?_) ?_)))
 ·rw [Ed hl];exact (Nat.eq_of_beq_eq_true hlen).symm
 ·refine ImpX.step (Ge:=⟨n,(d,.list i.size xs) :: tm,hp⟩) (fun w S a r=>⟨_,S,rfl,r.less ⟨rfl,fun s av h=>?_,List.sublist_cons_self _ _⟩,lB.less (lB.refl w S _) fun _ hm=>hm.sub (List.sublist_cons_self _ _)⟩) (ImpX.here kk)
  simp only [lk] at h ⊢
  split at h
  ·exact h
  ·exact h
inductive Mj (tm:List (Nat×AV)):Option Operand→Option Int→Prop
 | none:Mj tm none none
 | some (x:Operand) (k:IntKind) (i:Int) (h:dh tm x=some (.int k i)):Mj tm (some x) (some i)
def pB:Option Int→Int
 | none=>0
 | some i=>i
def oA (len:Nat):Option Int→Int
 | none=>len
 | some i=>i
theorem Ax {w:World} {S:Nat→Prop} {σ:St} {a:Act} (r:eC w S σ a) {lo hi:Option Operand} {l h:Option Int} (hl:Mj σ.tm lo l) (hh:Mj σ.tm hi h) (Rl:Bool) (len cap:Nat) (h0:0≤pB l) (h1:pB l≤oA len h) (h2:oA len h≤len) (hc:len≤cap) (w':World):
 (Instr.sliceBounds Rl len cap (lo.map a.eval) (hi.map a.eval) none).run P w'=.ok ((pB l).toNat,(oA len h).toNat,cap) w':=by
 cases hl with
 | none=>
   cases hh with
   | none=>simp [Instr.sliceBounds,pB,oA]
   | some x k i hx=>
     simp only [pB,oA] at *
     have:i≤(cap:Int):=by omega
     simp [Instr.sliceBounds,Instr.sliceBound,(bg r hx).gy,asIntOf,h1,this]
 | some x k i hx=>
   cases hh with
   | none=>
     simp only [pB,oA] at *
     simp [Instr.sliceBounds,Instr.sliceBound,(bg r hx).gy,asIntOf,h0,h1]
   | some y k' i' hy=>
     simp only [pB,oA] at *
     have e1:i'≤(cap:Int):=by omega
     have e2:0≤i':=by omega
     have e3:i≤(i'.toNat:Int):=by omega
     simp [Instr.sliceBounds,Instr.sliceBound,(bg r hx).gy,(bg r hy).gy,asIntOf,h0,e1,e2]
     intro nD
     omega
theorem Hr (s:List UInt8) (l h:Nat):(⟨s.toArray⟩:ByteArray).extract l h=⟨((s.drop l).take (h - l)).toArray⟩:=by
 have e:=ByteArray.data_extract (a:=(⟨s.toArray⟩:ByteArray)) (b:=l) (e:=h)
 cases hx:(⟨s.toArray⟩:ByteArray).extract l h with
 | mk da=>
   rw [hx] at e
   simp only at e
   rw [e]
   congr 1
   apply Array.ext'
   simp
theorem IZ {t:TypeId} {x:Operand} {lo hi:Option Operand} {l h:Option Int} {s:List UInt8} [ay P t .string] (hx:dh tm x=some (.str s)) (hl:Mj tm lo l) (hh:Mj tm hi h) (h0:0≤pB l) (h1:pB l≤oA s.length h) (h2:oA s.length h≤s.length):
 QV P ⟨some d,.slice t x lo hi none,ty,pos,af,none⟩ ⟨n,tm,hp⟩ (.str ((s.drop (pB l).toNat).take ((oA s.length h).toNat - (pB l).toNat))):=by
 intro w S a r
 refine ⟨.string ((⟨s.toArray⟩:ByteArray).extract (pB l).toNat (oA s.length h).toNat),fun w1 _=>?_,by rw [Hr];exact .str _⟩
 have hb:=Ax (P:=P) (σ:=⟨n,tm,hp⟩) r hl hh false s.length s.length h0 h1 h2 (Nat.le_refl _) w1
 simp [execOp,Instr.sliceAt,run_underlying (ay.h (P:=P) (t:=t)),Instr.slice,(bg (σ:=⟨n,tm,hp⟩) r hx).dz,Hn,hb]
theorem KV {t e:TypeId} {i:TypeInfo} {x:Operand} {lo hi:Option Operand} {l h:Option Int} {sz off len:Nat} {b:Bk} [ay P t (.slice e)] [aO P e i] (hx:dh tm x=some (.sl sz b off len)) (jX:Nat.beq i.size sz=true) (hl:Mj tm lo l) (hh:Mj tm hi h) (h0:0≤pB l) (h1:pB l≤oA len h) (h2:oA len h≤len):
 QV P ⟨some d,.slice t x lo hi none,ty,pos,af,none⟩ ⟨n,tm,hp⟩ (.sl sz b (off+(pB l).toNat) ((oA len h).toNat - (pB l).toNat)):=by
 intro w S a r
 obtain rfl:i.size=sz:=Nat.eq_of_beq_eq_true jX
 obtain ⟨oa,cap,e1,e2⟩:=(bg (σ:=⟨n,tm,hp⟩) r hx).wi
 have O1:len≤cap:=by rcases e2 with ⟨_,_,hl,_,_⟩ | ⟨m,hb,_,g1,g2⟩ | ⟨m,ad,hb,_,hl,_⟩<;>omega
 refine ⟨.slice (if cap=(pB l).toNat then oa else oa.map (·.add ((pB l).toNat * i.size))) ((oA len h).toNat - (pB l).toNat) (cap - (pB l).toNat),fun w1 _=>?_,?_⟩
 ·have hb:=Ax (P:=P) (σ:=⟨n,tm,hp⟩) r hl hh true len cap h0 h1 h2 O1 w1
  simp [execOp,Instr.sliceAt,run_underlying (ay.h (P:=P) (t:=t)),Instr.slice,e1,hb,sizeOf,typeInfo,aO.h (P:=P) (t:=e)]
 ·rcases e2 with ⟨hb,ho,hln,rfl,hcp⟩ | ⟨m,hb,rfl,g1,g2⟩ | ⟨m,ad,hb,rfl,hln,hcp⟩
  ·have TL:(pB l).toNat=0:=by omega
   have TN:(oA len h).toNat=0:=by omega
   rw [TL,TN,ho,hcp]
   exact .Cd i.size b hb
  ·by_cases Gh:cap=(pB l).toNat
   ·rw [if_pos Gh]
    have hz:(oA len h).toNat - (pB l).toNat=0:=by omega
    rw [hz,show cap - (pB l).toNat=0 from by omega]
    exact .RA i.size b _ m _ hb
   ·rw [if_neg Gh]
    have:=At.sl (w:=w) (S:=S) i.size b (off+(pB l).toNat) ((oA len h).toNat - (pB l).toNat) m (cap - (pB l).toNat) hb (by omega) (by omega)
    rw [Nat.add_mul] at this
    simpa [pk] using this
  ·have TL:(pB l).toNat=0:=by omega
   have TN:(oA len h).toNat=0:=by omega
   rw [TL,TN,hcp,if_pos rfl]
   exact .RA i.size b _ m ad hb
end rules
end Go.Eng
set_option linter.unusedVariables false
set_option linter.unusedSectionVars false
namespace Go.Eng
open Go
variable [bc]
section
variable {P:Program} {all:Array Oper} {rest:List Oper} {σ:St} {Q:St→Prop} {dd:Option Nat} {ty:TypeId} {pos:String} {af:Array Edge}
end
end Go.Eng
set_option linter.unusedVariables false
set_option linter.unusedSectionVars false
namespace Go.Eng
open Go
variable [bc]
theorem I0 {sz:Nat} {x y:AV}:∀ {xs:List AV} {q:Nat},(∀ x∈xs,El sz x)→El sz y→xs[q]? =some x→flat (xs.set q y)=(flat xs).take (q * sz)++y.cells++(flat xs).drop (q * sz+sz)
 | [],q,_,_,h=>by simp at h
 | z :: xs,0,hs,hy,h=>by
   have hz:=(hs z (by simp)).1
   rw [List.set_cons_zero,jM,jM]
   simp only [Nat.zero_mul,List.take_zero,List.nil_append,Nat.zero_add]
   rw [List.drop_left' hz]
 | z :: xs,q+1,hs,hy,h=>by
   have hz:=(hs z (by simp)).1
   simp only [List.getElem?_cons_succ] at h
   rw [List.set_cons_succ,jM,jM,I0 (fun a ha=>hs a (by simp [ha])) hy h]
   have e1:(q+1) * sz=sz+q * sz:=by rw [Nat.add_mul,Nat.one_mul];omega
   rw [e1,List.take_append,List.take_of_length_le (l:=z.cells) (by omega),hz,Nat.add_sub_cancel_left,List.drop_append,List.drop_of_length_le (l:=z.cells) (by omega),hz]
   rw [show sz+q * sz+sz - sz=q * sz+sz from by omega]
   simp [List.append_assoc]
theorem Mk {w:World} {S:Nat→Prop} {cs new:List AV} {vs uv:Array Value} (o:Nat) (hl:cs.length≤vs.size) (h:nX w S cs vs) (Cf:new.length=uv.size) (h':nX w S new uv) (ho:o+new.length≤cs.length):
 nX w S (cs.take o++new++cs.drop (o+new.length)) (vs.toList.take o++uv.toList++vs.toList.drop (o+uv.toList.length)).toArray:=by
 intro i c v hc hv
 simp only [List.getElem?_toArray] at hc hv
 have l1:(cs.take o).length=o:=by simp;omega
 have l2:(vs.toList.take o).length=o:=by simp;omega
 have l3:uv.toList.length=new.length:=by simp [Cf]
 rw [List.append_assoc] at hc hv
 by_cases h1:i < o
 ·rw [List.getElem?_append_left (by omega)] at hc hv
  rw [List.getElem?_take,if_pos h1] at hc hv
  exact h i c v hc (by simpa using hv)
 ·rw [List.getElem?_append_right (by omega)] at hc hv
  rw [l1] at hc
  rw [l2] at hv
  by_cases h2:i - o < new.length
  ·rw [List.getElem?_append_left (by omega)] at hc hv
   exact h' (i - o) c v hc (by simpa using hv)
  ·rw [List.getElem?_append_right (by omega)] at hc hv
   rw [l3] at hv
   rw [List.getElem?_drop] at hc hv
   rw [show o+new.length+(i - o - new.length)=i from by omega] at hc hv
   exact h i c v hc (by simpa using hv)
section rules
variable {P:Program} {all:Array Oper} {rest:List Oper} {n:Nat} {tm:List (Nat×AV)} {hp:Heap} {Q:St→Prop} {d:Nat} {ty:TypeId} {pos:String} {af:Array Edge}
theorem Aw.refl (l:List AV):Aw hp l l:=by
 induction l with
 | nil=>exact .nil
 | cons a l ih=>exact .cons (.refl a) ih
def Pu (P:Program) (f:FuncId) (args:List AV) (R:AV):Prop:=ACall P f args [] (fun r _=>r=R)
theorem aA {f:FuncId} {args:List Operand} {ts:Array TypeId} {l l':List AV} {R:AV} [aZ P f] (hl:B6 tm args=some l) (c:Pu P f l' R) (co:Aw hp l l') (hn:Nat.blt d n=true)
 (kk:ARun P all rest ⟨n,(d,R) :: tm,hp⟩ Q):ARun P all (⟨some d,.call {callee:=.value (.func f),args:=args.toArray,argTypes:=ts},ty,pos,af,none⟩ :: rest) ⟨n,tm,hp⟩ Q:=by
 refine RN hl c co hn (fun r h' hr=>?_)
 subst hr
 exact ARun.weaken (aB:=⟨n,(d,r) :: tm,hp⟩) ⟨rfl,fun _ _ h=>h,List.sublist_append_right _ _⟩ kk
theorem dc {f:FuncId} {args:List Operand} {ts:Array TypeId} {l l':List AV} {R:AV} [aZ P f] (hl:B6 tm args=some l) (c:Pu P f l' R) (co:wm hp l l') (hn:Nat.blt d n=true) (hR:R.Wi=true)
 (kk:ARun P all rest ⟨n,(d,R) :: tm,hp⟩ Q):ARun P all (⟨some d,.call {callee:=.value (.func f),args:=args.toArray,argTypes:=ts},ty,pos,af,none⟩ :: rest) ⟨n,tm,hp⟩ Q:=
 RQ hl c co hn (fun r h' hr=>by subst hr;exact ⟨hR,kk⟩)
theorem tG {f:FuncId} {x:Operand} {args:List Operand} {ts:Array TypeId} {ue l l':List AV} {R:AV} [aZ P f] (hx:dh tm x=some (.func (.func f) ue)) (hl:B6 tm args=some l) (c:Pu P f l' R) (co:Aw hp (l++ue) l') (hn:Nat.blt d n=true)
 (kk:ARun P all rest ⟨n,(d,R) :: tm,hp⟩ Q):ARun P all (⟨some d,.call {callee:=.value x,args:=args.toArray,argTypes:=ts},ty,pos,af,none⟩ :: rest) ⟨n,tm,hp⟩ Q:=by
 refine Mi hx hl c co (List.Perm.refl _) hn (fun r h' hr=>?_)
 subst hr
 exact ARun.weaken (aB:=⟨n,(d,r) :: tm,hp⟩) ⟨rfl,fun _ _ h=>h,List.sublist_append_right _ _⟩ kk
end rules
inductive RV (P:Program) (σ:St):ResultVar→AV→Prop
 | tmp (t:Nat) (av:AV) (h:lk σ.tm t=some av):RV P σ (.tmp t) av
 | all (p ty:Nat) (b:Bk) (cs:List AV) (D:TypeDesc) (i:TypeInfo) (h:lk σ.tm p=some (.ptr b 0)) (f:ox σ.hp b (.cells cs)) (hu:P.underlying ty=some D) (hi:P.info? ty=some i) (hD:TypeDesc.ma D=true) (hs:Nat.beq cs.length i.size=true):RV P σ (.cell p ty) (.agg cs)
 | one (p ty:Nat) (b:Bk) (cs:List AV) (av:AV) (D:TypeDesc) (h:lk σ.tm p=some (.ptr b 0)) (f:ox σ.hp b (.cells cs)) (hu:P.underlying ty=some D) (hD:TypeDesc.ma D=false) (hs:cs[0]? =some av):RV P σ (.cell p ty) av
def Ee (tmps:Array Value):ResultVar→Sem Value
 | .tmp t=>pure (tmps.getD t undef)
 | .cell a t=>do loadVar t (← asAddr (tmps.getD a undef))
theorem RV.run {P:Program} {σ:St} {rv:ResultVar} {av:AV} (h:RV P σ rv av) {w:World} {S:Nat→Prop} {a:Act} (r:eC w S σ a):∃ v,(Ee a.tmps rv).run P w=.ok v w∧At w S av v:=by
 cases h with
 | tmp t av h=>
   obtain ⟨v,h1,h2⟩:=r.tm t _ h
   exact ⟨v,by simp [Ee,h1],h2⟩
 | all p ty b cs D i h f hu hi hD hs=>
   obtain ⟨v,h1,h2⟩:=r.tm p _ h
   obtain ⟨m,e1,rfl⟩:=h2.uC
   obtain ⟨_,m',vs,E,g1,g2,g3,g4⟩:=uM r.hp f
   obtain rfl:m'=m:=by rw [g1] at e1;exact Option.some.inj e1
   have hlen:vs.toList.length=i.size:=by simp [g3];exact Nat.eq_of_beq_eq_true hs
   refine ⟨.agg vs,?_,.agg cs vs g3.symm g4⟩
   have:=mX (P:=P) hu hD hi (w:=w) (ad:=⟨m',0,none⟩) (vs:=vs.toList) hlen (fun j v hv=>by rw [pk,o4 g2];simpa using hv)
   simp [Ee,h1,asAddr,this]
 | one p ty b cs av D h f hu hD hs=>
   obtain ⟨v,h1,h2⟩:=r.tm p _ h
   obtain ⟨m,e1,rfl⟩:=h2.uC
   obtain ⟨_,m',vs,E,g1,g2,g3,g4⟩:=uM r.hp f
   obtain rfl:m'=m:=by rw [g1] at e1;exact Option.some.inj e1
   have nD:0 < vs.size:=by rw [g3];exact (List.getElem?_eq_some_iff.1 hs).1
   have hv:vs[0]? =some vs[0]:=by simp [nD]
   refine ⟨vs[0],?_,g4 0 av _ hs hv⟩
   have:=pW (P:=P) hu hD (w:=w) (ad:=⟨m',0,none⟩) (v:=vs[0]) (by rw [o4 g2,hv])
   simp [Ee,h1,asAddr,this]
inductive Rs (P:Program) (σ:St):List ResultVar→List AV→Prop
 | nil:Rs P σ [] []
 | cons {v:ResultVar} {l:List ResultVar} {a:AV} {as:List AV} (h:RV P σ v a) (k:Rs P σ l as):Rs P σ (v :: l) (a :: as)
def CM:List AV→AV
 | [a]=>a
 | as=>.pj as
theorem Rs.run {P:Program} {σ:St} {w:World} {S:Nat→Prop} {a:Act} (r:eC w S σ a):∀ {l:List ResultVar} {as:List AV},Rs P σ l as→∃ vs,(l.mapM (Ee a.tmps)).run P w=.ok vs w∧as.length=vs.length∧∀ (i:Nat) c v,as[i]? =some c→vs[i]? =some v→At w S c v
 | [],_,.nil=>⟨[],by simp,rfl,fun i c v hc=>by simp at hc⟩
 | x :: l,_,.cons (a:=av) (as:=as) h k=>by
   obtain ⟨v,h1,h2⟩:=h.run r
   obtain ⟨vs,g1,g2,g3⟩:=Rs.run r k
   refine ⟨v :: vs,by simp [h1,g1],by simp [g2],fun i c u hc hu=>?_⟩
   match i with
   | 0=>simp at hc hu;subst hc;subst hu;exact h2
   | i+1=>exact g3 i c u (by simpa using hc) (by simpa using hu)
theorem I1 {P:Program} {fn:Func} {l:List ResultVar} {σ:St} {as:List AV} (hf:fn.results=l.toArray) (h:Rs P σ l as) {w:World} {S:Nat→Prop} {a:Act} (r:eC w S σ a):∃ v,(results fn a.tmps).run P w=.ok v w∧At w S (CM as) v:=by
 obtain ⟨vs,g1,g2,g3⟩:=h.run r
 have hm:results fn a.tmps=(do let vs ← Functor.map List.toArray (l.mapM (Ee a.tmps));pure (if h:vs.size=1 then vs[0] else .tuple vs)):=by
  have aa2:(fun (x:ResultVar)=>(match x with | .tmp t=>pure (a.tmps.getD t undef) | .cell p t=>do loadVar t (← asAddr (a.tmps.getD p undef)):Sem Value))=Ee a.tmps:=by
   funext x
   cases x<;>rfl
  unfold results
  rw [hf,List.mapM_toArray]
  rw [← aa2]
  rfl
 refine ⟨if h:vs.toArray.size=1 then vs.toArray[0] else .tuple vs.toArray,?_,?_⟩
 ·rw [hm,Sem.run_bind,Sem.run_map,g1]
  rfl
 ·clear h hm g1
  match as,vs,g2,g3 with
  | [],[],_,_=>simp [CM];exact .pj [] _ rfl (fun i c v hc=>by simp at hc)
  | [x],[v],_,g3=>simp [CM];exact g3 0 x v rfl rfl
  | x :: y :: as,v :: u :: vs,hl,g3=>simp [CM];exact .pj _ _ (by simpa using hl) (fun i c v hc hv=>g3 i c v hc (by simpa using hv))
theorem ACall.Xx {P:Program} {f:FuncId} {fn:Func} {c:Code} {args:List AV} {h:Heap} {Q:AV→Heap→Prop} {n:Nat} {l:List ResultVar} (hf:P.funcs[f]? =some fn) (hb:fn.body=some c) (hn:fn.ntmps=n) (UG:fn.results=l.toArray)
 (hle:Nat.ble args.length n=true) (kk:ATodo P (fun σ=>ImpX σ (fun aB=>∃ as,Rs P aB l as∧Q (CM as) aB.hp)) [.code c] ⟨n,RC args 0,h⟩):ACall P f args h Q:=by
 intro w S vs hr hl ha
 refine calls_of_wp hf hb ?_
 have r0:eC w S ⟨n,RC args 0,h⟩ {tmps:=vs++Array.replicate (fn.ntmps - vs.size) undef,defers:=[]}:=by
  have:=Nat.le_of_ble_eq_true hle
  refine ⟨by simp [hn];omega,rfl,fun s av hs=>?_,hr⟩
  obtain ⟨_,h2⟩:=OS args 0 s av hs
  simp only [Nat.sub_zero] at h2
  have nD:s < args.length:=(List.getElem?_eq_some_iff.1 h2).1
  have Xy:s < vs.size:=by omega
  refine ⟨vs[s],by simp [Array.getElem?_append,Xy],ha s av _ h2 (by simp [Xy])⟩
 refine wp_mono (kk w S _ r0) ?_
 rintro e a' w' ⟨aB,S',h1,h2,h3⟩
 have fin:ImpX aB (fun Ni=>∃ as,Rs P Ni l as∧Q (CM as) Ni.hp)→a'.defers=[]∧∃ v,(results fn a'.tmps).run P w'=.ok v w'∧∃ v' r h' S',(Ending.returned v:Ending)=.returned v'∧Q r h'∧At w' S' r v'∧dw w' S' h'∧lB w S h w' S' h':=by
  intro hi
  obtain ⟨IN,S2,⟨as,Xz,hq⟩,g2,g3⟩:=hi w' S' a' h2
  obtain ⟨v,Y8,Zb⟩:=I1 UG Xz g2
  exact ⟨g2.defers,v,Y8,v,CM as,IN.hp,S2,rfl,hq,Zb,g2.hp,h3.trans g3⟩
 cases e with
 | normal=>exact fin h1
 | ret=>exact fin h1
 | exit id=>exact h1.elim
 | goto l=>exact h1.elim
 | panic c=>exact h1.elim
 | outgrown=>exact h1.elim
end Go.Eng
set_option linter.unusedVariables false
set_option linter.unusedSectionVars false
namespace Go.Eng
open Go
variable [bc]
inductive HS:Heap→Heap→Prop
 | nil {h:Heap}:HS h []
 | cons {h h1 t:Heap} {b:Bk} {o:Ob} (u:zB h b o h1) (k:HS h1 t):HS h ((b,o) :: t)
theorem HS.perm {h t:Heap} (s:HS h t):∃ r,h.Perm (t++r):=by
 induction s with
 | nil=>exact ⟨_,List.Perm.refl _⟩
 | cons u k ih=>
   obtain ⟨r,hr⟩:=ih
   exact ⟨r,u.perm.trans (List.Perm.cons _ hr)⟩
theorem ImpX.XA {n:Nat} {tm sZ:List (Nat×AV)} {hp eV:Heap} {T:St→Prop} (h:Gn tm sZ) (hs:HS hp eV) (k:ImpX ⟨n,sZ,eV⟩ T):ImpX ⟨n,tm,hp⟩ T:=by
 obtain ⟨r,hr⟩:=hs.perm
 refine ImpX.step (Ge:=⟨n,sZ,eV⟩) (fun w S a rel=>⟨_,S,rfl,⟨rel.size,rel.defers,fun s av hh=>rel.tm s av (h.lk s av hh),(rel.hp.perm hr).sub (List.sublist_append_left _ _)⟩,lB.less (lB.refl w S hp) fun m hm=>?_⟩) k
 obtain ⟨e,he,hb⟩:=hm
 exact ⟨e,hr.mem_iff.2 (List.mem_append_left _ he),hb⟩
abbrev I (n:Int):AV:=.int .i64 n
section rules
variable {P:Program} {all:Array Oper} {rest:List Oper} {n:Nat} {tm:List (Nat×AV)} {hp:Heap} {Q:St→Prop} {d:Nat} {ty:TypeId} {pos:String} {af:Array Edge}
end rules
section rules
variable {P:Program} {all:Array Oper} {rest:List Oper} {n:Nat} {tm:List (Nat×AV)} {hp:Heap} {Q:St→Prop} {d:Nat} {ty:TypeId} {pos:String} {af:Array Edge}
theorem Nj {t e:TypeId} {i:TypeInfo} {z:Value} {x y:Operand} {src:AV} {b:Bk} {len sz:Nat} {xs ys:List AV} {eV:Bk→Heap} [ay P t (.slice e)] [aO P e i] (hx:dh tm x=some (.sl sz b 0 len)) (hy:dh tm y=some src) (hz:i.zero=some z)
 (Gm:Nat.beq z.cells.size i.size=true) (jX:Nat.beq i.size sz=true) (h0:Nat.blt 0 sz=true) (hn:Nat.blt d n=true) (RR:Nat.ble i.bytes 65536=true) (hs:Src hp sz src ys) (u:∀ b',qW hp b (.arr sz xs) b' (.arr sz (xs++ys)) (eV b')) (hlen:len=xs.length)
 (hb:xs.length+ys.length≤1000000000)
 (kk:∀ b':Bk,ARun P all rest ⟨n,(d,.sl sz b' 0 (len+ys.length)) :: tm,eV b'⟩ Q):ARun P all (⟨some d,.call {callee:=.builtin .append,args:=#[x,y],argTypes:=#[t,t]},ty,pos,af,none⟩ :: rest) ⟨n,tm,hp⟩ Q:=by
 refine OZ hx hy hz Gm jX h0 hn hs u hlen ?_ (by omega) kk
 have h1:=Nat.le_of_ble_eq_true RR
 have:=Nat.mul_le_mul hb h1
 omega
end rules
def tH:List AV→Option (List AV)
 | []=>some []
 | x :: r=>match tH r with
   | some l=>some (x :: l)
   | none=>none
theorem mY:∀ {l l':List AV},tH l=some l'→l=l'
 | [],l',h=>by simp [tH] at h;exact h.symm
 | x :: r,l',h=>by
   simp only [tH] at h
   split at h
   ·rename_i l hl
    obtain rfl:=Option.some.inj h
    rw [mY hl]
   ·cases h
def O2:List AV→Nat→Option (List (Nat×AV))
 | [],_=>some []
 | x :: r,i=>match O2 r (i+1) with
   | some l=>some ((i,x) :: l)
   | none=>none
theorem Ml:∀ {l:List AV} {i:Nat} {l':List (Nat×AV)},O2 l i=some l'→RC l i=l'
 | [],i,l',h=>by simp [O2] at h;simpa [RC] using h
 | x :: r,i,l',h=>by
   simp only [O2] at h
   split at h
   ·rename_i l hl
    obtain rfl:=Option.some.inj h
    rw [RC,Ml hl]
   ·cases h
class lC (P:Program) (t:TypeId) (sz:outParam Nat):Prop where
 h:∃ i,P.info? t=some i∧i.size=sz
theorem ACall.aQ {P:Program} {f:FuncId} {fn:Func} {c:Code} {args:List AV} {h:Heap} {Q:AV→Heap→Prop} {n:Nat} {l:List ResultVar} {tm:List (Nat×AV)} (hf:P.funcs[f]? =some fn) (hb:fn.body=some c) (hn:fn.ntmps=n) (UG:fn.results=l.toArray)
 (RS:O2 args 0=some tm) (hle:Nat.ble args.length n=true) (kk:ATodo P (fun σ=>ImpX σ (fun aB=>∃ rs,Rs P aB l rs∧Q (CM rs) aB.hp)) [.code c] ⟨n,tm,h⟩):ACall P f args h Q:=
 ACall.Xx hf hb hn UG hle (by rw [Ml RS];exact kk)
section rules
variable {P:Program} {all:Array Oper} {rest:List Oper} {n:Nat} {tm:List (Nat×AV)} {hp:Heap} {Q:St→Prop} {d:Nat} {ty:TypeId} {pos:String} {af:Array Edge}
theorem bO {x:Operand} {E:TypeId} {av:AV} {cs:List AV} (hx:dh tm x=some av) (hc:tH av.cells=some cs) (h1:lD cs=true) (hn:Nat.blt d n=true)
 (kk:∀ b:Bk,ARun P all rest ⟨n,(d,.ptr b 0) :: tm,(b,.cells cs) :: hp⟩ Q):ARun P all (⟨some d,.box E x,ty,pos,af,none⟩ :: rest) ⟨n,tm,hp⟩ Q:=by
 obtain rfl:=mY hc
 exact Xr hx h1 hn kk
theorem bn {E:TypeId} {i:TypeInfo} {z:Value} {cs:List AV} [aO P E i] (hz:i.zero=some z) (hc:tH (D7 z).cells=some cs) (h1:lD cs=true) (hn:Nat.blt d n=true)
 (kk:∀ b:Bk,ARun P all rest ⟨n,(d,.ptr b 0) :: tm,(b,.cells cs) :: hp⟩ Q):ARun P all (⟨some d,.alloc E,ty,pos,af,none⟩ :: rest) ⟨n,tm,hp⟩ Q:=by
 obtain rfl:=mY hc
 exact RG hz h1 hn kk
theorem an {x:Operand} {s:TypeId} {j off:Nat} {b:Bk} {o o':Nat} [oy P s j off] (hx:dh tm x=some (.ptr b o)) (ho:o+off=o'):QV P ⟨some d,.fieldAddr s x j,ty,pos,af,none⟩ ⟨n,tm,hp⟩ (.ptr b o'):=by
 subst ho
 exact IS hx
theorem bJ {x:Operand} {s:TypeId} {j off:Nat} {cs oz:List AV} [oy P s j off] (hx:dh tm x=some (.ik cs)) (hc:tH (cs.drop off)=some oz):QV P ⟨some d,.fieldAddr s x j,ty,pos,af,none⟩ ⟨n,tm,hp⟩ (.ik oz):=by
 obtain rfl:=mY hc
 exact Hp hx
theorem aU {t:TypeId} {D:TypeDesc} {i:TypeInfo} {x:Operand} {b:Bk} {o:Nat} {cs oz:List AV} [ay P t D] [aO P t i] (hD:TypeDesc.ma D=true) (hx:dh tm x=some (.ptr b o)) (f:ox hp b (.cells cs)) (ho:Nat.ble (o+i.size) cs.length=true) (hc:tH ((cs.drop o).take i.size)=some oz):
 QV P ⟨some d,.load t x,ty,pos,af,none⟩ ⟨n,tm,hp⟩ (.agg oz):=by
 obtain rfl:=mY hc
 exact Df hD hx f ho
theorem bl {t:TypeId} {i:TypeInfo} {z:Value} {parts:List (Nat×Operand)} {l:List (Nat×AV)} {cs oz:List AV} {pl:List (Nat×Nat)} [aO P t i] [kN P t pl] (hz:i.zero=some z) (hl:Wf tm parts=some l) (h1:lD (D7 z).cells=true)
 (hc:Gj pl (D7 z).cells l=some cs) (OD:tH cs=some oz):QV P ⟨some d,.build t parts.toArray,ty,pos,af,none⟩ ⟨n,tm,hp⟩ (.agg oz):=by
 obtain rfl:=mY OD
 exact RI hz hl h1 hc
theorem au {t:TypeId} {i:TypeInfo} {x y:Operand} {b:Bk} {o:Nat} {cs oz:List AV} {av:AV} {eV:Heap} [aO P t i] (hx:dh tm x=some (.ptr b o)) (hy:dh tm y=some av) (h1:lD av.cells=true) (jX:Nat.beq av.cells.length i.size=true)
 (u:qW hp b (.cells cs) b (.cells oz) eV) (hc:tH (pn cs o av.cells)=some oz) (ho:Nat.ble (o+av.cells.length) cs.length=true) (kk:ARun P all rest ⟨n,tm,eV⟩ Q):ARun P all (⟨none,.store t x y,ty,pos,af,none⟩ :: rest) ⟨n,tm,hp⟩ Q:=by
 obtain rfl:=mY hc
 exact IT hx hy h1 jX u ho kk
theorem aC {t e:TypeId} {i:TypeInfo} {z:Value} {len sz:Nat} {parts:List (Nat×Operand)} {xs:List AV} [ay P t (.slice e)] [aO P e i] [lC P e sz] (hz:i.zero=some z) (hl:Mg tm parts 0=some xs) (hlen:Nat.beq parts.length len=true) (yp:yq i.size xs=true)
 (KH:Nat.ble (len * i.size) 16777216=true) (hn:Nat.blt d n=true) (kk:ARun P all rest ⟨n,(d,.list sz xs) :: tm,hp⟩ Q):ARun P all (⟨some d,.buildSlice t len parts.toArray,ty,pos,af,none⟩ :: rest) ⟨n,tm,hp⟩ Q:=by
 obtain ⟨i',h1,h2⟩:=lC.h (P:=P) (t:=e)
 obtain rfl:i'=i:=by rw [aO.h (P:=P) (t:=e)] at h1;exact (Option.some.inj h1).symm
 subst h2
 exact FG hz hl hlen yp KH hn kk
theorem rf {t e:TypeId} {i:TypeInfo} {z:Value} {len sz:Nat} {parts:List (Nat×Operand)} {xs:List AV} [ay P t (.slice e)] [aO P e i] [lC P e sz] (hz:i.zero=some z) (hl:Mg tm parts 0=some xs) (hlen:Nat.beq parts.length len=true) (yp:yq i.size xs=true)
 (KH:Nat.ble (len * i.size) 16777216=true) (hn:Nat.blt d n=true) (kk:∀ b:Bk,ARun P all rest ⟨n,(d,.sl sz b 0 len) :: tm,(b,.arr sz xs) :: hp⟩ Q):ARun P all (⟨some d,.buildSlice t len parts.toArray,ty,pos,af,none⟩ :: rest) ⟨n,tm,hp⟩ Q:=by
 obtain ⟨i',h1,h2⟩:=lC.h (P:=P) (t:=e)
 obtain rfl:i'=i:=by rw [aO.h (P:=P) (t:=e)] at h1;exact (Option.some.inj h1).symm
 subst h2
 exact A8 hz hl hlen yp KH hn kk
end rules
end Go.Eng
set_option linter.unusedVariables false
set_option linter.unusedSectionVars false
namespace Go.Eng
open Go
variable [bc]
structure Grow (w:World) (S:Nat→Prop) (w':World) (S':Nat→Prop):Prop where
 ext:Ext w w'
 up:∀ n,S n→S' n
 down:∀ n,n < w.heap.size→S' n→S n
 slt:∀ n,S' n→n < w'.heap.size
theorem Grow.refl {w:World} {S:Nat→Prop} (h:∀ n,S n→n < w.heap.size):Grow w S w S:=⟨Ext.refl w,fun _ h=>h,fun _ _ h=>h,h⟩
theorem Grow.trans {a b c:World} {S T U:Nat→Prop} (h:Grow a S b T) (k:Grow b T c U):Grow a S c U:=
 ⟨h.ext.trans k.ext,fun n hn=>k.up n (h.up n hn),fun n hn hs=>h.down n hn (k.down n (Nat.lt_of_lt_of_le hn h.ext.size) hs),k.slt⟩
theorem Grow.mW {w w':World} {S S':Nat→Prop} (g:Grow w S w' S') (h:∀ n,S n→n < w.heap.size):∀ n,S n→S' n∧w'.heap[n]? =w.heap[n]?:=fun n hn=>⟨g.up n hn,g.ext.same n (h n hn)⟩
theorem dw.grow {w w':World} {S S':Nat→Prop} {h:Heap} (r:dw w S h) (g:Grow w S w' S'):dw w' S' h where
 nodup:=r.nodup
 holds e he:=(r.holds e he).mono (g.mW r.slt) (fun n hn=>g.ext.same n (r.lt ⟨e,he,hn⟩))
 sep e he n hn:=by
  rw [← r.sep e he n hn]
  exact ⟨g.down n (r.lt ⟨e,he,hn⟩),g.up n⟩
 slt:=g.slt
 ib t o ho:=⟨(g.mW r.slt t (r.ib t o ho).1).1,D2 (g.mW r.slt t (r.ib t o ho).1).2 (r.ib t o ho).2⟩
theorem Grow.evo {w w':World} {S S':Nat→Prop} (g:Grow w S w' S') (h:∀ n,S n→n < w.heap.size) (hp:Heap):lB w S hp w' S' hp:=
 ⟨g.ext.os,g.ext.tape,g.ext.output,g.ext.size,g.mW h,fun n hn _=>⟨g.ext.same n hn,g.down n hn⟩,fun _ hn=>.inl hn,g.ext.drawn⟩
def looks (all:Array Oper) (o:Oper):List Nat:=
 (o.op.operands.toList.filterMap fun | .tmp t=>some t | _=>none)++(match o.guard with | some (g,_)=>((all[g]?).bind (·.dst)).toList | none=>[])
abbrev Env:=Nat→Option AV
def Hs (w:World) (S:Nat→Prop) (ls:List Nat) (e:Env) (a:Act):Prop:=∀ s∈ls,∀ av,e s=some av→∃ v,a.tmps[s]? =some v∧At w S av v
def MV (P:Program) (all:Array Oper) (n:Nat) (o:Oper) (e:Env) (hp:Heap) (av:AV):Prop:=
 ∀ w S a,a.tmps.size=n→a.defers=[]→dw w S hp→Hs w S (looks all o) e a→∀ (K:Act→World→Prop) (Q:Exit→Act→World→Prop),
   (∀ v w' S',Grow w S w' S'→At w' S' av v→K (a.put o.dst v) w')→o.wp P a w K Q
def zC (e:Env) (d:Option Nat) (av:AV):Env:=match d with
 | some d=>fun s=>if d=s then some av else e s
 | none=>e
def qn (all:Array Oper) (o:Oper) (e:Env) (b:Bool):Prop:=
 match o.guard with
 | none=>b=true
 | some (j,want)=>∃ s,(all[j]?).bind (·.dst)=some s∧((∃ c,e s=some (.bool c)∧b=(c==want))∨(e s=some (.raw undef)∧b=false))
inductive RT (P:Program) (all:Array Oper) (n:Nat) (hp:Heap):List Oper→Env→Env→Prop
 | nil (e:Env):RT P all n hp [] e e
 | run {o:Oper} {l:List Oper} {e e':Env} {av:AV} (hg:qn all o e true) (h:MV P all n o e hp av) (hd:∀ d,o.dst=some d→d < n) (k:RT P all n hp l (zC e o.dst av) e'):RT P all n hp (o :: l) e e'
 | pass {o:Oper} {l:List Oper} {e e':Env} (hg:qn all o e false) (hd:∀ d,o.dst=some d→d < n) (k:RT P all n hp l (zC e o.dst (.raw undef)) e'):RT P all n hp (o :: l) e e'
def TO (P:Program) (all:Array Oper) (n:Nat) (hp:Heap) (o:Oper) (e:Env) (av:AV):Prop:=
 (∀ d,o.dst=some d→d < n)∧((qn all o e true∧MV P all n o e hp av)∨(qn all o e false∧av=.raw undef))
theorem RT.KW {P:Program} {all:Array Oper} {n:Nat} {hp:Heap} {l:List Oper} {e e':Env} (h:RT P all n hp l e e'):
 ∃ (mZ:Nat→AV) (en:Nat→Env),en 0=e∧en l.length=e'∧∀ i o,l[i]? =some o→TO P all n hp o (en i) (mZ i)∧en (i+1)=zC (en i) o.dst (mZ i):=by
 induction h with
 | nil e=>exact ⟨fun _=>.nil,fun _=>e,rfl,rfl,fun i o h=>by simp at h⟩
 | @run o l e e' av hg hm hd k ih=>
   obtain ⟨mZ,en,h0,h1,h2⟩:=ih
   refine ⟨fun i=>match i with | 0=>av | i+1=>mZ i,fun i=>match i with | 0=>e | i+1=>en i,rfl,h1,fun i o' ho=>?_⟩
   match i with
   | 0=>simp at ho;subst ho;exact ⟨⟨hd,.inl ⟨hg,hm⟩⟩,h0⟩
   | i+1=>exact h2 i o' (by simpa using ho)
 | @pass o l e e' hg hd k ih=>
   obtain ⟨mZ,en,h0,h1,h2⟩:=ih
   refine ⟨fun i=>match i with | 0=>.raw undef | i+1=>mZ i,fun i=>match i with | 0=>e | i+1=>en i,rfl,h1,fun i o' ho=>?_⟩
   match i with
   | 0=>simp at ho;subst ho;exact ⟨⟨hd,.inr ⟨hg,rfl⟩⟩,h0⟩
   | i+1=>exact h2 i o' (by simpa using ho)
def waits (o:Oper) (i:Nat):Bool:=o.after.toList.any fun e=>Region.binds .any e&&Nat.beq e.on i
def CN (all:Array Oper) (oi oj:Oper):Bool:=
 match oi.dst,oj.dst with
 | some d,some d'=>(looks all oj).contains d||(looks all oi).contains d'||Nat.beq d d'
 | some d,none=>(looks all oj).contains d
 | none,some d'=>(looks all oi).contains d'
 | none,none=>false
inductive CO (all:Array Oper):Nat→Nat→Prop
 | one {j i:Nat} {oj:Oper} (hj:all[j]? =some oj) (hw:waits oj i=true):CO all j i
 | step {j k i:Nat} {oj:Oper} (hj:all[j]? =some oj) (hw:waits oj k=true) (h:CO all k i):CO all j i
def Ht (acc:List Nat):List Edge→Nat→Nat
 | [],m=>m
 | e :: r,m=>Ht acc r (match Region.binds .any e with
   | true=>m||| (1 <<< e.on)||| acc.getD e.on 0
   | false=>m)
def O3:List Oper→List Nat→List Nat
 | [],acc=>acc
 | o :: r,acc=>O3 r (acc++[Ht acc o.after.toList 0])
def Nk (all:Array Oper):List Nat:=O3 all.toList []
theorem CP {acc:List Nat} {i:Nat}:∀ (es:List Edge) (m:Nat),(Ht acc es m).testBit i=true→m.testBit i=true∨∃ e∈es,Region.binds .any e=true∧(e.on=i∨(acc.getD e.on 0).testBit i=true)
 | [],m,h=>.inl h
 | e :: r,m,h=>by
   simp only [Ht] at h
   rcases CP r _ h with h | ⟨e',he,hb,hh⟩
   ·split at h
    ·rename_i hb
     rw [Nat.testBit_or,Nat.testBit_or,Bool.or_eq_true,Bool.or_eq_true] at h
     rcases h with (h | h) | h
     ·exact .inl h
     ·refine .inr ⟨e,by simp,hb,.inl ?_⟩
      rw [Nat.one_shiftLeft,Nat.testBit_two_pow] at h
      simpa using h
     ·exact .inr ⟨e,by simp,hb,.inr h⟩
    ·exact .inl h
   ·exact .inr ⟨e',by simp [he],hb,hh⟩
theorem Ef {all:Array Oper}:∀ (l:List Oper) (acc:List Nat) (pre:List Oper),all.toList=pre++l→acc.length=pre.length→(∀ j i,(acc.getD j 0).testBit i=true→CO all j i)→∀ j i,((O3 l acc).getD j 0).testBit i=true→CO all j i
 | [],acc,pre,_,_,h=>h
 | o :: r,acc,pre,hl,hlen,h=>by
   refine Ef r _ (pre++[o]) (by simpa using hl) (by simp [hlen]) (fun j i hb=>?_)
   rcases Nat.lt_or_ge j acc.length with hj | hj
   ·refine h j i ?_
    rw [List.getD_eq_getElem?_getD,List.getElem?_append_left hj] at hb
    rw [List.getD_eq_getElem?_getD]
    exact hb
   ·by_cases hje:j=acc.length
    ·rw [List.getD_eq_getElem?_getD,List.getElem?_append_right hj,hje] at hb
     simp only [Nat.sub_self,List.getElem?_cons_zero,Option.getD_some] at hb
     have Rm:all[j]? =some o:=by
      rw [← Array.getElem?_toList,hl,List.getElem?_append_right (by omega),hje,hlen];simp
     rcases CP _ _ hb with hz | ⟨e,he,hbd,hh⟩
     ·simp at hz
     ·have hw:waits o e.on=true:=by
       simp only [waits,List.any_eq_true,Bool.and_eq_true]
       exact ⟨e,he,hbd,by simp⟩
      rcases hh with hh | hh
      ·subst hh;exact .one Rm hw
      ·exact .step Rm hw (h _ _ hh)
    ·rw [List.getD_eq_getElem?_getD,List.getElem?_append_right hj,List.getElem?_eq_none (by simp;omega)] at hb
     simp at hb
theorem qE {all:Array Oper} {j i:Nat} (h:((Nk all).getD j 0).testBit i=true):CO all j i:=
 Ef all.toList [] [] (by simp) rfl (fun j i h=>by simp at h) j i h
def I2 (all:Array Oper) (m:Nat) (A:List Nat):Bool:=
 (List.range all.size).all fun j=>match all[j]? with
  | none=>true
  | some oj=>(oj.after.all fun e=>!Region.binds .any e||Nat.blt e.on j)&&(List.range j).all fun i=>match all[i]? with
    | none=>true
    | some oi=>if Nat.blt j m then !CN all oi oj||(A.getD j 0).testBit i else (A.getD j 0).testBit i
def xT (all:Array Oper) (m:Nat):Prop:=∃ A,Nk all=A∧I2 all m A=true
theorem lG {all:Array Oper} {m:Nat} (h:xT all m) {i j:Nat} {oi oj:Oper} (hj:all[j]? =some oj) (hi:all[i]? =some oi) (Hu:i < j):(j < m→CN all oi oj=true→CO all j i)∧(m≤j→CO all j i):=by
 obtain ⟨A,hA,h⟩:=h
 subst hA
 have TP:j < all.size:=(Array.getElem?_eq_some_iff.1 hj).1
 simp only [I2,List.all_eq_true,List.mem_range] at h
 have h1:=h j TP
 rw [hj] at h1
 simp only [Bool.and_eq_true,List.all_eq_true,List.mem_range] at h1
 have h2:=h1.2 i Hu
 rw [hi] at h2
 simp only at h2
 refine ⟨fun hm hc=>?_,fun hm=>?_⟩
 ·rw [if_pos (by simpa using hm)] at h2
  exact qE (by simpa [hc] using h2)
 ·rw [if_neg (by simp;omega)] at h2
  exact qE h2
theorem Ay {all:Array Oper} {m:Nat} (h:xT all m) {j:Nat} {oj:Oper} (hj:all[j]? =some oj) {e:Edge} (he:e∈oj.after) (hb:Region.binds .any e=true):e.on < j:=by
 obtain ⟨A,hA,h⟩:=h
 have TP:j < all.size:=(Array.getElem?_eq_some_iff.1 hj).1
 simp only [I2,List.all_eq_true,List.mem_range] at h
 have h1:=h j TP
 rw [hj] at h1
 simp only [Bool.and_eq_true,Array.all_eq_true_iff_forall_mem] at h1
 have:=h1.1 e he
 simpa [hb] using this
theorem vO {all:Array Oper} {listed:Array Bool} {i j:Nat} {oj:Oper} (hj:all[j]? =some oj) (hr:j∈Region.ready .any all listed) (hw:waits oj i=true):listed.getD i false=true:=by
 simp only [Region.ready,List.mem_filter,List.mem_range,hj,Option.map_some,Option.getD_some,Bool.and_eq_true,Array.all_eq_true_iff_forall_mem] at hr
 simp only [waits,List.any_eq_true,Bool.and_eq_true] at hw
 obtain ⟨e,he,hb,XB⟩:=hw
 have:=hr.2.2 e (by simpa using he)
 rw [hb] at this
 obtain rfl:e.on=i:=Nat.eq_of_beq_eq_true XB
 simpa using this
def mI (all:Array Oper) (listed:Array Bool):Prop:=∀ k i o,listed.getD k false=true→all[k]? =some o→waits o i=true→listed.getD i false=true
theorem mI.RU {all:Array Oper} {listed:Array Bool} (c:mI all listed) {j i:Nat} (h:CO all j i) (hl:listed.getD j false=true):listed.getD i false=true:=by
 induction h with
 | one hj hw=>exact c _ _ _ hl hj hw
 | step hj hw _ ih=>exact ih (c _ _ _ hl hj hw)
theorem mI.ready {all:Array Oper} {listed:Array Bool} (c:mI all listed) {j i:Nat} (h:CO all j i) (hr:j∈Region.ready .any all listed):listed.getD i false=true:=by
 cases h with
 | one hj hw=>exact vO hj hr hw
 | step hj hw h=>exact c.RU h (vO hj hr hw)
theorem ze {all:Array Oper} {listed:Array Bool} {j:Nat} (hr:j∈Region.ready .any all listed):j < all.size∧listed.getD j true=false:=by
 simp only [Region.ready,List.mem_filter,List.mem_range,Bool.and_eq_true] at hr
 exact ⟨hr.1,by simpa using hr.2.1⟩
theorem Cj {all:Array Oper} {m:Nat} (h:xT all m) {listed:Array Bool} (hl:listed.size=all.size) (hr:Region.ready .any all listed=[]):∀ i,i < all.size→listed.getD i false=true:=by
 intro i
 induction i using Nat.strongRecOn with
 | _ i ih=>
   intro hi
   cases hv:listed.getD i false with
   | true=>rfl
   | false=>
     exfalso
     have:i∈Region.ready .any all listed:=by
      simp only [Region.ready,List.mem_filter,List.mem_range,Bool.and_eq_true]
      have hli:i < listed.size:=by omega
      refine ⟨hi,?_,?_⟩
      ·simp [hli] at hv ⊢;exact hv
      ·have CQ:all[i]? =some all[i]:=by simp [hi]
       rw [CQ]
       simp only [Option.map_some,Option.getD_some,Array.all_eq_true_iff_forall_mem]
       intro e he
       cases hb:Region.binds .any e with
       | false=>simp
       | true=>
         have nD:=Ay h CQ he hb
         simp [ih e.on nD (by omega)]
     rw [hr] at this
     simp at this
section order
variable {P:Program} {all:Array Oper} {n m:Nat} {hp:Heap}
def cur (all:Array Oper) (mZ:Nat→AV) (e:Env) (listed:Array Bool):Nat→Env
 | 0=>e
 | k+1=>if listed.getD k false then zC (cur all mZ e listed k) ((all[k]?).bind (·.dst)) (mZ k) else cur all mZ e listed k
theorem nY {e:Env} {d:Option Nat} {av:AV} {s:Nat} (h:d≠some s):zC e d av s=e s:=by
 cases d with
 | none=>rfl
 | some d=>simp only [zC];rw [if_neg (fun e=>h (by rw [e]))]
theorem ri {e:Env} {av:AV} {s:Nat}:zC e (some s) av s=some av:=by simp [zC]
theorem Az {oi oj:Oper} {s:Nat} (hd:oi.dst=some s) (hs:s∈looks all oj):CN all oi oj=true:=by
 unfold CN
 rw [hd]
 cases hj:oj.dst<;>simp [hs]
theorem CR {oi oj:Oper} {s:Nat} (hd:oj.dst=some s) (hs:s∈looks all oi):CN all oi oj=true:=by
 unfold CN
 rw [hd]
 cases hi:oi.dst<;>simp [hs]
theorem Gq {oi oj:Oper} {s:Nat} (hi:oi.dst=some s) (hj:oj.dst=some s):CN all oi oj=true:=by
 unfold CN
 rw [hi,hj]
 simp
structure Rn (all:Array Oper) (m:Nat) (listed:Array Bool):Prop where
 size:listed.size=all.size
 head:∀ k,listed.getD k false=true→k < m
 closed:∀ k i o,listed.getD k false=true→all[k]? =some o→waits o i=true→listed.getD i false=true
theorem DN {listed:Array Bool} {i:Nat} (h:listed.getD i true=false):listed.getD i false=false:=by
 by_cases hi:i < listed.size
 ·simp [hi] at h ⊢;exact h
 ·simp [hi]
variable {mZ:Nat→AV} {en:Nat→Env} {e:Env}
theorem O4 (hB:xT all m) {listed:Array Bool} (L:Rn all m listed) (h0:en 0=e) (hs:∀ i o,i < m→all[i]? =some o→en (i+1)=zC (en i) o.dst (mZ i)) (hm:m≤all.size)
 {i:Nat} {o:Oper} (ho:all[i]? =some o) (II:i < m) (zD:listed.getD i false=false) (hr:∀ j,CO all i j→listed.getD j false=true) {s:Nat} (O5:s∈looks all o):∀ k,k≤all.size→cur all mZ e listed k s=en (min k i) s:=by
 intro k
 induction k with
 | zero=>intro _;simp [cur,h0]
 | succ k ih=>
   intro hk
   have xf:=ih (by omega)
   have xg:all[k]? =some all[k]:=by simp [show k < all.size by omega]
   simp only [cur,xg,Option.bind_some]
   rcases Nat.lt_trichotomy k i with nD | heq | O6
   ·rw [Nat.min_eq_left (by omega)] at xf
    rw [Nat.min_eq_left (by omega),hs k _ (by omega) xg]
    by_cases hd:(all[k]).dst=some s
    ·have hl:listed.getD k false=true:=hr k ((lG hB ho xg nD).1 II (Az hd O5))
     rw [if_pos hl,hd,ri,ri]
    ·rw [nY hd]
     split
     ·rw [nY hd];exact xf
     ·exact xf
   ·subst heq
    rw [zD]
    simp only [Bool.false_eq_true,if_false]
    rw [Nat.min_eq_right (by omega)]
    rw [Nat.min_eq_right (by omega)] at xf
    exact xf
   ·rw [Nat.min_eq_right (by omega)] at xf
    rw [Nat.min_eq_right (by omega)]
    by_cases hl:listed.getD k false=true
    ·by_cases hd:(all[k]).dst=some s
     ·exfalso
      have hw:=(lG hB xg ho O6).1 (L.head k hl) (CR hd O5)
      have:=mI.RU L.closed hw hl
      rw [zD] at this;cases this
     ·rw [if_pos hl,nY hd];exact xf
    ·rw [if_neg hl];exact xf
theorem jZ {listed:Array Bool} {i k:Nat} (hi:i < listed.size):(listed.setIfInBounds i true).getD k false=(if k=i then true else listed.getD k false):=by
 by_cases hk:k < listed.size
 ·simp [hk,Array.getElem_setIfInBounds]
  by_cases h:k=i
  ·simp [h]
  ·have h':¬ i=k:=fun e=>h e.symm
   simp [h,h']
 ·have:k≠i:=by omega
  simp [hk,this]
theorem RW (hB:xT all m) {listed:Array Bool} (L:Rn all m listed) {i:Nat} {o:Oper} (ho:all[i]? =some o) (II:i < m) (zD:listed.getD i false=false) (s:Nat):
 ∀ k,k≤all.size→cur all mZ e (listed.setIfInBounds i true) k s=(if i < k then zC (cur all mZ e listed k) o.dst (mZ i) s else cur all mZ e listed k s):=by
 have hi:i < listed.size:=by rw [L.size];exact (Array.getElem?_eq_some_iff.1 ho).1
 intro k
 induction k with
 | zero=>intro _;simp [cur]
 | succ k ih=>
   intro hk
   have xf:=ih (by omega)
   have xg:all[k]? =some all[k]:=by simp [show k < all.size by omega]
   simp only [cur,xg,Option.bind_some,jZ hi]
   rcases Nat.lt_trichotomy k i with nD | heq | O6
   ·rw [if_neg (by omega)] at xf
    have e1:(if k=i then true else listed.getD k false)=listed.getD k false:=if_neg (by omega)
    rw [e1,if_neg (show ¬ i < k+1 by omega)]
    by_cases hl:listed.getD k false=true
    ·rw [if_pos hl,if_pos hl]
     by_cases hd:(all[k]).dst=some s
     ·rw [hd,ri,ri]
     ·rw [nY hd,nY hd];exact xf
    ·rw [if_neg hl,if_neg hl];exact xf
   ·subst heq
    rw [if_neg (by omega)] at xf
    have e1:(if k=k then true else listed.getD k false)=true:=if_pos rfl
    rw [e1,if_pos (show k < k+1 by omega),if_pos rfl,zD,if_neg Bool.false_ne_true]
    obtain rfl:all[k]=o:=by rw [xg] at ho;exact Option.some.inj ho
    by_cases hd:(all[k]).dst=some s
    ·rw [hd,ri,ri]
    ·rw [nY hd,nY hd];exact xf
   ·rw [if_pos O6] at xf
    have e1:(if k=i then true else listed.getD k false)=listed.getD k false:=if_neg (by omega)
    rw [e1,if_pos (show i < k+1 by omega)]
    by_cases hl:listed.getD k false=true
    ·rw [if_pos hl,if_pos hl]
     by_cases hd:(all[k]).dst=some s
     ·by_cases Nl:o.dst=some s
      ·exfalso
       have hw:=(lG hB xg ho O6).1 (L.head k hl) (Gq Nl hd)
       have:=mI.RU L.closed hw hl
       rw [zD] at this;cases this
      ·rw [hd,ri,nY Nl,ri]
     ·by_cases Nl:o.dst=some s
      ·rw [nY hd,xf,Nl,ri,ri]
      ·rw [nY hd,xf,nY Nl,nY Nl,nY hd]
    ·rw [if_neg hl,if_neg hl];exact xf
theorem I3 (hB:xT all m) {Q:Exit→Act→World→Prop}:∀ (fuel k:Nat) (listed:Array Bool) (a:Act) (w:World),m≤k→k+fuel=all.size→listed.size=all.size→(∀ i,i < k→listed.getD i false=true)→(∀ i,k≤i→listed.getD i false=false)→
 wpList P all Q (all.toList.drop k) a w→wpAny P .any all Q fuel listed a w:=by
 intro fuel
 induction fuel with
 | zero=>
   intro k listed a w hm hk jX h1 h2 h
   have O7:all.toList.drop k=[]:=List.drop_eq_nil_of_le (by simp;omega)
   rw [O7] at h
   refine ⟨?_,h⟩
   refine List.eq_nil_iff_forall_not_mem.2 fun i hi=>?_
   obtain ⟨KJ,KX⟩:=ze hi
   have:=h1 i (by omega)
   rw [DN KX] at this
   cases this
 | succ fuel ih=>
   intro k listed a w hm hk jX h1 h2 h
   have hks:k < all.size:=by omega
   have xg:all[k]? =some all[k]:=by simp [hks]
   refine ⟨fun hr=>?_,fun i hi=>?_⟩
   ·have:=Cj hB jX hr k hks
    rw [h2 k (Nat.le_refl _)] at this
    cases this
   ·obtain ⟨KJ,KX⟩:=ze hi
    have CQ:all[i]? =some all[i]:=by simp [KJ]
    obtain rfl:i=k:=by
     rcases Nat.lt_trichotomy i k with nD | heq | O6
     ·have:=h1 i nD;rw [DN KX] at this;cases this
     ·exact heq
     ·have Gh:mI all listed:=fun k' i' o Zc ho' hw'=>by
       have nD:k' < k:=by
        rcases Nat.lt_or_ge k' k with h | h
        ·exact h
        ·rw [h2 k' h] at Zc;cases Zc
       simp only [waits,List.any_eq_true,Bool.and_eq_true] at hw'
       obtain ⟨e',he',D6,UH⟩:=hw'
       have:=Ay hB ho' (by simpa using he') D6
       obtain rfl:e'.on=i':=Nat.eq_of_beq_eq_true UH
       exact h1 _ (by omega)
      have:=Gh.ready ((lG hB CQ xg O6).2 (by omega)) hi
      rw [h2 k (Nat.le_refl _)] at this;cases this
    have XC:all.toList.drop i=all[i] :: all.toList.drop (i+1):=by
     rw [List.drop_eq_getElem_cons (by simpa using hks)]
     simp
    rw [XC] at h
    unfold wpList at h
    simp only [wpOp,xg]
    have next:∀ a w,wpList P all Q (all.toList.drop (i+1)) a w→wpAny P .any all Q fuel (listed.setIfInBounds i true) a w:=fun a w hh=>by
     have wI:i < listed.size:=by omega
     refine ih (i+1) (listed.setIfInBounds i true) a w (by omega) (by omega) (by simpa using jX) (fun j hj=>?_) (fun j hj=>?_) hh
     ·rw [jZ wI];split
      ·rfl
      ·exact h1 j (by omega)
     ·rw [jZ wI,if_neg (by omega)];exact h2 j (by omega)
    split at h
    ·rename_i hw
     rw [if_pos hw]
     exact h.imp (fun hh=>Oper.wp_mono next hh) id
    ·rename_i hw
     rw [if_neg hw]
     exact next _ _ h
theorem zf {o:Oper} {e:Env} {b:Bool} {w:World} {S:Nat→Prop} {a:Act} (hw:qn all o e b) (r:Hs w S (looks all o) e a):Region.wanted o (yielded all a.tmps)=b:=by
 unfold qn at hw
 unfold Region.wanted
 cases hg:o.guard with
 | none=>rw [hg] at hw;simp only at hw;rw [hw]
 | some g=>
   obtain ⟨j,want⟩:=g
   rw [hg] at hw
   simp only at hw
   obtain ⟨s,h1,⟨c,h2,h3⟩ | ⟨h2,h3⟩⟩:=hw
   ·obtain ⟨v,g1,g2⟩:=r s (by simp [looks,hg,h1]) _ h2
    cases g2
    rw [h3]
    cases c<;>cases want<;>simp [yielded,h1,g1]
   ·obtain ⟨v,g1,g2⟩:=r s (by simp [looks,hg,h1]) _ h2
    cases g2
    rw [h3]
    simp [yielded,h1,g1,undef]
def Eg (w:World) (S:Nat→Prop) (e:Env) (a:Act):Prop:=∀ s av,e s=some av→∃ v,a.tmps[s]? =some v∧At w S av v
theorem O8 (hB:xT all m) (hm:m≤all.size) {Q:Exit→Act→World→Prop} (h0:en 0=e) (hs:∀ i o,i < m→all[i]? =some o→TO P all n hp o (en i) (mZ i)∧en (i+1)=zC (en i) o.dst (mZ i)) {w0:World} {S0:Nat→Prop}
 (fin:∀ a w S,a.tmps.size=n→a.defers=[]→dw w S hp→Grow w0 S0 w S→Eg w S (en m) a→wpList P all Q (all.toList.drop m) a w):
 ∀ (fuel:Nat) (listed:Array Bool) (a:Act) (w:World) (S:Nat→Prop),Rn all m listed→(listed.toList.count true)+fuel=all.size→a.tmps.size=n→a.defers=[]→dw w S hp→Grow w0 S0 w S→Eg w S (cur all mZ e listed all.size) a→
   wpAny P .any all Q fuel listed a w:=by
 have XD:∀ i o,i < m→all[i]? =some o→en (i+1)=zC (en i) o.dst (mZ i):=fun i o h1 h2=>(hs i o h1 h2).2
 have done:∀ (fuel:Nat) (listed:Array Bool) (a:Act) (w:World) (S:Nat→Prop),Rn all m listed→(listed.toList.count true)+fuel=all.size→a.tmps.size=n→a.defers=[]→dw w S hp→Grow w0 S0 w S→Eg w S (cur all mZ e listed all.size) a→
  (∀ i,i < m→listed.getD i false=true)→wpAny P .any all Q fuel listed a w:=by
  intro fuel listed a w S L hc jX KY hr hg xS qM
  have I4:∀ i,m≤i→listed.getD i false=false:=fun i hi=>by
   cases hv:listed.getD i false with
   | false=>rfl
   | true=>have:=L.head i hv;omega
  have UI:listed.toList.count true=m:=by
   have:listed.toList=List.replicate m true++List.replicate (all.size - m) false:=by
    apply List.ext_getElem?
    intro i
    rcases Nat.lt_or_ge i m with hi | hi
    ·have wI:i < listed.size:=by rw [L.size];omega
     rw [List.getElem?_append_left (by simpa using hi)]
     have:=qM i hi
     simp [wI] at this
     simp [wI,hi,this]
    ·rw [List.getElem?_append_right (by simpa using hi)]
     rcases Nat.lt_or_ge i listed.size with wI | wI
     ·have:=I4 i hi
      simp [wI] at this
      have h2:i - m < all.size - m:=by rw [L.size] at wI;omega
      simp [wI,h2,this]
     ·have h2:¬ i - m < all.size - m:=by rw [L.size] at wI;omega
      simp [List.getElem?_eq_none (l:=listed.toList) (by simpa using wI),h2]
   rw [this,List.count_append,List.count_replicate,List.count_replicate]
   simp
  have UJ:cur all mZ e listed all.size=en m:=by
   have key:∀ k,k≤all.size→cur all mZ e listed k=en (min k m):=by
    intro k
    induction k with
    | zero=>intro _;simp [cur,h0]
    | succ k ih=>
      intro hk
      have xg:all[k]? =some all[k]:=by simp [show k < all.size by omega]
      simp only [cur,xg,Option.bind_some,ih (by omega)]
      rcases Nat.lt_or_ge k m with h | h
      ·rw [if_pos (qM k h),Nat.min_eq_left (by omega),Nat.min_eq_left (by omega),XD k _ h xg]
      ·rw [if_neg (by rw [I4 k h];simp),Nat.min_eq_right (by omega),Nat.min_eq_right (by omega)]
   rw [key all.size (Nat.le_refl _),Nat.min_eq_right hm]
  rw [UJ] at xS
  exact I3 hB fuel m listed a w (Nat.le_refl _) (by omega) L.size qM I4 (fin a w S jX KY hr hg xS)
 intro fuel
 induction fuel with
 | zero=>
   intro listed a w S L hc jX KY hr hg xS
   refine done 0 listed a w S L hc jX KY hr hg xS (fun i hi=>?_)
   have I5:listed.toList.count true=listed.toList.length:=by rw [Array.length_toList,L.size];omega
   have qM:=List.count_eq_length.1 I5
   have wI:i < listed.size:=by rw [L.size];omega
   have:=qM listed[i] (by simp)
   simp [wI];exact this.symm
 | succ fuel ih=>
   intro listed a w S L hc jX KY hr hg xS
   by_cases qM:∀ i,i < m→listed.getD i false=true
   ·exact done _ listed a w S L hc jX KY hr hg xS qM
   ·refine ⟨fun O9=>(qM fun i hi=>Cj hB L.size O9 i (by omega)).elim,fun i hi=>?_⟩
    obtain ⟨KJ,KX⟩:=ze hi
    have zD:=DN KX
    have CQ:all[i]? =some all[i]:=by simp [KJ]
    have II:i < m:=by
     rcases Nat.lt_or_ge i m with h | h
     ·exact h
     ·refine (qM fun j hj=>?_).elim
      have Rm:all[j]? =some all[j]:=by simp [show j < all.size by omega]
      exact mI.ready L.closed ((lG hB CQ Rm (by omega)).2 h) hi
    have wI:i < listed.size:=by rw [L.size];exact KJ
    obtain ⟨⟨TE,Pa⟩,_⟩:=hs i _ II CQ
    have Av:Hs w S (looks all all[i]) (en i) a:=by
     intro s O5 av so
     have hc:=O4 (mZ:=mZ) (en:=en) (e:=e) hB L h0 XD hm CQ II zD (fun j hj=>mI.ready L.closed hj hi) O5 all.size (Nat.le_refl _)
     rw [Nat.min_eq_right (by omega)] at hc
     exact xS s av (by rw [hc];exact so)
    have L':Rn all m (listed.setIfInBounds i true):=by
     refine ⟨by simpa using L.size,fun k hk=>?_,fun k j o hk xg hw=>?_⟩
     ·rw [jZ wI] at hk
      split at hk
      ·omega
      ·exact L.head k hk
     ·rw [jZ wI] at hk
      rw [jZ wI]
      split
      ·rfl
      ·split at hk
       ·rename_i hki
        subst hki
        obtain rfl:all[k]=o:=by rw [CQ] at xg;exact Option.some.inj xg
        exact vO CQ hi hw
       ·exact L.closed k j o hk xg hw
    have I5:(listed.setIfInBounds i true).toList.count true+fuel=all.size:=by
     have Pb:listed[i]=false:=by simpa [wI] using zD
     have:(listed.setIfInBounds i true).toList=listed.toList.set i true:=by simp
     rw [this,List.count_set (by simpa using wI)]
     have Rk:listed.toList[i]'(by simpa using wI)=false:=by simpa using Pb
     rw [Rk]
     have e1:(if (false==true)=true then 1 else 0)=0:=rfl
     have e2:(if (true==true)=true then 1 else 0)=1:=rfl
     rw [e1,e2]
     omega
    have upd:∀ (v:Value) (w':World) (S':Nat→Prop),Grow w S w' S'→At w' S' (mZ i) v→Eg w' S' (cur all mZ e (listed.setIfInBounds i true) all.size) (a.put (all[i]).dst v):=by
     intro v w' S' TQ vF s av so
     rw [RW (mZ:=mZ) (e:=e) hB L CQ II zD s all.size (Nat.le_refl _),if_pos (by omega)] at so
     by_cases hd:(all[i]).dst=some s
     ·rw [hd,ri] at so
      obtain rfl:=Option.some.inj so
      have XE:=TE s hd
      exact ⟨v,by rw [hd];simp [Act.put,jX,XE],vF⟩
     ·rw [nY hd] at so
      obtain ⟨u,h1,h2⟩:=xS s av so
      refine ⟨u,?_,h2.mono (TQ.mW hr.slt)⟩
      cases Hv:(all[i]).dst with
      | none=>simpa [Act.put] using h1
      | some d'=>
        have sE:d'≠s:=fun e=>hd (by rw [Hv,e])
        simp [Act.put,sE,h1]
    have Zd:∀ v,(a.put (all[i]).dst v).tmps.size=n:=fun v=>by cases (all[i]).dst<;>simp [Act.put,jX]
    have Ze:∀ v,(a.put (all[i]).dst v).defers=[]:=fun v=>by cases (all[i]).dst<;>simp [Act.put,KY]
    simp only [wpOp,CQ]
    rcases Pa with ⟨hw,hmv⟩ | ⟨hw,so⟩
    ·rw [if_pos (zf hw Av)]
     refine .inl (hmv w S a jX KY hr Av _ _ (fun v w' S' TQ vF=>?_))
     exact ih _ _ _ S' L' I5 (Zd v) (Ze v) (hr.grow TQ) (hg.trans TQ) (upd v w' S' TQ vF)
    ·rw [if_neg (by rw [zf hw Av];simp)]
     refine ih _ _ _ S L' I5 (Zd _) (Ze _) hr hg (upd _ w S (Grow.refl hr.slt) ?_)
     rw [so];exact .raw _
end order
end Go.Eng
set_option linter.unusedVariables false
set_option linter.unusedSectionVars false
namespace Go.Eng
open Go
variable [bc]
theorem zg (d:Nat) (av:AV) (tm:List (Nat×AV)):lk ((d,av) :: tm)=zC (lk tm) (some d) av:=by
 funext s
 simp only [lk,zC]
 by_cases h:d=s
 ·subst h;simp
 ·rw [sY h,if_neg h]
def Hw:List Nat→List (Nat×AV)→List (Nat×AV)
 | [],_=>[]
 | s :: r,tm=>match lk tm s with
   | some av=>(s,av) :: Hw r tm
   | none=>Hw r tm
theorem Hx:∀ {ls:List Nat} {tm:List (Nat×AV)} {s:Nat} {av:AV},lk (Hw ls tm) s=some av→s∈ls∧lk tm s=some av
 | [],tm,s,av,h=>by simp [Hw,lk] at h
 | k :: ls,tm,s,av,h=>by
   simp only [Hw] at h
   split at h
   ·rename_i pz hk
    simp only [lk] at h
    split at h
    ·rename_i hb
     obtain rfl:k=s:=by simpa using hb
     obtain rfl:=Option.some.inj h
     exact ⟨by simp,hk⟩
    ·obtain ⟨h1,h2⟩:=Hx h
     exact ⟨by simp [h1],h2⟩
   ·obtain ⟨h1,h2⟩:=Hx h
    exact ⟨by simp [h1],h2⟩
theorem sG {w:World} {S:Nat→Prop} {a:Act} {n:Nat} {hp:Heap} {ls:List Nat} {tm:List (Nat×AV)} (h1:a.tmps.size=n) (h2:a.defers=[]) (h3:dw w S hp) (h4:Hs w S ls (lk tm) a):eC w S ⟨n,Hw ls tm,hp⟩ a:=
 ⟨h1,h2,fun s av h=>h4 s (Hx h).1 av (Hx h).2,h3⟩
def AM (P:Program) (all:Array Oper) (n:Nat) (hp:Heap) (l:List Oper) (tm:List (Nat×AV)) (Q:List (Nat×AV)→Prop):Prop:=∃ sZ,RT P all n hp l (lk tm) (lk sZ)∧Q sZ
section rules
variable {P:Program} {all:Array Oper} {rest:List Oper} {n:Nat} {tm:List (Nat×AV)} {hp:Heap} {Q:List (Nat×AV)→Prop} {d:Nat} {ty:TypeId} {pos:String} {af:Array Edge} {op:Op}
theorem AM.nil (h:Q tm):AM P all n hp [] tm Q:=⟨tm,.nil _,h⟩
theorem AM.mv {av:AV} (h:MV P all n ⟨some d,op,ty,pos,af,none⟩ (lk tm) hp av) (hn:Nat.blt d n=true) (k:AM P all n hp rest ((d,av) :: tm) Q):AM P all n hp (⟨some d,op,ty,pos,af,none⟩ :: rest) tm Q:=by
 obtain ⟨sZ,k1,k2⟩:=k
 refine ⟨sZ,.run rfl h (fun d' hd=>?_) (by rw [zg] at k1;exact k1),k2⟩
 obtain rfl:=Option.some.inj hd
 simpa using hn
theorem AM.qv {av:AV} (q:QV P ⟨some d,op,ty,pos,af,none⟩ ⟨n,Hw (looks all ⟨some d,op,ty,pos,af,none⟩) tm,hp⟩ av) (hn:Nat.blt d n=true) (k:AM P all n hp rest ((d,av) :: tm) Q):AM P all n hp (⟨some d,op,ty,pos,af,none⟩ :: rest) tm Q:=by
 refine AM.mv (fun w S a h1 h2 h3 h4 K Q' hK=>?_) hn k
 obtain ⟨v,g1,g2⟩:=q w S a (sG h1 h2 h3 h4)
 show Oper.upon P _ a K Q' _
 rw [g1 w (Ext.refl w)]
 exact hK v w S (Grow.refl h3.slt) g2
theorem AM.aj {j:Nat} {want b:Bool} {s:Nat} (hj:(all[j]?).bind (·.dst)=some s) (hs:lk tm s=some (.bool b)) (hb:b=want)
 (k:AM P all n hp (⟨some d,op,ty,pos,af,none⟩ :: rest) tm Q):AM P all n hp (⟨some d,op,ty,pos,af,some (j,want)⟩ :: rest) tm Q:=by
 obtain ⟨sZ,k1,k2⟩:=k
 refine ⟨sZ,?_,k2⟩
 cases k1 with
 | run hg h hd k=>
   refine .run ⟨s,hj,.inl ⟨b,hs,by simp [hb]⟩⟩ ?_ hd k
   intro w S a h1 h2 h3 h4 K Q' hK
   exact h w S a h1 h2 h3 (fun t ht=>h4 t (by simp only [looks,List.append_nil] at ht ⊢;exact List.mem_append_left _ ht)) K Q' hK
 | pass hg hd k=>simp [qn] at hg
theorem AM.ai {j:Nat} {want b:Bool} {s:Nat} (hj:(all[j]?).bind (·.dst)=some s) (hs:lk tm s=some (.bool b)) (hb:b=!want) (hn:Nat.blt d n=true)
 (k:AM P all n hp rest ((d,.raw undef) :: tm) Q):AM P all n hp (⟨some d,op,ty,pos,af,some (j,want)⟩ :: rest) tm Q:=by
 obtain ⟨sZ,k1,k2⟩:=k
 refine ⟨sZ,.pass ⟨s,hj,.inl ⟨b,hs,?_⟩⟩ (fun d' hd=>?_) (by rw [zg] at k1;exact k1),k2⟩
 ·rw [hb];cases want<;>rfl
 ·obtain rfl:=Option.some.inj hd
  simpa using hn
theorem AM.lit {l:List Oper} {s:Nat} {b c:Bool} (hs:lk tm s=some (.bool b)) (hb:b=c) (k:AM P all n hp l ((s,.bool c) :: tm) Q):AM P all n hp l tm Q:=by
 subst hb
 obtain ⟨sZ,k1,k2⟩:=k
 have:lk ((s,.bool b) :: tm)=lk tm:=by
  rw [zg]
  funext t
  simp only [zC]
  split
  ·rename_i h;subst h;exact hs.symm
  ·rfl
 rw [this] at k1
 exact ⟨sZ,k1,k2⟩
theorem AM.guard {j s:Nat} {want b:Bool} (hj:(all[j]?).bind (·.dst)=some s) (hs:lk tm s=some (.bool b)) (hn:Nat.blt d n=true) (h1:b=want→AM P all n hp (⟨some d,op,ty,pos,af,none⟩ :: rest) ((s,.bool want) :: tm) Q)
 (h2:b=!want→AM P all n hp rest ((d,.raw undef) :: (s,.bool (!want)) :: tm) Q):AM P all n hp (⟨some d,op,ty,pos,af,some (j,want)⟩ :: rest) tm Q:=by
 by_cases hb:b=want
 ·exact AM.lit hs hb (AM.aj hj (by simp [lk]) rfl (h1 hb))
 ·have D6:b=!want:=by cases b<;>cases want<;>simp_all
  exact AM.lit hs D6 (AM.ai hj (b:=!want) (by simp [lk]) rfl hn (h2 D6))
theorem AM.cA {j s:Nat} {p:Prop} [Decidable p] (hj:(all[j]?).bind (·.dst)=some s) (hs:lk tm s=some (.bool (decide p))) (hn:Nat.blt d n=true) (h1:p→AM P all n hp (⟨some d,op,ty,pos,af,none⟩ :: rest) ((s,.bool true) :: tm) Q)
 (h2:¬ p→AM P all n hp rest ((d,.raw undef) :: (s,.bool false) :: tm) Q):AM P all n hp (⟨some d,op,ty,pos,af,some (j,true)⟩ :: rest) tm Q:=
 AM.guard hj hs hn (fun h=>h1 (of_decide_eq_true h)) (fun h=>h2 (of_decide_eq_false h))
theorem AM.dA {j s:Nat} {p:Prop} [Decidable p] (hj:(all[j]?).bind (·.dst)=some s) (hs:lk tm s=some (.bool (decide p))) (hn:Nat.blt d n=true) (h1:¬ p→AM P all n hp (⟨some d,op,ty,pos,af,none⟩ :: rest) ((s,.bool false) :: tm) Q)
 (h2:p→AM P all n hp rest ((d,.raw undef) :: (s,.bool true) :: tm) Q):AM P all n hp (⟨some d,op,ty,pos,af,some (j,false)⟩ :: rest) tm Q:=
 AM.guard hj hs hn (fun h=>h1 (of_decide_eq_false h)) (fun h=>h2 (of_decide_eq_true h))
theorem AM.dv {f:FuncId} {args:List Operand} {ts:Array TypeId} {l l':List AV} {R:AV} [aZ P f] (hl:B6 (Hw (looks all ⟨some d,.call {callee:=.value (.func f),args:=args.toArray,argTypes:=ts},ty,pos,af,none⟩) tm) args=some l) (c:Pu P f l' R) (co:Aw hp l l') (hn:Nat.blt d n=true)
 (k:AM P all n hp rest ((d,R) :: tm) Q):AM P all n hp (⟨some d,.call {callee:=.value (.func f),args:=args.toArray,argTypes:=ts},ty,pos,af,none⟩ :: rest) tm Q:=by
 refine AM.mv (fun w S a h1 h2 h3 h4 K Q' hK=>?_) hn k
 have r:=sG h1 h2 h3 h4
 show Oper.upon P _ a K Q' _
 rw [pA]
 obtain ⟨g1,g2⟩:=re r hl
 obtain ⟨g3,g4⟩:=Aw.at r.hp co g1 g2
 refine (c w S _ (uY h3.slt h3.ib) (by simpa using g3) g4).mono ?_
 rintro e w' ⟨v,rr,h',S',rfl,rfl,k3,k4,k5⟩
 exact hK v w' S' ⟨k5.Gp,fun m hm=>(k5.mW m hm).1,fun m hm hs=>(k5.other m hm (fun ⟨x,hx,_⟩=>by simp at hx)).2 hs,k4.slt⟩ k3
theorem AM.UK {f:FuncId} {args:List Operand} {ts:Array TypeId} {l l':List AV} {R:AV} [aZ P f] (hl:B6 (Hw (looks all ⟨some d,.call {callee:=.value (.func f),args:=args.toArray,argTypes:=ts},ty,pos,af,none⟩) tm) args=some l) (c:Pu P f l' R) (co:wm hp l l') (hn:Nat.blt d n=true) (hR:R.Wi=true)
 (k:AM P all n hp rest ((d,R) :: tm) Q):AM P all n hp (⟨some d,.call {callee:=.value (.func f),args:=args.toArray,argTypes:=ts},ty,pos,af,none⟩ :: rest) tm Q:=by
 refine AM.mv (fun w S a h1 h2 h3 h4 K Q' hK=>?_) hn k
 have r:=sG h1 h2 h3 h4
 show Oper.upon P _ a K Q' _
 rw [pA]
 obtain ⟨g1,g2⟩:=re r hl
 obtain ⟨g3,g4⟩:=wm.at r.hp co g1 g2
 refine (c w (SB S hp) _ (uY (fun m hm=>hm.elim (h3.slt m) fun h=>h3.lt h) (fun g o ho=>⟨.inl (h3.ib g o ho).1,(h3.ib g o ho).2⟩)) (by simpa using g3) g4).mono ?_
 rintro e w' ⟨v,rr,h',S',rfl,rfl,k3,k4,k5⟩
 have ex:=k5.Gp
 exact hK v w' S ⟨ex,fun m hm=>hm,fun m _ hs=>hs,fun m hm=>Nat.lt_of_lt_of_le (h3.slt m hm) ex.size⟩ (KU k3 hR)
theorem AM.aY {t e:TypeId} {i:TypeInfo} {z:Value} {len sz:Nat} {parts:List (Nat×Operand)} {xs:List AV} [ay P t (.slice e)] [aO P e i] [lC P e sz] (hz:i.zero=some z)
 (hl:Mg (Hw (looks all ⟨some d,.buildSlice t len parts.toArray,ty,pos,af,none⟩) tm) parts 0=some xs) (hlen:Nat.beq parts.length len=true) (yp:yq i.size xs=true) (KH:Nat.ble (len * i.size) 16777216=true) (hn:Nat.blt d n=true)
 (k:AM P all n hp rest ((d,.list sz xs) :: tm) Q):AM P all n hp (⟨some d,.buildSlice t len parts.toArray,ty,pos,af,none⟩ :: rest) tm Q:=by
 obtain ⟨i',KJ,KX⟩:=lC.h (P:=P) (t:=e)
 obtain rfl:i'=i:=by rw [aO.h (P:=P) (t:=e)] at KJ;exact (Option.some.inj KJ).symm
 subst KX
 refine AM.mv (fun w S a h1 h2 h3 h4 K Q' hK=>?_) hn k
 have r:=sG h1 h2 h3 h4
 obtain rfl:parts.length=len:=Nat.eq_of_beq_eq_true hlen
 have KH:=Nat.le_of_ble_eq_true KH
 obtain ⟨zz,KI⟩:∃ zz:Array Value,zz=if parts.length * i'.size=0 then #[] else z.cells:=⟨_,rfl⟩
 obtain ⟨vs,g1,g2,g3,g4⟩:=A7 r i'.size parts 0 xs ((Array.range (parts.length * i'.size)).map (zz[· % zz.size]!)) hl (lE yp) (by simp)
 simp only [Nat.zero_mul,List.take_zero,List.nil_append] at g1
 have e0:=Ext.alloc w (.cells vs.toArray e)
 have wj:(execOp a.eval ⟨some d,.buildSlice t parts.length parts.toArray,ty,pos,af,none⟩).run P w=.ok (.value (.slice (some ⟨w.heap.size,0,none⟩) parts.length parts.length)) (w.alloc (.cells vs.toArray e)):=by
  have hm:((parts.toArray.map fun p=>(p.1,a.eval p.2))).toList=parts.map fun p=>(p.1,a.eval p.2):=by simp
  simp only [execOp,Instr.buildSlice,Sem.run_bind,run_underlying (ay.h (P:=P) (t:=t)),Result.andThen_ok,sizeOf,typeInfo,run_program,aO.h (P:=P) (t:=e),Sem.run_pure]
  rw [if_neg (by omega)]
  by_cases h0:parts.length * i'.size=0
  ·rw [if_pos h0] at KI ⊢
   subst KI
   simp only [Sem.run_bind,Result.andThen_ok,Sem.run_pure,hm,g1,sF]
  ·rw [if_neg h0] at KI ⊢
   subst KI
   simp only [Sem.run_bind,Result.andThen_ok,Sem.run_pure,zeroValue,typeInfo,run_program,aO.h (P:=P) (t:=e),hz,hm,g1,sF]
 show Oper.upon P _ a K Q' _
 rw [wj]
 have UL:(w.alloc (.cells vs.toArray e)).heap[w.heap.size]? =some (.cells vs.toArray e (0,0)):=by
  show (w.heap.push _)[w.heap.size]? =_
  simp
 refine hK _ _ (fun m=>S m∨m=w.heap.size) ⟨e0,fun m hm=>.inl hm,fun m hm hs=>hs.elim id (fun h=>by omega),fun m hm=>?_⟩ ?_
 ·rcases hm with hm | hm
  ·exact Nat.lt_of_lt_of_le (h3.slt m hm) e0.size
  ·subst hm;simp
 ·have:=At.list (w:=w.alloc (.cells vs.toArray e)) (S:=fun m=>S m∨m=w.heap.size) i'.size xs (some ⟨w.heap.size,0,none⟩) parts.length vs (lE yp) (by rw [cZ (lE yp),g2]) (fun j c u hc hu=>?_) (fun j u hu=>?_) (by omega)
  ·rw [g3] at this;exact this
  ·exact (g4 j c u hc (by simpa using hu)).mono fun m hm=>⟨.inl hm,e0.same m (h3.slt m hm)⟩
  ·refine ⟨_,rfl,rfl,.inr rfl,?_⟩
   rw [o4 UL]
   simpa using hu
end rules
def I6:Nat→List Oper→Option (List Oper×List Oper)
 | 0,l=>some ([],l)
 | m+1,o :: l=>match I6 m l with
   | some (a,b)=>some (o :: a,b)
   | none=>none
 | _+1,[]=>none
theorem zh:∀ {m:Nat} {l a b:List Oper},I6 m l=some (a,b)→l=a++b∧a.length=m
 | 0,l,a,b,h=>by simp [I6] at h;obtain ⟨rfl,rfl⟩:=h;exact ⟨rfl,rfl⟩
 | m+1,[],a,b,h=>by simp [I6] at h
 | m+1,o :: l,a,b,h=>by
   simp only [I6] at h
   split at h
   ·rename_i a' b' h'
    simp only [Option.some.injEq,Prod.mk.injEq] at h
    obtain ⟨rfl,rfl⟩:=h
    obtain ⟨h1,h2⟩:=zh h'
    exact ⟨by rw [h1];rfl,by simp [h2]⟩
   ·cases h
theorem ATodo.ck {P:Program} {R:St→Prop} {k:List It} {id n:Nat} {tm:List (Nat×AV)} {hp:Heap} {l hd tl:List Oper} (m:Nat) (hm:P.follows .mixedOrders=true) (hs:I6 m l=some (hd,tl)) {A:List Nat} (hA:Nk l.toArray=A) (hB0:I2 l.toArray m A=true)
 (h:AM P l.toArray n hp hd tm (fun sZ=>ARun P l.toArray tl ⟨n,sZ,hp⟩ (ATodo P R k))):ATodo P R (.code (.region id l.toArray true) :: k) ⟨n,tm,hp⟩:=by
 have hB:xT l.toArray m:=⟨A,hA,hB0⟩
 intro w S a r
 obtain ⟨hl,RX⟩:=zh hs
 obtain ⟨sZ,hA,wj⟩:=h
 obtain ⟨mZ,en,e0,e1,e2⟩:=hA.KW
 have jX:m≤l.toArray.size:=by simp [hl,RX]
 refine wp_region_any hm ?_
 have Eh:Ext w {w with drawn:=w.drawn+1}:=Ext.Ma w _ (Nat.le_succ _)
 have g0:Grow w S {w with drawn:=w.drawn+1} S:=⟨Eh,fun _ h=>h,fun _ _ h=>h,fun n hn=>r.hp.slt n hn⟩
 have UM:∀ k,cur l.toArray mZ (lk tm) (Array.replicate l.toArray.size false) k=lk tm:=by
  intro k
  induction k with
  | zero=>rfl
  | succ k ih=>
    simp only [cur,ih]
    rw [if_neg]
    rcases Nat.lt_or_ge k l.toArray.size with h | h
    ·simp at h;simp [h]
    ·simp at h;simp [Nat.not_lt.2 h]
 have hf:∀ k,(Array.replicate l.toArray.size false).getD k false=false:=by
  intro k
  rcases Nat.lt_or_ge k l.toArray.size with h | h
  ·simp at h;simp [h]
  ·simp at h;simp [Nat.not_lt.2 h]
 refine O8 (P:=P) (all:=l.toArray) (n:=n) (m:=m) (hp:=hp) (mZ:=mZ) (en:=en) (e:=lk tm) hB jX e0 (fun i o hi ho=>e2 i o ?_) (w0:=w) (S0:=S) (fun a' w' S' h1 h2 h3 h4 h5=>?_) l.toArray.size (Array.replicate l.toArray.size false) a _ S
  ⟨by simp,(fun k hk=>by rw [hf k] at hk;cases hk),(fun k i o hk=>by rw [hf k] at hk;cases hk)⟩ (by simp [List.count_replicate]) r.size r.defers (r.hp.ext Eh) g0 (by rw [UM];exact (r.ext Eh).tm)
 ·have:l[i]? =some o:=by simpa using ho
  rw [hl,List.getElem?_append_left (by omega)] at this
  exact this
 ·have Wj:l.toArray.toList.drop m=tl:=by
   simp only [hl,← RX]
   exact List.drop_left
  rw [Wj]
  have hmm:en m=lk sZ:=by rw [← RX];exact e1
  rw [hmm] at h5
  refine jG ?_ _ _ _ (wj.go (h:=hp) (w:=w) (S:=S) ⟨h1,h2,h5,h3⟩ (h4.evo r.hp.slt hp))
  rintro ex a2 w2 ⟨rfl,IN,S2,q1,q2,q3⟩
  exact ⟨IN,S2,q1,q2,q3⟩
end Go.Eng
set_option linter.unusedVariables false
set_option linter.unusedSectionVars false
namespace Go.Eng
open Go
variable [bc]
section
variable {P:Program} {all:Array Oper} {rest:List Oper} {n:Nat} {hp:Heap} {tm:List (Nat×AV)} {Q:List (Nat×AV)→Prop} {dd:Option Nat} {ty:TypeId} {pos:String} {af:Array Edge}
end
end Go.Eng
set_option linter.unusedVariables false
set_option linter.unusedSectionVars false
namespace Go.Eng
open Go
variable [bc]
theorem UN {α β:Type} {o:Option α} {f:α→Option β} {r:β} (h:o.bind f=some r):∃ v,o=some v∧f v=some r:=by
 cases o with
 | none=>cases h
 | some v=>exact ⟨v,rfl,h⟩
theorem gr {α:Type} {p:Prop} [Decidable p] {a b x:α} (hp:p) (h:(if p then a else b)=x):a=x:=by rw [if_pos hp] at h;exact h
theorem wq {α:Type} {p:Prop} [Decidable p] {a b x:α} (hp:¬ p) (h:(if p then a else b)=x):b=x:=by rw [if_neg hp] at h;exact h
theorem gw {α:Type} {p:Bool} {a b x:α} (hp:p=false) (h:(if p=true then a else b)=x):b=x:=by rw [if_neg (by simp [hp])] at h;exact h
def uw {X A:Type} (f:X→Option (X⊕A)):Nat→X→Option A
 | 0,_=>none
 | n+1,x=>match f x with
   | none=>none
   | some (.inl y)=>uw f n y
   | some (.inr a)=>some a
theorem I7 {X A:Type} {f:X→Option (X⊕A)} {a:A}:∀ {n:Nat} {x:X},uw f n x=some a→uw f (n+1) x=some a
 | 0,x,h=>by cases h
 | n+1,x,h=>by
   unfold uw at h ⊢
   split at h
   ·cases h
   ·exact I7 h
   ·exact h
theorem Ei {X A:Type} {f:X→Option (X⊕A)} {a:A} {x:X} {n:Nat} (h:uw f n x=some a):∀ m,uw f (n+m) x=some a
 | 0=>h
 | m+1=>I7 (Ei h m)
theorem Nn {X A:Type} {f:X→Option (X⊕A)} {a b:A} {x:X} {n m:Nat} (h:uw f n x=some a) (k:uw f m x=some b):a=b:=by
 have h1:=Ei h m
 have h2:=Ei k n
 rw [Nat.add_comm] at h2
 rw [h1] at h2
 exact Option.some.inj h2
open Classical in
noncomputable def iter {X A:Type} (f:X→Option (X⊕A)) (x:X):Option A:=
 if h:∃ a n,uw f n x=some a then some h.choose else none
theorem zi {X A:Type} {f:X→Option (X⊕A)} {x:X} {a:A}:iter f x=some a↔∃ n,uw f n x=some a:=by
 unfold iter
 constructor
 ·intro h
  split at h
  ·rename_i hx
   obtain ⟨n,hn⟩:=hx.choose_spec
   exact ⟨n,by rw [hn];exact h⟩
  ·cases h
 ·rintro ⟨n,hn⟩
  have hx:∃ a n,uw f n x=some a:=⟨a,n,hn⟩
  rw [dif_pos hx]
  obtain ⟨m,hm⟩:=hx.choose_spec
  rw [Nn hm hn]
def after {X A:Type} (k:X→Option A):X⊕A→Option A
 | .inl y=>k y
 | .inr a=>some a
theorem iter_eq {X A:Type} (f:X→Option (X⊕A)) (x:X):iter f x=(f x).bind (after (iter f)):=by
 apply Option.ext
 intro a
 rw [zi]
 constructor
 ·rintro ⟨n,hn⟩
  match n with
  | 0=>cases hn
  | n+1=>
    unfold uw at hn
    split at hn
    ·cases hn
    ·rename_i y hy;rw [hy];exact zi.2 ⟨n,hn⟩
    ·rename_i b hb;rw [hb];exact hn
 ·intro h
  obtain ⟨s,hs,h⟩:=UN h
  cases s with
  | inl y=>
    obtain ⟨n,hn⟩:=zi.1 h
    exact ⟨n+1,by unfold uw;rw [hs];exact hn⟩
  | inr b=>exact ⟨1,by unfold uw;rw [hs];exact h⟩
theorem bz {X A:Type} {o:Option A} {s:X⊕A} {a:A} (h:o.map .inr=some s) (hA:∀ a',s=.inr a'→a'=a):o=some a:=by
 cases o with
 | none=>cases h
 | some b=>
   have:=Option.some.inj h
   rw [hA b this.symm]
@[simp] theorem dD {X A:Type} (k:X→Option A) (y:X):after k (.inl y)=k y:=rfl
@[simp] theorem Wk {X A:Type} (k:X→Option A) (a:A):after k (.inr a)=some a:=rfl
theorem cC {X A:Type} (o:Option A) (k:X→Option A):(o.map Sum.inr).bind (after k)=o:=by cases o<;>rfl
def idx {α:Type} (xs:List α) (i:Int):Option α:=if 0≤i then xs[i.toNat]? else none
def app {α:Type} (xs ys:List α):Option (List α):=if xs.length+ys.length≤1000000000 then some (xs++ys) else none
def yb {α:Type} (xs:List α) (l h:Int):Option (List α):=if 0≤l∧l≤h∧h≤xs.length then some ((xs.drop l.toNat).take (h.toNat - l.toNat)) else none
abbrev cr (i:Int):Int:=IntKind.i64.wrap i
def quo (a b:Int):Option Int:=if b=0 then none else some (cr (a.tdiv b))
def rem (a b:Int):Option Int:=if b=0 then none else some (a.tmod b)
theorem Pc {α:Type} {e:α→AV} {xs:List α} {i:Int} {x:α} (h:idx xs i=some x):OX (xs.map e) i=some (e x):=by
 unfold idx at h;unfold OX
 split at h
 ·rename_i h0;rw [if_pos h0,List.getElem?_map,h];rfl
 ·cases h
theorem wL {α:Type} {xs:List α} {i:Int} {x:α} (h:idx xs i=some x):0≤i∧i < xs.length∧xs[i.toNat]? =some x:=by
 unfold idx at h
 split at h
 ·rename_i h0
  have:=(List.getElem?_eq_some_iff.1 h).1
  exact ⟨h0,by omega,h⟩
 ·cases h
theorem Ej {α:Type} {xs ys zs:List α} (h:app xs ys=some zs):xs.length+ys.length≤1000000000∧zs=xs++ys:=by
 unfold app at h
 split at h
 ·exact ⟨by assumption,(Option.some.inj h).symm⟩
 ·cases h
theorem tI {α:Type} {xs zs:List α} {l h:Int} (hh:yb xs l h=some zs):(0≤l∧l≤h∧h≤xs.length)∧zs=(xs.drop l.toNat).take (h.toNat - l.toNat):=by
 unfold yb at hh
 split at hh
 ·exact ⟨by assumption,(Option.some.inj hh).symm⟩
 ·cases hh
theorem Pd {a b c:Int} (h:quo a b=some c):b≠0∧c=cr (a.tdiv b):=by
 unfold quo at h
 split at h
 ·cases h
 ·exact ⟨by assumption,(Option.some.inj h).symm⟩
theorem Pe {a b c:Int} (h:rem a b=some c):b≠0∧c=a.tmod b:=by
 unfold rem at h
 split at h
 ·cases h
 ·exact ⟨by assumption,(Option.some.inj h).symm⟩
section
variable {P:Program} {R:St→Prop} {k:List It} {σ:St}
theorem ATodo.cut {c:Code} (I:St→Prop) (h:ATodo P R (.code c :: .stop (fun aB=>ImpX aB I) :: k) σ) (hk:∀ aB,I aB→ATodo P R k aB):ATodo P R (.code c :: k) σ:=by
 intro w S a r
 refine wp_mono (h w S a r) ?_
 rintro e a' w' ⟨aB,S',h1,h2,h3⟩
 cases e with
 | normal=>
   obtain ⟨Ni,Xn,hI,hr,he⟩:=h1 w' S' a' h2
   exact ⟨Ni,Xn,hk Ni hI,hr,h3.trans he⟩
 | exit id=>exact ⟨aB,S',h1,h2,h3⟩
 | goto l=>exact ⟨aB,S',h1,h2,h3⟩
 | ret=>exact ⟨aB,S',h1,h2,h3⟩
 | panic c=>exact ⟨aB,S',h1,h2,h3⟩
 | outgrown=>exact ⟨aB,S',h1,h2,h3⟩
theorem ATodo.bT {body:Code} {X A:Type} (f:X→Option (X⊕A)) (mk:X→St→Prop) {a:A} {x0:X} (h:iter f x0=some a) (h0:ImpX σ (mk x0))
 (hs:∀ x s σ (J:St→Prop),mk x σ→f x=some s→(∀ y aB,s=.inl y→ImpX aB (mk y)→J aB)→(∀ a',s=.inr a'→a'=a)→ATodo P R (.code body :: .stop J :: k) σ):
 ATodo P R (.code (.loop body) :: k) σ:=by
 obtain ⟨m,hm⟩:=zi.1 h
 refine ATodo.TK (fun m σ=>∃ x,uw f m x=some a∧mk x σ) m (h0.mono fun aB hσ=>⟨x0,hm,hσ⟩) ?_
 rintro m Ge ⟨x,hx,dB⟩
 match m with
 | 0=>cases hx
 | m+1=>
   unfold uw at hx
   split at hx
   ·cases hx
   ·rename_i y hy
    refine hs x _ Ge _ dB hy (fun y' aB e hi=>⟨m,by omega,hi.mono fun Ni hk=>⟨y',?_,hk⟩⟩) (fun a' e=>by cases e)
    have:=Sum.inl.inj e
    rw [← this];exact hx
   ·rename_i b hb
    refine hs x _ Ge _ dB hb (fun y' aB e _=>by cases e) (fun a' e=>?_)
    rw [← Sum.inr.inj e];exact Option.some.inj hx
end
inductive KK:Heap→Heap→Heap→Prop
 | nil {h:Heap}:KK h [] h
 | cons {h h1 t r:Heap} {b:Bk} {o:Ob} (u:zB h b o h1) (k:KK h1 t r):KK h ((b,o) :: t) r
theorem KK.perm {h t r:Heap} (s:KK h t r):h.Perm (t++r):=by
 induction s with
 | nil=>exact List.Perm.refl _
 | cons u k ih=>exact u.perm.trans (List.Perm.cons _ ih)
section rules
variable {P:Program} {all:Array Oper} {rest:List Oper} {n:Nat} {tm:List (Nat×AV)} {hp:Heap} {Q:St→Prop} {d:Nat} {ty:TypeId} {pos:String} {af:Array Edge}
theorem Hy {f:FuncId} {args:List Operand} {ts:Array TypeId} {l l':List AV} {h0 hr:Heap} {Qc:AV→Heap→Prop} [aZ P f] (hl:B6 tm args=some l) (c:ACall P f l' h0 Qc) (co:Aw hp l l') (hs:KK hp h0 hr) (hn:Nat.blt d n=true)
 (kk:∀ r h',Qc r h'→ARun P all rest ⟨n,(d,r) :: tm,h'++hr⟩ Q):ARun P all (⟨some d,.call {callee:=.value (.func f),args:=args.toArray,argTypes:=ts},ty,pos,af,none⟩ :: rest) ⟨n,tm,hp⟩ Q:=
 O0 hl c co hs.perm hn kk
theorem RY {f:FuncId} {x:Operand} {args:List Operand} {ts:Array TypeId} {ue l l' lc:List AV} {h0 hr:Heap} {Qc:AV→Heap→Prop} [aZ P f] (hx:dh tm x=some (.func (.func f) ue)) (hl:B6 tm args=some l) (hlc:tH (l++ue)=some lc) (c:ACall P f l' h0 Qc) (co:Aw hp lc l') (hs:KK hp h0 hr) (hn:Nat.blt d n=true)
 (kk:∀ r h',Qc r h'→ARun P all rest ⟨n,(d,r) :: tm,h'++hr⟩ Q):ARun P all (⟨some d,.call {callee:=.value x,args:=args.toArray,argTypes:=ts},ty,pos,af,none⟩ :: rest) ⟨n,tm,hp⟩ Q:=
 Mi hx hl c (by rw [mY hlc];exact co) hs.perm hn kk
theorem aP {α:Type} {g:α→AV} {Xs:List α} {el:α} {t e:TypeId} {i:TypeInfo} {x y:Operand} {k:IntKind} {j:Int} {cs:List AV} {sz:Nat} [ay P t (.slice e)] [aO P e i] (hx:dh tm x=some (.list sz (Xs.map g))) (jX:Nat.beq i.size sz=true) (hy:dh tm y=some (.int k j))
 (hv:idx Xs j=some el) (h0:Nat.blt 0 sz=true) (hc:tH (g el).cells=some cs):QV P ⟨some d,.indexAddr t x y,ty,pos,af,none⟩ ⟨n,tm,hp⟩ (.ik cs):=by
 rw [← mY hc]
 exact qZ hx jX hy (Pc hv) h0
theorem bD {α:Type} {g:α→AV} {Xs:List α} {x:Operand} {t e:TypeId} {sz:Nat} [ay P t (.slice e)] (hx:dh tm x=some (.list sz (Xs.map g))):QV P ⟨some d,.call {callee:=.builtin .len,args:=#[x],argTypes:=#[t]},ty,pos,af,none⟩ ⟨n,tm,hp⟩ (.int .i64 (Xs.length:Nat)):=by
 have h:=D5 (P:=P) (d:=d) (ty:=ty) (pos:=pos) (af:=af) (n:=n) (tm:=tm) (hp:=hp) (t:=t) (e:=e) hx
 rw [List.length_map] at h
 exact h
theorem XF {k:IntKind} {xt yt:TypeId} {x y:Operand} {i j:Int} (hx:dh tm x=some (.int k i)) (hy:dh tm y=some (.int k j)) (h0:j≠0):QV P ⟨some d,.binOp .quo xt x y yt,ty,pos,af,none⟩ ⟨n,tm,hp⟩ (.int k (k.wrap (i.tdiv j))):=
 yn hx hy (v:=.int k (k.wrap (i.tdiv j))) (fun w=>by simp [binOp,Op.intDiv,h0]) (fun w S=>.int _ _)
theorem UO {xt yt:TypeId} {x y:Operand} {i j r:Int} (hx:dh tm x=some (.int .i64 i)) (hy:dh tm y=some (.int .i64 j)) (h:quo i j=some r):QV P ⟨some d,.binOp .quo xt x y yt,ty,pos,af,none⟩ ⟨n,tm,hp⟩ (.int .i64 r):=by
 obtain ⟨h0,rfl⟩:=Pd h
 exact XF hx hy h0
theorem Pf {k:IntKind} {xt yt:TypeId} {x y:Operand} {i j r:Int} (hx:dh tm x=some (.int k i)) (hy:dh tm y=some (.int k j)) (h:rem i j=some r):QV P ⟨some d,.binOp .rem xt x y yt,ty,pos,af,none⟩ ⟨n,tm,hp⟩ (.int k r):=by
 obtain ⟨h0,rfl⟩:=Pe h
 exact Xp hx hy h0
theorem qF {x y:Operand} {t:TypeId} {s:List UInt8} {k:IntKind} {i:Int} {c:UInt8} [ay P t .string] (hx:dh tm x=some (.str s)) (hy:dh tm y=some (.int k i)) (hc:idx s i=some c):QV P ⟨some d,.index t x y,ty,pos,af,none⟩ ⟨n,tm,hp⟩ (.int .u8 (c.toNat:Int)):=
 let ⟨h0,_,h⟩:=wL hc
 IQ hx hy h0 h
theorem cS {α:Type} {g:α→AV} {Xs Ys Zs:List α} {t e:TypeId} {i:TypeInfo} {z:Value} {x y:Operand} {src:AV} {b:Bk} {len sz:Nat} {eV:Bk→Heap} [ay P t (.slice e)] [aO P e i] (hx:dh tm x=some (.sl sz b 0 len)) (hy:dh tm y=some src) (hz:i.zero=some z)
 (Gm:Nat.beq z.cells.size i.size=true) (jX:Nat.beq i.size sz=true) (h0:Nat.blt 0 sz=true) (hn:Nat.blt d n=true) (RR:Nat.ble i.bytes 65536=true) (hs:Src hp sz src (Ys.map g)) (hv:app Xs Ys=some Zs) (u:∀ b',qW hp b (.arr sz (Xs.map g)) b' (.arr sz (Zs.map g)) (eV b')) (hlen:len=Xs.length)
 (kk:∀ b':Bk,ARun P all rest ⟨n,(d,.sl sz b' 0 Zs.length) :: tm,eV b'⟩ Q):ARun P all (⟨some d,.call {callee:=.builtin .append,args:=#[x,y],argTypes:=#[t,t]},ty,pos,af,none⟩ :: rest) ⟨n,tm,hp⟩ Q:=by
 obtain ⟨hb,rfl⟩:=Ej hv
 subst hlen
 refine Nj (xs:=Xs.map g) (ys:=Ys.map g) (eV:=eV) hx hy hz Gm jX h0 hn RR hs (by simpa using u) (by simp) (by simpa using hb) (fun b'=>?_)
 have:=kk b'
 simpa using this
end rules
theorem No {hp:Heap} {sz:Nat} {b:Bk} {α:Type} {g:α→AV} {Xs:List α} {len:Nat} (f:ox hp b (.arr sz (Xs.map g))∨ox hp b (.A0 sz (Xs.map g))) (h:len=Xs.length):Src hp sz (.sl sz b 0 len) (Xs.map g):=
 .whole b len _ f (by simpa using h)
end Go.Eng
