/- The engine: abstract values, the symbolic heap, one rule for each operation. No program in sight. -/
import Derived.Test.YthamhifbccpcpaaGreatDoorEngA
set_option linter.unusedVariables false
set_option linter.unusedSectionVars false
namespace Go.Eng
open Go
variable [bI]
theorem Dm {tm:List (Nat×AV)}:∀ {parts:List (Nat×Operand)} {k:Nat} {xs:List AV},MY tm parts k=some xs→xs.length=parts.length
 | [],k,xs,h=>by simp [MY] at h;subst h;rfl
 | (i,x) :: parts,k,xs,h=>by
   simp only [MY] at h
   split at h
   ·rename_i a l h1 h2 h3
    obtain rfl:=Option.some.inj h
    simp [Dm h3]
   ·cases h
section rules
variable {P:Program} {all:Array Oper} {rest:List Oper} {n:Nat} {tm:List (Nat×AV)} {hp:Heap} {Q:St→Prop} {d:Nat} {ty:TypeId} {pos:String} {af:Array Edge}
theorem EL {t e:TypeId} {i:TypeInfo} {z:Value} {len:Nat} {parts:List (Nat×Operand)} {xs:List AV} [aR P t (.slice e)] [bf P e i] (hz:i.zero=some z) (hl:MY tm parts 0=some xs) (hlen:Nat.beq parts.length len=true) (zK:zL i.size xs=true)
 (Ni:Nat.ble (len * i.size) 16777216=true) (hn:Nat.blt d n=true) (kk:ai P all rest ⟨n,(d,.list i.size xs) :: tm,hp⟩ Q):ai P all (⟨some d,.buildSlice t len parts.toArray,ty,pos,af,none⟩ :: rest) ⟨n,tm,hp⟩ Q:=by
 refine zM hz hl hlen zK Ni hn (fun b=>ai.ghost (ak.freeze .here (ak.co (s:=d) (av:=.sl i.size b 0 len) (by simp [lk]) (.AL i.size b len xs .here ?_) ?_)))
 ·rw [Dm hl];exact (Nat.eq_of_beq_eq_true hlen).symm
 ·refine ak.step (CK:=⟨n,(d,.list i.size xs) :: tm,hp⟩) (fun w S a r=>⟨_,S,rfl,r.less ⟨rfl,fun s av h=>?_,List.sublist_cons_self _ _⟩,kT.less (kT.refl w S _) fun _ hm=>hm.sub (List.sublist_cons_self _ _)⟩) (ak.here kk)
  simp only [lk] at h ⊢
  split at h
  ·exact h
  ·exact h
inductive PW (tm:List (Nat×AV)):Option Operand→Option Int→Prop
 | none:PW tm none none
 | some (x:Operand) (k:IntKind) (i:Int) (h:dt tm x=some (.int k i)):PW tm (some x) (some i)
def sB:Option Int→Int
 | none=>0
 | some i=>i
def rK (len:Nat):Option Int→Int
 | none=>len
 | some i=>i
theorem JL {w:World} {S:Nat→Prop} {σ:St} {a:Act} (r:ef w S σ a) {lo hi:Option Operand} {l h:Option Int} (hl:PW σ.tm lo l) (hh:PW σ.tm hi h) (PX:Bool) (len cap:Nat) (h0:0≤sB l) (h1:sB l≤rK len h) (h2:rK len h≤len) (hc:len≤cap) (w':World):
 (Instr.sliceBounds PX len cap (lo.map a.eval) (hi.map a.eval) none).run P w'=.ok ((sB l).toNat,(rK len h).toNat,cap) w':=by
 cases hl with
 | none=>
   cases hh with
   | none=>simp [Instr.sliceBounds,sB,rK]
   | some x k i hx=>
     simp only [sB,rK] at *
     have:i≤(cap:Int):=by omega
     simp [Instr.sliceBounds,Instr.sliceBound,(bn r hx).eh,asIntOf,h1,this]
 | some x k i hx=>
   cases hh with
   | none=>
     simp only [sB,rK] at *
     simp [Instr.sliceBounds,Instr.sliceBound,(bn r hx).eh,asIntOf,h0,h1]
   | some y k' i' hy=>
     simp only [sB,rK] at *
     have e1:i'≤(cap:Int):=by omega
     have e2:0≤i':=by omega
     have e3:i≤(i'.toNat:Int):=by omega
     simp [Instr.sliceBounds,Instr.sliceBound,(bn r hx).eh,(bn r hy).eh,asIntOf,h0,e1,e2]
     intro lh
     omega
theorem Dn {t e:TypeId} {i:TypeInfo} {x:Operand} {lo hi:Option Operand} {l h:Option Int} {sz off len:Nat} {b:Bk} [aR P t (.slice e)] [bf P e i] (hx:dt tm x=some (.sl sz b off len)) (jH:Nat.beq i.size sz=true) (hl:PW tm lo l) (hh:PW tm hi h) (h0:0≤sB l) (h1:sB l≤rK len h) (h2:rK len h≤len):
 QV P ⟨some d,.slice t x lo hi none,ty,pos,af,none⟩ ⟨n,tm,hp⟩ (.sl sz b (off+(sB l).toNat) ((rK len h).toNat - (sB l).toNat)):=by
 intro w S a r
 obtain rfl:i.size=sz:=Nat.eq_of_beq_eq_true jH
 obtain ⟨oa,cap,e1,e2⟩:=(bn (σ:=⟨n,tm,hp⟩) r hx).uZ
 have Nq:len≤cap:=by rcases e2 with ⟨_,_,hl,_,_⟩ | ⟨m,hb,_,g1,g2⟩ | ⟨m,ad,hb,_,hl,_⟩<;>omega
 refine ⟨.slice (if cap=(sB l).toNat then oa else oa.map (·.add ((sB l).toNat * i.size))) ((rK len h).toNat - (sB l).toNat) (cap - (sB l).toNat),fun w1 _=>?_,?_⟩
 ·have hb:=JL (P:=P) (σ:=⟨n,tm,hp⟩) r hl hh true len cap h0 h1 h2 Nq w1
  simp [execOp,Instr.sliceAt,run_underlying (aR.h (P:=P) (t:=t)),Instr.slice,e1,hb,sizeOf,typeInfo,bf.h (P:=P) (t:=e)]
 ·rcases e2 with ⟨hb,ho,hln,rfl,YA⟩ | ⟨m,hb,rfl,g1,g2⟩ | ⟨m,ad,hb,rfl,hln,YA⟩
  ·have UO:(sB l).toNat=0:=by omega
   have UP:(rK len h).toNat=0:=by omega
   rw [UO,UP,ho,YA]
   exact .Dd i.size b hb
  ·by_cases Dh:cap=(sB l).toNat
   ·rw [if_pos Dh]
    have hz:(rK len h).toNat - (sB l).toNat=0:=by omega
    rw [hz,show cap - (sB l).toNat=0 from by omega]
    exact .Qa i.size b _ m _ hb
   ·rw [if_neg Dh]
    have:=At.sl (w:=w) (S:=S) i.size b (off+(sB l).toNat) ((rK len h).toNat - (sB l).toNat) m (cap - (sB l).toNat) hb (by omega) (by omega)
    rw [Nat.add_mul] at this
    simpa [nV] using this
  ·have UO:(sB l).toNat=0:=by omega
   have UP:(rK len h).toNat=0:=by omega
   rw [UO,UP,YA,if_pos rfl]
   exact .Qa i.size b _ m ad hb
theorem mU {src dst:TypeId} {D:TypeDesc} {x:Operand} {k k':IntKind} {i:Int} [aR P src D] [aR P dst (.int k')] (hx:dt tm x=some (.int k i)):QV P ⟨some d,.convert src dst x,ty,pos,af,none⟩ ⟨n,tm,hp⟩ (.int k' (k'.wrap i)):=by
 intro w S a r
 refine ⟨.int k' (k'.wrap i),fun w1 _=>?_,.int _ _⟩
 simp only [execOp,convert,(bn (σ:=⟨n,tm,hp⟩) r hx).eh,Sem.run_bind,run_underlying (aR.h (P:=P) (t:=src)),run_underlying (aR.h (P:=P) (t:=dst)),Result.andThen_ok]
 cases D<;>simp [Conv.intToInt]
end rules
section
variable {P:Program} {all:Array Oper} {rest:List Oper} {σ:St} {Q:St→Prop} {dd:Option Nat} {ty:TypeId} {pos:String} {af:Array Edge}
end
theorem HX {sz:Nat} {x y:AV}:∀ {xs:List AV} {q:Nat},(∀ x∈xs,El sz x)→El sz y→xs[q]? =some x→flat (xs.set q y)=(flat xs).take (q * sz)++y.cells++(flat xs).drop (q * sz+sz)
 | [],q,_,_,h=>by simp at h
 | z :: xs,0,hs,hy,h=>by
   have hz:=(hs z (by simp)).1
   rw [List.set_cons_zero,jD,jD]
   simp only [Nat.zero_mul,List.take_zero,List.nil_append,Nat.zero_add]
   rw [List.drop_left' hz]
 | z :: xs,q+1,hs,hy,h=>by
   have hz:=(hs z (by simp)).1
   simp only [List.getElem?_cons_succ] at h
   rw [List.set_cons_succ,jD,jD,HX (fun a ha=>hs a (by simp [ha])) hy h]
   have e1:(q+1) * sz=sz+q * sz:=by rw [Nat.add_mul,Nat.one_mul];omega
   rw [e1,List.take_append,List.take_of_length_le (l:=z.cells) (by omega),hz,Nat.add_sub_cancel_left,List.drop_append,List.drop_of_length_le (l:=z.cells) (by omega),hz]
   rw [show sz+q * sz+sz - sz=q * sz+sz from by omega]
   simp [List.append_assoc]
theorem KI {w:World} {S:Nat→Prop} {cs new:List AV} {vs lT:Array Value} (o:Nat) (hl:cs.length≤vs.size) (h:mS w S cs vs) (x5:new.length=lT.size) (h':mS w S new lT) (ho:o+new.length≤cs.length):
 mS w S (cs.take o++new++cs.drop (o+new.length)) (vs.toList.take o++lT.toList++vs.toList.drop (o+lT.toList.length)).toArray:=by
 intro i c v hc hv
 simp only [List.getElem?_toArray] at hc hv
 have l1:(cs.take o).length=o:=by simp;omega
 have l2:(vs.toList.take o).length=o:=by simp;omega
 have l3:lT.toList.length=new.length:=by simp [x5]
 rw [List.append_assoc] at hc hv
 by_cases h1:i < o
 ·rw [List.getElem?_append_left (by omega)] at hc hv
  rw [List.getElem?_take,if_pos h1] at hc hv
  exact h i c v hc (by simpa using hv)
 ·rw [List.getElem?_append_right (by omega)] at hc hv
  rw [l1] at hc
  rw [l2] at hv
  by_cases h2:i - o < new.length
  ·rw [List.getElem?_append_left (by omega)] at hc hv
   exact h' (i - o) c v hc (by simpa using hv)
  ·rw [List.getElem?_append_right (by omega)] at hc hv
   rw [l3] at hv
   rw [List.getElem?_drop] at hc hv
   rw [show o+new.length+(i - o - new.length)=i from by omega] at hc hv
   exact h i c v hc (by simpa using hv)
section rules
variable {P:Program} {all:Array Oper} {rest:List Oper} {n:Nat} {tm:List (Nat×AV)} {hp:Heap} {Q:St→Prop} {d:Nat} {ty:TypeId} {pos:String} {af:Array Edge}
theorem AN.refl (l:List AV):AN hp l l:=by
 induction l with
 | nil=>exact .nil
 | cons a l ih=>exact .cons (.refl a) ih
def Pu (P:Program) (f:FuncId) (args:List AV) (R:AV):Prop:=aM P f args [] (fun r _=>r=R)
theorem bb {f:FuncId} {args:List Operand} {ts:Array TypeId} {l l':List AV} {R:AV} [bD P f] (hl:BB tm args=some l) (c:Pu P f l' R) (co:AN hp l l') (hn:Nat.blt d n=true)
 (kk:ai P all rest ⟨n,(d,R) :: tm,hp⟩ Q):ai P all (⟨some d,.call {callee:=.value (.func f),args:=args.toArray,argTypes:=ts},ty,pos,af,none⟩ :: rest) ⟨n,tm,hp⟩ Q:=by
 refine Qn hl c co hn (fun r h' hr=>?_)
 subst hr
 exact ai.weaken (aL:=⟨n,(d,r) :: tm,hp⟩) ⟨rfl,fun _ _ h=>h,List.sublist_append_right _ _⟩ kk
theorem lY {f:FuncId} {args:List Operand} {ts:Array TypeId} {l l':List AV} {R:AV} [bD P f] (hl:BB tm args=some l) (c:Pu P f l' R) (co:u6 hp l l') (hn:Nat.blt d n=true) (hR:R.UN=true)
 (kk:ai P all rest ⟨n,(d,R) :: tm,hp⟩ Q):ai P all (⟨some d,.call {callee:=.value (.func f),args:=args.toArray,argTypes:=ts},ty,pos,af,none⟩ :: rest) ⟨n,tm,hp⟩ Q:=
 Qq hl c co hn (fun r h' hr=>by subst hr;exact ⟨hR,kk⟩)
theorem rO {f:FuncId} {x:Operand} {args:List Operand} {ts:Array TypeId} {sy l l':List AV} {R:AV} [bD P f] (hx:dt tm x=some (.func (.func f) sy)) (hl:BB tm args=some l) (c:Pu P f l' R) (co:AN hp (l++sy) l') (hn:Nat.blt d n=true)
 (kk:ai P all rest ⟨n,(d,R) :: tm,hp⟩ Q):ai P all (⟨some d,.call {callee:=.value x,args:=args.toArray,argTypes:=ts},ty,pos,af,none⟩ :: rest) ⟨n,tm,hp⟩ Q:=by
 refine KH hx hl c co (List.Perm.refl _) hn (fun r h' hr=>?_)
 subst hr
 exact ai.weaken (aL:=⟨n,(d,r) :: tm,hp⟩) ⟨rfl,fun _ _ h=>h,List.sublist_append_right _ _⟩ kk
end rules
inductive RV (P:Program) (σ:St):ResultVar→AV→Prop
 | tmp (t:Nat) (av:AV) (h:lk σ.tm t=some av):RV P σ (.tmp t) av
 | all (p ty:Nat) (b:Bk) (cs:List AV) (D:TypeDesc) (i:TypeInfo) (h:lk σ.tm p=some (.ptr b 0)) (f:nU σ.hp b (.cells cs)) (hu:P.underlying ty=some D) (hi:P.info? ty=some i) (hD:TypeDesc.lH D=true) (hs:Nat.beq cs.length i.size=true):RV P σ (.cell p ty) (.agg cs)
 | one (p ty:Nat) (b:Bk) (cs:List AV) (av:AV) (D:TypeDesc) (h:lk σ.tm p=some (.ptr b 0)) (f:nU σ.hp b (.cells cs)) (hu:P.underlying ty=some D) (hD:TypeDesc.lH D=false) (hs:cs[0]? =some av):RV P σ (.cell p ty) av
def Dp (tmps:Array Value):ResultVar→Sem Value
 | .tmp t=>pure (tmps.getD t undef)
 | .cell a t=>do loadVar t (← asAddr (tmps.getD a undef))
theorem RV.run {P:Program} {σ:St} {rv:ResultVar} {av:AV} (h:RV P σ rv av) {w:World} {S:Nat→Prop} {a:Act} (r:ef w S σ a):∃ v,(Dp a.tmps rv).run P w=.ok v w∧At w S av v:=by
 cases h with
 | tmp t av h=>
   obtain ⟨v,h1,h2⟩:=r.tm t _ h
   exact ⟨v,by simp [Dp,h1],h2⟩
 | all p ty b cs D i h f hu hi hD hs=>
   obtain ⟨v,h1,h2⟩:=r.tm p _ h
   obtain ⟨m,e1,rfl⟩:=h2.sV
   obtain ⟨_,m',vs,E,g1,g2,g3,g4⟩:=vp r.hp f
   obtain rfl:m'=m:=by rw [g1] at e1;exact Option.some.inj e1
   have hlen:vs.toList.length=i.size:=by simp [g3];exact Nat.eq_of_beq_eq_true hs
   refine ⟨.agg vs,?_,.agg cs vs g3.symm g4⟩
   have:=oK (P:=P) hu hD hi (w:=w) (ad:=⟨m',0,none⟩) (vs:=vs.toList) hlen (fun j v hv=>by rw [nV,pF g2];simpa using hv)
   simp [Dp,h1,asAddr,this]
 | one p ty b cs av D h f hu hD hs=>
   obtain ⟨v,h1,h2⟩:=r.tm p _ h
   obtain ⟨m,e1,rfl⟩:=h2.sV
   obtain ⟨_,m',vs,E,g1,g2,g3,g4⟩:=vp r.hp f
   obtain rfl:m'=m:=by rw [g1] at e1;exact Option.some.inj e1
   have lh:0 < vs.size:=by rw [g3];exact (List.getElem?_eq_some_iff.1 hs).1
   have hv:vs[0]? =some vs[0]:=by simp [lh]
   refine ⟨vs[0],?_,g4 0 av _ hs hv⟩
   have:=oJ (P:=P) hu hD (w:=w) (ad:=⟨m',0,none⟩) (v:=vs[0]) (by rw [pF g2,hv])
   simp [Dp,h1,asAddr,this]
inductive Rs (P:Program) (σ:St):List ResultVar→List AV→Prop
 | nil:Rs P σ [] []
 | cons {v:ResultVar} {l:List ResultVar} {a:AV} {as:List AV} (h:RV P σ v a) (k:Rs P σ l as):Rs P σ (v :: l) (a :: as)
def BE:List AV→AV
 | [a]=>a
 | as=>.lA as
theorem Rs.run {P:Program} {σ:St} {w:World} {S:Nat→Prop} {a:Act} (r:ef w S σ a):∀ {l:List ResultVar} {as:List AV},Rs P σ l as→∃ vs,(l.mapM (Dp a.tmps)).run P w=.ok vs w∧as.length=vs.length∧∀ (i:Nat) c v,as[i]? =some c→vs[i]? =some v→At w S c v
 | [],_,.nil=>⟨[],by simp,rfl,fun i c v hc=>by simp at hc⟩
 | x :: l,_,.cons (a:=av) (as:=as) h k=>by
   obtain ⟨v,h1,h2⟩:=h.run r
   obtain ⟨vs,g1,g2,g3⟩:=Rs.run r k
   refine ⟨v :: vs,by simp [h1,g1],by simp [g2],fun i c u hc hu=>?_⟩
   match i with
   | 0=>simp at hc hu;subst hc;subst hu;exact h2
   | i+1=>exact g3 i c u (by simpa using hc) (by simpa using hu)
theorem HY {P:Program} {fn:Func} {l:List ResultVar} {σ:St} {as:List AV} (hf:fn.results=l.toArray) (h:Rs P σ l as) {w:World} {S:Nat→Prop} {a:Act} (r:ef w S σ a):∃ v,(results fn a.tmps).run P w=.ok v w∧At w S (BE as) v:=by
 obtain ⟨vs,g1,g2,g3⟩:=h.run r
 have hm:results fn a.tmps=(do let vs ← Functor.map List.toArray (l.mapM (Dp a.tmps));pure (if h:vs.size=1 then vs[0] else .tuple vs)):=by
  have YB:(fun (x:ResultVar)=>(match x with | .tmp t=>pure (a.tmps.getD t undef) | .cell p t=>do loadVar t (← asAddr (a.tmps.getD p undef)):Sem Value))=Dp a.tmps:=by
   funext x
   cases x<;>rfl
  unfold results
  rw [hf,List.mapM_toArray]
  rw [← YB]
  rfl
 refine ⟨if h:vs.toArray.size=1 then vs.toArray[0] else .tuple vs.toArray,?_,?_⟩
 ·rw [hm,Sem.run_bind,Sem.run_map,g1]
  rfl
 ·clear h hm g1
  match as,vs,g2,g3 with
  | [],[],_,_=>simp [BE];exact .lA [] _ rfl (fun i c v hc=>by simp at hc)
  | [x],[v],_,g3=>simp [BE];exact g3 0 x v rfl rfl
  | x :: y :: as,v :: u :: vs,hl,g3=>simp [BE];exact .lA _ _ (by simpa using hl) (fun i c v hc hv=>g3 i c v hc (by simpa using hv))
theorem aM.VI {P:Program} {f:FuncId} {fn:Func} {c:Code} {args:List AV} {h:Heap} {Q:AV→Heap→Prop} {n:Nat} {l:List ResultVar} (hf:P.funcs[f]? =some fn) (hb:fn.body=some c) (hn:fn.ntmps=n) (JM:fn.results=l.toArray)
 (hle:Nat.ble args.length n=true) (kk:ab P (fun σ=>ak σ (fun aL=>∃ as,Rs P aL l as∧Q (BE as) aL.hp)) [.code c] ⟨n,Qd args 0,h⟩):aM P f args h Q:=by
 intro w S vs hr hl ha
 refine calls_of_wp hf hb ?_
 have r0:ef w S ⟨n,Qd args 0,h⟩ {tmps:=vs++Array.replicate (fn.ntmps - vs.size) undef,defers:=[]}:=by
  have:=Nat.le_of_ble_eq_true hle
  refine ⟨by simp [hn];omega,rfl,fun s av hs=>?_,hr⟩
  obtain ⟨_,h2⟩:=Nf args 0 s av hs
  simp only [Nat.sub_zero] at h2
  have lh:s < args.length:=(List.getElem?_eq_some_iff.1 h2).1
  have VJ:s < vs.size:=by omega
  refine ⟨vs[s],by simp [Array.getElem?_append,VJ],ha s av _ h2 (by simp [VJ])⟩
 refine wp_mono (kk w S _ r0) ?_
 rintro e a' w' ⟨aL,S',h1,h2,h3⟩
 have fin:ak aL (fun JN=>∃ as,Rs P JN l as∧Q (BE as) JN.hp)→a'.defers=[]∧∃ v,(results fn a'.tmps).run P w'=.ok v w'∧∃ v' r h' S',(Ending.returned v:Ending)=.returned v'∧Q r h'∧At w' S' r v'∧du w' S' h'∧kT w S h w' S' h':=by
  intro hi
  obtain ⟨KE,S2,⟨as,UQ,hq⟩,g2,g3⟩:=hi w' S' a' h2
  obtain ⟨v,SZ,S7⟩:=HY JM UQ g2
  exact ⟨g2.defers,v,SZ,v,BE as,KE.hp,S2,rfl,hq,S7,g2.hp,h3.trans g3⟩
 cases e with
 | normal=>exact fin h1
 | ret=>exact fin h1
 | exit id=>exact h1.elim
 | goto l=>exact h1.elim
 | panic c=>exact h1.elim
 | outgrown=>exact h1.elim
inductive HS:Heap→Heap→Prop
 | nil {h:Heap}:HS h []
 | cons {h h1 t:Heap} {b:Bk} {o:Ob} (u:yW h b o h1) (k:HS h1 t):HS h ((b,o) :: t)
theorem HS.perm {h t:Heap} (s:HS h t):∃ r,h.Perm (t++r):=by
 induction s with
 | nil=>exact ⟨_,List.Perm.refl _⟩
 | cons u k ih=>
   obtain ⟨r,hr⟩:=ih
   exact ⟨r,u.perm.trans (List.Perm.cons _ hr)⟩
theorem ak.VK {n:Nat} {tm qq:List (Nat×AV)} {hp dG:Heap} {T:St→Prop} (h:Fb tm qq) (hs:HS hp dG) (k:ak ⟨n,qq,dG⟩ T):ak ⟨n,tm,hp⟩ T:=by
 obtain ⟨r,hr⟩:=hs.perm
 refine ak.step (CK:=⟨n,qq,dG⟩) (fun w S a rel=>⟨_,S,rfl,⟨rel.size,rel.defers,fun s av hh=>rel.tm s av (h.lk s av hh),(rel.hp.perm hr).sub (List.sublist_append_left _ _)⟩,kT.less (kT.refl w S hp) fun m hm=>?_⟩) k
 obtain ⟨e,he,hb⟩:=hm
 exact ⟨e,hr.mem_iff.2 (List.mem_append_left _ he),hb⟩
abbrev I (n:Int):AV:=.int .i64 n
section rules
variable {P:Program} {all:Array Oper} {rest:List Oper} {n:Nat} {tm:List (Nat×AV)} {hp:Heap} {Q:St→Prop} {d:Nat} {ty:TypeId} {pos:String} {af:Array Edge}
end rules
section rules
variable {P:Program} {all:Array Oper} {rest:List Oper} {n:Nat} {tm:List (Nat×AV)} {hp:Heap} {Q:St→Prop} {d:Nat} {ty:TypeId} {pos:String} {af:Array Edge}
theorem LJ {t e:TypeId} {i:TypeInfo} {z:Value} {x y:Operand} {src:AV} {b:Bk} {len sz:Nat} {xs ys:List AV} {dG:Bk→Heap} [aR P t (.slice e)] [bf P e i] (hx:dt tm x=some (.sl sz b 0 len)) (hy:dt tm y=some src) (hz:i.zero=some z)
 (Hx:Nat.beq z.cells.size i.size=true) (jH:Nat.beq i.size sz=true) (h0:Nat.blt 0 sz=true) (hn:Nat.blt d n=true) (R8:Nat.ble i.bytes 65536=true) (hs:Src hp sz src ys) (u:∀ b',pB hp b (.arr sz xs) b' (.arr sz (xs++ys)) (dG b')) (hlen:len=xs.length)
 (hb:xs.length+ys.length≤1000000000)
 (kk:∀ b':Bk,ai P all rest ⟨n,(d,.sl sz b' 0 (len+ys.length)) :: tm,dG b'⟩ Q):ai P all (⟨some d,.call {callee:=.builtin .append,args:=#[x,y],argTypes:=#[t,t]},ty,pos,af,none⟩ :: rest) ⟨n,tm,hp⟩ Q:=by
 refine No hx hy hz Hx jH h0 hn hs u hlen ?_ (by omega) kk
 have h1:=Nat.le_of_ble_eq_true R8
 have:=Nat.mul_le_mul hb h1
 omega
end rules
def uF:List AV→Option (List AV)
 | []=>some []
 | x :: r=>match uF r with
   | some l=>some (x :: l)
   | none=>none
theorem og:∀ {l l':List AV},uF l=some l'→l=l'
 | [],l',h=>by simp [uF] at h;exact h.symm
 | x :: r,l',h=>by
   simp only [uF] at h
   split at h
   ·rename_i l hl
    obtain rfl:=Option.some.inj h
    rw [og hl]
   ·cases h
def Nr:List AV→Nat→Option (List (Nat×AV))
 | [],_=>some []
 | x :: r,i=>match Nr r (i+1) with
   | some l=>some ((i,x) :: l)
   | none=>none
theorem KJ:∀ {l:List AV} {i:Nat} {l':List (Nat×AV)},Nr l i=some l'→Qd l i=l'
 | [],i,l',h=>by simp [Nr] at h;simpa [Qd] using h
 | x :: r,i,l',h=>by
   simp only [Nr] at h
   split at h
   ·rename_i l hl
    obtain rfl:=Option.some.inj h
    rw [Qd,KJ hl]
   ·cases h
class oL (P:Program) (t:TypeId) (sz:outParam Nat):Prop where
 h:∃ i,P.info? t=some i∧i.size=sz
theorem aM.bt {P:Program} {f:FuncId} {fn:Func} {c:Code} {args:List AV} {h:Heap} {Q:AV→Heap→Prop} {n:Nat} {l:List ResultVar} {tm:List (Nat×AV)} (hf:P.funcs[f]? =some fn) (hb:fn.body=some c) (hn:fn.ntmps=n) (JM:fn.results=l.toArray)
 (htm:Nr args 0=some tm) (hle:Nat.ble args.length n=true) (kk:ab P (fun σ=>ak σ (fun aL=>∃ rs,Rs P aL l rs∧Q (BE rs) aL.hp)) [.code c] ⟨n,tm,h⟩):aM P f args h Q:=
 aM.VI hf hb hn JM hle (by rw [KJ htm];exact kk)
section rules
variable {P:Program} {all:Array Oper} {rest:List Oper} {n:Nat} {tm:List (Nat×AV)} {hp:Heap} {Q:St→Prop} {d:Nat} {ty:TypeId} {pos:String} {af:Array Edge}
theorem df {x:Operand} {E:TypeId} {av:AV} {cs:List AV} (hx:dt tm x=some av) (hc:uF av.cells=some cs) (h1:mB cs=true) (hn:Nat.blt d n=true)
 (kk:∀ b:Bk,ai P all rest ⟨n,(d,.ptr b 0) :: tm,(b,.cells cs) :: hp⟩ Q):ai P all (⟨some d,.box E x,ty,pos,af,none⟩ :: rest) ⟨n,tm,hp⟩ Q:=by
 obtain rfl:=og hc
 exact VE hx h1 hn kk
theorem bH {E:TypeId} {i:TypeInfo} {z:Value} {cs:List AV} [bf P E i] (hz:i.zero=some z) (hc:uF (EJ z).cells=some cs) (h1:mB cs=true) (hn:Nat.blt d n=true)
 (kk:∀ b:Bk,ai P all rest ⟨n,(d,.ptr b 0) :: tm,(b,.cells cs) :: hp⟩ Q):ai P all (⟨some d,.alloc E,ty,pos,af,none⟩ :: rest) ⟨n,tm,hp⟩ Q:=by
 obtain rfl:=og hc
 exact Qi hz h1 hn kk
theorem aC {x:Operand} {s:TypeId} {j off:Nat} {b:Bk} {o o':Nat} [o9 P s j off] (hx:dt tm x=some (.ptr b o)) (ho:o+off=o'):QV P ⟨some d,.fieldAddr s x j,ty,pos,af,none⟩ ⟨n,tm,hp⟩ (.ptr b o'):=by
 subst ho
 exact HP hx
theorem bl {x:Operand} {s:TypeId} {j off:Nat} {cs pC:List AV} [o9 P s j off] (hx:dt tm x=some (.bJ cs)) (hc:uF (cs.drop off)=some pC):QV P ⟨some d,.fieldAddr s x j,ty,pos,af,none⟩ ⟨n,tm,hp⟩ (.bJ pC):=by
 obtain rfl:=og hc
 exact Gc hx
theorem cq {t:TypeId} {i:TypeInfo} {z:Value} {parts:List (Nat×Operand)} {l:List (Nat×AV)} {cs pC:List AV} {pl:List (Nat×Nat)} [bf P t i] [nX P t pl] (hz:i.zero=some z) (hl:UK tm parts=some l) (h1:mB (EJ z).cells=true)
 (hc:E8 pl (EJ z).cells l=some cs) (M0:uF cs=some pC):QV P ⟨some d,.build t parts.toArray,ty,pos,af,none⟩ ⟨n,tm,hp⟩ (.agg pC):=by
 obtain rfl:=og M0
 exact Ql hz hl h1 hc
theorem aD {t:TypeId} {i:TypeInfo} {x y:Operand} {b:Bk} {o:Nat} {cs pC:List AV} {av:AV} {dG:Heap} [bf P t i] (hx:dt tm x=some (.ptr b o)) (hy:dt tm y=some av) (h1:mB av.cells=true) (jH:Nat.beq av.cells.length i.size=true)
 (u:pB hp b (.cells cs) b (.cells pC) dG) (hc:uF (nW cs o av.cells)=some pC) (ho:Nat.ble (o+av.cells.length) cs.length=true) (kk:ai P all rest ⟨n,tm,dG⟩ Q):ai P all (⟨none,.store t x y,ty,pos,af,none⟩ :: rest) ⟨n,tm,hp⟩ Q:=by
 obtain rfl:=og hc
 exact HQ hx hy h1 jH u ho kk
theorem aQ {t e:TypeId} {i:TypeInfo} {z:Value} {len sz:Nat} {parts:List (Nat×Operand)} {xs:List AV} [aR P t (.slice e)] [bf P e i] [oL P e sz] (hz:i.zero=some z) (hl:MY tm parts 0=some xs) (hlen:Nat.beq parts.length len=true) (zK:zL i.size xs=true)
 (Ni:Nat.ble (len * i.size) 16777216=true) (hn:Nat.blt d n=true) (kk:ai P all rest ⟨n,(d,.list sz xs) :: tm,hp⟩ Q):ai P all (⟨some d,.buildSlice t len parts.toArray,ty,pos,af,none⟩ :: rest) ⟨n,tm,hp⟩ Q:=by
 obtain ⟨i',h1,h2⟩:=oL.h (P:=P) (t:=e)
 obtain rfl:i'=i:=by rw [bf.h (P:=P) (t:=e)] at h1;exact (Option.some.inj h1).symm
 subst h2
 exact EL hz hl hlen zK Ni hn kk
theorem sX {t e:TypeId} {i:TypeInfo} {z:Value} {len sz:Nat} {parts:List (Nat×Operand)} {xs:List AV} [aR P t (.slice e)] [bf P e i] [oL P e sz] (hz:i.zero=some z) (hl:MY tm parts 0=some xs) (hlen:Nat.beq parts.length len=true) (zK:zL i.size xs=true)
 (Ni:Nat.ble (len * i.size) 16777216=true) (hn:Nat.blt d n=true) (kk:∀ b:Bk,ai P all rest ⟨n,(d,.sl sz b 0 len) :: tm,(b,.arr sz xs) :: hp⟩ Q):ai P all (⟨some d,.buildSlice t len parts.toArray,ty,pos,af,none⟩ :: rest) ⟨n,tm,hp⟩ Q:=by
 obtain ⟨i',h1,h2⟩:=oL.h (P:=P) (t:=e)
 obtain rfl:i'=i:=by rw [bf.h (P:=P) (t:=e)] at h1;exact (Option.some.inj h1).symm
 subst h2
 exact zM hz hl hlen zK Ni hn kk
end rules
structure Grow (w:World) (S:Nat→Prop) (w':World) (S':Nat→Prop):Prop where
 ext:Ext w w'
 up:∀ n,S n→S' n
 down:∀ n,n < w.heap.size→S' n→S n
 slt:∀ n,S' n→n < w'.heap.size
theorem Grow.refl {w:World} {S:Nat→Prop} (h:∀ n,S n→n < w.heap.size):Grow w S w S:=⟨Ext.refl w,fun _ h=>h,fun _ _ h=>h,h⟩
theorem Grow.trans {a b c:World} {S T U:Nat→Prop} (h:Grow a S b T) (k:Grow b T c U):Grow a S c U:=
 ⟨h.ext.trans k.ext,fun n hn=>k.up n (h.up n hn),fun n hn hs=>h.down n hn (k.down n (Nat.lt_of_lt_of_le hn h.ext.size) hs),k.slt⟩
theorem Grow.keep {w w':World} {S S':Nat→Prop} (g:Grow w S w' S') (h:∀ n,S n→n < w.heap.size):∀ n,S n→S' n∧w'.heap[n]? =w.heap[n]?:=fun n hn=>⟨g.up n hn,g.ext.same n (h n hn)⟩
theorem du.grow {w w':World} {S S':Nat→Prop} {h:Heap} (r:du w S h) (g:Grow w S w' S'):du w' S' h where
 nodup:=r.nodup
 holds e he:=(r.holds e he).mono (g.keep r.slt) (fun n hn=>g.ext.same n (r.lt ⟨e,he,hn⟩))
 sep e he n hn:=by
  rw [← r.sep e he n hn]
  exact ⟨g.down n (r.lt ⟨e,he,hn⟩),g.up n⟩
 slt:=g.slt
 jC t o ho:=⟨(g.keep r.slt t (r.jC t o ho).1).1,E4 (g.keep r.slt t (r.jC t o ho).1).2 (r.jC t o ho).2⟩
theorem Grow.evo {w w':World} {S S':Nat→Prop} (g:Grow w S w' S') (h:∀ n,S n→n < w.heap.size) (hp:Heap):kT w S hp w' S' hp:=
 ⟨g.ext.os,g.ext.tape,g.ext.output,g.ext.size,g.keep h,fun n hn _=>⟨g.ext.same n hn,g.down n hn⟩,fun _ hn=>.inl hn,g.ext.drawn⟩
def looks (all:Array Oper) (o:Oper):List Nat:=
 (o.op.operands.toList.filterMap fun | .tmp t=>some t | _=>none)++(match o.guard with | some (g,_)=>((all[g]?).bind (·.dst)).toList | none=>[])
abbrev Env:=Nat→Option AV
def Gi (w:World) (S:Nat→Prop) (ls:List Nat) (e:Env) (a:Act):Prop:=∀ s∈ls,∀ av,e s=some av→∃ v,a.tmps[s]? =some v∧At w S av v
def MV (P:Program) (all:Array Oper) (n:Nat) (o:Oper) (e:Env) (hp:Heap) (av:AV):Prop:=
 ∀ w S a,a.tmps.size=n→a.defers=[]→du w S hp→Gi w S (looks all o) e a→∀ (K:Act→World→Prop) (Q:Exit→Act→World→Prop),
   (∀ v w' S',Grow w S w' S'→At w' S' av v→K (a.put o.dst v) w')→o.wp P a w K Q
def yo (e:Env) (d:Option Nat) (av:AV):Env:=match d with
 | some d=>fun s=>if d=s then some av else e s
 | none=>e
def oY (all:Array Oper) (o:Oper) (e:Env) (b:Bool):Prop:=
 match o.guard with
 | none=>b=true
 | some (j,want)=>∃ s,(all[j]?).bind (·.dst)=some s∧((∃ c,e s=some (.bool c)∧b=(c==want))∨(e s=some (.raw undef)∧b=false))
inductive Qr (P:Program) (all:Array Oper) (n:Nat) (hp:Heap):List Oper→Env→Env→Prop
 | nil (e:Env):Qr P all n hp [] e e
 | run {o:Oper} {l:List Oper} {e e':Env} {av:AV} (hg:oY all o e true) (h:MV P all n o e hp av) (hd:∀ d,o.dst=some d→d < n) (k:Qr P all n hp l (yo e o.dst av) e'):Qr P all n hp (o :: l) e e'
 | pass {o:Oper} {l:List Oper} {e e':Env} (hg:oY all o e false) (hd:∀ d,o.dst=some d→d < n) (k:Qr P all n hp l (yo e o.dst (.raw undef)) e'):Qr P all n hp (o :: l) e e'
def R9 (P:Program) (all:Array Oper) (n:Nat) (hp:Heap) (o:Oper) (e:Env) (av:AV):Prop:=
 (∀ d,o.dst=some d→d < n)∧((oY all o e true∧MV P all n o e hp av)∨(oY all o e false∧av=.raw undef))
theorem Qr.JO {P:Program} {all:Array Oper} {n:Nat} {hp:Heap} {l:List Oper} {e e':Env} (h:Qr P all n hp l e e'):
 ∃ (mP:Nat→AV) (en:Nat→Env),en 0=e∧en l.length=e'∧∀ i o,l[i]? =some o→R9 P all n hp o (en i) (mP i)∧en (i+1)=yo (en i) o.dst (mP i):=by
 induction h with
 | nil e=>exact ⟨fun _=>.nil,fun _=>e,rfl,rfl,fun i o h=>by simp at h⟩
 | @run o l e e' av hg hm hd k ih=>
   obtain ⟨mP,en,h0,h1,h2⟩:=ih
   refine ⟨fun i=>match i with | 0=>av | i+1=>mP i,fun i=>match i with | 0=>e | i+1=>en i,rfl,h1,fun i o' ho=>?_⟩
   match i with
   | 0=>simp at ho;subst ho;exact ⟨⟨hd,.inl ⟨hg,hm⟩⟩,h0⟩
   | i+1=>exact h2 i o' (by simpa using ho)
 | @pass o l e e' hg hd k ih=>
   obtain ⟨mP,en,h0,h1,h2⟩:=ih
   refine ⟨fun i=>match i with | 0=>.raw undef | i+1=>mP i,fun i=>match i with | 0=>e | i+1=>en i,rfl,h1,fun i o' ho=>?_⟩
   match i with
   | 0=>simp at ho;subst ho;exact ⟨⟨hd,.inr ⟨hg,rfl⟩⟩,h0⟩
   | i+1=>exact h2 i o' (by simpa using ho)
def waits (o:Oper) (i:Nat):Bool:=o.after.toList.any fun e=>Region.binds .any e&&Nat.beq e.on i
def BF (all:Array Oper) (oi oj:Oper):Bool:=
 match oi.dst,oj.dst with
 | some d,some d'=>(looks all oj).contains d||(looks all oi).contains d'||Nat.beq d d'
 | some d,none=>(looks all oj).contains d
 | none,some d'=>(looks all oi).contains d'
 | none,none=>false
inductive BG (all:Array Oper):Nat→Nat→Prop
 | one {j i:Nat} {oj:Oper} (hj:all[j]? =some oj) (hw:waits oj i=true):BG all j i
 | step {j k i:Nat} {oj:Oper} (hj:all[j]? =some oj) (hw:waits oj k=true) (h:BG all k i):BG all j i
def Gj (acc:List Nat):List Edge→Nat→Nat
 | [],m=>m
 | e :: r,m=>Gj acc r (match Region.binds .any e with
   | true=>m||| (1 <<< e.on)||| acc.getD e.on 0
   | false=>m)
def Ns:List Oper→List Nat→List Nat
 | [],acc=>acc
 | o :: r,acc=>Ns r (acc++[Gj acc o.after.toList 0])
def LK (all:Array Oper):List Nat:=Ns all.toList []
theorem BH {acc:List Nat} {i:Nat}:∀ (es:List Edge) (m:Nat),(Gj acc es m).testBit i=true→m.testBit i=true∨∃ e∈es,Region.binds .any e=true∧(e.on=i∨(acc.getD e.on 0).testBit i=true)
 | [],m,h=>.inl h
 | e :: r,m,h=>by
   simp only [Gj] at h
   rcases BH r _ h with h | ⟨e',he,hb,hh⟩
   ·split at h
    ·rename_i hb
     rw [Nat.testBit_or,Nat.testBit_or,Bool.or_eq_true,Bool.or_eq_true] at h
     rcases h with (h | h) | h
     ·exact .inl h
     ·refine .inr ⟨e,by simp,hb,.inl ?_⟩
      rw [Nat.one_shiftLeft,Nat.testBit_two_pow] at h
      simpa using h
     ·exact .inr ⟨e,by simp,hb,.inr h⟩
    ·exact .inl h
   ·exact .inr ⟨e',by simp [he],hb,hh⟩
theorem Dq {all:Array Oper}:∀ (l:List Oper) (acc:List Nat) (pre:List Oper),all.toList=pre++l→acc.length=pre.length→(∀ j i,(acc.getD j 0).testBit i=true→BG all j i)→∀ j i,((Ns l acc).getD j 0).testBit i=true→BG all j i
 | [],acc,pre,_,_,h=>h
 | o :: r,acc,pre,hl,hlen,h=>by
   refine Dq r _ (pre++[o]) (by simpa using hl) (by simp [hlen]) (fun j i hb=>?_)
   rcases Nat.lt_or_ge j acc.length with hj | hj
   ·refine h j i ?_
    rw [List.getD_eq_getElem?_getD,List.getElem?_append_left hj] at hb
    rw [List.getD_eq_getElem?_getD]
    exact hb
   ·by_cases hje:j=acc.length
    ·rw [List.getD_eq_getElem?_getD,List.getElem?_append_right hj,hje] at hb
     simp only [Nat.sub_self,List.getElem?_cons_zero,Option.getD_some] at hb
     have PY:all[j]? =some o:=by
      rw [← Array.getElem?_toList,hl,List.getElem?_append_right (by omega),hje,hlen];simp
     rcases BH _ _ hb with hz | ⟨e,he,hbd,hh⟩
     ·simp at hz
     ·have hw:waits o e.on=true:=by
       simp only [waits,List.any_eq_true,Bool.and_eq_true]
       exact ⟨e,he,hbd,by simp⟩
      rcases hh with hh | hh
      ·subst hh;exact .one PY hw
      ·exact .step PY hw (h _ _ hh)
    ·rw [List.getD_eq_getElem?_getD,List.getElem?_append_right hj,List.getElem?_eq_none (by simp;omega)] at hb
     simp at hb
theorem pa {all:Array Oper} {j i:Nat} (h:((LK all).getD j 0).testBit i=true):BG all j i:=
 Dq all.toList [] [] (by simp) rfl (fun j i h=>by simp at h) j i h
def HZ (all:Array Oper) (m:Nat) (A:List Nat):Bool:=
 (List.range all.size).all fun j=>match all[j]? with
  | none=>true
  | some oj=>(oj.after.all fun e=>!Region.binds .any e||Nat.blt e.on j)&&(List.range j).all fun i=>match all[i]? with
    | none=>true
    | some oi=>if Nat.blt j m then !BF all oi oj||(A.getD j 0).testBit i else (A.getD j 0).testBit i
def wI (all:Array Oper) (m:Nat):Prop:=∃ A,LK all=A∧HZ all m A=true
theorem kU {all:Array Oper} {m:Nat} (h:wI all m) {i j:Nat} {oi oj:Oper} (hj:all[j]? =some oj) (hi:all[i]? =some oi) (BI:i < j):(j < m→BF all oi oj=true→BG all j i)∧(m≤j→BG all j i):=by
 obtain ⟨A,hA,h⟩:=h
 subst hA
 have KK:j < all.size:=(Array.getElem?_eq_some_iff.1 hj).1
 simp only [HZ,List.all_eq_true,List.mem_range] at h
 have h1:=h j KK
 rw [hj] at h1
 simp only [Bool.and_eq_true,List.all_eq_true,List.mem_range] at h1
 have h2:=h1.2 i BI
 rw [hi] at h2
 simp only at h2
 refine ⟨fun hm hc=>?_,fun hm=>?_⟩
 ·rw [if_pos (by simpa using hm)] at h2
  exact pa (by simpa [hc] using h2)
 ·rw [if_neg (by simp;omega)] at h2
  exact pa h2
theorem y7 {all:Array Oper} {m:Nat} (h:wI all m) {j:Nat} {oj:Oper} (hj:all[j]? =some oj) {e:Edge} (he:e∈oj.after) (hb:Region.binds .any e=true):e.on < j:=by
 obtain ⟨A,hA,h⟩:=h
 have KK:j < all.size:=(Array.getElem?_eq_some_iff.1 hj).1
 simp only [HZ,List.all_eq_true,List.mem_range] at h
 have h1:=h j KK
 rw [hj] at h1
 simp only [Bool.and_eq_true,Array.all_eq_true_iff_forall_mem] at h1
 have:=h1.1 e he
 simpa [hb] using this
theorem uG {all:Array Oper} {listed:Array Bool} {i j:Nat} {oj:Oper} (hj:all[j]? =some oj) (hr:j∈Region.ready .any all listed) (hw:waits oj i=true):listed.getD i false=true:=by
 simp only [Region.ready,List.mem_filter,List.mem_range,hj,Option.map_some,Option.getD_some,Bool.and_eq_true,Array.all_eq_true_iff_forall_mem] at hr
 simp only [waits,List.any_eq_true,Bool.and_eq_true] at hw
 obtain ⟨e,he,hb,Sa⟩:=hw
 have:=hr.2.2 e (by simpa using he)
 rw [hb] at this
 obtain rfl:e.on=i:=Nat.eq_of_beq_eq_true Sa
 simpa using this
def lI (all:Array Oper) (listed:Array Bool):Prop:=∀ k i o,listed.getD k false=true→all[k]? =some o→waits o i=true→listed.getD i false=true
theorem lI.Qt {all:Array Oper} {listed:Array Bool} (c:lI all listed) {j i:Nat} (h:BG all j i) (hl:listed.getD j false=true):listed.getD i false=true:=by
 induction h with
 | one hj hw=>exact c _ _ _ hl hj hw
 | step hj hw _ ih=>exact ih (c _ _ _ hl hj hw)
theorem lI.ready {all:Array Oper} {listed:Array Bool} (c:lI all listed) {j i:Nat} (h:BG all j i) (hr:j∈Region.ready .any all listed):listed.getD i false=true:=by
 cases h with
 | one hj hw=>exact uG hj hr hw
 | step hj hw h=>exact c.Qt h (uG hj hr hw)
theorem x7 {all:Array Oper} {listed:Array Bool} {j:Nat} (hr:j∈Region.ready .any all listed):j < all.size∧listed.getD j true=false:=by
 simp only [Region.ready,List.mem_filter,List.mem_range,Bool.and_eq_true] at hr
 exact ⟨hr.1,by simpa using hr.2.1⟩
theorem A1 {all:Array Oper} {m:Nat} (h:wI all m) {listed:Array Bool} (hl:listed.size=all.size) (hr:Region.ready .any all listed=[]):∀ i,i < all.size→listed.getD i false=true:=by
 intro i
 induction i using Nat.strongRecOn with
 | _ i ih=>
   intro hi
   cases hv:listed.getD i false with
   | true=>rfl
   | false=>
     exfalso
     have:i∈Region.ready .any all listed:=by
      simp only [Region.ready,List.mem_filter,List.mem_range,Bool.and_eq_true]
      have S8:i < listed.size:=by omega
      refine ⟨hi,?_,?_⟩
      ·simp [S8] at hv ⊢;exact hv
      ·have BJ:all[i]? =some all[i]:=by simp [hi]
       rw [BJ]
       simp only [Option.map_some,Option.getD_some,Array.all_eq_true_iff_forall_mem]
       intro e he
       cases hb:Region.binds .any e with
       | false=>simp
       | true=>
         have lh:=y7 h BJ he hb
         simp [ih e.on lh (by omega)]
     rw [hr] at this
     simp at this
section order
variable {P:Program} {all:Array Oper} {n m:Nat} {hp:Heap}
def cur (all:Array Oper) (mP:Nat→AV) (e:Env) (listed:Array Bool):Nat→Env
 | 0=>e
 | k+1=>if listed.getD k false then yo (cur all mP e listed k) ((all[k]?).bind (·.dst)) (mP k) else cur all mP e listed k
theorem mH {e:Env} {d:Option Nat} {av:AV} {s:Nat} (h:d≠some s):yo e d av s=e s:=by
 cases d with
 | none=>rfl
 | some d=>simp only [yo];rw [if_neg (fun e=>h (by rw [e]))]
theorem pH {e:Env} {av:AV} {s:Nat}:yo e (some s) av s=some av:=by simp [yo]
theorem y8 {oi oj:Oper} {s:Nat} (hd:oi.dst=some s) (hs:s∈looks all oj):BF all oi oj=true:=by
 unfold BF
 rw [hd]
 cases hj:oj.dst<;>simp [hs]
theorem BK {oi oj:Oper} {s:Nat} (hd:oj.dst=some s) (hs:s∈looks all oi):BF all oi oj=true:=by
 unfold BF
 rw [hd]
 cases hi:oi.dst<;>simp [hs]
theorem Fe {oi oj:Oper} {s:Nat} (hi:oi.dst=some s) (hj:oj.dst=some s):BF all oi oj=true:=by
 unfold BF
 rw [hi,hj]
 simp
structure PZ (all:Array Oper) (m:Nat) (listed:Array Bool):Prop where
 size:listed.size=all.size
 head:∀ k,listed.getD k false=true→k < m
 closed:∀ k i o,listed.getD k false=true→all[k]? =some o→waits o i=true→listed.getD i false=true
theorem CL {listed:Array Bool} {i:Nat} (h:listed.getD i true=false):listed.getD i false=false:=by
 by_cases hi:i < listed.size
 ·simp [hi] at h ⊢;exact h
 ·simp [hi]
variable {mP:Nat→AV} {en:Nat→Env} {e:Env}
theorem Nt (hB:wI all m) {listed:Array Bool} (L:PZ all m listed) (h0:en 0=e) (hs:∀ i o,i < m→all[i]? =some o→en (i+1)=yo (en i) o.dst (mP i)) (hm:m≤all.size)
 {i:Nat} {o:Oper} (ho:all[i]? =some o) (Ff:i < m) (yp:listed.getD i false=false) (hr:∀ j,BG all i j→listed.getD j false=true) {s:Nat} (Dr:s∈looks all o):∀ k,k≤all.size→cur all mP e listed k s=en (min k i) s:=by
 intro k
 induction k with
 | zero=>intro _;simp [cur,h0]
 | succ k ih=>
   intro hk
   have wW:=ih (by omega)
   have wX:all[k]? =some all[k]:=by simp [show k < all.size by omega]
   simp only [cur,wX,Option.bind_some]
   rcases Nat.lt_trichotomy k i with lh | heq | Nu
   ·rw [Nat.min_eq_left (by omega)] at wW
    rw [Nat.min_eq_left (by omega),hs k _ (by omega) wX]
    by_cases hd:(all[k]).dst=some s
    ·have hl:listed.getD k false=true:=hr k ((kU hB ho wX lh).1 Ff (y8 hd Dr))
     rw [if_pos hl,hd,pH,pH]
    ·rw [mH hd]
     split
     ·rw [mH hd];exact wW
     ·exact wW
   ·subst heq
    rw [yp]
    simp only [Bool.false_eq_true,if_false]
    rw [Nat.min_eq_right (by omega)]
    rw [Nat.min_eq_right (by omega)] at wW
    exact wW
   ·rw [Nat.min_eq_right (by omega)] at wW
    rw [Nat.min_eq_right (by omega)]
    by_cases hl:listed.getD k false=true
    ·by_cases hd:(all[k]).dst=some s
     ·exfalso
      have hw:=(kU hB wX ho Nu).1 (L.head k hl) (BK hd Dr)
      have:=lI.Qt L.closed hw hl
      rw [yp] at this;cases this
     ·rw [if_pos hl,mH hd];exact wW
    ·rw [if_neg hl];exact wW
theorem jL {listed:Array Bool} {i k:Nat} (hi:i < listed.size):(listed.setIfInBounds i true).getD k false=(if k=i then true else listed.getD k false):=by
 by_cases hk:k < listed.size
 ·simp [hk,Array.getElem_setIfInBounds]
  by_cases h:k=i
  ·simp [h]
  ·have h':¬ i=k:=fun e=>h e.symm
   simp [h,h']
 ·have:k≠i:=by omega
  simp [hk,this]
theorem Qu (hB:wI all m) {listed:Array Bool} (L:PZ all m listed) {i:Nat} {o:Oper} (ho:all[i]? =some o) (Ff:i < m) (yp:listed.getD i false=false) (s:Nat):
 ∀ k,k≤all.size→cur all mP e (listed.setIfInBounds i true) k s=(if i < k then yo (cur all mP e listed k) o.dst (mP i) s else cur all mP e listed k s):=by
 have hi:i < listed.size:=by rw [L.size];exact (Array.getElem?_eq_some_iff.1 ho).1
 intro k
 induction k with
 | zero=>intro _;simp [cur]
 | succ k ih=>
   intro hk
   have wW:=ih (by omega)
   have wX:all[k]? =some all[k]:=by simp [show k < all.size by omega]
   simp only [cur,wX,Option.bind_some,jL hi]
   rcases Nat.lt_trichotomy k i with lh | heq | Nu
   ·rw [if_neg (by omega)] at wW
    have e1:(if k=i then true else listed.getD k false)=listed.getD k false:=if_neg (by omega)
    rw [e1,if_neg (show ¬ i < k+1 by omega)]
    by_cases hl:listed.getD k false=true
    ·rw [if_pos hl,if_pos hl]
     by_cases hd:(all[k]).dst=some s
     ·rw [hd,pH,pH]
     ·rw [mH hd,mH hd];exact wW
    ·rw [if_neg hl,if_neg hl];exact wW
   ·subst heq
    rw [if_neg (by omega)] at wW
    have e1:(if k=k then true else listed.getD k false)=true:=if_pos rfl
    rw [e1,if_pos (show k < k+1 by omega),if_pos rfl,yp,if_neg Bool.false_ne_true]
    obtain rfl:all[k]=o:=by rw [wX] at ho;exact Option.some.inj ho
    by_cases hd:(all[k]).dst=some s
    ·rw [hd,pH,pH]
    ·rw [mH hd,mH hd];exact wW
   ·rw [if_pos Nu] at wW
    have e1:(if k=i then true else listed.getD k false)=listed.getD k false:=if_neg (by omega)
    rw [e1,if_pos (show i < k+1 by omega)]
    by_cases hl:listed.getD k false=true
    ·rw [if_pos hl,if_pos hl]
     by_cases hd:(all[k]).dst=some s
     ·by_cases LL:o.dst=some s
      ·exfalso
       have hw:=(kU hB wX ho Nu).1 (L.head k hl) (Fe LL hd)
       have:=lI.Qt L.closed hw hl
       rw [yp] at this;cases this
      ·rw [hd,pH,mH LL,pH]
     ·by_cases LL:o.dst=some s
      ·rw [mH hd,wW,LL,pH,pH]
      ·rw [mH hd,wW,mH LL,mH LL,mH hd]
    ·rw [if_neg hl,if_neg hl];exact wW
theorem H3 (hB:wI all m) {Q:Exit→Act→World→Prop}:∀ (fuel k:Nat) (listed:Array Bool) (a:Act) (w:World),m≤k→k+fuel=all.size→listed.size=all.size→(∀ i,i < k→listed.getD i false=true)→(∀ i,k≤i→listed.getD i false=false)→
 wpList P all Q (all.toList.drop k) a w→wpAny P .any all Q fuel listed a w:=by
 intro fuel
 induction fuel with
 | zero=>
   intro k listed a w hm hk jH h1 h2 h
   have S9:all.toList.drop k=[]:=List.drop_eq_nil_of_le (by simp;omega)
   rw [S9] at h
   refine ⟨?_,h⟩
   refine List.eq_nil_iff_forall_not_mem.2 fun i hi=>?_
   obtain ⟨Cj,LM⟩:=x7 hi
   have:=h1 i (by omega)
   rw [CL LM] at this
   cases this
 | succ fuel ih=>
   intro k listed a w hm hk jH h1 h2 h
   have YC:k < all.size:=by omega
   have wX:all[k]? =some all[k]:=by simp [YC]
   refine ⟨fun hr=>?_,fun i hi=>?_⟩
   ·have:=A1 hB jH hr k YC
    rw [h2 k (Nat.le_refl _)] at this
    cases this
   ·obtain ⟨Cj,LM⟩:=x7 hi
    have BJ:all[i]? =some all[i]:=by simp [Cj]
    obtain rfl:i=k:=by
     rcases Nat.lt_trichotomy i k with lh | heq | Nu
     ·have:=h1 i lh;rw [CL LM] at this;cases this
     ·exact heq
     ·have Dh:lI all listed:=fun k' i' o KL ho' hw'=>by
       have lh:k' < k:=by
        rcases Nat.lt_or_ge k' k with h | h
        ·exact h
        ·rw [h2 k' h] at KL;cases KL
       simp only [waits,List.any_eq_true,Bool.and_eq_true] at hw'
       obtain ⟨e',YD,Ci,Ta⟩:=hw'
       have:=y7 hB ho' (by simpa using YD) Ci
       obtain rfl:e'.on=i':=Nat.eq_of_beq_eq_true Ta
       exact h1 _ (by omega)
      have:=Dh.ready ((kU hB BJ wX Nu).2 (by omega)) hi
      rw [h2 k (Nat.le_refl _)] at this;cases this
    have VL:all.toList.drop i=all[i] :: all.toList.drop (i+1):=by
     rw [List.drop_eq_getElem_cons (by simpa using YC)]
     simp
    rw [VL] at h
    unfold wpList at h
    simp only [wpOp,wX]
    have next:∀ a w,wpList P all Q (all.toList.drop (i+1)) a w→wpAny P .any all Q fuel (listed.setIfInBounds i true) a w:=fun a w hh=>by
     have qJ:i < listed.size:=by omega
     refine ih (i+1) (listed.setIfInBounds i true) a w (by omega) (by omega) (by simpa using jH) (fun j hj=>?_) (fun j hj=>?_) hh
     ·rw [jL qJ];split
      ·rfl
      ·exact h1 j (by omega)
     ·rw [jL qJ,if_neg (by omega)];exact h2 j (by omega)
    split at h
    ·rename_i hw
     rw [if_pos hw]
     exact h.imp (fun hh=>Oper.wp_mono next hh) id
    ·rename_i hw
     rw [if_neg hw]
     exact next _ _ h
theorem x8 {o:Oper} {e:Env} {b:Bool} {w:World} {S:Nat→Prop} {a:Act} (hw:oY all o e b) (r:Gi w S (looks all o) e a):Region.wanted o (yielded all a.tmps)=b:=by
 unfold oY at hw
 unfold Region.wanted
 cases hg:o.guard with
 | none=>rw [hg] at hw;simp only at hw;rw [hw]
 | some g=>
   obtain ⟨j,want⟩:=g
   rw [hg] at hw
   simp only at hw
   obtain ⟨s,h1,⟨c,h2,h3⟩ | ⟨h2,h3⟩⟩:=hw
   ·obtain ⟨v,g1,g2⟩:=r s (by simp [looks,hg,h1]) _ h2
    cases g2
    rw [h3]
    cases c<;>cases want<;>simp [yielded,h1,g1]
   ·obtain ⟨v,g1,g2⟩:=r s (by simp [looks,hg,h1]) _ h2
    cases g2
    rw [h3]
    simp [yielded,h1,g1,undef]
def Ds (w:World) (S:Nat→Prop) (e:Env) (a:Act):Prop:=∀ s av,e s=some av→∃ v,a.tmps[s]? =some v∧At w S av v
theorem Nv (hB:wI all m) (hm:m≤all.size) {Q:Exit→Act→World→Prop} (h0:en 0=e) (hs:∀ i o,i < m→all[i]? =some o→R9 P all n hp o (en i) (mP i)∧en (i+1)=yo (en i) o.dst (mP i)) {w0:World} {S0:Nat→Prop}
 (fin:∀ a w S,a.tmps.size=n→a.defers=[]→du w S hp→Grow w0 S0 w S→Ds w S (en m) a→wpList P all Q (all.toList.drop m) a w):
 ∀ (fuel:Nat) (listed:Array Bool) (a:Act) (w:World) (S:Nat→Prop),PZ all m listed→(listed.toList.count true)+fuel=all.size→a.tmps.size=n→a.defers=[]→du w S hp→Grow w0 S0 w S→Ds w S (cur all mP e listed all.size) a→
   wpAny P .any all Q fuel listed a w:=by
 have KM:∀ i o,i < m→all[i]? =some o→en (i+1)=yo (en i) o.dst (mP i):=fun i o h1 h2=>(hs i o h1 h2).2
 have done:∀ (fuel:Nat) (listed:Array Bool) (a:Act) (w:World) (S:Nat→Prop),PZ all m listed→(listed.toList.count true)+fuel=all.size→a.tmps.size=n→a.defers=[]→du w S hp→Grow w0 S0 w S→Ds w S (cur all mP e listed all.size) a→
  (∀ i,i < m→listed.getD i false=true)→wpAny P .any all Q fuel listed a w:=by
  intro fuel listed a w S L hc jH JP hr hg wE mC
  have Fg:∀ i,m≤i→listed.getD i false=false:=fun i hi=>by
   cases hv:listed.getD i false with
   | false=>rfl
   | true=>have:=L.head i hv;omega
  have Tb:listed.toList.count true=m:=by
   have:listed.toList=List.replicate m true++List.replicate (all.size - m) false:=by
    apply List.ext_getElem?
    intro i
    rcases Nat.lt_or_ge i m with hi | hi
    ·have qJ:i < listed.size:=by rw [L.size];omega
     rw [List.getElem?_append_left (by simpa using hi)]
     have:=mC i hi
     simp [qJ] at this
     simp [qJ,hi,this]
    ·rw [List.getElem?_append_right (by simpa using hi)]
     rcases Nat.lt_or_ge i listed.size with qJ | qJ
     ·have:=Fg i hi
      simp [qJ] at this
      have h2:i - m < all.size - m:=by rw [L.size] at qJ;omega
      simp [qJ,h2,this]
     ·have h2:¬ i - m < all.size - m:=by rw [L.size] at qJ;omega
      simp [List.getElem?_eq_none (l:=listed.toList) (by simpa using qJ),h2]
   rw [this,List.count_append,List.count_replicate,List.count_replicate]
   simp
  have Tc:cur all mP e listed all.size=en m:=by
   have key:∀ k,k≤all.size→cur all mP e listed k=en (min k m):=by
    intro k
    induction k with
    | zero=>intro _;simp [cur,h0]
    | succ k ih=>
      intro hk
      have wX:all[k]? =some all[k]:=by simp [show k < all.size by omega]
      simp only [cur,wX,Option.bind_some,ih (by omega)]
      rcases Nat.lt_or_ge k m with h | h
      ·rw [if_pos (mC k h),Nat.min_eq_left (by omega),Nat.min_eq_left (by omega),KM k _ h wX]
      ·rw [if_neg (by rw [Fg k h];simp),Nat.min_eq_right (by omega),Nat.min_eq_right (by omega)]
   rw [key all.size (Nat.le_refl _),Nat.min_eq_right hm]
  rw [Tc] at wE
  exact H3 hB fuel m listed a w (Nat.le_refl _) (by omega) L.size mC Fg (fin a w S jH JP hr hg wE)
 intro fuel
 induction fuel with
 | zero=>
   intro listed a w S L hc jH JP hr hg wE
   refine done 0 listed a w S L hc jH JP hr hg wE (fun i hi=>?_)
   have H4:listed.toList.count true=listed.toList.length:=by rw [Array.length_toList,L.size];omega
   have mC:=List.count_eq_length.1 H4
   have qJ:i < listed.size:=by rw [L.size];omega
   have:=mC listed[i] (by simp)
   simp [qJ];exact this.symm
 | succ fuel ih=>
   intro listed a w S L hc jH JP hr hg wE
   by_cases mC:∀ i,i < m→listed.getD i false=true
   ·exact done _ listed a w S L hc jH JP hr hg wE mC
   ·refine ⟨fun Nw=>(mC fun i hi=>A1 hB L.size Nw i (by omega)).elim,fun i hi=>?_⟩
    obtain ⟨Cj,LM⟩:=x7 hi
    have yp:=CL LM
    have BJ:all[i]? =some all[i]:=by simp [Cj]
    have Ff:i < m:=by
     rcases Nat.lt_or_ge i m with h | h
     ·exact h
     ·refine (mC fun j hj=>?_).elim
      have PY:all[j]? =some all[j]:=by simp [show j < all.size by omega]
      exact lI.ready L.closed ((kU hB BJ PY (by omega)).2 h) hi
    have qJ:i < listed.size:=by rw [L.size];exact Cj
    obtain ⟨⟨RW,Dt⟩,_⟩:=hs i _ Ff BJ
    have A0:Gi w S (looks all all[i]) (en i) a:=by
     intro s Dr av tC
     have hc:=Nt (mP:=mP) (en:=en) (e:=e) hB L h0 KM hm BJ Ff yp (fun j hj=>lI.ready L.closed hj hi) Dr all.size (Nat.le_refl _)
     rw [Nat.min_eq_right (by omega)] at hc
     exact wE s av (by rw [hc];exact tC)
    have L':PZ all m (listed.setIfInBounds i true):=by
     refine ⟨by simpa using L.size,fun k hk=>?_,fun k j o hk wX hw=>?_⟩
     ·rw [jL qJ] at hk
      split at hk
      ·omega
      ·exact L.head k hk
     ·rw [jL qJ] at hk
      rw [jL qJ]
      split
      ·rfl
      ·split at hk
       ·rename_i YE
        subst YE
        obtain rfl:all[k]=o:=by rw [BJ] at wX;exact Option.some.inj wX
        exact uG BJ hi hw
       ·exact L.closed k j o hk wX hw
    have H4:(listed.setIfInBounds i true).toList.count true+fuel=all.size:=by
     have Nx:listed[i]=false:=by simpa [qJ] using yp
     have:(listed.setIfInBounds i true).toList=listed.toList.set i true:=by simp
     rw [this,List.count_set (by simpa using qJ)]
     have Qk:listed.toList[i]'(by simpa using qJ)=false:=by simpa using Nx
     rw [Qk]
     have e1:(if (false==true)=true then 1 else 0)=0:=rfl
     have e2:(if (true==true)=true then 1 else 0)=1:=rfl
     rw [e1,e2]
     omega
    have upd:∀ (v:Value) (w':World) (S':Nat→Prop),Grow w S w' S'→At w' S' (mP i) v→Ds w' S' (cur all mP e (listed.setIfInBounds i true) all.size) (a.put (all[i]).dst v):=by
     intro v w' S' Ny vl s av tC
     rw [Qu (mP:=mP) (e:=e) hB L BJ Ff yp s all.size (Nat.le_refl _),if_pos (by omega)] at tC
     by_cases hd:(all[i]).dst=some s
     ·rw [hd,pH] at tC
      obtain rfl:=Option.some.inj tC
      have VM:=RW s hd
      exact ⟨v,by rw [hd];simp [Act.put,jH,VM],vl⟩
     ·rw [mH hd] at tC
      obtain ⟨u,h1,h2⟩:=wE s av tC
      refine ⟨u,?_,h2.mono (Ny.keep hr.slt)⟩
      cases Gk:(all[i]).dst with
      | none=>simpa [Act.put] using h1
      | some d'=>
        have wF:d'≠s:=fun e=>hd (by rw [Gk,e])
        simp [Act.put,wF,h1]
    have Xx:∀ v,(a.put (all[i]).dst v).tmps.size=n:=fun v=>by cases (all[i]).dst<;>simp [Act.put,jH]
    have Xy:∀ v,(a.put (all[i]).dst v).defers=[]:=fun v=>by cases (all[i]).dst<;>simp [Act.put,JP]
    simp only [wpOp,BJ]
    rcases Dt with ⟨hw,YF⟩ | ⟨hw,tC⟩
    ·rw [if_pos (x8 hw A0)]
     refine .inl (YF w S a jH JP hr A0 _ _ (fun v w' S' Ny vl=>?_))
     exact ih _ _ _ S' L' H4 (Xx v) (Xy v) (hr.grow Ny) (hg.trans Ny) (upd v w' S' Ny vl)
    ·rw [if_neg (by rw [x8 hw A0];simp)]
     refine ih _ _ _ S L' H4 (Xx _) (Xy _) hr hg (upd _ w S (Grow.refl hr.slt) ?_)
     rw [tC];exact .raw _
end order
theorem vQ (d:Nat) (av:AV) (tm:List (Nat×AV)):lk ((d,av) :: tm)=yo (lk tm) (some d) av:=by
 funext s
 simp only [lk,yo]
 by_cases h:d=s
 ·subst h;simp
 ·rw [qW h,if_neg h]
def Hy:List Nat→List (Nat×AV)→List (Nat×AV)
 | [],_=>[]
 | s :: r,tm=>match lk tm s with
   | some av=>(s,av) :: Hy r tm
   | none=>Hy r tm
theorem Gl:∀ {ls:List Nat} {tm:List (Nat×AV)} {s:Nat} {av:AV},lk (Hy ls tm) s=some av→s∈ls∧lk tm s=some av
 | [],tm,s,av,h=>by simp [Hy,lk] at h
 | k :: ls,tm,s,av,h=>by
   simp only [Hy] at h
   split at h
   ·rename_i dF hk
    simp only [lk] at h
    split at h
    ·rename_i hb
     obtain rfl:k=s:=by simpa using hb
     obtain rfl:=Option.some.inj h
     exact ⟨by simp,hk⟩
    ·obtain ⟨h1,h2⟩:=Gl h
     exact ⟨by simp [h1],h2⟩
   ·obtain ⟨h1,h2⟩:=Gl h
    exact ⟨by simp [h1],h2⟩
theorem qK {w:World} {S:Nat→Prop} {a:Act} {n:Nat} {hp:Heap} {ls:List Nat} {tm:List (Nat×AV)} (h1:a.tmps.size=n) (h2:a.defers=[]) (h3:du w S hp) (h4:Gi w S ls (lk tm) a):ef w S ⟨n,Hy ls tm,hp⟩ a:=
 ⟨h1,h2,fun s av h=>h4 s (Gl h).1 av (Gl h).2,h3⟩
def AM (P:Program) (all:Array Oper) (n:Nat) (hp:Heap) (l:List Oper) (tm:List (Nat×AV)) (Q:List (Nat×AV)→Prop):Prop:=∃ qq,Qr P all n hp l (lk tm) (lk qq)∧Q qq
section rules
variable {P:Program} {all:Array Oper} {rest:List Oper} {n:Nat} {tm:List (Nat×AV)} {hp:Heap} {Q:List (Nat×AV)→Prop} {d:Nat} {ty:TypeId} {pos:String} {af:Array Edge} {op:Op}
theorem AM.nil (h:Q tm):AM P all n hp [] tm Q:=⟨tm,.nil _,h⟩
theorem AM.mv {av:AV} (h:MV P all n ⟨some d,op,ty,pos,af,none⟩ (lk tm) hp av) (hn:Nat.blt d n=true) (k:AM P all n hp rest ((d,av) :: tm) Q):AM P all n hp (⟨some d,op,ty,pos,af,none⟩ :: rest) tm Q:=by
 obtain ⟨qq,k1,k2⟩:=k
 refine ⟨qq,.run rfl h (fun d' hd=>?_) (by rw [vQ] at k1;exact k1),k2⟩
 obtain rfl:=Option.some.inj hd
 simpa using hn
theorem AM.qv {av:AV} (q:QV P ⟨some d,op,ty,pos,af,none⟩ ⟨n,Hy (looks all ⟨some d,op,ty,pos,af,none⟩) tm,hp⟩ av) (hn:Nat.blt d n=true) (k:AM P all n hp rest ((d,av) :: tm) Q):AM P all n hp (⟨some d,op,ty,pos,af,none⟩ :: rest) tm Q:=by
 refine AM.mv (fun w S a h1 h2 h3 h4 K Q' hK=>?_) hn k
 obtain ⟨v,g1,g2⟩:=q w S a (qK h1 h2 h3 h4)
 show Oper.upon P _ a K Q' _
 rw [g1 w (Ext.refl w)]
 exact hK v w S (Grow.refl h3.slt) g2
theorem AM.aB {j:Nat} {want b:Bool} {s:Nat} (hj:(all[j]?).bind (·.dst)=some s) (hs:lk tm s=some (.bool b)) (hb:b=want)
 (k:AM P all n hp (⟨some d,op,ty,pos,af,none⟩ :: rest) tm Q):AM P all n hp (⟨some d,op,ty,pos,af,some (j,want)⟩ :: rest) tm Q:=by
 obtain ⟨qq,k1,k2⟩:=k
 refine ⟨qq,?_,k2⟩
 cases k1 with
 | run hg h hd k=>
   refine .run ⟨s,hj,.inl ⟨b,hs,by simp [hb]⟩⟩ ?_ hd k
   intro w S a h1 h2 h3 h4 K Q' hK
   exact h w S a h1 h2 h3 (fun t ht=>h4 t (by simp only [looks,List.append_nil] at ht ⊢;exact List.mem_append_left _ ht)) K Q' hK
 | pass hg hd k=>simp [oY] at hg
theorem AM.az {j:Nat} {want b:Bool} {s:Nat} (hj:(all[j]?).bind (·.dst)=some s) (hs:lk tm s=some (.bool b)) (hb:b=!want) (hn:Nat.blt d n=true)
 (k:AM P all n hp rest ((d,.raw undef) :: tm) Q):AM P all n hp (⟨some d,op,ty,pos,af,some (j,want)⟩ :: rest) tm Q:=by
 obtain ⟨qq,k1,k2⟩:=k
 refine ⟨qq,.pass ⟨s,hj,.inl ⟨b,hs,?_⟩⟩ (fun d' hd=>?_) (by rw [vQ] at k1;exact k1),k2⟩
 ·rw [hb];cases want<;>rfl
 ·obtain rfl:=Option.some.inj hd
  simpa using hn
theorem AM.aY {j:Nat} {want:Bool} {s:Nat} (hj:(all[j]?).bind (·.dst)=some s) (hs:lk tm s=some (.raw undef)) (hn:Nat.blt d n=true)
 (k:AM P all n hp rest ((d,.raw undef) :: tm) Q):AM P all n hp (⟨some d,op,ty,pos,af,some (j,want)⟩ :: rest) tm Q:=by
 obtain ⟨qq,k1,k2⟩:=k
 refine ⟨qq,.pass ⟨s,hj,.inr ⟨hs,rfl⟩⟩ (fun d' hd=>?_) (by rw [vQ] at k1;exact k1),k2⟩
 obtain rfl:=Option.some.inj hd
 simpa using hn
theorem AM.lit {l:List Oper} {s:Nat} {b c:Bool} (hs:lk tm s=some (.bool b)) (hb:b=c) (k:AM P all n hp l ((s,.bool c) :: tm) Q):AM P all n hp l tm Q:=by
 subst hb
 obtain ⟨qq,k1,k2⟩:=k
 have:lk ((s,.bool b) :: tm)=lk tm:=by
  rw [vQ]
  funext t
  simp only [yo]
  split
  ·rename_i h;subst h;exact hs.symm
  ·rfl
 rw [this] at k1
 exact ⟨qq,k1,k2⟩
theorem AM.guard {j s:Nat} {want b:Bool} (hj:(all[j]?).bind (·.dst)=some s) (hs:lk tm s=some (.bool b)) (hn:Nat.blt d n=true) (h1:b=want→AM P all n hp (⟨some d,op,ty,pos,af,none⟩ :: rest) ((s,.bool want) :: tm) Q)
 (h2:b=!want→AM P all n hp rest ((d,.raw undef) :: (s,.bool (!want)) :: tm) Q):AM P all n hp (⟨some d,op,ty,pos,af,some (j,want)⟩ :: rest) tm Q:=by
 by_cases hb:b=want
 ·exact AM.lit hs hb (AM.aB hj (by simp [lk]) rfl (h1 hb))
 ·have Ci:b=!want:=by cases b<;>cases want<;>simp_all
  exact AM.lit hs Ci (AM.az hj (b:=!want) (by simp [lk]) rfl hn (h2 Ci))
theorem AM.ct {j s:Nat} {p:Prop} [Decidable p] (hj:(all[j]?).bind (·.dst)=some s) (hs:lk tm s=some (.bool (decide p))) (hn:Nat.blt d n=true) (h1:p→AM P all n hp (⟨some d,op,ty,pos,af,none⟩ :: rest) ((s,.bool true) :: tm) Q)
 (h2:¬ p→AM P all n hp rest ((d,.raw undef) :: (s,.bool false) :: tm) Q):AM P all n hp (⟨some d,op,ty,pos,af,some (j,true)⟩ :: rest) tm Q:=
 AM.guard hj hs hn (fun h=>h1 (of_decide_eq_true h)) (fun h=>h2 (of_decide_eq_false h))
theorem AM.jK {j s:Nat} {p:Prop} [Decidable p] (hj:(all[j]?).bind (·.dst)=some s) (hs:lk tm s=some (.bool (decide p))) (hn:Nat.blt d n=true) (h1:¬ p→AM P all n hp (⟨some d,op,ty,pos,af,none⟩ :: rest) ((s,.bool false) :: tm) Q)
 (h2:p→AM P all n hp rest ((d,.raw undef) :: (s,.bool true) :: tm) Q):AM P all n hp (⟨some d,op,ty,pos,af,some (j,false)⟩ :: rest) tm Q:=
 AM.guard hj hs hn (fun h=>h1 (of_decide_eq_false h)) (fun h=>h2 (of_decide_eq_true h))
theorem AM.gQ {f:FuncId} {args:List Operand} {ts:Array TypeId} {l l':List AV} {R:AV} [bD P f] (hl:BB (Hy (looks all ⟨some d,.call {callee:=.value (.func f),args:=args.toArray,argTypes:=ts},ty,pos,af,none⟩) tm) args=some l) (c:Pu P f l' R) (co:AN hp l l') (hn:Nat.blt d n=true)
 (k:AM P all n hp rest ((d,R) :: tm) Q):AM P all n hp (⟨some d,.call {callee:=.value (.func f),args:=args.toArray,argTypes:=ts},ty,pos,af,none⟩ :: rest) tm Q:=by
 refine AM.mv (fun w S a h1 h2 h3 h4 K Q' hK=>?_) hn k
 have r:=qK h1 h2 h3 h4
 show Oper.upon P _ a K Q' _
 rw [oe]
 obtain ⟨g1,g2⟩:=rJ r hl
 obtain ⟨g3,g4⟩:=AN.at r.hp co g1 g2
 refine (c w S _ (tE h3.slt h3.jC) (by simpa using g3) g4).mono ?_
 rintro e w' ⟨v,rr,h',S',rfl,rfl,k3,k4,k5⟩
 exact hK v w' S' ⟨k5.Fc,fun m hm=>(k5.keep m hm).1,fun m hm hs=>(k5.other m hm (fun ⟨x,hx,_⟩=>by simp at hx)).2 hs,k4.slt⟩ k3
theorem AM.Nz {f:FuncId} {args:List Operand} {ts:Array TypeId} {l l':List AV} {R:AV} [bD P f] (hl:BB (Hy (looks all ⟨some d,.call {callee:=.value (.func f),args:=args.toArray,argTypes:=ts},ty,pos,af,none⟩) tm) args=some l) (c:Pu P f l' R) (co:u6 hp l l') (hn:Nat.blt d n=true) (hR:R.UN=true)
 (k:AM P all n hp rest ((d,R) :: tm) Q):AM P all n hp (⟨some d,.call {callee:=.value (.func f),args:=args.toArray,argTypes:=ts},ty,pos,af,none⟩ :: rest) tm Q:=by
 refine AM.mv (fun w S a h1 h2 h3 h4 K Q' hK=>?_) hn k
 have r:=qK h1 h2 h3 h4
 show Oper.upon P _ a K Q' _
 rw [oe]
 obtain ⟨g1,g2⟩:=rJ r hl
 obtain ⟨g3,g4⟩:=u6.at r.hp co g1 g2
 refine (c w (SB S hp) _ (tE (fun m hm=>hm.elim (h3.slt m) fun h=>h3.lt h) (fun g o ho=>⟨.inl (h3.jC g o ho).1,(h3.jC g o ho).2⟩)) (by simpa using g3) g4).mono ?_
 rintro e w' ⟨v,rr,h',S',rfl,rfl,k3,k4,k5⟩
 have ex:=k5.Fc
 exact hK v w' S ⟨ex,fun m hm=>hm,fun m _ hs=>hs,fun m hm=>Nat.lt_of_lt_of_le (h3.slt m hm) ex.size⟩ (JK k3 hR)
theorem AM.bZ {t e:TypeId} {i:TypeInfo} {z:Value} {len sz:Nat} {parts:List (Nat×Operand)} {xs:List AV} [aR P t (.slice e)] [bf P e i] [oL P e sz] (hz:i.zero=some z)
 (hl:MY (Hy (looks all ⟨some d,.buildSlice t len parts.toArray,ty,pos,af,none⟩) tm) parts 0=some xs) (hlen:Nat.beq parts.length len=true) (zK:zL i.size xs=true) (Ni:Nat.ble (len * i.size) 16777216=true) (hn:Nat.blt d n=true)
 (k:AM P all n hp rest ((d,.list sz xs) :: tm) Q):AM P all n hp (⟨some d,.buildSlice t len parts.toArray,ty,pos,af,none⟩ :: rest) tm Q:=by
 obtain ⟨i',Cj,LM⟩:=oL.h (P:=P) (t:=e)
 obtain rfl:i'=i:=by rw [bf.h (P:=P) (t:=e)] at Cj;exact (Option.some.inj Cj).symm
 subst LM
 refine AM.mv (fun w S a h1 h2 h3 h4 K Q' hK=>?_) hn k
 have r:=qK h1 h2 h3 h4
 obtain rfl:parts.length=len:=Nat.eq_of_beq_eq_true hlen
 have Ni:=Nat.le_of_ble_eq_true Ni
 obtain ⟨zz,Nj⟩:∃ zz:Array Value,zz=if parts.length * i'.size=0 then #[] else z.cells:=⟨_,rfl⟩
 obtain ⟨vs,g1,g2,g3,g4⟩:=Dj r i'.size parts 0 xs ((Array.range (parts.length * i'.size)).map (zz[· % zz.size]!)) hl (oX zK) (by simp)
 simp only [Nat.zero_mul,List.take_zero,List.nil_append] at g1
 have e0:=Ext.alloc w (.cells vs.toArray e)
 have xe:(execOp a.eval ⟨some d,.buildSlice t parts.length parts.toArray,ty,pos,af,none⟩).run P w=.ok (.value (.slice (some ⟨w.heap.size,0,none⟩) parts.length parts.length)) (w.alloc (.cells vs.toArray e)):=by
  have hm:((parts.toArray.map fun p=>(p.1,a.eval p.2))).toList=parts.map fun p=>(p.1,a.eval p.2):=by simp
  simp only [execOp,Instr.buildSlice,Sem.run_bind,run_underlying (aR.h (P:=P) (t:=t)),Result.andThen_ok,sizeOf,typeInfo,run_program,bf.h (P:=P) (t:=e),Sem.run_pure]
  rw [if_neg (by omega)]
  by_cases h0:parts.length * i'.size=0
  ·rw [if_pos h0] at Nj ⊢
   subst Nj
   simp only [Sem.run_bind,Result.andThen_ok,Sem.run_pure,hm,g1,qI]
  ·rw [if_neg h0] at Nj ⊢
   subst Nj
   simp only [Sem.run_bind,Result.andThen_ok,Sem.run_pure,zeroValue,typeInfo,run_program,bf.h (P:=P) (t:=e),hz,hm,g1,qI]
 show Oper.upon P _ a K Q' _
 rw [xe]
 have JQ:(w.alloc (.cells vs.toArray e)).heap[w.heap.size]? =some (.cells vs.toArray e (0,0)):=by
  show (w.heap.push _)[w.heap.size]? =_
  simp
 refine hK _ _ (fun m=>S m∨m=w.heap.size) ⟨e0,fun m hm=>.inl hm,fun m hm hs=>hs.elim id (fun h=>by omega),fun m hm=>?_⟩ ?_
 ·rcases hm with hm | hm
  ·exact Nat.lt_of_lt_of_le (h3.slt m hm) e0.size
  ·subst hm;simp
 ·have:=At.list (w:=w.alloc (.cells vs.toArray e)) (S:=fun m=>S m∨m=w.heap.size) i'.size xs (some ⟨w.heap.size,0,none⟩) parts.length vs (oX zK) (by rw [bQ (oX zK),g2]) (fun j c u hc hu=>?_) (fun j u hu=>?_) (by omega)
  ·rw [g3] at this;exact this
  ·exact (g4 j c u hc (by simpa using hu)).mono fun m hm=>⟨.inl hm,e0.same m (h3.slt m hm)⟩
  ·refine ⟨_,rfl,rfl,.inr rfl,?_⟩
   rw [pF JQ]
   simpa using hu
end rules
def H5:Nat→List Oper→Option (List Oper×List Oper)
 | 0,l=>some ([],l)
 | m+1,o :: l=>match H5 m l with
   | some (a,b)=>some (o :: a,b)
   | none=>none
 | _+1,[]=>none
theorem x9:∀ {m:Nat} {l a b:List Oper},H5 m l=some (a,b)→l=a++b∧a.length=m
 | 0,l,a,b,h=>by simp [H5] at h;obtain ⟨rfl,rfl⟩:=h;exact ⟨rfl,rfl⟩
 | m+1,[],a,b,h=>by simp [H5] at h
 | m+1,o :: l,a,b,h=>by
   simp only [H5] at h
   split at h
   ·rename_i a' b' h'
    simp only [Option.some.injEq,Prod.mk.injEq] at h
    obtain ⟨rfl,rfl⟩:=h
    obtain ⟨h1,h2⟩:=x9 h'
    exact ⟨by rw [h1];rfl,by simp [h2]⟩
   ·cases h
theorem ab.bM {P:Program} {R:St→Prop} {k:List It} {id n:Nat} {tm:List (Nat×AV)} {hp:Heap} {l hd tl:List Oper} (m:Nat) (hm:P.follows .mixedOrders=true) (hs:H5 m l=some (hd,tl)) {A:List Nat} (hA:LK l.toArray=A) (VN:HZ l.toArray m A=true)
 (h:AM P l.toArray n hp hd tm (fun qq=>ai P l.toArray tl ⟨n,qq,hp⟩ (ab P R k))):ab P R (.code (.region id l.toArray true) :: k) ⟨n,tm,hp⟩:=by
 have hB:wI l.toArray m:=⟨A,hA,VN⟩
 intro w S a r
 obtain ⟨hl,Qv⟩:=x9 hs
 obtain ⟨qq,hA,xe⟩:=h
 obtain ⟨mP,en,e0,e1,e2⟩:=hA.JO
 have jH:m≤l.toArray.size:=by simp [hl,Qv]
 refine wp_region_any hm ?_
 have Du:Ext w {w with drawn:=w.drawn+1}:=Ext.HL w _ (Nat.le_succ _)
 have g0:Grow w S {w with drawn:=w.drawn+1} S:=⟨Du,fun _ h=>h,fun _ _ h=>h,fun n hn=>r.hp.slt n hn⟩
 have Td:∀ k,cur l.toArray mP (lk tm) (Array.replicate l.toArray.size false) k=lk tm:=by
  intro k
  induction k with
  | zero=>rfl
  | succ k ih=>
    simp only [cur,ih]
    rw [if_neg]
    rcases Nat.lt_or_ge k l.toArray.size with h | h
    ·simp at h;simp [h]
    ·simp at h;simp [Nat.not_lt.2 h]
 have hf:∀ k,(Array.replicate l.toArray.size false).getD k false=false:=by
  intro k
  rcases Nat.lt_or_ge k l.toArray.size with h | h
  ·simp at h;simp [h]
  ·simp at h;simp [Nat.not_lt.2 h]
 refine Nv (P:=P) (all:=l.toArray) (n:=n) (m:=m) (hp:=hp) (mP:=mP) (en:=en) (e:=lk tm) hB jH e0 (fun i o hi ho=>e2 i o ?_) (w0:=w) (S0:=S) (fun a' w' S' h1 h2 h3 h4 h5=>?_) l.toArray.size (Array.replicate l.toArray.size false) a _ S
  ⟨by simp,(fun k hk=>by rw [hf k] at hk;cases hk),(fun k i o hk=>by rw [hf k] at hk;cases hk)⟩ (by simp [List.count_replicate]) r.size r.defers (r.hp.ext Du) g0 (by rw [Td];exact (r.ext Du).tm)
 ·have:l[i]? =some o:=by simpa using ho
  rw [hl,List.getElem?_append_left (by omega)] at this
  exact this
 ·have YG:l.toArray.toList.drop m=tl:=by
   simp only [hl,← Qv]
   exact List.drop_left
  rw [YG]
  have hmm:en m=lk qq:=by rw [← Qv];exact e1
  rw [hmm] at h5
  refine jy ?_ _ _ _ (xe.go (h:=hp) (w:=w) (S:=S) ⟨h1,h2,h5,h3⟩ (h4.evo r.hp.slt hp))
  rintro ex a2 w2 ⟨rfl,KE,S2,q1,q2,q3⟩
  exact ⟨KE,S2,q1,q2,q3⟩
section
variable {P:Program} {all:Array Oper} {rest:List Oper} {n:Nat} {hp:Heap} {tm:List (Nat×AV)} {Q:List (Nat×AV)→Prop} {dd:Option Nat} {ty:TypeId} {pos:String} {af:Array Edge}
end
theorem NA {α β:Type} {o:Option α} {f:α→Option β} {r:β} (h:o.bind f=some r):∃ v,o=some v∧f v=some r:=by
 cases o with
 | none=>cases h
 | some v=>exact ⟨v,rfl,h⟩
theorem sC {α:Type} {p:Prop} [Decidable p] {a b x:α} (hp:p) (h:(if p then a else b)=x):a=x:=by rw [if_pos hp] at h;exact h
theorem vq {α:Type} {p:Prop} [Decidable p] {a b x:α} (hp:¬ p) (h:(if p then a else b)=x):b=x:=by rw [if_neg hp] at h;exact h
theorem H6 {α:Type} {p:Bool} {a b x:α} (hp:p=false) (h:(if p=true then a else b)=x):b=x:=by rw [if_neg (by simp [hp])] at h;exact h
def pI {X A:Type} (f:X→Option (X⊕A)):Nat→X→Option A
 | 0,_=>none
 | n+1,x=>match f x with
   | none=>none
   | some (.inl y)=>pI f n y
   | some (.inr a)=>some a
theorem H7 {X A:Type} {f:X→Option (X⊕A)} {a:A}:∀ {n:Nat} {x:X},pI f n x=some a→pI f (n+1) x=some a
 | 0,x,h=>by cases h
 | n+1,x,h=>by
   unfold pI at h ⊢
   split at h
   ·cases h
   ·exact H7 h
   ·exact h
theorem Dv {X A:Type} {f:X→Option (X⊕A)} {a:A} {x:X} {n:Nat} (h:pI f n x=some a):∀ m,pI f (n+m) x=some a
 | 0=>h
 | m+1=>H7 (Dv h m)
theorem LN {X A:Type} {f:X→Option (X⊕A)} {a b:A} {x:X} {n m:Nat} (h:pI f n x=some a) (k:pI f m x=some b):a=b:=by
 have h1:=Dv h m
 have h2:=Dv k n
 rw [Nat.add_comm] at h2
 rw [h1] at h2
 exact Option.some.inj h2
open Classical in
noncomputable def iter {X A:Type} (f:X→Option (X⊕A)) (x:X):Option A:=
 if h:∃ a n,pI f n x=some a then some h.choose else none
theorem tu {X A:Type} {f:X→Option (X⊕A)} {x:X} {a:A}:iter f x=some a↔∃ n,pI f n x=some a:=by
 unfold iter
 constructor
 ·intro h
  split at h
  ·rename_i hx
   obtain ⟨n,hn⟩:=hx.choose_spec
   exact ⟨n,by rw [hn];exact h⟩
  ·cases h
 ·rintro ⟨n,hn⟩
  have hx:∃ a n,pI f n x=some a:=⟨a,n,hn⟩
  rw [dif_pos hx]
  obtain ⟨m,hm⟩:=hx.choose_spec
  rw [LN hm hn]
def after {X A:Type} (k:X→Option A):X⊕A→Option A
 | .inl y=>k y
 | .inr a=>some a
theorem iter_eq {X A:Type} (f:X→Option (X⊕A)) (x:X):iter f x=(f x).bind (after (iter f)):=by
 apply Option.ext
 intro a
 rw [tu]
 constructor
 ·rintro ⟨n,hn⟩
  match n with
  | 0=>cases hn
  | n+1=>
    unfold pI at hn
    split at hn
    ·cases hn
    ·rename_i y hy;rw [hy];exact tu.2 ⟨n,hn⟩
    ·rename_i b hb;rw [hb];exact hn
 ·intro h
  obtain ⟨s,hs,h⟩:=NA h
  cases s with
  | inl y=>
    obtain ⟨n,hn⟩:=tu.1 h
    exact ⟨n+1,by unfold pI;rw [hs];exact hn⟩
  | inr b=>exact ⟨1,by unfold pI;rw [hs];exact h⟩
theorem cr {X A:Type} {o:Option A} {s:X⊕A} {a:A} (h:o.map .inr=some s) (hA:∀ a',s=.inr a'→a'=a):o=some a:=by
 cases o with
 | none=>cases h
 | some b=>
   have:=Option.some.inj h
   rw [hA b this.symm]
@[simp] theorem cS {X A:Type} (k:X→Option A) (y:X):after k (.inl y)=k y:=rfl
@[simp] theorem UR {X A:Type} (k:X→Option A) (a:A):after k (.inr a)=some a:=rfl
theorem bL {X A:Type} (o:Option A) (k:X→Option A):(o.map Sum.inr).bind (after k)=o:=by cases o<;>rfl
def idx {α:Type} (xs:List α) (i:Int):Option α:=if 0≤i then xs[i.toNat]? else none
def app {α:Type} (xs ys:List α):Option (List α):=if xs.length+ys.length≤1000000000 then some (xs++ys) else none
def xm {α:Type} (xs:List α) (l h:Int):Option (List α):=if 0≤l∧l≤h∧h≤xs.length then some ((xs.drop l.toNat).take (h.toNat - l.toNat)) else none
abbrev aU (i:Int):Int:=IntKind.i64.wrap i
def quo (a b:Int):Option Int:=if b=0 then none else some (aU (a.tdiv b))
def rem (a b:Int):Option Int:=if b=0 then none else some (a.tmod b)
theorem NB {α:Type} {e:α→AV} {xs:List α} {i:Int} {x:α} (h:idx xs i=some x):Nh (xs.map e) i=some (e x):=by
 unfold idx at h;unfold Nh
 split at h
 ·rename_i h0;rw [if_pos h0,List.getElem?_map,h];rfl
 ·cases h
theorem lZ {α:Type} {xs:List α} {i:Int} {x:α} (h:idx xs i=some x):0≤i∧i < xs.length∧xs[i.toNat]? =some x:=by
 unfold idx at h
 split at h
 ·rename_i h0
  have:=(List.getElem?_eq_some_iff.1 h).1
  exact ⟨h0,by omega,h⟩
 ·cases h
theorem Dw {α:Type} {xs ys zs:List α} (h:app xs ys=some zs):xs.length+ys.length≤1000000000∧zs=xs++ys:=by
 unfold app at h
 split at h
 ·exact ⟨by assumption,(Option.some.inj h).symm⟩
 ·cases h
theorem tF {α:Type} {xs zs:List α} {l h:Int} (hh:xm xs l h=some zs):(0≤l∧l≤h∧h≤xs.length)∧zs=(xs.drop l.toNat).take (h.toNat - l.toNat):=by
 unfold xm at hh
 split at hh
 ·exact ⟨by assumption,(Option.some.inj hh).symm⟩
 ·cases hh
theorem NC {a b c:Int} (h:quo a b=some c):b≠0∧c=aU (a.tdiv b):=by
 unfold quo at h
 split at h
 ·cases h
 ·exact ⟨by assumption,(Option.some.inj h).symm⟩
theorem ND {a b c:Int} (h:rem a b=some c):b≠0∧c=a.tmod b:=by
 unfold rem at h
 split at h
 ·cases h
 ·exact ⟨by assumption,(Option.some.inj h).symm⟩
section
variable {P:Program} {R:St→Prop} {k:List It} {σ:St}
theorem ab.cut {c:Code} (I:St→Prop) (h:ab P R (.code c :: .stop (fun aL=>ak aL I) :: k) σ) (hk:∀ aL,I aL→ab P R k aL):ab P R (.code c :: k) σ:=by
 intro w S a r
 refine wp_mono (h w S a r) ?_
 rintro e a' w' ⟨aL,S',h1,h2,h3⟩
 cases e with
 | normal=>
   obtain ⟨JN,Vz,hI,hr,he⟩:=h1 w' S' a' h2
   exact ⟨JN,Vz,hk JN hI,hr,h3.trans he⟩
 | exit id=>exact ⟨aL,S',h1,h2,h3⟩
 | goto l=>exact ⟨aL,S',h1,h2,h3⟩
 | ret=>exact ⟨aL,S',h1,h2,h3⟩
 | panic c=>exact ⟨aL,S',h1,h2,h3⟩
 | outgrown=>exact ⟨aL,S',h1,h2,h3⟩
theorem ab.bV {body:Code} {X A:Type} (f:X→Option (X⊕A)) (mk:X→St→Prop) {a:A} {x0:X} (h:iter f x0=some a) (h0:ak σ (mk x0))
 (hs:∀ x s σ (J:St→Prop),mk x σ→f x=some s→(∀ y aL,s=.inl y→ak aL (mk y)→J aL)→(∀ a',s=.inr a'→a'=a)→ab P R (.code body :: .stop J :: k) σ):
 ab P R (.code (.loop body) :: k) σ:=by
 obtain ⟨m,hm⟩:=tu.1 h
 refine ab.R7 (fun m σ=>∃ x,pI f m x=some a∧mk x σ) m (h0.mono fun aL YH=>⟨x0,hm,YH⟩) ?_
 rintro m CK ⟨x,hx,cT⟩
 match m with
 | 0=>cases hx
 | m+1=>
   unfold pI at hx
   split at hx
   ·cases hx
   ·rename_i y hy
    refine hs x _ CK _ cT hy (fun y' aL e hi=>⟨m,by omega,hi.mono fun JN hk=>⟨y',?_,hk⟩⟩) (fun a' e=>by cases e)
    have:=Sum.inl.inj e
    rw [← this];exact hx
   ·rename_i b hb
    refine hs x _ CK _ cT hb (fun y' aL e _=>by cases e) (fun a' e=>?_)
    rw [← Sum.inr.inj e];exact Option.some.inj hx
end
inductive KN:Heap→Heap→Heap→Prop
 | nil {h:Heap}:KN h [] h
 | cons {h h1 t r:Heap} {b:Bk} {o:Ob} (u:yW h b o h1) (k:KN h1 t r):KN h ((b,o) :: t) r
theorem KN.perm {h t r:Heap} (s:KN h t r):h.Perm (t++r):=by
 induction s with
 | nil=>exact List.Perm.refl _
 | cons u k ih=>exact u.perm.trans (List.Perm.cons _ ih)
section rules
variable {P:Program} {all:Array Oper} {rest:List Oper} {n:Nat} {tm:List (Nat×AV)} {hp:Heap} {Q:St→Prop} {d:Nat} {ty:TypeId} {pos:String} {af:Array Edge}
theorem Gm {f:FuncId} {args:List Operand} {ts:Array TypeId} {l l':List AV} {h0 hr:Heap} {Qc:AV→Heap→Prop} [bD P f] (hl:BB tm args=some l) (c:aM P f l' h0 Qc) (co:AN hp l l') (hs:KN hp h0 hr) (hn:Nat.blt d n=true)
 (kk:∀ r h',Qc r h'→ai P all rest ⟨n,(d,r) :: tm,h'++hr⟩ Q):ai P all (⟨some d,.call {callee:=.value (.func f),args:=args.toArray,argTypes:=ts},ty,pos,af,none⟩ :: rest) ⟨n,tm,hp⟩ Q:=
 Np hl c co hs.perm hn kk
theorem Qw {f:FuncId} {x:Operand} {args:List Operand} {ts:Array TypeId} {sy l l' lc:List AV} {h0 hr:Heap} {Qc:AV→Heap→Prop} [bD P f] (hx:dt tm x=some (.func (.func f) sy)) (hl:BB tm args=some l) (YI:uF (l++sy)=some lc) (c:aM P f l' h0 Qc) (co:AN hp lc l') (hs:KN hp h0 hr) (hn:Nat.blt d n=true)
 (kk:∀ r h',Qc r h'→ai P all rest ⟨n,(d,r) :: tm,h'++hr⟩ Q):ai P all (⟨some d,.call {callee:=.value x,args:=args.toArray,argTypes:=ts},ty,pos,af,none⟩ :: rest) ⟨n,tm,hp⟩ Q:=
 KH hx hl c (by rw [og YI];exact co) hs.perm hn kk
theorem bz {α:Type} {g:α→AV} {Xs:List α} {el:α} {t e:TypeId} {i:TypeInfo} {x y:Operand} {k:IntKind} {j:Int} {cs:List AV} {sz:Nat} [aR P t (.slice e)] [bf P e i] (hx:dt tm x=some (.list sz (Xs.map g))) (jH:Nat.beq i.size sz=true) (hy:dt tm y=some (.int k j))
 (hv:idx Xs j=some el) (h0:Nat.blt 0 sz=true) (hc:uF (g el).cells=some cs):QV P ⟨some d,.indexAddr t x y,ty,pos,af,none⟩ ⟨n,tm,hp⟩ (.bJ cs):=by
 rw [← og hc]
 exact Gd hx jH hy (NB hv) h0
theorem db {α:Type} {g:α→AV} {Xs:List α} {x:Operand} {t e:TypeId} {sz:Nat} [aR P t (.slice e)] (hx:dt tm x=some (.list sz (Xs.map g))):QV P ⟨some d,.call {callee:=.builtin .len,args:=#[x],argTypes:=#[t]},ty,pos,af,none⟩ ⟨n,tm,hp⟩ (.int .i64 (Xs.length:Nat)):=by
 have h:=JG (P:=P) (d:=d) (ty:=ty) (pos:=pos) (af:=af) (n:=n) (tm:=tm) (hp:=hp) (t:=t) (e:=e) hx
 rw [List.length_map] at h
 exact h
theorem VO {k:IntKind} {xt yt:TypeId} {x y:Operand} {i j:Int} (hx:dt tm x=some (.int k i)) (hy:dt tm y=some (.int k j)) (h0:j≠0):QV P ⟨some d,.binOp .quo xt x y yt,ty,pos,af,none⟩ ⟨n,tm,hp⟩ (.int k (k.wrap (i.tdiv j))):=
 xd hx hy (v:=.int k (k.wrap (i.tdiv j))) (fun w=>by simp [binOp,Op.intDiv,h0]) (fun w S=>.int _ _)
theorem Dx {xt yt:TypeId} {x y:Operand} {i j r:Int} (hx:dt tm x=some (.int .i64 i)) (hy:dt tm y=some (.int .i64 j)) (h:quo i j=some r):QV P ⟨some d,.binOp .quo xt x y yt,ty,pos,af,none⟩ ⟨n,tm,hp⟩ (.int .i64 r):=by
 obtain ⟨h0,rfl⟩:=NC h
 exact VO hx hy h0
theorem Gn {k:IntKind} {xt yt:TypeId} {x y:Operand} {i j r:Int} (hx:dt tm x=some (.int k i)) (hy:dt tm y=some (.int k j)) (h:rem i j=some r):QV P ⟨some d,.binOp .rem xt x y yt,ty,pos,af,none⟩ ⟨n,tm,hp⟩ (.int k r):=by
 obtain ⟨h0,rfl⟩:=ND h
 exact VC hx hy h0
theorem y9 {k:IntKind} {xt:TypeId} {x:Operand} {i:Int} (hx:dt tm x=some (.int k i)):QV P ⟨some d,.unOp .neg xt x,ty,pos,af,none⟩ ⟨n,tm,hp⟩ (.int k (k.wrap (-i))):=
 fun w S a r=>⟨.int k (k.wrap (-i)),fun w' _=>by simp [execOp,(bn (σ:=⟨n,tm,hp⟩) r hx).eh,Op.unary,Op.intArith],.int _ _⟩
theorem uH {x y:Operand} {t:TypeId} {s:List UInt8} {k:IntKind} {i:Int} {c:UInt8} [aR P t .string] (hx:dt tm x=some (.str s)) (hy:dt tm y=some (.int k i)) (hc:idx s i=some c):QV P ⟨some d,.index t x y,ty,pos,af,none⟩ ⟨n,tm,hp⟩ (.int .u8 (c.toNat:Int)):=
 let ⟨h0,_,h⟩:=lZ hc
 HO hx hy h0 h
theorem cA {α:Type} {g:α→AV} {Xs Ys Zs:List α} {t e:TypeId} {i:TypeInfo} {z:Value} {x y:Operand} {src:AV} {b:Bk} {len sz:Nat} {dG:Bk→Heap} [aR P t (.slice e)] [bf P e i] (hx:dt tm x=some (.sl sz b 0 len)) (hy:dt tm y=some src) (hz:i.zero=some z)
 (Hx:Nat.beq z.cells.size i.size=true) (jH:Nat.beq i.size sz=true) (h0:Nat.blt 0 sz=true) (hn:Nat.blt d n=true) (R8:Nat.ble i.bytes 65536=true) (hs:Src hp sz src (Ys.map g)) (hv:app Xs Ys=some Zs) (u:∀ b',pB hp b (.arr sz (Xs.map g)) b' (.arr sz (Zs.map g)) (dG b')) (hlen:len=Xs.length)
 (kk:∀ b':Bk,ai P all rest ⟨n,(d,.sl sz b' 0 Zs.length) :: tm,dG b'⟩ Q):ai P all (⟨some d,.call {callee:=.builtin .append,args:=#[x,y],argTypes:=#[t,t]},ty,pos,af,none⟩ :: rest) ⟨n,tm,hp⟩ Q:=by
 obtain ⟨hb,rfl⟩:=Dw hv
 subst hlen
 refine LJ (xs:=Xs.map g) (ys:=Ys.map g) (dG:=dG) hx hy hz Hx jH h0 hn R8 hs (by simpa using u) (by simp) (by simpa using hb) (fun b'=>?_)
 have:=kk b'
 simpa using this
end rules
theorem LO {hp:Heap} {sz:Nat} {b:Bk} {α:Type} {g:α→AV} {Xs:List α} {len:Nat} (f:nU hp b (.arr sz (Xs.map g))∨nU hp b (.AL sz (Xs.map g))) (h:len=Xs.length):Src hp sz (.sl sz b 0 len) (Xs.map g):=
 .whole b len _ f (by simpa using h)
end Go.Eng
