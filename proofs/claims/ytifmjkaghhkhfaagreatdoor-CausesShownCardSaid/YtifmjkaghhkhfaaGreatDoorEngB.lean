/- The engine: abstract values, the symbolic heap, one rule for each operation. No program in sight. -/
import Derived.Test.YtifmjkaghhkhfaaGreatDoorEngA
set_option linter.unusedVariables false
set_option linter.unusedSectionVars false
namespace Go.Eng
open Go
variable [bA]
theorem AP {tm:List (Nat×AV)}:∀ {parts:List (Nat×Operand)} {k:Nat} {xs:List AV},IA tm parts k=some xs→xs.length=parts.length
 | [],k,xs,h=>by simp [IA] at h;subst h;rfl
 | (i,x) :: parts,k,xs,h=>by
   simp only [IA] at h
   split at h
   ·rename_i a l h1 h2 h3
    obtain rfl:=Option.some.inj h
    simp [AP h3]
   ·cases h
section rules
variable {P:Program} {all:Array Oper} {rest:List Oper} {n:Nat} {tm:List (Nat×AV)} {hp:Heap} {Q:St→Prop} {d:Nat} {ty:TypeId} {pos:String} {af:Array Edge}
theorem B5 {t e:TypeId} {i:TypeInfo} {z:Value} {len:Nat} {parts:List (Nat×Operand)} {xs:List AV} [aD P t (.slice e)] [aX P e i] (hz:i.zero=some z) (hl:IA tm parts 0=some xs) (hlen:Nat.beq parts.length len=true) (xX:zw i.size xs=true)
 (IV:Nat.ble (len * i.size) 16777216=true) (hn:Nat.blt d n=true) (kk:ah P all rest ⟨n,(d,.list i.size xs) :: tm,hp⟩ Q):ah P all (⟨some d,.buildSlice t len parts.toArray,ty,pos,af,none⟩ :: rest) ⟨n,tm,hp⟩ Q:=by
 refine xY hz hl hlen xX IV hn (fun b=>ah.ghost (aj.freeze .here (aj.co (s:=d) (av:=.sl i.size b 0 len) (by simp [lk]) (.yM i.size b len xs .here ?_) ?_)))
 ·rw [AP hl];exact (Nat.eq_of_beq_eq_true hlen).symm
 ·refine aj.step (De:=⟨n,(d,.list i.size xs) :: tm,hp⟩) (fun w S a r=>⟨_,S,rfl,r.less ⟨rfl,fun s av h=>?_,List.sublist_cons_self _ _⟩,lz.less (lz.refl w S _) fun _ hm=>hm.sub (List.sublist_cons_self _ _)⟩) (aj.here kk)
  simp only [lk] at h ⊢
  split at h
  ·exact h
  ·exact h
inductive M8 (tm:List (Nat×AV)):Option Operand→Option Int→Prop
 | none:M8 tm none none
 | some (x:Operand) (k:IntKind) (i:Int) (h:cZ tm x=some (.int k i)):M8 tm (some x) (some i)
def rK:Option Int→Int
 | none=>0
 | some i=>i
def rl (len:Nat):Option Int→Int
 | none=>len
 | some i=>i
theorem F1 {w:World} {S:Nat→Prop} {σ:St} {a:Act} (r:dQ w S σ a) {lo hi:Option Operand} {l h:Option Int} (hl:M8 σ.tm lo l) (hh:M8 σ.tm hi h) (K1:Bool) (len cap:Nat) (h0:0≤rK l) (h1:rK l≤rl len h) (h2:rl len h≤len) (hc:len≤cap) (w':World):
 (Instr.sliceBounds K1 len cap (lo.map a.eval) (hi.map a.eval) none).run P w'=.ok ((rK l).toNat,(rl len h).toNat,cap) w':=by
 cases hl with
 | none=>
   cases hh with
   | none=>simp [Instr.sliceBounds,rK,rl]
   | some x k i hx=>
     simp only [rK,rl] at *
     have:i≤(cap:Int):=by omega
     simp [Instr.sliceBounds,Instr.sliceBound,(bj r hx).eB,asIntOf,h1,this]
 | some x k i hx=>
   cases hh with
   | none=>
     simp only [rK,rl] at *
     simp [Instr.sliceBounds,Instr.sliceBound,(bj r hx).eB,asIntOf,h0,h1]
   | some y k' i' hy=>
     simp only [rK,rl] at *
     have e1:i'≤(cap:Int):=by omega
     have e2:0≤i':=by omega
     have e3:i≤(i'.toNat:Int):=by omega
     simp [Instr.sliceBounds,Instr.sliceBound,(bj r hx).eB,(bj r hy).eB,asIntOf,h0,e1,e2]
     intro lA
     omega
theorem F2 {t e:TypeId} {i:TypeInfo} {x:Operand} {lo hi:Option Operand} {l h:Option Int} {sz off len:Nat} {b:Bk} [aD P t (.slice e)] [aX P e i] (hx:cZ tm x=some (.sl sz b off len)) (lx:Nat.beq i.size sz=true) (hl:M8 tm lo l) (hh:M8 tm hi h) (h0:0≤rK l) (h1:rK l≤rl len h) (h2:rl len h≤len):
 QV P ⟨some d,.slice t x lo hi none,ty,pos,af,none⟩ ⟨n,tm,hp⟩ (.sl sz b (off+(rK l).toNat) ((rl len h).toNat - (rK l).toNat)):=by
 intro w S a r
 obtain rfl:i.size=sz:=Nat.eq_of_beq_eq_true lx
 obtain ⟨oa,cap,e1,e2⟩:=(bj (σ:=⟨n,tm,hp⟩) r hx).uy
 have IZ:len≤cap:=by rcases e2 with ⟨_,_,hl,_,_⟩ | ⟨m,hb,_,g1,g2⟩ | ⟨m,ad,hb,_,hl,_⟩<;>omega
 refine ⟨.slice (if cap=(rK l).toNat then oa else oa.map (·.add ((rK l).toNat * i.size))) ((rl len h).toNat - (rK l).toNat) (cap - (rK l).toNat),fun w1 _=>?_,?_⟩
 ·have hb:=F1 (P:=P) (σ:=⟨n,tm,hp⟩) r hl hh true len cap h0 h1 h2 IZ w1
  simp [execOp,Instr.sliceAt,run_underlying (aD.h (P:=P) (t:=t)),Instr.slice,e1,hb,sizeOf,typeInfo,aX.h (P:=P) (t:=e)]
 ·rcases e2 with ⟨hb,ho,Q2,rfl,Sc⟩ | ⟨m,hb,rfl,g1,g2⟩ | ⟨m,ad,hb,rfl,Q2,Sc⟩
  ·have NT:(rK l).toNat=0:=by omega
   have O2:(rl len h).toNat=0:=by omega
   rw [NT,O2,ho,Sc]
   exact .B0 i.size b hb
  ·by_cases BV:cap=(rK l).toNat
   ·rw [if_pos BV]
    have hz:(rl len h).toNat - (rK l).toNat=0:=by omega
    rw [hz,show cap - (rK l).toNat=0 from by omega]
    exact .Lh i.size b _ m _ hb
   ·rw [if_neg BV]
    have:=At.sl (w:=w) (S:=S) i.size b (off+(rK l).toNat) ((rl len h).toNat - (rK l).toNat) m (cap - (rK l).toNat) hb (by omega) (by omega)
    rw [Nat.add_mul] at this
    simpa [mu] using this
  ·have NT:(rK l).toNat=0:=by omega
   have O2:(rl len h).toNat=0:=by omega
   rw [NT,O2,Sc,if_pos rfl]
   exact .Lh i.size b _ m ad hb
theorem fj {src dst:TypeId} {D:TypeDesc} {x:Operand} {k k':IntKind} {i:Int} [aD P src D] [aD P dst (.int k')] (hx:cZ tm x=some (.int k i)):QV P ⟨some d,.convert src dst x,ty,pos,af,none⟩ ⟨n,tm,hp⟩ (.int k' (k'.wrap i)):=by
 intro w S a r
 refine ⟨.int k' (k'.wrap i),fun w1 _=>?_,.int _ _⟩
 simp only [execOp,convert,(bj (σ:=⟨n,tm,hp⟩) r hx).eB,Sem.run_bind,run_underlying (aD.h (P:=P) (t:=src)),run_underlying (aD.h (P:=P) (t:=dst)),Result.andThen_ok]
 cases D<;>simp [Conv.intToInt]
end rules
section
variable {P:Program} {all:Array Oper} {rest:List Oper} {σ:St} {Q:St→Prop} {dd:Option Nat} {ty:TypeId} {pos:String} {af:Array Edge}
end
theorem Ez {sz:Nat} {x y:AV}:∀ {xs:List AV} {q:Nat},(∀ x∈xs,El sz x)→El sz y→xs[q]? =some x→flat (xs.set q y)=(flat xs).take (q * sz)++y.cells++(flat xs).drop (q * sz+sz)
 | [],q,_,_,h=>by simp at h
 | z :: xs,0,hs,hy,h=>by
   have hz:=(hs z (by simp)).1
   rw [List.set_cons_zero,iJ,iJ]
   simp only [Nat.zero_mul,List.take_zero,List.nil_append,Nat.zero_add]
   rw [List.drop_left' hz]
 | z :: xs,q+1,hs,hy,h=>by
   have hz:=(hs z (by simp)).1
   simp only [List.getElem?_cons_succ] at h
   rw [List.set_cons_succ,iJ,iJ,Ez (fun a ha=>hs a (by simp [ha])) hy h]
   have e1:(q+1) * sz=sz+q * sz:=by rw [Nat.add_mul,Nat.one_mul];omega
   rw [e1,List.take_append,List.take_of_length_le (l:=z.cells) (by omega),hz,Nat.add_sub_cancel_left,List.drop_append,List.drop_of_length_le (l:=z.cells) (by omega),hz]
   rw [show sz+q * sz+sz - sz=q * sz+sz from by omega]
   simp [List.append_assoc]
theorem G0 {w:World} {S:Nat→Prop} {cs new:List AV} {vs rj:Array Value} (o:Nat) (hl:cs.length≤vs.size) (h:lZ w S cs vs) (yN:new.length=rj.size) (h':lZ w S new rj) (ho:o+new.length≤cs.length):
 lZ w S (cs.take o++new++cs.drop (o+new.length)) (vs.toList.take o++rj.toList++vs.toList.drop (o+rj.toList.length)).toArray:=by
 intro i c v hc hv
 simp only [List.getElem?_toArray] at hc hv
 have l1:(cs.take o).length=o:=by simp;omega
 have l2:(vs.toList.take o).length=o:=by simp;omega
 have l3:rj.toList.length=new.length:=by simp [yN]
 rw [List.append_assoc] at hc hv
 by_cases h1:i < o
 ·rw [List.getElem?_append_left (by omega)] at hc hv
  rw [List.getElem?_take,if_pos h1] at hc hv
  exact h i c v hc (by simpa using hv)
 ·rw [List.getElem?_append_right (by omega)] at hc hv
  rw [l1] at hc
  rw [l2] at hv
  by_cases h2:i - o < new.length
  ·rw [List.getElem?_append_left (by omega)] at hc hv
   exact h' (i - o) c v hc (by simpa using hv)
  ·rw [List.getElem?_append_right (by omega)] at hc hv
   rw [l3] at hv
   rw [List.getElem?_drop] at hc hv
   rw [show o+new.length+(i - o - new.length)=i from by omega] at hc hv
   exact h i c v hc (by simpa using hv)
section rules
variable {P:Program} {all:Array Oper} {rest:List Oper} {n:Nat} {tm:List (Nat×AV)} {hp:Heap} {Q:St→Prop} {d:Nat} {ty:TypeId} {pos:String} {af:Array Edge}
theorem xZ.refl (l:List AV):xZ hp l l:=by
 induction l with
 | nil=>exact .nil
 | cons a l ih=>exact .cons (.refl a) ih
theorem sV.refl (l:List AV):sV hp l l:=by
 induction l with
 | nil=>exact .nil
 | cons a l ih=>exact .cons (.co (.refl a)) ih
def Pu (P:Program) (f:FuncId) (args:List AV) (R:AV):Prop:=aG P f args [] (fun r _=>r=R)
theorem bc {f:FuncId} {args:List Operand} {ts:Array TypeId} {l l':List AV} {R:AV} [bq P f] (hl:zZ tm args=some l) (c:Pu P f l' R) (co:xZ hp l l') (hn:Nat.blt d n=true)
 (kk:ah P all rest ⟨n,(d,R) :: tm,hp⟩ Q):ah P all (⟨some d,.call {callee:=.value (.func f),args:=args.toArray,argTypes:=ts},ty,pos,af,none⟩ :: rest) ⟨n,tm,hp⟩ Q:=by
 refine Lx hl c co hn (fun r h' hr=>?_)
 subst hr
 exact ah.weaken (aC:=⟨n,(d,r) :: tm,hp⟩) ⟨rfl,fun _ _ h=>h,List.sublist_append_right _ _⟩ kk
theorem gi {f:FuncId} {args:List Operand} {ts:Array TypeId} {l l':List AV} {R:AV} [bq P f] (hl:zZ tm args=some l) (c:Pu P f l' R) (co:sV hp l l') (hn:Nat.blt d n=true) (hR:R.Q0=true)
 (kk:ah P all rest ⟨n,(d,R) :: tm,hp⟩ Q):ah P all (⟨some d,.call {callee:=.value (.func f),args:=args.toArray,argTypes:=ts},ty,pos,af,none⟩ :: rest) ⟨n,tm,hp⟩ Q:=
 LA hl c co hn (fun r h' hr=>by subst hr;exact ⟨hR,kk⟩)
theorem so {f:FuncId} {x:Operand} {args:List Operand} {ts:Array TypeId} {sU l l':List AV} {R:AV} [bq P f] (hx:cZ tm x=some (.func (.func f) sU)) (hl:zZ tm args=some l) (c:Pu P f l' R) (co:xZ hp (l++sU) l') (hn:Nat.blt d n=true)
 (kk:ah P all rest ⟨n,(d,R) :: tm,hp⟩ Q):ah P all (⟨some d,.call {callee:=.value x,args:=args.toArray,argTypes:=ts},ty,pos,af,none⟩ :: rest) ⟨n,tm,hp⟩ Q:=by
 refine GZ hx hl c co (List.Perm.refl _) hn (fun r h' hr=>?_)
 subst hr
 exact ah.weaken (aC:=⟨n,(d,r) :: tm,hp⟩) ⟨rfl,fun _ _ h=>h,List.sublist_append_right _ _⟩ kk
end rules
inductive RV (P:Program) (σ:St):ResultVar→AV→Prop
 | tmp (t:Nat) (av:AV) (h:lk σ.tm t=some av):RV P σ (.tmp t) av
 | all (p ty:Nat) (b:Bk) (cs:List AV) (D:TypeDesc) (i:TypeInfo) (h:lk σ.tm p=some (.ptr b 0)) (f:mr σ.hp b (.cells cs)) (hu:P.underlying ty=some D) (hi:P.info? ty=some i) (hD:TypeDesc.iA D=true) (hs:Nat.beq cs.length i.size=true):RV P σ (.cell p ty) (.agg cs)
 | one (p ty:Nat) (b:Bk) (cs:List AV) (av:AV) (D:TypeDesc) (h:lk σ.tm p=some (.ptr b 0)) (f:mr σ.hp b (.cells cs)) (hu:P.underlying ty=some D) (hD:TypeDesc.iA D=false) (hs:cs[0]? =some av):RV P σ (.cell p ty) av
def AR (tmps:Array Value):ResultVar→Sem Value
 | .tmp t=>pure (tmps.getD t undef)
 | .cell a t=>do loadVar t (← asAddr (tmps.getD a undef))
theorem RV.run {P:Program} {σ:St} {rv:ResultVar} {av:AV} (h:RV P σ rv av) {w:World} {S:Nat→Prop} {a:Act} (r:dQ w S σ a):∃ v,(AR a.tmps rv).run P w=.ok v w∧At w S av v:=by
 cases h with
 | tmp t av h=>
   obtain ⟨v,h1,h2⟩:=r.tm t _ h
   exact ⟨v,by simp [AR,h1],h2⟩
 | all p ty b cs D i h f hu hi hD hs=>
   obtain ⟨v,h1,h2⟩:=r.tm p _ h
   obtain ⟨m,e1,rfl⟩:=h2.rD
   obtain ⟨_,m',vs,E,g1,g2,g3,g4⟩:=se r.hp f
   obtain rfl:m'=m:=by rw [g1] at e1;exact Option.some.inj e1
   have hlen:vs.toList.length=i.size:=by simp [g3];exact Nat.eq_of_beq_eq_true hs
   refine ⟨.agg vs,?_,.agg cs vs g3.symm g4⟩
   have:=iU (P:=P) hu hD hi (w:=w) (ad:=⟨m',0,none⟩) (vs:=vs.toList) hlen (fun j v hv=>by rw [mu,oc g2];simpa using hv)
   simp [AR,h1,asAddr,this]
 | one p ty b cs av D h f hu hD hs=>
   obtain ⟨v,h1,h2⟩:=r.tm p _ h
   obtain ⟨m,e1,rfl⟩:=h2.rD
   obtain ⟨_,m',vs,E,g1,g2,g3,g4⟩:=se r.hp f
   obtain rfl:m'=m:=by rw [g1] at e1;exact Option.some.inj e1
   have lA:0 < vs.size:=by rw [g3];exact (List.getElem?_eq_some_iff.1 hs).1
   have hv:vs[0]? =some vs[0]:=by simp [lA]
   refine ⟨vs[0],?_,g4 0 av _ hs hv⟩
   have:=nZ (P:=P) hu hD (w:=w) (ad:=⟨m',0,none⟩) (v:=vs[0]) (by rw [oc g2,hv])
   simp [AR,h1,asAddr,this]
inductive Rs (P:Program) (σ:St):List ResultVar→List AV→Prop
 | nil:Rs P σ [] []
 | cons {v:ResultVar} {l:List ResultVar} {a:AV} {as:List AV} (h:RV P σ v a) (k:Rs P σ l as):Rs P σ (v :: l) (a :: as)
def zy:List AV→AV
 | [a]=>a
 | as=>.nI as
theorem Rs.run {P:Program} {σ:St} {w:World} {S:Nat→Prop} {a:Act} (r:dQ w S σ a):∀ {l:List ResultVar} {as:List AV},Rs P σ l as→∃ vs,(l.mapM (AR a.tmps)).run P w=.ok vs w∧as.length=vs.length∧∀ (i:Nat) c v,as[i]? =some c→vs[i]? =some v→At w S c v
 | [],_,.nil=>⟨[],by simp,rfl,fun i c v hc=>by simp at hc⟩
 | x :: l,_,.cons (a:=av) (as:=as) h k=>by
   obtain ⟨v,h1,h2⟩:=h.run r
   obtain ⟨vs,g1,g2,g3⟩:=Rs.run r k
   refine ⟨v :: vs,by simp [h1,g1],by simp [g2],fun i c u hc hu=>?_⟩
   match i with
   | 0=>simp at hc hu;subst hc;subst hu;exact h2
   | i+1=>exact g3 i c u (by simpa using hc) (by simpa using hu)
theorem EA {P:Program} {fn:Func} {l:List ResultVar} {σ:St} {as:List AV} (hf:fn.results=l.toArray) (h:Rs P σ l as) {w:World} {S:Nat→Prop} {a:Act} (r:dQ w S σ a):∃ v,(results fn a.tmps).run P w=.ok v w∧At w S (zy as) v:=by
 obtain ⟨vs,g1,g2,g3⟩:=h.run r
 have hm:results fn a.tmps=(do let vs ← Functor.map List.toArray (l.mapM (AR a.tmps));pure (if h:vs.size=1 then vs[0] else .tuple vs)):=by
  have Sd:(fun (x:ResultVar)=>(match x with | .tmp t=>pure (a.tmps.getD t undef) | .cell p t=>do loadVar t (← asAddr (a.tmps.getD p undef)):Sem Value))=AR a.tmps:=by
   funext x
   cases x<;>rfl
  unfold results
  rw [hf,List.mapM_toArray]
  rw [← Sd]
  rfl
 refine ⟨if h:vs.toArray.size=1 then vs.toArray[0] else .tuple vs.toArray,?_,?_⟩
 ·rw [hm,Sem.run_bind,Sem.run_map,g1]
  rfl
 ·clear h hm g1
  match as,vs,g2,g3 with
  | [],[],_,_=>simp [zy];exact .nI [] _ rfl (fun i c v hc=>by simp at hc)
  | [x],[v],_,g3=>simp [zy];exact g3 0 x v rfl rfl
  | x :: y :: as,v :: u :: vs,hl,g3=>simp [zy];exact .nI _ _ (by simpa using hl) (fun i c v hc hv=>g3 i c v hc (by simpa using hv))
theorem aG.PL {P:Program} {f:FuncId} {fn:Func} {c:Code} {args:List AV} {h:Heap} {Q:AV→Heap→Prop} {n:Nat} {l:List ResultVar} (hf:P.funcs[f]? =some fn) (hb:fn.body=some c) (hn:fn.ntmps=n) (NU:fn.results=l.toArray)
 (hle:Nat.ble args.length n=true) (kk:ae P (fun σ=>aj σ (fun aC=>∃ as,Rs P aC l as∧Q (zy as) aC.hp)) [.code c] ⟨n,Lk args 0,h⟩):aG P f args h Q:=by
 intro w S vs hr hl ha
 refine calls_of_wp hf hb ?_
 have r0:dQ w S ⟨n,Lk args 0,h⟩ {tmps:=vs++Array.replicate (fn.ntmps - vs.size) undef,defers:=[]}:=by
  have:=Nat.le_of_ble_eq_true hle
  refine ⟨by simp [hn];omega,rfl,fun s av hs=>?_,hr⟩
  obtain ⟨_,h2⟩:=IQ args 0 s av hs
  simp only [Nat.sub_zero] at h2
  have lA:s < args.length:=(List.getElem?_eq_some_iff.1 h2).1
  have PM:s < vs.size:=by omega
  refine ⟨vs[s],by simp [Array.getElem?_append,PM],ha s av _ h2 (by simp [PM])⟩
 refine wp_mono (kk w S _ r0) ?_
 rintro e a' w' ⟨aC,S',h1,h2,h3⟩
 have fin:aj aC (fun HD=>∃ as,Rs P HD l as∧Q (zy as) HD.hp)→a'.defers=[]∧∃ v,(results fn a'.tmps).run P w'=.ok v w'∧∃ v' r h' S',(Ending.returned v:Ending)=.returned v'∧Q r h'∧At w' S' r v'∧cG w' S' h'∧lz w S h w' S' h':=by
  intro hi
  obtain ⟨GS,S2,⟨as,Se,hq⟩,g2,g3⟩:=hi w' S' a' h2
  obtain ⟨v,QX,HE⟩:=EA NU Se g2
  exact ⟨g2.defers,v,QX,v,zy as,GS.hp,S2,rfl,hq,HE,g2.hp,h3.trans g3⟩
 cases e with
 | normal=>exact fin h1
 | ret=>exact fin h1
 | exit id=>exact h1.elim
 | goto l=>exact h1.elim
 | panic c=>exact h1.elim
 | outgrown=>exact h1.elim
inductive HS:Heap→Heap→Prop
 | nil {h:Heap}:HS h []
 | cons {h h1 t:Heap} {b:Bk} {o:Ob} (u:xU h b o h1) (k:HS h1 t):HS h ((b,o) :: t)
theorem HS.perm {h t:Heap} (s:HS h t):∃ r,h.Perm (t++r):=by
 induction s with
 | nil=>exact ⟨_,List.Perm.refl _⟩
 | cons u k ih=>
   obtain ⟨r,hr⟩:=ih
   exact ⟨r,u.perm.trans (List.Perm.cons _ hr)⟩
theorem aj.PN {n:Nat} {tm qQ:List (Nat×AV)} {hp de:Heap} {T:St→Prop} (h:Cy tm qQ) (hs:HS hp de) (k:aj ⟨n,qQ,de⟩ T):aj ⟨n,tm,hp⟩ T:=by
 obtain ⟨r,hr⟩:=hs.perm
 refine aj.step (De:=⟨n,qQ,de⟩) (fun w S a rel=>⟨_,S,rfl,⟨rel.size,rel.defers,fun s av hh=>rel.tm s av (h.lk s av hh),(rel.hp.perm hr).sub (List.sublist_append_left _ _)⟩,lz.less (lz.refl w S hp) fun m hm=>?_⟩) k
 obtain ⟨e,he,hb⟩:=hm
 exact ⟨e,hr.mem_iff.2 (List.mem_append_left _ he),hb⟩
abbrev I (n:Int):AV:=.int .i64 n
section rules
variable {P:Program} {all:Array Oper} {rest:List Oper} {n:Nat} {tm:List (Nat×AV)} {hp:Heap} {Q:St→Prop} {d:Nat} {ty:TypeId} {pos:String} {af:Array Edge}
end rules
section rules
variable {P:Program} {all:Array Oper} {rest:List Oper} {n:Nat} {tm:List (Nat×AV)} {hp:Heap} {Q:St→Prop} {d:Nat} {ty:TypeId} {pos:String} {af:Array Edge}
theorem HF {t e:TypeId} {i:TypeInfo} {z:Value} {x y:Operand} {src:AV} {b:Bk} {len sz:Nat} {xs ys:List AV} {de:Bk→Heap} [aD P t (.slice e)] [aX P e i] (hx:cZ tm x=some (.sl sz b 0 len)) (hy:cZ tm y=some src) (hz:i.zero=some z)
 (IW:Nat.beq z.cells.size i.size=true) (lx:Nat.beq i.size sz=true) (h0:Nat.blt 0 sz=true) (hn:Nat.blt d n=true) (Sf:Nat.ble i.bytes 65536=true) (hs:Src hp sz src ys) (u:∀ b',nA hp b (.arr sz xs) b' (.arr sz (xs++ys)) (de b')) (hlen:len=xs.length)
 (hb:xs.length+ys.length≤1000000000)
 (kk:∀ b':Bk,ah P all rest ⟨n,(d,.sl sz b' 0 (len+ys.length)) :: tm,de b'⟩ Q):ah P all (⟨some d,.call {callee:=.builtin .append,args:=#[x,y],argTypes:=#[t,t]},ty,pos,af,none⟩ :: rest) ⟨n,tm,hp⟩ Q:=by
 refine IX hx hy hz IW lx h0 hn hs u hlen ?_ (by omega) kk
 have h1:=Nat.le_of_ble_eq_true Sf
 have:=Nat.mul_le_mul hb h1
 omega
end rules
def oY:List AV→Option (List AV)
 | []=>some []
 | x :: r=>match oY r with
   | some l=>some (x :: l)
   | none=>none
theorem jQ:∀ {l l':List AV},oY l=some l'→l=l'
 | [],l',h=>by simp [oY] at h;exact h.symm
 | x :: r,l',h=>by
   simp only [oY] at h
   split at h
   ·rename_i l hl
    obtain rfl:=Option.some.inj h
    rw [jQ hl]
   ·cases h
def I0:List AV→Nat→Option (List (Nat×AV))
 | [],_=>some []
 | x :: r,i=>match I0 r (i+1) with
   | some l=>some ((i,x) :: l)
   | none=>none
theorem G1:∀ {l:List AV} {i:Nat} {l':List (Nat×AV)},I0 l i=some l'→Lk l i=l'
 | [],i,l',h=>by simp [I0] at h;simpa [Lk] using h
 | x :: r,i,l',h=>by
   simp only [I0] at h
   split at h
   ·rename_i l hl
    obtain rfl:=Option.some.inj h
    rw [Lk,G1 hl]
   ·cases h
class lN (P:Program) (t:TypeId) (sz:outParam Nat):Prop where
 h:∃ i,P.info? t=some i∧i.size=sz
theorem aG.bw {P:Program} {f:FuncId} {fn:Func} {c:Code} {args:List AV} {h:Heap} {Q:AV→Heap→Prop} {n:Nat} {l:List ResultVar} {tm:List (Nat×AV)} (hf:P.funcs[f]? =some fn) (hb:fn.body=some c) (hn:fn.ntmps=n) (NU:fn.results=l.toArray)
 (Yy:I0 args 0=some tm) (hle:Nat.ble args.length n=true) (kk:ae P (fun σ=>aj σ (fun aC=>∃ rs,Rs P aC l rs∧Q (zy rs) aC.hp)) [.code c] ⟨n,tm,h⟩):aG P f args h Q:=
 aG.PL hf hb hn NU hle (by rw [G1 Yy];exact kk)
section rules
variable {P:Program} {all:Array Oper} {rest:List Oper} {n:Nat} {tm:List (Nat×AV)} {hp:Heap} {Q:St→Prop} {d:Nat} {ty:TypeId} {pos:String} {af:Array Edge}
theorem dC {x:Operand} {E:TypeId} {av:AV} {cs:List AV} (hx:cZ tm x=some av) (hc:oY av.cells=some cs) (h1:kQ cs=true) (hn:Nat.blt d n=true)
 (kk:∀ b:Bk,ah P all rest ⟨n,(d,.ptr b 0) :: tm,(b,.cells cs) :: hp⟩ Q):ah P all (⟨some d,.box E x,ty,pos,af,none⟩ :: rest) ⟨n,tm,hp⟩ Q:=by
 obtain rfl:=jQ hc
 exact PG hx h1 hn kk
theorem bT {E:TypeId} {i:TypeInfo} {z:Value} {cs:List AV} [aX P E i] (hz:i.zero=some z) (hc:oY (BU z).cells=some cs) (h1:kQ cs=true) (hn:Nat.blt d n=true)
 (kk:∀ b:Bk,ah P all rest ⟨n,(d,.ptr b 0) :: tm,(b,.cells cs) :: hp⟩ Q):ah P all (⟨some d,.alloc E,ty,pos,af,none⟩ :: rest) ⟨n,tm,hp⟩ Q:=by
 obtain rfl:=jQ hc
 exact Lo hz h1 hn kk
theorem au {x:Operand} {s:TypeId} {j off:Nat} {b:Bk} {o o':Nat} [mI P s j off] (hx:cZ tm x=some (.ptr b o)) (ho:o+off=o'):QV P ⟨some d,.fieldAddr s x j,ty,pos,af,none⟩ ⟨n,tm,hp⟩ (.ptr b o'):=by
 subst ho
 exact Ep hx
theorem bb {x:Operand} {s:TypeId} {j off:Nat} {cs od:List AV} [mI P s j off] (hx:cZ tm x=some (.gg cs)) (hc:oY (cs.drop off)=some od):QV P ⟨some d,.fieldAddr s x j,ty,pos,af,none⟩ ⟨n,tm,hp⟩ (.gg od):=by
 obtain rfl:=jQ hc
 exact Dj hx
theorem oe {t:TypeId} {D:TypeDesc} {i:TypeInfo} {x:Operand} {b:Bk} {o:Nat} {cs od:List AV} [aD P t D] [aX P t i] (hD:TypeDesc.iA D=true) (hx:cZ tm x=some (.ptr b o)) (f:mr hp b (.cells cs)) (ho:Nat.ble (o+i.size) cs.length=true) (hc:oY ((cs.drop o).take i.size)=some od):
 QV P ⟨some d,.load t x,ty,pos,af,none⟩ ⟨n,tm,hp⟩ (.agg od):=by
 obtain rfl:=jQ hc
 exact z6 hD hx f ho
theorem tV {t:TypeId} {D:TypeDesc} {i:TypeInfo} {x:Operand} {cs od:List AV} [aD P t D] [aX P t i] (hD:TypeDesc.iA D=true) (hx:cZ tm x=some (.gg cs)) (ho:Nat.ble i.size cs.length=true) (hc:oY (cs.take i.size)=some od):
 QV P ⟨some d,.load t x,ty,pos,af,none⟩ ⟨n,tm,hp⟩ (.agg od):=by
 obtain rfl:=jQ hc
 exact yP hD hx ho
theorem cF {t:TypeId} {i:TypeInfo} {z:Value} {parts:List (Nat×Operand)} {l:List (Nat×AV)} {cs od:List AV} {pl:List (Nat×Nat)} [aX P t i] [kR P t pl] (hz:i.zero=some z) (hl:O1 tm parts=some l) (h1:kQ (BU z).cells=true)
 (hc:Cv pl (BU z).cells l=some cs) (F3:oY cs=some od):QV P ⟨some d,.build t parts.toArray,ty,pos,af,none⟩ ⟨n,tm,hp⟩ (.agg od):=by
 obtain rfl:=jQ F3
 exact Lr hz hl h1 hc
theorem aE {t:TypeId} {i:TypeInfo} {x y:Operand} {b:Bk} {o:Nat} {cs od:List AV} {av:AV} {de:Heap} [aX P t i] (hx:cZ tm x=some (.ptr b o)) (hy:cZ tm y=some av) (h1:kQ av.cells=true) (lx:Nat.beq av.cells.length i.size=true)
 (u:nA hp b (.cells cs) b (.cells od) de) (hc:oY (nD cs o av.cells)=some od) (ho:Nat.ble (o+av.cells.length) cs.length=true) (kk:ah P all rest ⟨n,tm,de⟩ Q):ah P all (⟨none,.store t x y,ty,pos,af,none⟩ :: rest) ⟨n,tm,hp⟩ Q:=by
 obtain rfl:=jQ hc
 exact Er hx hy h1 lx u ho kk
theorem aY {t e:TypeId} {i:TypeInfo} {z:Value} {len sz:Nat} {parts:List (Nat×Operand)} {xs:List AV} [aD P t (.slice e)] [aX P e i] [lN P e sz] (hz:i.zero=some z) (hl:IA tm parts 0=some xs) (hlen:Nat.beq parts.length len=true) (xX:zw i.size xs=true)
 (IV:Nat.ble (len * i.size) 16777216=true) (hn:Nat.blt d n=true) (kk:ah P all rest ⟨n,(d,.list sz xs) :: tm,hp⟩ Q):ah P all (⟨some d,.buildSlice t len parts.toArray,ty,pos,af,none⟩ :: rest) ⟨n,tm,hp⟩ Q:=by
 obtain ⟨i',h1,h2⟩:=lN.h (P:=P) (t:=e)
 obtain rfl:i'=i:=by rw [aX.h (P:=P) (t:=e)] at h1;exact (Option.some.inj h1).symm
 subst h2
 exact B5 hz hl hlen xX IV hn kk
theorem Dn {t e:TypeId} {i:TypeInfo} {z:Value} {len sz:Nat} {parts:List (Nat×Operand)} {xs:List AV} [aD P t (.slice e)] [aX P e i] [lN P e sz] (hz:i.zero=some z) (hl:IA tm parts 0=some xs) (hlen:Nat.beq parts.length len=true) (xX:zw i.size xs=true)
 (IV:Nat.ble (len * i.size) 16777216=true) (hn:Nat.blt d n=true) (kk:∀ b:Bk,ah P all rest ⟨n,(d,.sl sz b 0 len) :: tm,(b,.arr sz xs) :: hp⟩ Q):ah P all (⟨some d,.buildSlice t len parts.toArray,ty,pos,af,none⟩ :: rest) ⟨n,tm,hp⟩ Q:=by
 obtain ⟨i',h1,h2⟩:=lN.h (P:=P) (t:=e)
 obtain rfl:i'=i:=by rw [aX.h (P:=P) (t:=e)] at h1;exact (Option.some.inj h1).symm
 subst h2
 exact xY hz hl hlen xX IV hn kk
end rules
structure Grow (w:World) (S:Nat→Prop) (w':World) (S':Nat→Prop):Prop where
 ext:Ext w w'
 up:∀ n,S n→S' n
 down:∀ n,n < w.heap.size→S' n→S n
 slt:∀ n,S' n→n < w'.heap.size
theorem Grow.refl {w:World} {S:Nat→Prop} (h:∀ n,S n→n < w.heap.size):Grow w S w S:=⟨Ext.refl w,fun _ h=>h,fun _ _ h=>h,h⟩
theorem Grow.trans {a b c:World} {S T U:Nat→Prop} (h:Grow a S b T) (k:Grow b T c U):Grow a S c U:=
 ⟨h.ext.trans k.ext,fun n hn=>k.up n (h.up n hn),fun n hn hs=>h.down n hn (k.down n (Nat.lt_of_lt_of_le hn h.ext.size) hs),k.slt⟩
theorem Grow.mH {w w':World} {S S':Nat→Prop} (g:Grow w S w' S') (h:∀ n,S n→n < w.heap.size):∀ n,S n→S' n∧w'.heap[n]? =w.heap[n]?:=fun n hn=>⟨g.up n hn,g.ext.same n (h n hn)⟩
theorem cG.grow {w w':World} {S S':Nat→Prop} {h:Heap} (r:cG w S h) (g:Grow w S w' S'):cG w' S' h where
 nodup:=r.nodup
 holds e he:=(r.holds e he).mono (g.mH r.slt) (fun n hn=>g.ext.same n (r.lt ⟨e,he,hn⟩))
 sep e he n hn:=by
  rw [← r.sep e he n hn]
  exact ⟨g.down n (r.lt ⟨e,he,hn⟩),g.up n⟩
 slt:=g.slt
 jt t o ho:=⟨(g.mH r.slt t (r.jt t o ho).1).1,Cq (g.mH r.slt t (r.jt t o ho).1).2 (r.jt t o ho).2⟩
theorem Grow.Uu {w w':World} {S S':Nat→Prop} (g:Grow w S w' S') (h:∀ n,S n→n < w.heap.size) (hp:Heap):lz w S hp w' S' hp:=
 ⟨g.ext.os,g.ext.tape,g.ext.output,g.ext.size,g.mH h,fun n hn _=>⟨g.ext.same n hn,g.down n hn⟩,fun _ hn=>.inl hn,g.ext.drawn⟩
def looks (all:Array Oper) (o:Oper):List Nat:=
 (o.op.operands.toList.filterMap fun | .tmp t=>some t | _=>none)++(match o.guard with | some (g,_)=>((all[g]?).bind (·.dst)).toList | none=>[])
abbrev Env:=Nat→Option AV
def Dp (w:World) (S:Nat→Prop) (ls:List Nat) (e:Env) (a:Act):Prop:=∀ s∈ls,∀ av,e s=some av→∃ v,a.tmps[s]? =some v∧At w S av v
def MV (P:Program) (all:Array Oper) (n:Nat) (o:Oper) (e:Env) (hp:Heap) (av:AV):Prop:=
 ∀ w S a,a.tmps.size=n→a.defers=[]→cG w S hp→Dp w S (looks all o) e a→∀ (K:Act→World→Prop) (Q:Exit→Act→World→Prop),
   (∀ v w' S',Grow w S w' S'→At w' S' av v→K (a.put o.dst v) w')→o.wp P a w K Q
def wL (e:Env) (d:Option Nat) (av:AV):Env:=match d with
 | some d=>fun s=>if d=s then some av else e s
 | none=>e
def ox (all:Array Oper) (o:Oper) (e:Env) (b:Bool):Prop:=
 match o.guard with
 | none=>b=true
 | some (j,want)=>∃ s,(all[j]?).bind (·.dst)=some s∧((∃ c,e s=some (.bool c)∧b=(c==want))∨(e s=some (.raw undef)∧b=false))
inductive LB (P:Program) (all:Array Oper) (n:Nat) (hp:Heap):List Oper→Env→Env→Prop
 | nil (e:Env):LB P all n hp [] e e
 | run {o:Oper} {l:List Oper} {e e':Env} {av:AV} (hg:ox all o e true) (h:MV P all n o e hp av) (hd:∀ d,o.dst=some d→d < n) (k:LB P all n hp l (wL e o.dst av) e'):LB P all n hp (o :: l) e e'
 | pass {o:Oper} {l:List Oper} {e e':Env} (hg:ox all o e false) (hd:∀ d,o.dst=some d→d < n) (k:LB P all n hp l (wL e o.dst (.raw undef)) e'):LB P all n hp (o :: l) e e'
def M9 (P:Program) (all:Array Oper) (n:Nat) (hp:Heap) (o:Oper) (e:Env) (av:AV):Prop:=
 (∀ d,o.dst=some d→d < n)∧((ox all o e true∧MV P all n o e hp av)∨(ox all o e false∧av=.raw undef))
theorem LB.F4 {P:Program} {all:Array Oper} {n:Nat} {hp:Heap} {l:List Oper} {e e':Env} (h:LB P all n hp l e e'):
 ∃ (mK:Nat→AV) (en:Nat→Env),en 0=e∧en l.length=e'∧∀ i o,l[i]? =some o→M9 P all n hp o (en i) (mK i)∧en (i+1)=wL (en i) o.dst (mK i):=by
 induction h with
 | nil e=>exact ⟨fun _=>.nil,fun _=>e,rfl,rfl,fun i o h=>by simp at h⟩
 | @run o l e e' av hg hm hd k ih=>
   obtain ⟨mK,en,h0,h1,h2⟩:=ih
   refine ⟨fun i=>match i with | 0=>av | i+1=>mK i,fun i=>match i with | 0=>e | i+1=>en i,rfl,h1,fun i o' ho=>?_⟩
   match i with
   | 0=>simp at ho;subst ho;exact ⟨⟨hd,.inl ⟨hg,hm⟩⟩,h0⟩
   | i+1=>exact h2 i o' (by simpa using ho)
 | @pass o l e e' hg hd k ih=>
   obtain ⟨mK,en,h0,h1,h2⟩:=ih
   refine ⟨fun i=>match i with | 0=>.raw undef | i+1=>mK i,fun i=>match i with | 0=>e | i+1=>en i,rfl,h1,fun i o' ho=>?_⟩
   match i with
   | 0=>simp at ho;subst ho;exact ⟨⟨hd,.inr ⟨hg,rfl⟩⟩,h0⟩
   | i+1=>exact h2 i o' (by simpa using ho)
def waits (o:Oper) (i:Nat):Bool:=o.after.toList.any fun e=>Region.binds .any e&&Nat.beq e.on i
def zA (all:Array Oper) (oi oj:Oper):Bool:=
 match oi.dst,oj.dst with
 | some d,some d'=>(looks all oj).contains d||(looks all oi).contains d'||Nat.beq d d'
 | some d,none=>(looks all oj).contains d
 | none,some d'=>(looks all oi).contains d'
 | none,none=>false
inductive zB (all:Array Oper):Nat→Nat→Prop
 | one {j i:Nat} {oj:Oper} (hj:all[j]? =some oj) (hw:waits oj i=true):zB all j i
 | step {j k i:Nat} {oj:Oper} (hj:all[j]? =some oj) (hw:waits oj k=true) (h:zB all k i):zB all j i
def Dq (acc:List Nat):List Edge→Nat→Nat
 | [],m=>m
 | e :: r,m=>Dq acc r (match Region.binds .any e with
   | true=>m||| (1 <<< e.on)||| acc.getD e.on 0
   | false=>m)
def I1:List Oper→List Nat→List Nat
 | [],acc=>acc
 | o :: r,acc=>I1 r (acc++[Dq acc o.after.toList 0])
def HG (all:Array Oper):List Nat:=I1 all.toList []
theorem zC {acc:List Nat} {i:Nat}:∀ (es:List Edge) (m:Nat),(Dq acc es m).testBit i=true→m.testBit i=true∨∃ e∈es,Region.binds .any e=true∧(e.on=i∨(acc.getD e.on 0).testBit i=true)
 | [],m,h=>.inl h
 | e :: r,m,h=>by
   simp only [Dq] at h
   rcases zC r _ h with h | ⟨e',he,hb,hh⟩
   ·split at h
    ·rename_i hb
     rw [Nat.testBit_or,Nat.testBit_or,Bool.or_eq_true,Bool.or_eq_true] at h
     rcases h with (h | h) | h
     ·exact .inl h
     ·refine .inr ⟨e,by simp,hb,.inl ?_⟩
      rw [Nat.one_shiftLeft,Nat.testBit_two_pow] at h
      simpa using h
     ·exact .inr ⟨e,by simp,hb,.inr h⟩
    ·exact .inl h
   ·exact .inr ⟨e',by simp [he],hb,hh⟩
theorem AS {all:Array Oper}:∀ (l:List Oper) (acc:List Nat) (pre:List Oper),all.toList=pre++l→acc.length=pre.length→(∀ j i,(acc.getD j 0).testBit i=true→zB all j i)→∀ j i,((I1 l acc).getD j 0).testBit i=true→zB all j i
 | [],acc,pre,_,_,h=>h
 | o :: r,acc,pre,hl,hlen,h=>by
   refine AS r _ (pre++[o]) (by simpa using hl) (by simp [hlen]) (fun j i hb=>?_)
   rcases Nat.lt_or_ge j acc.length with hj | hj
   ·refine h j i ?_
    rw [List.getD_eq_getElem?_getD,List.getElem?_append_left hj] at hb
    rw [List.getD_eq_getElem?_getD]
    exact hb
   ·by_cases Uv:j=acc.length
    ·rw [List.getD_eq_getElem?_getD,List.getElem?_append_right hj,Uv] at hb
     simp only [Nat.sub_self,List.getElem?_cons_zero,Option.getD_some] at hb
     have K2:all[j]? =some o:=by
      rw [← Array.getElem?_toList,hl,List.getElem?_append_right (by omega),Uv,hlen];simp
     rcases zC _ _ hb with hz | ⟨e,he,Yz,hh⟩
     ·simp at hz
     ·have hw:waits o e.on=true:=by
       simp only [waits,List.any_eq_true,Bool.and_eq_true]
       exact ⟨e,he,Yz,by simp⟩
      rcases hh with hh | hh
      ·subst hh;exact .one K2 hw
      ·exact .step K2 hw (h _ _ hh)
    ·rw [List.getD_eq_getElem?_getD,List.getElem?_append_right hj,List.getElem?_eq_none (by simp;omega)] at hb
     simp at hb
theorem oE {all:Array Oper} {j i:Nat} (h:((HG all).getD j 0).testBit i=true):zB all j i:=
 AS all.toList [] [] (by simp) rfl (fun j i h=>by simp at h) j i h
def EB (all:Array Oper) (m:Nat) (A:List Nat):Bool:=
 (List.range all.size).all fun j=>match all[j]? with
  | none=>true
  | some oj=>(oj.after.all fun e=>!Region.binds .any e||Nat.blt e.on j)&&(List.range j).all fun i=>match all[i]? with
    | none=>true
    | some oi=>if Nat.blt j m then !zA all oi oj||(A.getD j 0).testBit i else (A.getD j 0).testBit i
def uY (all:Array Oper) (m:Nat):Prop:=∃ A,HG all=A∧EB all m A=true
theorem kA {all:Array Oper} {m:Nat} (h:uY all m) {i j:Nat} {oi oj:Oper} (hj:all[j]? =some oj) (hi:all[i]? =some oi) (x3:i < j):(j < m→zA all oi oj=true→zB all j i)∧(m≤j→zB all j i):=by
 obtain ⟨A,hA,h⟩:=h
 subst hA
 have Na:j < all.size:=(Array.getElem?_eq_some_iff.1 hj).1
 simp only [EB,List.all_eq_true,List.mem_range] at h
 have h1:=h j Na
 rw [hj] at h1
 simp only [Bool.and_eq_true,List.all_eq_true,List.mem_range] at h1
 have h2:=h1.2 i x3
 rw [hi] at h2
 simp only at h2
 refine ⟨fun hm hc=>?_,fun hm=>?_⟩
 ·rw [if_pos (by simpa using hm)] at h2
  exact oE (by simpa [hc] using h2)
 ·rw [if_neg (by simp;omega)] at h2
  exact oE h2
theorem xo {all:Array Oper} {m:Nat} (h:uY all m) {j:Nat} {oj:Oper} (hj:all[j]? =some oj) {e:Edge} (he:e∈oj.after) (hb:Region.binds .any e=true):e.on < j:=by
 obtain ⟨A,hA,h⟩:=h
 have Na:j < all.size:=(Array.getElem?_eq_some_iff.1 hj).1
 simp only [EB,List.all_eq_true,List.mem_range] at h
 have h1:=h j Na
 rw [hj] at h1
 simp only [Bool.and_eq_true,Array.all_eq_true_iff_forall_mem] at h1
 have:=h1.1 e he
 simpa [hb] using this
theorem sZ {all:Array Oper} {listed:Array Bool} {i j:Nat} {oj:Oper} (hj:all[j]? =some oj) (hr:j∈Region.ready .any all listed) (hw:waits oj i=true):listed.getD i false=true:=by
 simp only [Region.ready,List.mem_filter,List.mem_range,hj,Option.map_some,Option.getD_some,Bool.and_eq_true,Array.all_eq_true_iff_forall_mem] at hr
 simp only [waits,List.any_eq_true,Bool.and_eq_true] at hw
 obtain ⟨e,he,hb,K3⟩:=hw
 have:=hr.2.2 e (by simpa using he)
 rw [hb] at this
 obtain rfl:e.on=i:=Nat.eq_of_beq_eq_true K3
 simpa using this
def lO (all:Array Oper) (listed:Array Bool):Prop:=∀ k i o,listed.getD k false=true→all[k]? =some o→waits o i=true→listed.getD i false=true
theorem lO.LC {all:Array Oper} {listed:Array Bool} (c:lO all listed) {j i:Nat} (h:zB all j i) (hl:listed.getD j false=true):listed.getD i false=true:=by
 induction h with
 | one hj hw=>exact c _ _ _ hl hj hw
 | step hj hw _ ih=>exact ih (c _ _ _ hl hj hw)
theorem lO.ready {all:Array Oper} {listed:Array Bool} (c:lO all listed) {j i:Nat} (h:zB all j i) (hr:j∈Region.ready .any all listed):listed.getD i false=true:=by
 cases h with
 | one hj hw=>exact sZ hj hr hw
 | step hj hw h=>exact c.LC h (sZ hj hr hw)
theorem wm {all:Array Oper} {listed:Array Bool} {j:Nat} (hr:j∈Region.ready .any all listed):j < all.size∧listed.getD j true=false:=by
 simp only [Region.ready,List.mem_filter,List.mem_range,Bool.and_eq_true] at hr
 exact ⟨hr.1,by simpa using hr.2.1⟩
theorem yT {all:Array Oper} {m:Nat} (h:uY all m) {listed:Array Bool} (hl:listed.size=all.size) (hr:Region.ready .any all listed=[]):∀ i,i < all.size→listed.getD i false=true:=by
 intro i
 induction i using Nat.strongRecOn with
 | _ i ih=>
   intro hi
   cases hv:listed.getD i false with
   | true=>rfl
   | false=>
     exfalso
     have:i∈Region.ready .any all listed:=by
      simp only [Region.ready,List.mem_filter,List.mem_range,Bool.and_eq_true]
      have YA:i < listed.size:=by omega
      refine ⟨hi,?_,?_⟩
      ·simp [YA] at hv ⊢;exact hv
      ·have zD:all[i]? =some all[i]:=by simp [hi]
       rw [zD]
       simp only [Option.map_some,Option.getD_some,Array.all_eq_true_iff_forall_mem]
       intro e he
       cases hb:Region.binds .any e with
       | false=>simp
       | true=>
         have lA:=xo h zD he hb
         simp [ih e.on lA (by omega)]
     rw [hr] at this
     simp at this
section order
variable {P:Program} {all:Array Oper} {n m:Nat} {hp:Heap}
def cur (all:Array Oper) (mK:Nat→AV) (e:Env) (listed:Array Bool):Nat→Env
 | 0=>e
 | k+1=>if listed.getD k false then wL (cur all mK e listed k) ((all[k]?).bind (·.dst)) (mK k) else cur all mK e listed k
theorem mx {e:Env} {d:Option Nat} {av:AV} {s:Nat} (h:d≠some s):wL e d av s=e s:=by
 cases d with
 | none=>rfl
 | some d=>simp only [wL];rw [if_neg (fun e=>h (by rw [e]))]
theorem oZ {e:Env} {av:AV} {s:Nat}:wL e (some s) av s=some av:=by simp [wL]
theorem xp {oi oj:Oper} {s:Nat} (hd:oi.dst=some s) (hs:s∈looks all oj):zA all oi oj=true:=by
 unfold zA
 rw [hd]
 cases hj:oj.dst<;>simp [hs]
theorem zE {oi oj:Oper} {s:Nat} (hd:oj.dst=some s) (hs:s∈looks all oi):zA all oi oj=true:=by
 unfold zA
 rw [hd]
 cases hi:oi.dst<;>simp [hs]
theorem Cz {oi oj:Oper} {s:Nat} (hi:oi.dst=some s) (hj:oj.dst=some s):zA all oi oj=true:=by
 unfold zA
 rw [hi,hj]
 simp
structure K4 (all:Array Oper) (m:Nat) (listed:Array Bool):Prop where
 size:listed.size=all.size
 head:∀ k,listed.getD k false=true→k < m
 closed:∀ k i o,listed.getD k false=true→all[k]? =some o→waits o i=true→listed.getD i false=true
theorem Au {listed:Array Bool} {i:Nat} (h:listed.getD i true=false):listed.getD i false=false:=by
 by_cases hi:i < listed.size
 ·simp [hi] at h ⊢;exact h
 ·simp [hi]
variable {mK:Nat→AV} {en:Nat→Env} {e:Env}
theorem I2 (hB:uY all m) {listed:Array Bool} (L:K4 all m listed) (h0:en 0=e) (hs:∀ i o,i < m→all[i]? =some o→en (i+1)=wL (en i) o.dst (mK i)) (hm:m≤all.size)
 {i:Nat} {o:Oper} (ho:all[i]? =some o) (Ec:i < m) (wM:listed.getD i false=false) (hr:∀ j,zB all i j→listed.getD j false=true) {s:Nat} (I3:s∈looks all o):∀ k,k≤all.size→cur all mK e listed k s=en (min k i) s:=by
 intro k
 induction k with
 | zero=>intro _;simp [cur,h0]
 | succ k ih=>
   intro hk
   have vd:=ih (by omega)
   have ve:all[k]? =some all[k]:=by simp [show k < all.size by omega]
   simp only [cur,ve,Option.bind_some]
   rcases Nat.lt_trichotomy k i with lA | heq | I4
   ·rw [Nat.min_eq_left (by omega)] at vd
    rw [Nat.min_eq_left (by omega),hs k _ (by omega) ve]
    by_cases hd:(all[k]).dst=some s
    ·have hl:listed.getD k false=true:=hr k ((kA hB ho ve lA).1 Ec (xp hd I3))
     rw [if_pos hl,hd,oZ,oZ]
    ·rw [mx hd]
     split
     ·rw [mx hd];exact vd
     ·exact vd
   ·subst heq
    rw [wM]
    simp only [Bool.false_eq_true,if_false]
    rw [Nat.min_eq_right (by omega)]
    rw [Nat.min_eq_right (by omega)] at vd
    exact vd
   ·rw [Nat.min_eq_right (by omega)] at vd
    rw [Nat.min_eq_right (by omega)]
    by_cases hl:listed.getD k false=true
    ·by_cases hd:(all[k]).dst=some s
     ·exfalso
      have hw:=(kA hB ve ho I4).1 (L.head k hl) (zE hd I3)
      have:=lO.LC L.closed hw hl
      rw [wM] at this;cases this
     ·rw [if_pos hl,mx hd];exact vd
    ·rw [if_neg hl];exact vd
theorem jw {listed:Array Bool} {i k:Nat} (hi:i < listed.size):(listed.setIfInBounds i true).getD k false=(if k=i then true else listed.getD k false):=by
 by_cases hk:k < listed.size
 ·simp [hk,Array.getElem_setIfInBounds]
  by_cases h:k=i
  ·simp [h]
  ·have h':¬ i=k:=fun e=>h e.symm
   simp [h,h']
 ·have:k≠i:=by omega
  simp [hk,this]
theorem LD (hB:uY all m) {listed:Array Bool} (L:K4 all m listed) {i:Nat} {o:Oper} (ho:all[i]? =some o) (Ec:i < m) (wM:listed.getD i false=false) (s:Nat):
 ∀ k,k≤all.size→cur all mK e (listed.setIfInBounds i true) k s=(if i < k then wL (cur all mK e listed k) o.dst (mK i) s else cur all mK e listed k s):=by
 have hi:i < listed.size:=by rw [L.size];exact (Array.getElem?_eq_some_iff.1 ho).1
 intro k
 induction k with
 | zero=>intro _;simp [cur]
 | succ k ih=>
   intro hk
   have vd:=ih (by omega)
   have ve:all[k]? =some all[k]:=by simp [show k < all.size by omega]
   simp only [cur,ve,Option.bind_some,jw hi]
   rcases Nat.lt_trichotomy k i with lA | heq | I4
   ·rw [if_neg (by omega)] at vd
    have e1:(if k=i then true else listed.getD k false)=listed.getD k false:=if_neg (by omega)
    rw [e1,if_neg (show ¬ i < k+1 by omega)]
    by_cases hl:listed.getD k false=true
    ·rw [if_pos hl,if_pos hl]
     by_cases hd:(all[k]).dst=some s
     ·rw [hd,oZ,oZ]
     ·rw [mx hd,mx hd];exact vd
    ·rw [if_neg hl,if_neg hl];exact vd
   ·subst heq
    rw [if_neg (by omega)] at vd
    have e1:(if k=k then true else listed.getD k false)=true:=if_pos rfl
    rw [e1,if_pos (show k < k+1 by omega),if_pos rfl,wM,if_neg Bool.false_ne_true]
    obtain rfl:all[k]=o:=by rw [ve] at ho;exact Option.some.inj ho
    by_cases hd:(all[k]).dst=some s
    ·rw [hd,oZ,oZ]
    ·rw [mx hd,mx hd];exact vd
   ·rw [if_pos I4] at vd
    have e1:(if k=i then true else listed.getD k false)=listed.getD k false:=if_neg (by omega)
    rw [e1,if_pos (show i < k+1 by omega)]
    by_cases hl:listed.getD k false=true
    ·rw [if_pos hl,if_pos hl]
     by_cases hd:(all[k]).dst=some s
     ·by_cases HI:o.dst=some s
      ·exfalso
       have hw:=(kA hB ve ho I4).1 (L.head k hl) (Cz HI hd)
       have:=lO.LC L.closed hw hl
       rw [wM] at this;cases this
      ·rw [hd,oZ,mx HI,oZ]
     ·by_cases HI:o.dst=some s
      ·rw [mx hd,vd,HI,oZ,oZ]
      ·rw [mx hd,vd,mx HI,mx HI,mx hd]
    ·rw [if_neg hl,if_neg hl];exact vd
theorem EC (hB:uY all m) {Q:Exit→Act→World→Prop}:∀ (fuel k:Nat) (listed:Array Bool) (a:Act) (w:World),m≤k→k+fuel=all.size→listed.size=all.size→(∀ i,i < k→listed.getD i false=true)→(∀ i,k≤i→listed.getD i false=false)→
 wpList P all Q (all.toList.drop k) a w→wpAny P .any all Q fuel listed a w:=by
 intro fuel
 induction fuel with
 | zero=>
   intro k listed a w hm hk lx h1 h2 h
   have Sg:all.toList.drop k=[]:=List.drop_eq_nil_of_le (by simp;omega)
   rw [Sg] at h
   refine ⟨?_,h⟩
   refine List.eq_nil_iff_forall_not_mem.2 fun i hi=>?_
   obtain ⟨I5,I6⟩:=wm hi
   have:=h1 i (by omega)
   rw [Au I6] at this
   cases this
 | succ fuel ih=>
   intro k listed a w hm hk lx h1 h2 h
   have Sh:k < all.size:=by omega
   have ve:all[k]? =some all[k]:=by simp [Sh]
   refine ⟨fun hr=>?_,fun i hi=>?_⟩
   ·have:=yT hB lx hr k Sh
    rw [h2 k (Nat.le_refl _)] at this
    cases this
   ·obtain ⟨I5,I6⟩:=wm hi
    have zD:all[i]? =some all[i]:=by simp [I5]
    obtain rfl:i=k:=by
     rcases Nat.lt_trichotomy i k with lA | heq | I4
     ·have:=h1 i lA;rw [Au I6] at this;cases this
     ·exact heq
     ·have BV:lO all listed:=fun k' i' o Q3 YB Q4=>by
       have lA:k' < k:=by
        rcases Nat.lt_or_ge k' k with h | h
        ·exact h
        ·rw [h2 k' h] at Q3;cases Q3
       simp only [waits,List.any_eq_true,Bool.and_eq_true] at Q4
       obtain ⟨e',Si,B2,NV⟩:=Q4
       have:=xo hB YB (by simpa using Si) B2
       obtain rfl:e'.on=i':=Nat.eq_of_beq_eq_true NV
       exact h1 _ (by omega)
      have:=BV.ready ((kA hB zD ve I4).2 (by omega)) hi
      rw [h2 k (Nat.le_refl _)] at this;cases this
    have PQ:all.toList.drop i=all[i] :: all.toList.drop (i+1):=by
     rw [List.drop_eq_getElem_cons (by simpa using Sh)]
     simp
    rw [PQ] at h
    unfold wpList at h
    simp only [wpOp,ve]
    have next:∀ a w,wpList P all Q (all.toList.drop (i+1)) a w→wpAny P .any all Q fuel (listed.setIfInBounds i true) a w:=fun a w hh=>by
     have tL:i < listed.size:=by omega
     refine ih (i+1) (listed.setIfInBounds i true) a w (by omega) (by omega) (by simpa using lx) (fun j hj=>?_) (fun j hj=>?_) hh
     ·rw [jw tL];split
      ·rfl
      ·exact h1 j (by omega)
     ·rw [jw tL,if_neg (by omega)];exact h2 j (by omega)
    split at h
    ·rename_i hw
     rw [if_pos hw]
     exact h.imp (fun hh=>Oper.wp_mono next hh) id
    ·rename_i hw
     rw [if_neg hw]
     exact next _ _ h
theorem wo {o:Oper} {e:Env} {b:Bool} {w:World} {S:Nat→Prop} {a:Act} (hw:ox all o e b) (r:Dp w S (looks all o) e a):Region.wanted o (yielded all a.tmps)=b:=by
 unfold ox at hw
 unfold Region.wanted
 cases hg:o.guard with
 | none=>rw [hg] at hw;simp only at hw;rw [hw]
 | some g=>
   obtain ⟨j,want⟩:=g
   rw [hg] at hw
   simp only at hw
   obtain ⟨s,h1,⟨c,h2,h3⟩ | ⟨h2,h3⟩⟩:=hw
   ·obtain ⟨v,g1,g2⟩:=r s (by simp [looks,hg,h1]) _ h2
    cases g2
    rw [h3]
    cases c<;>cases want<;>simp [yielded,h1,g1]
   ·obtain ⟨v,g1,g2⟩:=r s (by simp [looks,hg,h1]) _ h2
    cases g2
    rw [h3]
    simp [yielded,h1,g1,undef]
def AU (w:World) (S:Nat→Prop) (e:Env) (a:Act):Prop:=∀ s av,e s=some av→∃ v,a.tmps[s]? =some v∧At w S av v
theorem I7 (hB:uY all m) (hm:m≤all.size) {Q:Exit→Act→World→Prop} (h0:en 0=e) (hs:∀ i o,i < m→all[i]? =some o→M9 P all n hp o (en i) (mK i)∧en (i+1)=wL (en i) o.dst (mK i)) {w0:World} {S0:Nat→Prop}
 (fin:∀ a w S,a.tmps.size=n→a.defers=[]→cG w S hp→Grow w0 S0 w S→AU w S (en m) a→wpList P all Q (all.toList.drop m) a w):
 ∀ (fuel:Nat) (listed:Array Bool) (a:Act) (w:World) (S:Nat→Prop),K4 all m listed→(listed.toList.count true)+fuel=all.size→a.tmps.size=n→a.defers=[]→cG w S hp→Grow w0 S0 w S→AU w S (cur all mK e listed all.size) a→
   wpAny P .any all Q fuel listed a w:=by
 have PR:∀ i o,i < m→all[i]? =some o→en (i+1)=wL (en i) o.dst (mK i):=fun i o h1 h2=>(hs i o h1 h2).2
 have done:∀ (fuel:Nat) (listed:Array Bool) (a:Act) (w:World) (S:Nat→Prop),K4 all m listed→(listed.toList.count true)+fuel=all.size→a.tmps.size=n→a.defers=[]→cG w S hp→Grow w0 S0 w S→AU w S (cur all mK e listed all.size) a→
  (∀ i,i < m→listed.getD i false=true)→wpAny P .any all Q fuel listed a w:=by
  intro fuel listed a w S L hc lx F5 hr hg tO oM
  have LF:∀ i,m≤i→listed.getD i false=false:=fun i hi=>by
   cases hv:listed.getD i false with
   | false=>rfl
   | true=>have:=L.head i hv;omega
  have NW:listed.toList.count true=m:=by
   have:listed.toList=List.replicate m true++List.replicate (all.size - m) false:=by
    apply List.ext_getElem?
    intro i
    rcases Nat.lt_or_ge i m with hi | hi
    ·have tL:i < listed.size:=by rw [L.size];omega
     rw [List.getElem?_append_left (by simpa using hi)]
     have:=oM i hi
     simp [tL] at this
     simp [tL,hi,this]
    ·rw [List.getElem?_append_right (by simpa using hi)]
     rcases Nat.lt_or_ge i listed.size with tL | tL
     ·have:=LF i hi
      simp [tL] at this
      have h2:i - m < all.size - m:=by rw [L.size] at tL;omega
      simp [tL,h2,this]
     ·have h2:¬ i - m < all.size - m:=by rw [L.size] at tL;omega
      simp [List.getElem?_eq_none (l:=listed.toList) (by simpa using tL),h2]
   rw [this,List.count_append,List.count_replicate,List.count_replicate]
   simp
  have NX:cur all mK e listed all.size=en m:=by
   have key:∀ k,k≤all.size→cur all mK e listed k=en (min k m):=by
    intro k
    induction k with
    | zero=>intro _;simp [cur,h0]
    | succ k ih=>
      intro hk
      have ve:all[k]? =some all[k]:=by simp [show k < all.size by omega]
      simp only [cur,ve,Option.bind_some,ih (by omega)]
      rcases Nat.lt_or_ge k m with h | h
      ·rw [if_pos (oM k h),Nat.min_eq_left (by omega),Nat.min_eq_left (by omega),PR k _ h ve]
      ·rw [if_neg (by rw [LF k h];simp),Nat.min_eq_right (by omega),Nat.min_eq_right (by omega)]
   rw [key all.size (Nat.le_refl _),Nat.min_eq_right hm]
  rw [NX] at tO
  exact EC hB fuel m listed a w (Nat.le_refl _) (by omega) L.size oM LF (fin a w S lx F5 hr hg tO)
 intro fuel
 induction fuel with
 | zero=>
   intro listed a w S L hc lx F5 hr hg tO
   refine done 0 listed a w S L hc lx F5 hr hg tO (fun i hi=>?_)
   have Ac:listed.toList.count true=listed.toList.length:=by rw [Array.length_toList,L.size];omega
   have oM:=List.count_eq_length.1 Ac
   have tL:i < listed.size:=by rw [L.size];omega
   have:=oM listed[i] (by simp)
   simp [tL];exact this.symm
 | succ fuel ih=>
   intro listed a w S L hc lx F5 hr hg tO
   by_cases oM:∀ i,i < m→listed.getD i false=true
   ·exact done _ listed a w S L hc lx F5 hr hg tO oM
   ·refine ⟨fun LG=>(oM fun i hi=>yT hB L.size LG i (by omega)).elim,fun i hi=>?_⟩
    obtain ⟨I5,I6⟩:=wm hi
    have wM:=Au I6
    have zD:all[i]? =some all[i]:=by simp [I5]
    have Ec:i < m:=by
     rcases Nat.lt_or_ge i m with h | h
     ·exact h
     ·refine (oM fun j hj=>?_).elim
      have K2:all[j]? =some all[j]:=by simp [show j < all.size by omega]
      exact lO.ready L.closed ((kA hB zD K2 (by omega)).2 h) hi
    have tL:i < listed.size:=by rw [L.size];exact I5
    obtain ⟨⟨KY,I8⟩,_⟩:=hs i _ Ec zD
    have yS:Dp w S (looks all all[i]) (en i) a:=by
     intro s I3 av rk
     have hc:=I2 (mK:=mK) (en:=en) (e:=e) hB L h0 PR hm zD Ec wM (fun j hj=>lO.ready L.closed hj hi) I3 all.size (Nat.le_refl _)
     rw [Nat.min_eq_right (by omega)] at hc
     exact tO s av (by rw [hc];exact rk)
    have L':K4 all m (listed.setIfInBounds i true):=by
     refine ⟨by simpa using L.size,fun k hk=>?_,fun k j o hk ve hw=>?_⟩
     ·rw [jw tL] at hk
      split at hk
      ·omega
      ·exact L.head k hk
     ·rw [jw tL] at hk
      rw [jw tL]
      split
      ·rfl
      ·split at hk
       ·rename_i Sj
        subst Sj
        obtain rfl:all[k]=o:=by rw [zD] at ve;exact Option.some.inj ve
        exact sZ zD hi hw
       ·exact L.closed k j o hk ve hw
    have Ac:(listed.setIfInBounds i true).toList.count true+fuel=all.size:=by
     have I9:listed[i]=false:=by simpa [tL] using wM
     have:(listed.setIfInBounds i true).toList=listed.toList.set i true:=by simp
     rw [this,List.count_set (by simpa using tL)]
     have IU:listed.toList[i]'(by simpa using tL)=false:=by simpa using I9
     rw [IU]
     have e1:(if (false==true)=true then 1 else 0)=0:=rfl
     have e2:(if (true==true)=true then 1 else 0)=1:=rfl
     rw [e1,e2]
     omega
    have Uw:∀ (v:Value) (w':World) (S':Nat→Prop),Grow w S w' S'→At w' S' (mK i) v→AU w' S' (cur all mK e (listed.setIfInBounds i true) all.size) (a.put (all[i]).dst v):=by
     intro v w' S' Nb tJ s av rk
     rw [LD (mK:=mK) (e:=e) hB L zD Ec wM s all.size (Nat.le_refl _),if_pos (by omega)] at rk
     by_cases hd:(all[i]).dst=some s
     ·rw [hd,oZ] at rk
      obtain rfl:=Option.some.inj rk
      have PS:=KY s hd
      exact ⟨v,by rw [hd];simp [Act.put,lx,PS],tJ⟩
     ·rw [mx hd] at rk
      obtain ⟨u,h1,h2⟩:=tO s av rk
      refine ⟨u,?_,h2.mono (Nb.mH hr.slt)⟩
      cases Dr:(all[i]).dst with
      | none=>simpa [Act.put] using h1
      | some d'=>
        have mJ:d'≠s:=fun e=>hd (by rw [Dr,e])
        simp [Act.put,mJ,h1]
    have Q5:∀ v,(a.put (all[i]).dst v).tmps.size=n:=fun v=>by cases (all[i]).dst<;>simp [Act.put,lx]
    have Q6:∀ v,(a.put (all[i]).dst v).defers=[]:=fun v=>by cases (all[i]).dst<;>simp [Act.put,F5]
    simp only [wpOp,zD]
    rcases I8 with ⟨hw,Sk⟩ | ⟨hw,rk⟩
    ·rw [if_pos (wo hw yS)]
     refine .inl (Sk w S a lx F5 hr yS _ _ (fun v w' S' Nb tJ=>?_))
     exact ih _ _ _ S' L' Ac (Q5 v) (Q6 v) (hr.grow Nb) (hg.trans Nb) (Uw v w' S' Nb tJ)
    ·rw [if_neg (by rw [wo hw yS];simp)]
     refine ih _ _ _ S L' Ac (Q5 _) (Q6 _) hr hg (Uw _ w S (Grow.refl hr.slt) ?_)
     rw [rk];exact .raw _
end order
theorem x4 (d:Nat) (av:AV) (tm:List (Nat×AV)):lk ((d,av) :: tm)=wL (lk tm) (some d) av:=by
 funext s
 simp only [lk,wL]
 by_cases h:d=s
 ·subst h;simp
 ·rw [pZ h,if_neg h]
def FT:List Nat→List (Nat×AV)→List (Nat×AV)
 | [],_=>[]
 | s :: r,tm=>match lk tm s with
   | some av=>(s,av) :: FT r tm
   | none=>FT r tm
theorem Ds:∀ {ls:List Nat} {tm:List (Nat×AV)} {s:Nat} {av:AV},lk (FT ls tm) s=some av→s∈ls∧lk tm s=some av
 | [],tm,s,av,h=>by simp [FT,lk] at h
 | k :: ls,tm,s,av,h=>by
   simp only [FT] at h
   split at h
   ·rename_i bZ hk
    simp only [lk] at h
    split at h
    ·rename_i hb
     obtain rfl:k=s:=by simpa using hb
     obtain rfl:=Option.some.inj h
     exact ⟨by simp,hk⟩
    ·obtain ⟨h1,h2⟩:=Ds h
     exact ⟨by simp [h1],h2⟩
   ·obtain ⟨h1,h2⟩:=Ds h
    exact ⟨by simp [h1],h2⟩
theorem sf {w:World} {S:Nat→Prop} {a:Act} {n:Nat} {hp:Heap} {ls:List Nat} {tm:List (Nat×AV)} (h1:a.tmps.size=n) (h2:a.defers=[]) (h3:cG w S hp) (h4:Dp w S ls (lk tm) a):dQ w S ⟨n,FT ls tm,hp⟩ a:=
 ⟨h1,h2,fun s av h=>h4 s (Ds h).1 av (Ds h).2,h3⟩
def AM (P:Program) (all:Array Oper) (n:Nat) (hp:Heap) (l:List Oper) (tm:List (Nat×AV)) (Q:List (Nat×AV)→Prop):Prop:=∃ qQ,LB P all n hp l (lk tm) (lk qQ)∧Q qQ
section rules
variable {P:Program} {all:Array Oper} {rest:List Oper} {n:Nat} {tm:List (Nat×AV)} {hp:Heap} {Q:List (Nat×AV)→Prop} {d:Nat} {ty:TypeId} {pos:String} {af:Array Edge} {op:Op}
theorem AM.nil (h:Q tm):AM P all n hp [] tm Q:=⟨tm,.nil _,h⟩
theorem AM.mv {av:AV} (h:MV P all n ⟨some d,op,ty,pos,af,none⟩ (lk tm) hp av) (hn:Nat.blt d n=true) (k:AM P all n hp rest ((d,av) :: tm) Q):AM P all n hp (⟨some d,op,ty,pos,af,none⟩ :: rest) tm Q:=by
 obtain ⟨qQ,k1,k2⟩:=k
 refine ⟨qQ,.run rfl h (fun d' hd=>?_) (by rw [x4] at k1;exact k1),k2⟩
 obtain rfl:=Option.some.inj hd
 simpa using hn
theorem AM.qv {av:AV} (q:QV P ⟨some d,op,ty,pos,af,none⟩ ⟨n,FT (looks all ⟨some d,op,ty,pos,af,none⟩) tm,hp⟩ av) (hn:Nat.blt d n=true) (k:AM P all n hp rest ((d,av) :: tm) Q):AM P all n hp (⟨some d,op,ty,pos,af,none⟩ :: rest) tm Q:=by
 refine AM.mv (fun w S a h1 h2 h3 h4 K Q' hK=>?_) hn k
 obtain ⟨v,g1,g2⟩:=q w S a (sf h1 h2 h3 h4)
 show Oper.upon P _ a K Q' _
 rw [g1 w (Ext.refl w)]
 exact hK v w S (Grow.refl h3.slt) g2
theorem AM.aF {j:Nat} {want b:Bool} {s:Nat} (hj:(all[j]?).bind (·.dst)=some s) (hs:lk tm s=some (.bool b)) (hb:b=want)
 (k:AM P all n hp (⟨some d,op,ty,pos,af,none⟩ :: rest) tm Q):AM P all n hp (⟨some d,op,ty,pos,af,some (j,want)⟩ :: rest) tm Q:=by
 obtain ⟨qQ,k1,k2⟩:=k
 refine ⟨qQ,?_,k2⟩
 cases k1 with
 | run hg h hd k=>
   refine .run ⟨s,hj,.inl ⟨b,hs,by simp [hb]⟩⟩ ?_ hd k
   intro w S a h1 h2 h3 h4 K Q' hK
   exact h w S a h1 h2 h3 (fun t ht=>h4 t (by simp only [looks,List.append_nil] at ht ⊢;exact List.mem_append_left _ ht)) K Q' hK
 | pass hg hd k=>simp [ox] at hg
theorem AM.aJ {j:Nat} {want b:Bool} {s:Nat} (hj:(all[j]?).bind (·.dst)=some s) (hs:lk tm s=some (.bool b)) (hb:b=!want) (hn:Nat.blt d n=true)
 (k:AM P all n hp rest ((d,.raw undef) :: tm) Q):AM P all n hp (⟨some d,op,ty,pos,af,some (j,want)⟩ :: rest) tm Q:=by
 obtain ⟨qQ,k1,k2⟩:=k
 refine ⟨qQ,.pass ⟨s,hj,.inl ⟨b,hs,?_⟩⟩ (fun d' hd=>?_) (by rw [x4] at k1;exact k1),k2⟩
 ·rw [hb];cases want<;>rfl
 ·obtain rfl:=Option.some.inj hd
  simpa using hn
theorem AM.lit {l:List Oper} {s:Nat} {b c:Bool} (hs:lk tm s=some (.bool b)) (hb:b=c) (k:AM P all n hp l ((s,.bool c) :: tm) Q):AM P all n hp l tm Q:=by
 subst hb
 obtain ⟨qQ,k1,k2⟩:=k
 have:lk ((s,.bool b) :: tm)=lk tm:=by
  rw [x4]
  funext t
  simp only [wL]
  split
  ·rename_i h;subst h;exact hs.symm
  ·rfl
 rw [this] at k1
 exact ⟨qQ,k1,k2⟩
theorem AM.guard {j s:Nat} {want b:Bool} (hj:(all[j]?).bind (·.dst)=some s) (hs:lk tm s=some (.bool b)) (hn:Nat.blt d n=true) (h1:b=want→AM P all n hp (⟨some d,op,ty,pos,af,none⟩ :: rest) ((s,.bool want) :: tm) Q)
 (h2:b=!want→AM P all n hp rest ((d,.raw undef) :: (s,.bool (!want)) :: tm) Q):AM P all n hp (⟨some d,op,ty,pos,af,some (j,want)⟩ :: rest) tm Q:=by
 by_cases hb:b=want
 ·exact AM.lit hs hb (AM.aF hj (by simp [lk]) rfl (h1 hb))
 ·have B2:b=!want:=by cases b<;>cases want<;>simp_all
  exact AM.lit hs B2 (AM.aJ hj (b:=!want) (by simp [lk]) rfl hn (h2 B2))
theorem AM.bJ {j s:Nat} {p:Prop} [Decidable p] (hj:(all[j]?).bind (·.dst)=some s) (hs:lk tm s=some (.bool (decide p))) (hn:Nat.blt d n=true) (h1:p→AM P all n hp (⟨some d,op,ty,pos,af,none⟩ :: rest) ((s,.bool true) :: tm) Q)
 (h2:¬ p→AM P all n hp rest ((d,.raw undef) :: (s,.bool false) :: tm) Q):AM P all n hp (⟨some d,op,ty,pos,af,some (j,true)⟩ :: rest) tm Q:=
 AM.guard hj hs hn (fun h=>h1 (of_decide_eq_true h)) (fun h=>h2 (of_decide_eq_false h))
theorem AM.jR {f:FuncId} {args:List Operand} {ts:Array TypeId} {l l':List AV} {R:AV} [bq P f] (hl:zZ (FT (looks all ⟨some d,.call {callee:=.value (.func f),args:=args.toArray,argTypes:=ts},ty,pos,af,none⟩) tm) args=some l) (c:Pu P f l' R) (co:xZ hp l l') (hn:Nat.blt d n=true)
 (k:AM P all n hp rest ((d,R) :: tm) Q):AM P all n hp (⟨some d,.call {callee:=.value (.func f),args:=args.toArray,argTypes:=ts},ty,pos,af,none⟩ :: rest) tm Q:=by
 refine AM.mv (fun w S a h1 h2 h3 h4 K Q' hK=>?_) hn k
 have r:=sf h1 h2 h3 h4
 show Oper.upon P _ a K Q' _
 rw [p9]
 obtain ⟨g1,g2⟩:=tT r hl
 obtain ⟨g3,g4⟩:=xZ.at r.hp co g1 g2
 refine (c w S _ (tU h3.slt h3.jt) (by simpa using g3) g4).mono ?_
 rintro e w' ⟨v,rr,h',S',rfl,rfl,k3,k4,k5⟩
 exact hK v w' S' ⟨k5.Ey,fun m hm=>(k5.mH m hm).1,fun m hm hs=>(k5.other m hm (fun ⟨x,hx,_⟩=>by simp at hx)).2 hs,k4.slt⟩ k3
theorem AM.bU {t e:TypeId} {i:TypeInfo} {z:Value} {len sz:Nat} {parts:List (Nat×Operand)} {xs:List AV} [aD P t (.slice e)] [aX P e i] [lN P e sz] (hz:i.zero=some z)
 (hl:IA (FT (looks all ⟨some d,.buildSlice t len parts.toArray,ty,pos,af,none⟩) tm) parts 0=some xs) (hlen:Nat.beq parts.length len=true) (xX:zw i.size xs=true) (IV:Nat.ble (len * i.size) 16777216=true) (hn:Nat.blt d n=true)
 (k:AM P all n hp rest ((d,.list sz xs) :: tm) Q):AM P all n hp (⟨some d,.buildSlice t len parts.toArray,ty,pos,af,none⟩ :: rest) tm Q:=by
 obtain ⟨i',I5,I6⟩:=lN.h (P:=P) (t:=e)
 obtain rfl:i'=i:=by rw [aX.h (P:=P) (t:=e)] at I5;exact (Option.some.inj I5).symm
 subst I6
 refine AM.mv (fun w S a h1 h2 h3 h4 K Q' hK=>?_) hn k
 have r:=sf h1 h2 h3 h4
 obtain rfl:parts.length=len:=Nat.eq_of_beq_eq_true hlen
 have IV:=Nat.le_of_ble_eq_true IV
 obtain ⟨zz,Ls⟩:∃ zz:Array Value,zz=if parts.length * i'.size=0 then #[] else z.cells:=⟨_,rfl⟩
 obtain ⟨vs,g1,g2,g3,g4⟩:=AL r i'.size parts 0 xs ((Array.range (parts.length * i'.size)).map (zz[· % zz.size]!)) hl (pM xX) (by simp)
 simp only [Nat.zero_mul,List.take_zero,List.nil_append] at g1
 have e0:=Ext.alloc w (.cells vs.toArray e)
 have xk:(execOp a.eval ⟨some d,.buildSlice t parts.length parts.toArray,ty,pos,af,none⟩).run P w=.ok (.value (.slice (some ⟨w.heap.size,0,none⟩) parts.length parts.length)) (w.alloc (.cells vs.toArray e)):=by
  have hm:((parts.toArray.map fun p=>(p.1,a.eval p.2))).toList=parts.map fun p=>(p.1,a.eval p.2):=by simp
  simp only [execOp,Instr.buildSlice,Sem.run_bind,run_underlying (aD.h (P:=P) (t:=t)),Result.andThen_ok,sizeOf,typeInfo,run_program,aX.h (P:=P) (t:=e),Sem.run_pure]
  rw [if_neg (by omega)]
  by_cases h0:parts.length * i'.size=0
  ·rw [if_pos h0] at Ls ⊢
   subst Ls
   simp only [Sem.run_bind,Result.andThen_ok,Sem.run_pure,hm,g1,uA]
  ·rw [if_neg h0] at Ls ⊢
   subst Ls
   simp only [Sem.run_bind,Result.andThen_ok,Sem.run_pure,zeroValue,typeInfo,run_program,aX.h (P:=P) (t:=e),hz,hm,g1,uA]
 show Oper.upon P _ a K Q' _
 rw [xk]
 have Dt:(w.alloc (.cells vs.toArray e)).heap[w.heap.size]? =some (.cells vs.toArray e (0,0)):=by
  show (w.heap.push _)[w.heap.size]? =_
  simp
 refine hK _ _ (fun m=>S m∨m=w.heap.size) ⟨e0,fun m hm=>.inl hm,fun m hm hs=>hs.elim id (fun h=>by omega),fun m hm=>?_⟩ ?_
 ·rcases hm with hm | hm
  ·exact Nat.lt_of_lt_of_le (h3.slt m hm) e0.size
  ·subst hm;simp
 ·have:=At.list (w:=w.alloc (.cells vs.toArray e)) (S:=fun m=>S m∨m=w.heap.size) i'.size xs (some ⟨w.heap.size,0,none⟩) parts.length vs (pM xX) (by rw [cQ (pM xX),g2]) (fun j c u hc hu=>?_) (fun j u hu=>?_) (by omega)
  ·rw [g3] at this;exact this
  ·exact (g4 j c u hc (by simpa using hu)).mono fun m hm=>⟨.inl hm,e0.same m (h3.slt m hm)⟩
  ·refine ⟨_,rfl,rfl,.inr rfl,?_⟩
   rw [oc Dt]
   simpa using hu
end rules
def ED:Nat→List Oper→Option (List Oper×List Oper)
 | 0,l=>some ([],l)
 | m+1,o :: l=>match ED m l with
   | some (a,b)=>some (o :: a,b)
   | none=>none
 | _+1,[]=>none
theorem wq:∀ {m:Nat} {l a b:List Oper},ED m l=some (a,b)→l=a++b∧a.length=m
 | 0,l,a,b,h=>by simp [ED] at h;obtain ⟨rfl,rfl⟩:=h;exact ⟨rfl,rfl⟩
 | m+1,[],a,b,h=>by simp [ED] at h
 | m+1,o :: l,a,b,h=>by
   simp only [ED] at h
   split at h
   ·rename_i a' b' h'
    simp only [Option.some.injEq,Prod.mk.injEq] at h
    obtain ⟨rfl,rfl⟩:=h
    obtain ⟨h1,h2⟩:=wq h'
    exact ⟨by rw [h1];rfl,by simp [h2]⟩
   ·cases h
theorem ae.bV {P:Program} {R:St→Prop} {k:List It} {id n:Nat} {tm:List (Nat×AV)} {hp:Heap} {l hd tl:List Oper} (m:Nat) (hm:P.follows .mixedOrders=true) (hs:ED m l=some (hd,tl)) {A:List Nat} (hA:HG l.toArray=A) (Sl:EB l.toArray m A=true)
 (h:AM P l.toArray n hp hd tm (fun qQ=>ah P l.toArray tl ⟨n,qQ,hp⟩ (ae P R k))):ae P R (.code (.region id l.toArray true) :: k) ⟨n,tm,hp⟩:=by
 have hB:uY l.toArray m:=⟨A,hA,Sl⟩
 intro w S a r
 obtain ⟨hl,HJ⟩:=wq hs
 obtain ⟨qQ,hA,xk⟩:=h
 obtain ⟨mK,en,e0,e1,e2⟩:=hA.F4
 have lx:m≤l.toArray.size:=by simp [hl,HJ]
 refine wp_region_any hm ?_
 have AW:Ext w {w with drawn:=w.drawn+1}:=Ext.IM w _ (Nat.le_succ _)
 have g0:Grow w S {w with drawn:=w.drawn+1} S:=⟨AW,fun _ h=>h,fun _ _ h=>h,fun n hn=>r.hp.slt n hn⟩
 have NY:∀ k,cur l.toArray mK (lk tm) (Array.replicate l.toArray.size false) k=lk tm:=by
  intro k
  induction k with
  | zero=>rfl
  | succ k ih=>
    simp only [cur,ih]
    rw [if_neg]
    rcases Nat.lt_or_ge k l.toArray.size with h | h
    ·simp at h;simp [h]
    ·simp at h;simp [Nat.not_lt.2 h]
 have hf:∀ k,(Array.replicate l.toArray.size false).getD k false=false:=by
  intro k
  rcases Nat.lt_or_ge k l.toArray.size with h | h
  ·simp at h;simp [h]
  ·simp at h;simp [Nat.not_lt.2 h]
 refine I7 (P:=P) (all:=l.toArray) (n:=n) (m:=m) (hp:=hp) (mK:=mK) (en:=en) (e:=lk tm) hB lx e0 (fun i o hi ho=>e2 i o ?_) (w0:=w) (S0:=S) (fun a' w' S' h1 h2 h3 h4 h5=>?_) l.toArray.size (Array.replicate l.toArray.size false) a _ S
  ⟨by simp,(fun k hk=>by rw [hf k] at hk;cases hk),(fun k i o hk=>by rw [hf k] at hk;cases hk)⟩ (by simp [List.count_replicate]) r.size r.defers (r.hp.ext AW) g0 (by rw [NY];exact (r.ext AW).tm)
 ·have:l[i]? =some o:=by simpa using ho
  rw [hl,List.getElem?_append_left (by omega)] at this
  exact this
 ·have Sm:l.toArray.toList.drop m=tl:=by
   simp only [hl,← HJ]
   exact List.drop_left
  rw [Sm]
  have K5:en m=lk qQ:=by rw [← HJ];exact e1
  rw [K5] at h5
  refine jP ?_ _ _ _ (xk.go (h:=hp) (w:=w) (S:=S) ⟨h1,h2,h5,h3⟩ (h4.Uu r.hp.slt hp))
  rintro ex a2 w2 ⟨rfl,GS,S2,q1,q2,q3⟩
  exact ⟨GS,S2,q1,q2,q3⟩
section
variable {P:Program} {all:Array Oper} {rest:List Oper} {n:Nat} {hp:Heap} {tm:List (Nat×AV)} {Q:List (Nat×AV)→Prop} {dd:Option Nat} {ty:TypeId} {pos:String} {af:Array Edge}
end
theorem O3 {α β:Type} {o:Option α} {f:α→Option β} {r:β} (h:o.bind f=some r):∃ v,o=some v∧f v=some r:=by
 cases o with
 | none=>cases h
 | some v=>exact ⟨v,rfl,h⟩
theorem rO {α:Type} {p:Prop} [Decidable p] {a b x:α} (hp:p) (h:(if p then a else b)=x):a=x:=by rw [if_pos hp] at h;exact h
theorem yU {α:Type} {p:Prop} [Decidable p] {a b x:α} (hp:¬ p) (h:(if p then a else b)=x):b=x:=by rw [if_neg hp] at h;exact h
theorem vz {α:Type} {p:Bool} {a b x:α} (hp:p=false) (h:(if p=true then a else b)=x):b=x:=by rw [if_neg (by simp [hp])] at h;exact h
def rm {X A:Type} (f:X→Option (X⊕A)):Nat→X→Option A
 | 0,_=>none
 | n+1,x=>match f x with
   | none=>none
   | some (.inl y)=>rm f n y
   | some (.inr a)=>some a
theorem EE {X A:Type} {f:X→Option (X⊕A)} {a:A}:∀ {n:Nat} {x:X},rm f n x=some a→rm f (n+1) x=some a
 | 0,x,h=>by cases h
 | n+1,x,h=>by
   unfold rm at h ⊢
   split at h
   ·cases h
   ·exact EE h
   ·exact h
theorem AX {X A:Type} {f:X→Option (X⊕A)} {a:A} {x:X} {n:Nat} (h:rm f n x=some a):∀ m,rm f (n+m) x=some a
 | 0=>h
 | m+1=>EE (AX h m)
theorem HL {X A:Type} {f:X→Option (X⊕A)} {a b:A} {x:X} {n m:Nat} (h:rm f n x=some a) (k:rm f m x=some b):a=b:=by
 have h1:=AX h m
 have h2:=AX k n
 rw [Nat.add_comm] at h2
 rw [h1] at h2
 exact Option.some.inj h2
open Classical in
noncomputable def iter {X A:Type} (f:X→Option (X⊕A)) (x:X):Option A:=
 if h:∃ a n,rm f n x=some a then some h.choose else none
theorem wu {X A:Type} {f:X→Option (X⊕A)} {x:X} {a:A}:iter f x=some a↔∃ n,rm f n x=some a:=by
 unfold iter
 constructor
 ·intro h
  split at h
  ·rename_i hx
   obtain ⟨n,hn⟩:=hx.choose_spec
   exact ⟨n,by rw [hn];exact h⟩
  ·cases h
 ·rintro ⟨n,hn⟩
  have hx:∃ a n,rm f n x=some a:=⟨a,n,hn⟩
  rw [dif_pos hx]
  obtain ⟨m,hm⟩:=hx.choose_spec
  rw [HL hm hn]
def after {X A:Type} (k:X→Option A):X⊕A→Option A
 | .inl y=>k y
 | .inr a=>some a
theorem iter_eq {X A:Type} (f:X→Option (X⊕A)) (x:X):iter f x=(f x).bind (after (iter f)):=by
 apply Option.ext
 intro a
 rw [wu]
 constructor
 ·rintro ⟨n,hn⟩
  match n with
  | 0=>cases hn
  | n+1=>
    unfold rm at hn
    split at hn
    ·cases hn
    ·rename_i y hy;rw [hy];exact wu.2 ⟨n,hn⟩
    ·rename_i b hb;rw [hb];exact hn
 ·intro h
  obtain ⟨s,hs,h⟩:=O3 h
  cases s with
  | inl y=>
    obtain ⟨n,hn⟩:=wu.1 h
    exact ⟨n+1,by unfold rm;rw [hs];exact hn⟩
  | inr b=>exact ⟨1,by unfold rm;rw [hs];exact h⟩
theorem bP {X A:Type} {o:Option A} {s:X⊕A} {a:A} (h:o.map .inr=some s) (hA:∀ a',s=.inr a'→a'=a):o=some a:=by
 cases o with
 | none=>cases h
 | some b=>
   have:=Option.some.inj h
   rw [hA b this.symm]
@[simp] theorem cJ {X A:Type} (k:X→Option A) (y:X):after k (.inl y)=k y:=rfl
@[simp] theorem O4 {X A:Type} (k:X→Option A) (a:A):after k (.inr a)=some a:=rfl
theorem bu {X A:Type} (o:Option A) (k:X→Option A):(o.map Sum.inr).bind (after k)=o:=by cases o<;>rfl
def idx {α:Type} (xs:List α) (i:Int):Option α:=if 0≤i then xs[i.toNat]? else none
def app {α:Type} (xs ys:List α):Option (List α):=if xs.length+ys.length≤1000000000 then some (xs++ys) else none
def Av {α:Type} (xs:List α) (l h:Int):Option (List α):=if 0≤l∧l≤h∧h≤xs.length then some ((xs.drop l.toNat).take (h.toNat - l.toNat)) else none
abbrev aN (i:Int):Int:=IntKind.i64.wrap i
def quo (a b:Int):Option Int:=if b=0 then none else some (aN (a.tdiv b))
def rem (a b:Int):Option Int:=if b=0 then none else some (a.tmod b)
theorem Ja {α:Type} {e:α→AV} {xs:List α} {i:Int} {x:α} (h:idx xs i=some x):IT (xs.map e) i=some (e x):=by
 unfold idx at h;unfold IT
 split at h
 ·rename_i h0;rw [if_pos h0,List.getElem?_map,h];rfl
 ·cases h
theorem gS {α:Type} {xs:List α} {i:Int} {x:α} (h:idx xs i=some x):0≤i∧i < xs.length∧xs[i.toNat]? =some x:=by
 unfold idx at h
 split at h
 ·rename_i h0
  have:=(List.getElem?_eq_some_iff.1 h).1
  exact ⟨h0,by omega,h⟩
 ·cases h
theorem EF {α:Type} {xs ys zs:List α} (h:app xs ys=some zs):xs.length+ys.length≤1000000000∧zs=xs++ys:=by
 unfold app at h
 split at h
 ·exact ⟨by assumption,(Option.some.inj h).symm⟩
 ·cases h
theorem x5 {α:Type} {xs zs:List α} {l h:Int} (hh:Av xs l h=some zs):(0≤l∧l≤h∧h≤xs.length)∧zs=(xs.drop l.toNat).take (h.toNat - l.toNat):=by
 unfold Av at hh
 split at hh
 ·exact ⟨by assumption,(Option.some.inj hh).symm⟩
 ·cases hh
theorem Jb {a b c:Int} (h:quo a b=some c):b≠0∧c=aN (a.tdiv b):=by
 unfold quo at h
 split at h
 ·cases h
 ·exact ⟨by assumption,(Option.some.inj h).symm⟩
theorem Jc {a b c:Int} (h:rem a b=some c):b≠0∧c=a.tmod b:=by
 unfold rem at h
 split at h
 ·cases h
 ·exact ⟨by assumption,(Option.some.inj h).symm⟩
section
variable {P:Program} {R:St→Prop} {k:List It} {σ:St}
theorem ae.cut {c:Code} (I:St→Prop) (h:ae P R (.code c :: .stop (fun aC=>aj aC I) :: k) σ) (hk:∀ aC,I aC→ae P R k aC):ae P R (.code c :: k) σ:=by
 intro w S a r
 refine wp_mono (h w S a r) ?_
 rintro e a' w' ⟨aC,S',h1,h2,h3⟩
 cases e with
 | normal=>
   obtain ⟨HD,Pz,hI,hr,he⟩:=h1 w' S' a' h2
   exact ⟨HD,Pz,hk HD hI,hr,h3.trans he⟩
 | exit id=>exact ⟨aC,S',h1,h2,h3⟩
 | goto l=>exact ⟨aC,S',h1,h2,h3⟩
 | ret=>exact ⟨aC,S',h1,h2,h3⟩
 | panic c=>exact ⟨aC,S',h1,h2,h3⟩
 | outgrown=>exact ⟨aC,S',h1,h2,h3⟩
theorem ae.bS {body:Code} {X A:Type} (f:X→Option (X⊕A)) (mk:X→St→Prop) {a:A} {x0:X} (h:iter f x0=some a) (h0:aj σ (mk x0))
 (hs:∀ x s σ (J:St→Prop),mk x σ→f x=some s→(∀ y aC,s=.inl y→aj aC (mk y)→J aC)→(∀ a',s=.inr a'→a'=a)→ae P R (.code body :: .stop J :: k) σ):
 ae P R (.code (.loop body) :: k) σ:=by
 obtain ⟨m,hm⟩:=wu.1 h
 refine ae.PK (fun m σ=>∃ x,rm f m x=some a∧mk x σ) m (h0.mono fun aC YC=>⟨x0,hm,YC⟩) ?_
 rintro m De ⟨x,hx,dL⟩
 match m with
 | 0=>cases hx
 | m+1=>
   unfold rm at hx
   split at hx
   ·cases hx
   ·rename_i y hy
    refine hs x _ De _ dL hy (fun y' aC e hi=>⟨m,by omega,hi.mono fun HD hk=>⟨y',?_,hk⟩⟩) (fun a' e=>by cases e)
    have:=Sum.inl.inj e
    rw [← this];exact hx
   ·rename_i b hb
    refine hs x _ De _ dL hb (fun y' aC e _=>by cases e) (fun a' e=>?_)
    rw [← Sum.inr.inj e];exact Option.some.inj hx
end
inductive CA:Heap→Heap→Heap→Prop
 | nil {h:Heap}:CA h [] h
 | cons {h h1 t r:Heap} {b:Bk} {o:Ob} (u:xU h b o h1) (k:CA h1 t r):CA h ((b,o) :: t) r
theorem CA.perm {h t r:Heap} (s:CA h t r):h.Perm (t++r):=by
 induction s with
 | nil=>exact List.Perm.refl _
 | cons u k ih=>exact u.perm.trans (List.Perm.cons _ ih)
section rules
variable {P:Program} {all:Array Oper} {rest:List Oper} {n:Nat} {tm:List (Nat×AV)} {hp:Heap} {Q:St→Prop} {d:Nat} {ty:TypeId} {pos:String} {af:Array Edge}
theorem AY {f:FuncId} {args:List Operand} {ts:Array TypeId} {l l':List AV} {h0 hr:Heap} {Qc:AV→Heap→Prop} [bq P f] (hl:zZ tm args=some l) (c:aG P f l' h0 Qc) (co:xZ hp l l') (hs:CA hp h0 hr) (hn:Nat.blt d n=true)
 (kk:∀ r h',Qc r h'→ah P all rest ⟨n,(d,r) :: tm,h'++hr⟩ Q):ah P all (⟨some d,.call {callee:=.value (.func f),args:=args.toArray,argTypes:=ts},ty,pos,af,none⟩ :: rest) ⟨n,tm,hp⟩ Q:=
 IY hl c co hs.perm hn kk
theorem LH {f:FuncId} {x:Operand} {args:List Operand} {ts:Array TypeId} {sU l l' lc:List AV} {h0 hr:Heap} {Qc:AV→Heap→Prop} [bq P f] (hx:cZ tm x=some (.func (.func f) sU)) (hl:zZ tm args=some l) (Sn:oY (l++sU)=some lc) (c:aG P f l' h0 Qc) (co:xZ hp lc l') (hs:CA hp h0 hr) (hn:Nat.blt d n=true)
 (kk:∀ r h',Qc r h'→ah P all rest ⟨n,(d,r) :: tm,h'++hr⟩ Q):ah P all (⟨some d,.call {callee:=.value x,args:=args.toArray,argTypes:=ts},ty,pos,af,none⟩ :: rest) ⟨n,tm,hp⟩ Q:=
 GZ hx hl c (by rw [jQ Sn];exact co) hs.perm hn kk
theorem bO {α:Type} {g:α→AV} {Xs:List α} {el:α} {t e:TypeId} {i:TypeInfo} {x y:Operand} {k:IntKind} {j:Int} {cs:List AV} {sz:Nat} [aD P t (.slice e)] [aX P e i] (hx:cZ tm x=some (.list sz (Xs.map g))) (lx:Nat.beq i.size sz=true) (hy:cZ tm y=some (.int k j))
 (hv:idx Xs j=some el) (h0:Nat.blt 0 sz=true) (hc:oY (g el).cells=some cs):QV P ⟨some d,.indexAddr t x y,ty,pos,af,none⟩ ⟨n,tm,hp⟩ (.gg cs):=by
 rw [← jQ hc]
 exact Dl hx lx hy (Ja hv) h0
theorem ey {α:Type} {g:α→AV} {Xs:List α} {x:Operand} {t e:TypeId} {sz:Nat} [aD P t (.slice e)] (hx:cZ tm x=some (.list sz (Xs.map g))):QV P ⟨some d,.call {callee:=.builtin .len,args:=#[x],argTypes:=#[t]},ty,pos,af,none⟩ ⟨n,tm,hp⟩ (.int .i64 (Xs.length:Nat)):=by
 have h:=FX (P:=P) (d:=d) (ty:=ty) (pos:=pos) (af:=af) (n:=n) (tm:=tm) (hp:=hp) (t:=t) (e:=e) hx
 rw [List.length_map] at h
 exact h
theorem PT {k:IntKind} {xt yt:TypeId} {x y:Operand} {i j:Int} (hx:cZ tm x=some (.int k i)) (hy:cZ tm y=some (.int k j)) (h0:j≠0):QV P ⟨some d,.binOp .quo xt x y yt,ty,pos,af,none⟩ ⟨n,tm,hp⟩ (.int k (k.wrap (i.tdiv j))):=
 vq hx hy (v:=.int k (k.wrap (i.tdiv j))) (fun w=>by simp [binOp,Op.intDiv,h0]) (fun w S=>.int _ _)
theorem NZ {xt yt:TypeId} {x y:Operand} {i j r:Int} (hx:cZ tm x=some (.int .i64 i)) (hy:cZ tm y=some (.int .i64 j)) (h:quo i j=some r):QV P ⟨some d,.binOp .quo xt x y yt,ty,pos,af,none⟩ ⟨n,tm,hp⟩ (.int .i64 r):=by
 obtain ⟨h0,rfl⟩:=Jb h
 exact PT hx hy h0
theorem Jd {k:IntKind} {xt yt:TypeId} {x y:Operand} {i j r:Int} (hx:cZ tm x=some (.int k i)) (hy:cZ tm y=some (.int k j)) (h:rem i j=some r):QV P ⟨some d,.binOp .rem xt x y yt,ty,pos,af,none⟩ ⟨n,tm,hp⟩ (.int k r):=by
 obtain ⟨h0,rfl⟩:=Jc h
 exact PC hx hy h0
theorem ta {x y:Operand} {t:TypeId} {s:List UInt8} {k:IntKind} {i:Int} {c:UInt8} [aD P t .string] (hx:cZ tm x=some (.str s)) (hy:cZ tm y=some (.int k i)) (hc:idx s i=some c):QV P ⟨some d,.index t x y,ty,pos,af,none⟩ ⟨n,tm,hp⟩ (.int .u8 (c.toNat:Int)):=
 let ⟨h0,_,h⟩:=gS hc
 Eo hx hy h0 h
theorem dq {α:Type} {g:α→AV} {Xs Ys Zs:List α} {t e:TypeId} {i:TypeInfo} {z:Value} {x y:Operand} {src:AV} {b:Bk} {len sz:Nat} {de:Bk→Heap} [aD P t (.slice e)] [aX P e i] (hx:cZ tm x=some (.sl sz b 0 len)) (hy:cZ tm y=some src) (hz:i.zero=some z)
 (IW:Nat.beq z.cells.size i.size=true) (lx:Nat.beq i.size sz=true) (h0:Nat.blt 0 sz=true) (hn:Nat.blt d n=true) (Sf:Nat.ble i.bytes 65536=true) (hs:Src hp sz src (Ys.map g)) (hv:app Xs Ys=some Zs) (u:∀ b',nA hp b (.arr sz (Xs.map g)) b' (.arr sz (Zs.map g)) (de b')) (hlen:len=Xs.length)
 (kk:∀ b':Bk,ah P all rest ⟨n,(d,.sl sz b' 0 Zs.length) :: tm,de b'⟩ Q):ah P all (⟨some d,.call {callee:=.builtin .append,args:=#[x,y],argTypes:=#[t,t]},ty,pos,af,none⟩ :: rest) ⟨n,tm,hp⟩ Q:=by
 obtain ⟨hb,rfl⟩:=EF hv
 subst hlen
 refine HF (xs:=Xs.map g) (ys:=Ys.map g) (de:=de) hx hy hz IW lx h0 hn Sf hs (by simpa using u) (by simp) (by simpa using hb) (fun b'=>?_)
 have:=kk b'
 simpa using this
end rules
end Go.Eng
