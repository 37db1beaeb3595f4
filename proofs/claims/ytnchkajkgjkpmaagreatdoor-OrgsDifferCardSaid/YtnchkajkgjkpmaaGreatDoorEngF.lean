/- The engine: abstract values, the symbolic heap, one rule for each operation. No program in sight. -/
import Derived.Test.YtnchkajkgjkpmaaGreatDoorEngE
set_option linter.unusedVariables false
set_option linter.unusedSectionVars false
namespace Go.Eng
open Go
variable [bD]
section rules
variable {P:Program} {all:Array Oper} {n:Nat} {B:Heap} {tk:List Tok} {dy:List Nat} {i:Nat} {rest:List Oper} {tm:List (Nat×AV)} {acc:(Nat→Bk)→List (Nat×AV)} {Q:(Nat→Bk)→List (Nat×AV)→Prop} {d:Nat} {ty:TypeId} {pos:String} {af:Array Edge} {op:Op}
end rules
end Go.Eng
namespace Go.Eng
open Go Go.Proofs Go.Shelf Go.Lib
variable {P:Program} [bD]
end Go.Eng
namespace Go.Eng
open Go
variable [bD]
section rules
variable {P:Program} {all:Array Oper} {rest:List Oper} {n:Nat} {tm:List (Nat×AV)} {hp:Heap} {Q:List (Nat×AV)→Prop} {d1 d2 j s x:Nat} {t1 t2:TypeId} {p1 p2:String} {a1 a2:Array Edge} {a b:Bool}
end rules
section rules
variable {P:Program} {all:Array Oper} {rest:List Oper} {n:Nat} {tm:List (Nat×AV)} {hp:Heap} {Q:St→Prop} {d:Nat} {ty:TypeId} {pos:String} {af:Array Edge}
end rules
def zl1:Value→AV→Bool
 | .slice none 0 0,.list _ []=>true
 | .int k n,.int k' n'=>decide (k=k'∧n=n')
 | .bool b,.bool c=>b==c
 | .string s,.str []=>Nat.beq s.data.size 0
 | _,_=>false
def zlL:List Value→List AV→Bool
 | [],[]=>true
 | v :: vs,a :: cs=>zl1 v a&&zlL vs cs
 | _,_=>false
theorem Rx (w:World) (S:Nat→Prop) {z:Value} {a:AV} (h:zl1 z a=true):At w S a z:=by
 unfold zl1 at h
 split at h
 ·rename_i sz
  exact At.list sz [] none 0 [] (fun x hx=>by cases hx) rfl (fun i c v h=>by simp [flat] at h) (fun i v h=>by simp at h) (Nat.le_refl _)
 ·obtain ⟨rfl,rfl⟩:=of_decide_eq_true h
  exact .int _ _
 ·have:=eq_of_beq h
  subst this
  exact .bool _
 ·rename_i s
  have hs:=Nat.eq_of_beq_eq_true h
  obtain ⟨d⟩:=s
  have hd:d=#[]:=Array.eq_empty_of_size_eq_zero hs
  subst hd
  exact .str []
 ·cases h
theorem Ry (w:World) (S:Nat→Prop):∀ {vs:List Value} {cs:List AV},zlL vs cs=true→cs.length=vs.length∧∀ (j:Nat) c v,cs[j]? =some c→vs[j]? =some v→At w S c v
 | [],[],_=>⟨rfl,fun j c v h=>by simp at h⟩
 | v :: vs,a :: cs,h=>by
   simp only [zlL,Bool.and_eq_true] at h
   obtain ⟨h1,h2⟩:=Ry w S h.2
   refine ⟨by simp [h1],fun j c u k1 k2=>?_⟩
   cases j with
   | zero=>simp at k1 k2;subst k1 k2;exact Rx w S h.1
   | succ j=>exact h2 j c u (by simpa using k1) (by simpa using k2)
 | [],_ :: _,h=>by cases h
 | _ :: _,[],h=>by cases h
section rules
variable {P:Program} {all:Array Oper} {rest:List Oper} {n:Nat} {tm:List (Nat×AV)} {hp:Heap} {Q:St→Prop} {d:Nat} {ty:TypeId} {pos:String} {af:Array Edge}
end rules
def zlV:Value→AV→Bool
 | .agg vs,.agg cs=>zlL vs.toList cs
 | z,a=>zl1 z a
theorem Rz (w:World) (S:Nat→Prop) {z:Value} {a:AV} (h:zlV z a=true):At w S a z:=by
 unfold zlV at h
 split at h
 ·obtain ⟨h1,h2⟩:=Ry w S h
  exact .agg _ _ (by simpa using h1) (fun i c v k1 k2=>h2 i c v k1 (by simpa using k2))
 ·exact Rx w S h
section rules
variable {P:Program} {all:Array Oper} {rest:List Oper} {n:Nat} {tm:List (Nat×AV)} {hp:Heap} {Q:St→Prop} {d:Nat} {ty:TypeId} {pos:String} {af:Array Edge}
theorem HP {K V:Type} [DecidableEq K] {gk:K→AV} {gv:V→AV} {M:List (K×V)} {key:K} {Z v:V} {t kt vt:TypeId} {i:TypeInfo} {z:Value} {x y:Operand} {b:Bk} {av:AV} [aC P t (.map kt vt)] [aU P vt i] [iZ P kt gk] (hx:dx tm x=some (.bC b)) (hy:dx tm y=some (gk key)) (f:oG hp b (.mp (M.map fun e=>(gk e.1,gv e.2)))) (hz:i.zero=some z) (Mq:zlV z (gv Z)=true) (h:vu M key Z=some v) (sJ:gv v=av):
 QV P ⟨some d,.lookup t x y false,ty,pos,af,none⟩ ⟨n,tm,hp⟩ av:=by
 intro w S a r
 have kx:=bj (σ:=⟨n,tm,hp⟩) r hx
 have ky:=bj (σ:=⟨n,tm,hp⟩) r hy
 obtain ⟨nb,hb,ex⟩:=kx.vv
 obtain ⟨L,c,M',NQ,oF,p1,p2,p3,p4,p5,p6,p7,p8⟩:=wv (iZ.inj P kt) r.hp f
 obtain rfl:NQ=nb:=by rw [p4] at hb;exact Option.some.inj hb
 unfold vu at h
 have hv:=Option.some.inj h
 rw [← vf p1 p8] at hv
 have uj:=iZ.find (P:=P) (t:=kt) (g:=gk) ky oF.toList (M'.map Prod.fst) (by simpa using p6.symm) (fun j k' e h1 h2=>by
  rw [List.getElem?_map] at h1
  cases hm:M'[j]? with
  | none=>rw [hm] at h1;cases h1
  | some q=>rw [hm] at h1;rw [← Option.some.inj h1];exact (p7 j q e hm h2).1)
 rcases xQ (gv:=gv) (w:=w) (S:=S) (k:=key) M' oF.toList 0 p6.symm (fun j e m h1 h2=>(p7 j e m h1 h2).2) with ⟨q1,q2⟩ | ⟨v',j,val,q1,q2,q3,_⟩
 ·refine ⟨z,fun w1 e1=>?_,?_⟩
  ·simp [execOp,Instr.lookup,ex,run_underlying (aC.h (P:=P) (t:=t)),iw (e1.heap p5),iZ.check (P:=P) (t:=kt) ky,uj,q2,zeroValue,typeInfo,aU.h (P:=P) (t:=vt),hz]
  ·rw [← sJ,← hv,q1,Option.getD_none];exact Rz w S Mq
 ·refine ⟨val,fun w1 e1=>?_,?_⟩
  ·simp [execOp,Instr.lookup,ex,run_underlying (aC.h (P:=P) (t:=t)),iw (e1.heap p5),iZ.check (P:=P) (t:=kt) ky,uj,q2]
  ·rw [← sJ,← hv,q1,Option.getD_some];exact q3
theorem Fy {K V:Type} [DecidableEq K] {gk:K→AV} {gv:V→AV} {M:List (K×V)} {key:K} {Z:V} {v:V×Bool} {t kt vt:TypeId} {i:TypeInfo} {z:Value} {x y:Operand} {b:Bk} {av:AV} [aC P t (.map kt vt)] [aU P vt i] [iZ P kt gk] (hx:dx tm x=some (.bC b)) (hy:dx tm y=some (gk key)) (f:oG hp b (.mp (M.map fun e=>(gk e.1,gv e.2)))) (hz:i.zero=some z) (Mq:zlV z (gv Z)=true) (h:AG M key Z=some v) (sJ:gv v.1=av):
 QV P ⟨some d,.lookup t x y true,ty,pos,af,none⟩ ⟨n,tm,hp⟩ (.pT [av,.bool v.2]):=by
 intro w S a r
 have kx:=bj (σ:=⟨n,tm,hp⟩) r hx
 have ky:=bj (σ:=⟨n,tm,hp⟩) r hy
 obtain ⟨nb,hb,ex⟩:=kx.vv
 obtain ⟨L,c,M',NQ,oF,p1,p2,p3,p4,p5,p6,p7,p8⟩:=wv (iZ.inj P kt) r.hp f
 obtain rfl:NQ=nb:=by rw [p4] at hb;exact Option.some.inj hb
 unfold AG at h
 have hv:=Option.some.inj h
 rw [← vf p1 p8] at hv
 have uj:=iZ.find (P:=P) (t:=kt) (g:=gk) ky oF.toList (M'.map Prod.fst) (by simpa using p6.symm) (fun j k' e h1 h2=>by
  rw [List.getElem?_map] at h1
  cases hm:M'[j]? with
  | none=>rw [hm] at h1;cases h1
  | some q=>rw [hm] at h1;rw [← Option.some.inj h1];exact (p7 j q e hm h2).1)
 rcases xQ (gv:=gv) (w:=w) (S:=S) (k:=key) M' oF.toList 0 p6.symm (fun j e m h1 h2=>(p7 j e m h1 h2).2) with ⟨q1,q2⟩ | ⟨v',j,val,q1,q2,q3,_⟩
 ·refine ⟨.tuple #[z,.bool false],fun w1 e1=>?_,?_⟩
  ·simp [execOp,Instr.lookup,ex,run_underlying (aC.h (P:=P) (t:=t)),iw (e1.heap p5),iZ.check (P:=P) (t:=kt) ky,uj,q2,zeroValue,typeInfo,aU.h (P:=P) (t:=vt),hz]
  ·rw [← sJ,← hv,q1]
   refine .pT _ _ rfl (EB ?_ (.bool _))
   rw [Option.getD_none];exact Rz w S Mq
 ·refine ⟨.tuple #[val,.bool true],fun w1 e1=>?_,?_⟩
  ·simp [execOp,Instr.lookup,ex,run_underlying (aC.h (P:=P) (t:=t)),iw (e1.heap p5),iZ.check (P:=P) (t:=kt) ky,uj,q2]
  ·rw [← sJ,← hv,q1]
   exact .pT _ _ rfl (EB q3 (.bool _))
end rules
def scB:AV→Bool
 | .int _ _=>true
 | .bool _=>true
 | .str _=>true
 | _=>false
theorem Xb {w:World} {S:Nat→Prop} {a:AV} {v u:Value} (h:scB a=true) (hv:At w S a v) (hu:At w S a u):v=u∧∀ n,Instr.sameBits n v v=true:=by
 cases a<;>simp only [scB,Bool.false_eq_true] at h
 ·rw [hv.eU,hu.eU];exact ⟨rfl,fun n=>by cases n<;>simp [Instr.sameBits]⟩
 ·rw [hv.ke,hu.ke];exact ⟨rfl,fun n=>by cases n<;>simp [Instr.sameBits]⟩
 ·rw [hv.dB,hu.dB]
  refine ⟨rfl,fun n=>?_⟩
  cases n<;>(simp only [Instr.sameBits];exact (Mu _ _).2 rfl)
theorem B0 {α:Type} (p:α×α→Bool):∀ (l:List α),(∀ x∈l,p (x,x)=true)→(l.zip l).all p=true
 | [],_=>rfl
 | x :: r,h=>by
   rw [List.zip_cons_cons,List.all_cons,h x List.mem_cons_self,B0 p r (fun y hy=>h y (List.mem_cons_of_mem _ hy))];rfl
theorem UB {w:World} {S:Nat→Prop} {cs:List AV} {v u:Value} (h:∀ c∈cs,scB c=true) (hv:At w S (.agg cs) v) (hu:At w S (.agg cs) u):Instr.sameBits 10000 v u=true:=by
 obtain ⟨vs,rfl,hl,ha⟩:=hv.kW
 obtain ⟨us,rfl,CJ,KI⟩:=hu.kW
 have key:∀ (i:Nat) (h1:i < vs.size) (h2:i < us.size),vs[i]=us[i]∧∀ n,Instr.sameBits n vs[i] vs[i]=true:=fun i h1 h2=>by
  have hc:cs[i]? =some (cs[i]'(by omega)):=by simp [show i < cs.length by omega]
  exact Xb (h _ (List.getElem_mem _)) (ha i _ _ hc (by simp [h1])) (KI i _ _ hc (by simp [h2]))
 have heq:vs=us:=Array.ext (by omega) (fun i h1 h2=>(key i h1 h2).1)
 subst heq
 have g:∀ n:Nat,Instr.sameBits (n+1) (.agg vs) (.agg vs)=true:=fun n=>by
  simp only [Instr.sameBits,beq_self_eq_true,Bool.true_and]
  refine B0 _ _ (fun x hx=>?_)
  obtain ⟨i,hi,rfl⟩:=List.getElem_of_mem hx
  simpa using (key i (by simpa using hi) (by simpa using hi)).2 n
 exact g 9999
def YM (D:TypeDesc):Bool:=match D with
 | .int _=>true
 | .bool=>true
 | .string=>true
 | _=>false
theorem aaF {P:Program} {t:TypeId} {D:TypeDesc} (hu:P.underlying t=some D) (hD:YM D=true) (b:Bool) (n:Nat) (v:Value) (w:World):(Instr.checkKey b (n+1) t v).run P w=.ok () w:=by
 cases D<;>simp only [YM,Bool.false_eq_true] at hD<;>simp [Instr.checkKey,run_underlying hu]
theorem UC {P:Program} {t:TypeId} {D:TypeDesc} (hu:P.underlying t=some D) (hD:YM D=true) {cs:Array Value} {off:Nat} {v:Value} (h:cs[off]? =some v) (w:World):(part t cs off).run P w=.ok v w:=by
 unfold part isAgg
 simp only [Sem.run_bind,run_underlying hu,Result.andThen_ok]
 cases D<;>simp_all [YM]
theorem HQ {P:Program} (b:Bool) (n:Nat) (vs:Array Value) (w:World):∀ (fs:List Field),(∀ f∈fs,∃ D,P.underlying f.type=some D∧YM D=true∧f.offset < vs.size)→(forIn fs PUnit.unit (fun f (_:PUnit)=>(if f.name≠"_" then do
 let x ← part f.type vs f.offset
 Instr.checkKey b (n+1) f.type x
 pure (ForInStep.yield PUnit.unit)
 else pure (ForInStep.yield PUnit.unit):Sem (ForInStep PUnit)))).run P w=.ok PUnit.unit w
 | [],_=>by simp
 | f :: fs,h=>by
   obtain ⟨D,h1,h2,h3⟩:=h f List.mem_cons_self
   have hp:∀ w1,(part f.type vs f.offset).run P w1=.ok vs[f.offset] w1:=UC h1 h2 (by simp [h3])
   have ih:=HQ b n vs w fs (fun g hg=>h g (List.mem_cons_of_mem _ hg))
   simp only [List.forIn_cons,Sem.run_bind]
   by_cases hn:f.name="_"
   ·simp only [hn,ne_eq,not_true_eq_false,if_false,Sem.run_pure,Result.andThen_ok]
    exact ih
   ·simp only [hn,ne_eq,not_false_eq_true,if_true,Sem.run_bind,hp,Result.andThen_ok,aaF h1 h2,Sem.run_pure]
    exact ih
theorem Wc {P:Program} {t:TypeId} {v:Value} {K:Type} [DecidableEq K] {k:K} {q:K→Value→Prop} (hq:∀ k' u,q k' u→∀ w,(Op.equal t v u).run P w=.ok (decide (k'=k)) w):∀ (es:List MapEntry) (ks:List K) (i:Nat) (w:World),ks.length=es.length→(∀ (i:Nat) k' e,ks[i]? =some k'→es[i]? =some e→q k' e.key)→(Instr.findAsking t v es i).run P w=.ok (y7 k ks es i) w
 | [],[],i,w,_,_=>by simp [Instr.findAsking,y7]
 | [],k' :: ks,i,w,hl,_=>by simp at hl
 | e :: es,[],i,w,hl,_=>by simp at hl
 | e :: es,k' :: ks,i,w,hl,h=>by
   unfold Instr.findAsking y7
   rw [Sem.run_bind,hq k' e.key (h 0 k' e rfl rfl)]
   by_cases hk:k'=k
   ·simp [hk]
   ·simp only [hk,decide_false,Result.andThen_ok,Bool.false_eq_true,if_false]
    exact Wc hq es ks (i+1) w (by simpa using hl) (fun i k' e h1 h2=>h (i+1) k' e (by simpa using h1) (by simpa using h2))
theorem iZ.struct {P:Program} {t:TypeId} {K:Type} [DecidableEq K] {g:K→AV} {dd:Nat} {fs:List Field} {n:Nat} [uh P t dd g] (hk:Nat.ble dd 10000=true) (hu:P.underlying t=some (.struct fs.toArray))
 (hf:∀ f∈fs,∃ D,P.underlying f.type=some D∧YM D=true∧f.offset < n) (hg:∀ x,∃ cs,g x=.agg cs∧cs.length=n∧∀ c∈cs,scB c=true) (inj:∀ a b,g a=g b→a=b):iZ P t g where
 inj:=inj
 check:=fun {w S k v} hv b w1=>by
  obtain ⟨cs,e,hl,hs⟩:=hg k
  rw [e] at hv
  obtain ⟨vs,rfl,CJ,ha⟩:=hv.kW
  have key:∀ m:Nat,(Instr.checkKey b (m+1+1) t (.agg vs)).run P w1=.ok () w1:=fun m=>by
   have h1:=HQ (P:=P) b m vs w1 fs (fun f hm=>by obtain ⟨D,h1,h2,h3⟩:=hf f hm;exact ⟨D,h1,h2,by omega⟩)
   rw [Instr.checkKey]
   simp only [Sem.run_bind,run_underlying hu,Result.andThen_ok]
   rw [← Array.forIn_toList]
   simp only [h1,Result.andThen_ok,Sem.run_pure]
  exact key 9998
 find:=fun {w S k v} hv es ks hl hk' w1=>by
  obtain ⟨cs,e,hn,hs⟩:=hg k
  have YJ:=hv
  rw [e] at YJ
  obtain ⟨vs,rfl,CJ,ha⟩:=YJ.kW
  have hq:=Wc (P:=P) (t:=t) (v:=.agg vs) (k:=k) (q:=fun k' u=>At w S (g k') u) (fun k' u hu w2=>by
   have:=uh.h (P:=P) (t:=t) (g:=g) k k' w S _ _ hv hu (10000 - dd) w2
   rw [Nat.sub_add_cancel (Nat.le_of_ble_eq_true hk)] at this
   rw [show decide (k'=k)=decide (k=k') by rw [Bool.eq_iff_iff];simp;exact eq_comm]
   exact this) es ks 0 w1 hl (fun i k' e h1 h2=>hk' i k' e h1 h2)
  unfold Instr.findKey
  rw [Sem.run_bind,run_underlying hu]
  simp only [Result.andThen_ok]
  cases es with
  | nil=>
    cases ks with
    | nil=>simp [Instr.findNow,y7]
    | cons _ _=>simp at hl
  | cons m es=>
    have:Instr.findNow (.struct fs.toArray) (.agg vs) (m :: es) 0=none:=by
     unfold Instr.findNow;simp [Instr.sameNow]
    rw [this];exact hq
 bits:=fun {w S k v u} h1 h2=>by
  obtain ⟨cs,e,hn,hs⟩:=hg k
  rw [e] at h1 h2
  exact UB hs h1 h2
section rules
variable {P:Program} {all:Array Oper} {rest:List Oper} {n:Nat} {tm:List (Nat×AV)} {hp:Heap} {Q:List (Nat×AV)→Prop} {d:Nat} {ty:TypeId} {pos:String} {af:Array Edge} {op:Op}
theorem AM.Xc {f:FuncId} {x:Operand} {args:List Operand} {ts:Array TypeId} {uF l l':List AV} {R:AV} [bh P f] (hx:dx (II (looks all ⟨some d,.call {callee:=.value x,args:=args.toArray,argTypes:=ts},ty,pos,af,none⟩) tm) x=some (.func (.func f) uF)) (hl:BI (II (looks all ⟨some d,.call {callee:=.value x,args:=args.toArray,argTypes:=ts},ty,pos,af,none⟩) tm) args=some l) (c:Pu P f l' R) (co:AB hp (l++uF) l') (hn:Nat.blt d n=true)
 (k:AM P all n hp rest ((d,R) :: tm) Q):AM P all n hp (⟨some d,.call {callee:=.value x,args:=args.toArray,argTypes:=ts},ty,pos,af,none⟩ :: rest) tm Q:=by
 refine AM.mv (fun w S a h1 h2 h3 h4 K Q' hK=>?_) hn k
 have r:=sY h1 h2 h3 h4
 obtain ⟨cv,e1,e2,e3⟩:=(bj r hx).BG
 show Oper.upon P _ a K Q' _
 rw [vo a _ e1]
 obtain ⟨g1,g2⟩:=rJ r hl
 obtain ⟨g3,g4⟩:=AB.at r.hp co (vs:=args.map a.eval++cv.toList) (by simp [g1,e2]) (xe g1 g2 (by simpa using e3))
 refine (c w S _ (vp h3.slt h3.hJ) (by simpa using g3) g4).mono ?_
 rintro e w' ⟨v,rr,h',S',rfl,rfl,k3,k4,k5⟩
 exact hK v w' S' ⟨k5.Hz,fun m hm=>(k5.mZ m hm).1,fun m hm hs=>(k5.other m hm (fun ⟨x,hx,_⟩=>by simp at hx)).2 hs,k4.slt⟩ k3
theorem MV.cox {o:Oper} {e:Env} {av rz:AV} (h:MV P all n o e hp av) (c:Fi hp av rz):MV P all n o e hp rz:=
 fun w S a h1 h2 h3 h4 K Q hK=>h w S a h1 h2 h3 h4 K Q (fun v w' S' g hv=>hK v w' S' g (c.at (h3.grow g) hv))
theorem MV.a8 {t e:TypeId} {i:TypeInfo} {z:Value} {len sz:Nat} {parts:List (Nat×Operand)} {xs:List AV} [aC P t (.slice e)] [aU P e i] [kI P e sz] (hz:i.zero=some z)
 (hl:NB (II (looks all ⟨some d,.buildSlice t len parts.toArray,ty,pos,af,none⟩) tm) parts 0=some xs) (hlen:Nat.beq parts.length len=true) (yQ:yR i.size xs=true) (L0:Nat.ble (len * i.size) 16777216=true):MV P all n ⟨some d,.buildSlice t len parts.toArray,ty,pos,af,none⟩ (lk tm) hp (.list sz xs):=by
 obtain ⟨i',L4,Mi⟩:=kI.h (P:=P) (t:=e)
 obtain rfl:i'=i:=by rw [aU.h (P:=P) (t:=e)] at L4;exact (Option.some.inj L4).symm
 subst Mi
 intro w S a h1 h2 h3 h4 K Q' hK
 have r:=sY h1 h2 h3 h4
 obtain rfl:parts.length=len:=Nat.eq_of_beq_eq_true hlen
 have L0:=Nat.le_of_ble_eq_true L0
 obtain ⟨zz,L3⟩:∃ zz:Array Value,zz=if parts.length * i'.size=0 then #[] else z.cells:=⟨_,rfl⟩
 obtain ⟨vs,g1,g2,g3,g4⟩:=BK r i'.size parts 0 xs ((Array.range (parts.length * i'.size)).map (zz[· % zz.size]!)) hl (lG yQ) (by simp)
 simp only [Nat.zero_mul,List.take_zero,List.nil_append] at g1
 have e0:=Ext.alloc w (.cells vs.toArray e)
 have wK:(execOp a.eval ⟨some d,.buildSlice t parts.length parts.toArray,ty,pos,af,none⟩).run P w=.ok (.value (.slice (some ⟨w.heap.size,0,none⟩) parts.length parts.length)) (w.alloc (.cells vs.toArray e)):=by
  have hm:((parts.toArray.map fun p=>(p.1,a.eval p.2))).toList=parts.map fun p=>(p.1,a.eval p.2):=by simp
  simp only [execOp,Instr.buildSlice,Sem.run_bind,run_underlying (aC.h (P:=P) (t:=t)),Result.andThen_ok,sizeOf,typeInfo,run_program,aU.h (P:=P) (t:=e),Sem.run_pure]
  rw [if_neg (by omega)]
  by_cases h0:parts.length * i'.size=0
  ·rw [if_pos h0] at L3 ⊢
   subst L3
   simp only [Sem.run_bind,Result.andThen_ok,Sem.run_pure,hm,g1,sX]
  ·rw [if_neg h0] at L3 ⊢
   subst L3
   simp only [Sem.run_bind,Result.andThen_ok,Sem.run_pure,zeroValue,typeInfo,run_program,aU.h (P:=P) (t:=e),hz,hm,g1,sX]
 show Oper.upon P _ a K Q' _
 rw [wK]
 have WO:(w.alloc (.cells vs.toArray e)).heap[w.heap.size]? =some (.cells vs.toArray e (0,0)):=by
  show (w.heap.push _)[w.heap.size]? =_
  simp
 refine hK _ _ (fun m=>S m∨m=w.heap.size) ⟨e0,fun m hm=>.inl hm,fun m hm hs=>hs.elim id (fun h=>by omega),fun m hm=>?_⟩ ?_
 ·rcases hm with hm | hm
  ·exact Nat.lt_of_lt_of_le (h3.slt m hm) e0.size
  ·subst hm;simp
 ·have:=At.list (w:=w.alloc (.cells vs.toArray e)) (S:=fun m=>S m∨m=w.heap.size) i'.size xs (some ⟨w.heap.size,0,none⟩) parts.length vs (lG yQ) (by rw [dt (lG yQ),g2]) (fun j c u hc hu=>?_) (fun j u hu=>?_) (by omega)
  ·rw [g3] at this;exact this
  ·exact (g4 j c u hc (by simpa using hu)).mono fun m hm=>⟨.inl hm,e0.same m (h3.slt m hm)⟩
  ·refine ⟨_,rfl,rfl,.inr rfl,?_⟩
   rw [pg WO]
   simpa using hu
theorem AM.DF {t e:TypeId} {i:TypeInfo} {z:Value} {len sz:Nat} {parts:List (Nat×Operand)} {xs:List AV} {av:AV} [aC P t (.slice e)] [aU P e i] [kI P e sz] (hz:i.zero=some z)
 (hl:NB (II (looks all ⟨some d,.buildSlice t len parts.toArray,ty,pos,af,none⟩) tm) parts 0=some xs) (hlen:Nat.beq parts.length len=true) (yQ:yR i.size xs=true) (L0:Nat.ble (len * i.size) 16777216=true) (hn:Nat.blt d n=true) (c:Fi hp (.list sz xs) av)
 (k:AM P all n hp rest ((d,av) :: tm) Q):AM P all n hp (⟨some d,.buildSlice t len parts.toArray,ty,pos,af,none⟩ :: rest) tm Q:=
 AM.mv (MV.cox (MV.a8 hz hl hlen yQ L0) c) hn k
end rules
section values
variable {P:Program} {n:Nat} {tm:List (Nat×AV)} {hp:Heap} {d:Nat} {ty:TypeId} {pos:String} {af:Array Edge}
theorem HR {x:Operand} {s ft:TypeId} {j off:Nat} {D:TypeDesc} {cs:List AV} {c:AV} [aC P ft D] (hf:∃ fs f,P.underlying s=some (.struct fs)∧fs[j]? =some f∧f.type=ft∧f.offset=off) (hx:dx tm x=some (.agg cs))
 (hD:TypeDesc.lZ D=false) (hc:cs[off]? =some c):QV P ⟨some d,.field s x j,ty,pos,af,none⟩ ⟨n,tm,hp⟩ c:=
 (fun w S a r=>by
  obtain ⟨fs,f,hu,hj,rfl,rfl⟩:=hf
  obtain ⟨vs,h2,h3,h4⟩:=(bj (σ:=⟨n,tm,hp⟩) r hx).kW
  obtain ⟨v,g1,g2⟩:=nK.get h3 h4 hc
  refine ⟨v,fun w1 _=>?_,g2⟩
  have hr:=ej (P:=P) (t:=f.type) hD g1 w1
  simp only [execOp,h2,Instr.field,Sem.run_bind,run_underlying hu,Result.andThen_ok,hj]
  simp [asAgg,hr])
end values
theorem aj.Xd {n s:Nat} {tm:List (Nat×AV)} {hp KD:Heap} {T:St→Prop} {b:Bk} {cs:List AV} (hs:lk tm s=some (.ptr b 0)) (dl:Ae hp b (.cells cs) KD) (k:aj ⟨n,(s,.mG cs) :: tm,KD⟩ T):aj ⟨n,tm,hp⟩ T:=by
 refine aj.step (Hp:=⟨n,(s,.mG cs) :: tm,KD⟩) (fun w S a r=>?_) k
 obtain ⟨p,q,rfl,rfl⟩:=dl.split
 have A1:(b,Ob.cells cs)∈p++(b,.cells cs) :: q:=bG.2 (.inl rfl)
 obtain ⟨h1,m0,vs,E,Hm,hh,j9,ha⟩:=r.hp.holds _ A1
 have WD:∀ m,b.bX=some m→m < w.heap.size:=fun m hm=>r.hp.lt ⟨_,A1,lS hm⟩
 let S':Nat→Prop:=fun m=>S m∨b.bX=some m
 have mono:∀ m,S m→S' m∧w.heap[m]? =w.heap[m]?:=fun m hm=>⟨.inl hm,rfl⟩
 have AZ:=r.hp.nodup
 have Fu:(p++q).Sublist (p++(b,Ob.cells cs) :: q):=List.Sublist.append (List.Sublist.refl _) (List.sublist_cons_self _ _)
 have A2:dO w S' (p++q):=by
  refine ⟨AZ.sublist (Ds Fu),fun e he=>(r.hp.holds e (Fu.subset he)).mono mono (fun _ _=>rfl),fun e he m hm=>?_,fun m hm=>?_,fun g o ho=>⟨.inl (r.hp.hJ g o ho).1,(r.hp.hJ g o ho).2⟩⟩
  ·rw [← r.hp.sep e (Fu.subset he) m hm]
   refine ⟨fun hs=>hs.elim id fun hb=>?_,.inl⟩
   exfalso
   rw [List.flatMap_append,List.flatMap_cons,List.nodup_append,List.nodup_append] at AZ
   rcases List.mem_append.1 he with h | h
   ·exact AZ.2.2 m (List.mem_flatMap.2 ⟨e,h,hm⟩) m (List.mem_append_left _ (lS hb)) rfl
   ·exact AZ.2.1.2.2 m (lS hb) m (List.mem_flatMap.2 ⟨e,h,hm⟩) rfl
  ·rcases hm with h | h
   ·exact r.hp.slt m h
   ·exact WD m h
 have hr:=r.heap mono A2
 refine ⟨_,S',rfl,⟨hr.size,hr.defers,fun t av h=>?_,hr.hp⟩,rfl,rfl,rfl,Nat.le_refl _,mono,fun m hm hh=>⟨rfl,fun hs=>hs.elim id fun hb=>(hh ⟨_,A1,lS hb⟩).elim⟩,fun m hm=>.inl ?_,fun _=>Nat.le_refl _⟩
 ·simp only [lk] at h
  split at h
  ·rename_i hbq
   obtain rfl:s=t:=by simpa using hbq
   obtain rfl:=Option.some.inj h
   obtain ⟨v,e1,e2⟩:=hr.tm s _ hs
   cases e2 with
   | ptr _ _ m hb=>
     obtain rfl:=Option.some.inj (hb.symm.trans Hm)
     refine ⟨_,e1,.mG cs ⟨m,0,none⟩ vs.toList (by simp [j9]) (fun i c v hc hv=>(ha i c v hc (by simpa using hv)).mono mono) rfl (.inr hb) (fun i v hv=>?_)⟩
     rw [pg hh];simpa using hv
  ·exact hr.tm t av h
 ·obtain ⟨e,he,hb⟩:=hm
  exact ⟨e,Fu.subset he,hb⟩
def HT {α:Type} (l:List α):Option Unit:=match l with
 | []=>none
 | _ :: _=>some ()
theorem MC {α:Type} {l:List α} {u:Unit} (h:HT l=some u):0 < l.length:=by
 cases l with
 | nil=>cases h
 | cons a l=>simp
section rules
variable {P:Program} {n:Nat} {tm:List (Nat×AV)} {hp:Heap} {d:Nat} {ty:TypeId} {pos:String} {af:Array Edge}
theorem DG {t e:TypeId} [aC P t (.slice e)] (oa:Option Addr) (len cap:Nat) (w:World):(Op.equal t (.slice oa len cap) (.slice none 0 0)).run P w=.ok oa.isNone w:=by
 show (Op.equalIn (9999+1) t _ _).run P w=_
 rw [Op.equalIn]
 cases oa with
 | none=>simp [run_underlying (aC.h (P:=P) (t:=t))]
 | some ad=>simp [run_underlying (aC.h (P:=P) (t:=t))]
theorem Xe {t e yt:TypeId} {x y:Operand} [aC P t (.slice e)] (hx:dx tm x=some .nil) (hy:dx tm y=some .nil):QV P ⟨some d,.binOp .eql t x y yt,ty,pos,af,none⟩ ⟨n,tm,hp⟩ (.bool true):=by
 intro w S a r
 have e1:=(bj (σ:=⟨n,tm,hp⟩) r hx).rB
 have e7:=(bj (σ:=⟨n,tm,hp⟩) r hy).rB
 refine ⟨.bool true,fun w' _=>?_,.bool _⟩
 have h2:=DG (P:=P) (t:=t) none 0 0 w'
 have h3:(binOp .eql t (.slice none 0 0) (.slice none 0 0)).run P w'=.ok (.bool true) w':=by
  rw [show binOp .eql t (.slice none 0 0) (.slice none 0 0)=(do pure (.bool (← Op.equal t (.slice none 0 0) (.slice none 0 0)))) from rfl]
  simp [h2]
 simp [execOp,e1,e7,eqGuard_at_slice,h3]
theorem Xf {α:Type} {l:List α} {u:Unit} {t e yt:TypeId} {x y:Operand} {sz off:Nat} {b:Bk} [aC P t (.slice e)] (hx:dx tm x=some (.sl sz b off l.length)) (hy:dx tm y=some .nil) (h0:HT l=some u):QV P ⟨some d,.binOp .eql t x y yt,ty,pos,af,none⟩ ⟨n,tm,hp⟩ (.bool false):=by
 intro w S a r
 have h0:=MC h0
 obtain ⟨oa,cap,e1,e2⟩:=(bj (σ:=⟨n,tm,hp⟩) r hx).wJ
 have e7:=(bj (σ:=⟨n,tm,hp⟩) r hy).rB
 obtain ⟨ad,rfl⟩:∃ ad,oa=some ad:=by
  rcases e2 with ⟨_,_,h,_⟩ | ⟨m,_,h,_⟩ | ⟨m,ad,_,h,_⟩
  ·omega
  ·exact ⟨_,h⟩
  ·exact ⟨_,h⟩
 refine ⟨.bool false,fun w' _=>?_,.bool _⟩
 have h2:=DG (P:=P) (t:=t) (some ad) l.length cap w'
 have h3:(binOp .eql t (.slice (some ad) l.length cap) (.slice none 0 0)).run P w'=.ok (.bool false) w':=by
  rw [show binOp .eql t (.slice (some ad) l.length cap) (.slice none 0 0)=(do pure (.bool (← Op.equal t (.slice (some ad) l.length cap) (.slice none 0 0)))) from rfl]
  simp [h2]
 simp [execOp,e1,e7,eqGuard_at_slice,h3]
end rules
section
variable {K E:Type}
def Ak (sz:Nat) (g:E→AV) (β:K→Bk) (M:List (K×List E)):Heap:=M.map fun e=>(β e.1,.By sz (e.2.map g))
theorem UD (sz:Nat) (g:E→AV) (β:K→Bk) (M:List (K×List E)):(Ak sz g β M).flatMap eb=(iP (fk sz g) β M).filterMap (·.1.bX):=by
 induction M with
 | nil=>rfl
 | cons e r ih=>
   unfold Ak iP at ih ⊢
   rw [List.map_cons,List.flatMap_cons,List.map_cons,List.filterMap_cons,ih]
   show (β e.1).bX.toList++_++_=_
   cases (β e.1).bX<;>simp [Ob.more]
theorem RA {w:World} {S:Nat→Prop} {hp fj:Heap} {bp:Bk} {sz:Nat} {g:E→AV} {β:K→Bk} {M:List (K×List E)} (r:dO w S hp) (dl:Ae hp bp (.gy (iP (fk sz g) β M)) fj):
 ∃ S':Nat→Prop,dO w S' (Ak sz g β M++fj)∧lD w S hp w S' (Ak sz g β M++fj)∧∀ m,S m→S' m:=by
 obtain ⟨p,q,rfl,rfl⟩:=dl.split
 have A1:(bp,Ob.gy (iP (fk sz g) β M))∈p++(bp,.gy (iP (fk sz g) β M)) :: q:=bG.2 (.inl rfl)
 obtain ⟨Hm,rj⟩:bp.bX=none∧∀ e∈iP (fk sz g) β M,qO w S e.1 e.2:=r.holds _ A1
 have aaG:eb (bp,Ob.gy (iP (fk sz g) β M))=(Ak sz g β M).flatMap eb:=by
  rw [UD];unfold eb Ob.more;rw [Hm];rfl
 have hF:∀ e∈Ak sz g β M,∀ m,m∈eb e→m∈eb (bp,Ob.gy (iP (fk sz g) β M)):=fun e he m hm=>by
  rw [aaG];exact List.mem_flatMap.2 ⟨e,he,hm⟩
 let S':Nat→Prop:=fun m=>S m∨m∈eb (bp,Ob.gy (iP (fk sz g) β M))
 have mono:∀ m,S m→S' m∧w.heap[m]? =w.heap[m]?:=fun m hm=>⟨.inl hm,rfl⟩
 have AZ:=r.nodup
 have Fu:(p++q).Sublist (p++(bp,Ob.gy (iP (fk sz g) β M)) :: q):=List.Sublist.append (List.Sublist.refl _) (List.sublist_cons_self _ _)
 have pW:((Ak sz g β M++(p++q)).flatMap eb).Perm ((p++(bp,Ob.gy (iP (fk sz g) β M)) :: q).flatMap eb):=by
  rw [List.flatMap_append,List.flatMap_append,List.flatMap_append,List.flatMap_cons,aaG,← List.append_assoc,← List.append_assoc]
  exact List.perm_append_comm.append_right _
 have ad6:∀ e∈p++q,∀ m,m∈eb e→m∈eb (bp,Ob.gy (iP (fk sz g) β M))→False:=fun e he m hm hm2=>by
  rw [List.flatMap_append,List.flatMap_cons,List.nodup_append,List.nodup_append] at AZ
  rcases List.mem_append.1 he with h | h
  ·exact AZ.2.2 m (List.mem_flatMap.2 ⟨e,h,hm⟩) m (List.mem_append_left _ hm2) rfl
  ·exact AZ.2.1.2.2 m hm2 m (List.mem_flatMap.2 ⟨e,h,hm⟩) rfl
 have A2:dO w S' (Ak sz g β M++(p++q)):=by
  refine ⟨pW.nodup_iff.2 AZ,fun e he=>?_,fun e he m hm=>?_,fun m hm=>?_,fun g o ho=>⟨.inl (r.hJ g o ho).1,(r.hJ g o ho).2⟩⟩
  ·rcases List.mem_append.1 he with h | h
   ·obtain ⟨x,hx,rfl⟩:=List.mem_map.1 h
    exact Holds.mono (o:=.By sz (x.2.map g)) mono (fun _ _=>rfl) (show Holds w S (β x.1) (.arr sz (x.2.map g)) from qO.ob.1 (rj (β x.1,.arr sz (x.2.map g)) (List.mem_map.2 ⟨x,hx,rfl⟩)))
   ·exact (r.holds e (Fu.subset h)).mono mono (fun _ _=>rfl)
  ·rcases List.mem_append.1 he with h | h
   ·have h2:=hF e h m hm
    obtain ⟨x,hx,rfl⟩:=List.mem_map.1 h
    exact ⟨fun _=>trivial,fun _=>.inr h2⟩
   ·rw [← r.sep e (Fu.subset h) m hm]
    exact ⟨fun hs=>hs.elim id fun hb=>(ad6 e h m hm hb).elim,.inl⟩
  ·rcases hm with h | h
   ·exact r.slt m h
   ·exact r.lt ⟨_,A1,h⟩
 refine ⟨S',A2,⟨rfl,rfl,rfl,Nat.le_refl _,mono,fun m hm hh=>⟨rfl,fun hs=>hs.elim id fun hb=>(hh ⟨_,A1,hb⟩).elim⟩,fun m hm=>.inl ?_,fun _=>Nat.le_refl _⟩,fun m h=>.inl h⟩
 obtain ⟨e,he,hm⟩:=hm
 rcases List.mem_append.1 he with h | h
 ·exact ⟨_,A1,hF e h m hm⟩
 ·exact ⟨e,Fu.subset h,hm⟩
theorem NT {e:Bk×Ob}:∀ {h:Heap},e∈h→oG h e.1 e.2
 | x :: r,he=>by
   rcases List.mem_cons.1 he with rfl | he
   ·exact .here
   ·exact .next (NT he)
theorem UE {w:World} {S:Nat→Prop} {hp KD:Heap} {bm:Bk} {gk:K→AV} {sz:Nat} {g:E→AV} {β:K→Bk} {M:List (K×List E)} (O3:∀ a b,gk a=gk b→a=b) (r:dO w S (Ak sz g β M++hp)) (u:sL hp bm (.mp (xR gk (fk sz g) β M)) bm (.mp (M.map fun e=>(gk e.1,.list sz (e.2.map g)))) KD):
 dO w S (Ak sz g β M++KD)∧lD w S (Ak sz g β M++hp) w S (Ak sz g β M++KD):=by
 have u':sL (Ak sz g β M++hp) bm (.mp (xR gk (fk sz g) β M)) bm (.mp (M.map fun e=>(gk e.1,.list sz (e.2.map g)))) (Ak sz g β M++KD):=.skip u
 have f:=u'.Qu
 rw [vx] at f
 obtain ⟨L,c,M2,n,oF,p1,p2,p3,p4,p5,p6,p7,p8⟩:=wv (gv:=fun p:Bk×List E=>(fk sz g).val p.1 p.2) O3 r f
 obtain ⟨n',aaH,g1,g2,g3,g4,g5,g6,g7⟩:=p3
 have hM2:∀ x∈M2,∃ e∈M,x=(e.1,(β e.1,e.2)):=fun x hx=>by
  obtain ⟨e,he,rfl⟩:=List.mem_map.1 (p1.mem_iff.1 hx);exact ⟨e,he,rfl⟩
 let cv:wI×(K×(Bk×List E))→wI:=fun z=>⟨z.1.k,.list sz (z.2.2.2.map g),z.1.born⟩
 have hlen:L.length=M2.length:=by have:=congrArg List.length p2;simpa using this
 have hz1:(L.zip M2).map (fun z=>z.1)=L:=List.map_fst_zip (by omega)
 have hz2:(L.zip M2).map (fun z=>z.2)=M2:=List.map_snd_zip (by omega)
 have hkv:∀ z∈L.zip M2,z.1.k=gk z.2.1∧z.1.v=(fk sz g).val z.2.2.1 z.2.2.2:=fun z hz=>by
  obtain ⟨i,hi,YN⟩:=List.getElem_of_mem hz
  have L4:i < L.length:=by simp at hi;omega
  have Mi:i < M2.length:=by omega
  have L3:z=(L[i],M2[i]):=by rw [← YN,List.getElem_zip]
  have h1:(L.map wI.kv)[i]? =(M2.map fun e=>(gk e.1,(fk sz g).val e.2.1 e.2.2))[i]?:=by rw [p2]
  rw [List.getElem?_map,List.getElem?_map,List.getElem?_eq_getElem L4,List.getElem?_eq_getElem Mi] at h1
  have h2:=Prod.mk.inj (Option.some.inj h1)
  rw [L3];exact h2
 have hH:Holds w S bm (.mp (M.map fun e=>(gk e.1,.list sz (e.2.map g)))):=by
  refine ⟨(L.zip M2).map cv,c,?_,n',aaH,g1,g2,by rw [g3];simp;omega,fun i e m he hm=>?_,fun e he=>?_,?_,?_⟩
  ·have e1:((L.zip M2).map cv).map wI.kv=M2.map (fun x=>(gk x.1,AV.list sz (x.2.2.map g))):=by
    conv=>rhs;rw [← hz2]
    rw [List.map_map,List.map_map]
    refine List.map_congr_left fun z hz=>?_
    show (z.1.k,AV.list sz (z.2.2.2.map g))=(gk (z.2).1,AV.list sz ((z.2).2.2.map g))
    rw [(hkv z hz).1]
   rw [e1]
   refine (p1.map _).trans ?_
   unfold pY
   rw [List.map_map]
   exact List.Perm.refl _
  ·rw [List.getElem?_map] at he
   cases YN:(L.zip M2)[i]? with
   | none=>rw [YN] at he;cases he
   | some z=>
     rw [YN] at he
     obtain rfl:=Option.some.inj he
     have hz:z∈L.zip M2:=List.mem_of_getElem? YN
     have hLi:L[i]? =some z.1:=by
      have:((L.zip M2).map (fun z=>z.1))[i]? =some z.1:=by rw [List.getElem?_map,YN];rfl
      rw [hz1] at this;exact this
     obtain ⟨a1,a2,a3⟩:=g4 i z.1 m hLi hm
     refine ⟨a1,a2,?_⟩
     obtain ⟨x,hx,hx2⟩:=hM2 z.2 (by rw [← hz2];exact List.mem_map.2 ⟨z,hz,rfl⟩)
     rw [(hkv z hz).2,hx2] at a3
     show At w S (.list sz (z.2.2.2.map g)) m.val
     rw [hx2]
     have Rt:(β x.1,Ob.By sz (x.2.map g))∈Ak sz g β M++hp:=List.mem_append_left _ (List.mem_map.2 ⟨x,hx,rfl⟩)
     exact (Co.Ah (NT Rt)).at r a3
  ·obtain ⟨z,hz,rfl⟩:=List.mem_map.1 he
   exact g5 z.1 (by rw [← hz1];exact List.mem_map.2 ⟨z,hz,rfl⟩)
  ·rw [List.map_map]
   have:(L.zip M2).map ((fun e:wI=>e.born)∘cv)=L.map (·.born):=by
    conv=>rhs;rw [← hz1,List.map_map]
    rfl
   rw [this];exact g6
  ·rw [List.map_map]
   have:(L.zip M2).map ((fun e:wI=>e.k)∘cv)=L.map (·.k):=by
    conv=>rhs;rw [← hz1,List.map_map]
    rfl
   rw [this];exact g7
 obtain ⟨r1,e1,_⟩:=xM r u' (Uw w bm.bX) id id hH (.inl rfl)
 exact ⟨r1,e1⟩
end
theorem aj.Xg {n:Nat} {tm:List (Nat×AV)} {hp KD fj:Heap} {T:St→Prop} {K E:Type} {gk:K→AV} {sz:Nat} {g:E→AV} {β:K→Bk} {M:List (K×List E)} {bm bp:Bk} (O3:∀ a b,gk a=gk b→a=b)
 (dl:Ae hp bp (.gy (iP (fk sz g) β M)) KD) (u:sL KD bm (.mp (xR gk (fk sz g) β M)) bm (.mp (M.map fun e=>(gk e.1,.list sz (e.2.map g)))) fj) (k:aj ⟨n,tm,fj⟩ T):aj ⟨n,tm,hp⟩ T:=by
 refine aj.step (Hp:=⟨n,tm,fj⟩) (fun w S a r=>?_) k
 obtain ⟨S',r1,e1,m1⟩:=RA r.hp dl
 obtain ⟨r2,e2⟩:=UE O3 r1 u
 have hs:fj.Sublist (Ak sz g β M++fj):=List.sublist_append_right _ _
 have q:=r.heap (S':=S') (fun m hm=>⟨m1 m hm,rfl⟩) r2
 exact ⟨_,S',rfl,q.less ⟨rfl,fun _ _ h=>h,hs⟩,lD.less (e1.trans e2) fun _ hn=>hn.sub hs⟩
theorem aj.NU {n:Nat} {tm:List (Nat×AV)} {hp:Heap} {T:St→Prop} {b:Bk} {cs:List AV} (f:oG hp b (.cells cs)) (k:∀ m,b.bX=some m→aj ⟨n,tm,hp⟩ T):aj ⟨n,tm,hp⟩ T:=fun w S a r=>by
 obtain ⟨_,m,vs,E,hb,_⟩:=r.hp.holds _ f.mem
 exact k m hb w S a r
section rules
variable {P:Program} {all:Array Oper} {rest:List Oper} {n:Nat} {tm:List (Nat×AV)} {hp:Heap} {Q:St→Prop} {d:Nat} {ty:TypeId} {pos:String} {af:Array Edge}
theorem wx {fn:Fn} {x:Operand} {b:Bk} {m:Nat} (hb:b.bX=some m) (hx:dx tm x=some (.ptr b 0)):QV P ⟨some d,.makeFunc fn #[x] #[],ty,pos,af,none⟩ ⟨n,tm,hp⟩ (.raw (.func fn #[.pointer (some ⟨m,0,none⟩)] #[])):=
 (fun w S a r=>by
  have h:=bj (σ:=⟨n,tm,hp⟩) r hx
  have e:a.eval x=.pointer (some ⟨m,0,none⟩):=by
   cases hh:a.eval x<;>rw [hh] at h<;>cases h
   rename_i k hk
   rw [hb] at hk;obtain rfl:=Option.some.inj hk;rfl
  exact ⟨_,fun _ _=>by simp [execOp,Instr.makeFunc,e],.raw _⟩)
theorem Fz {f:FuncId} {x:Operand} {args:List Operand} {ts:Array TypeId} {dd:Option Nat} {v:Value} [bh P f] (a:Act) (w:World) (hx:a.eval x=.func (.func f) #[v] #[]):
 (execOp a.eval ⟨dd,.call {callee:=.value x,args:=args.toArray,argTypes:=ts},ty,pos,af,none⟩).run P w=.ok (.enter f (v :: args.map a.eval).toArray) w:=by
 simp [execOp,resolve,hx,Deferred.ofValue,invoke,uX]
theorem UF {f:FuncId} {x:Operand} {args:List Operand} {ts:Array TypeId} {l l':List AV} {h0 hr:Heap} {Qc:AV→Heap→Prop} {b:Bk} {m:Nat} [bh P f] (hb:b.bX=some m) (hx:dx tm x=some (.raw (.func (.func f) #[.pointer (some ⟨m,0,none⟩)] #[]))) (hl:BI tm args=some l) (c:aI P f l' h0 Qc) (co:AB hp (.ptr b 0 :: l) l') (WZ:Kp hp h0 hr) (hn:Nat.blt d n=true)
 (kk:∀ r h',Qc r h'→ae P all rest ⟨n,(d,r) :: tm,h'++hr⟩ Q):ae P all (⟨some d,.call {callee:=.value x,args:=args.toArray,argTypes:=ts},ty,pos,af,none⟩ :: rest) ⟨n,tm,hp⟩ Q:=by
 have hs:=WZ.perm
 refine ae.Hn rfl fun w S a r=>?_
 have e1:=(bj (σ:=⟨n,tm,hp⟩) r hx).TO
 refine ⟨f,_,Fz a w e1,?_⟩
 obtain ⟨g1,g2⟩:=rJ (σ:=⟨n,tm,hp⟩) r hl
 obtain ⟨g3,g4⟩:=AB.at r.hp co (vs:=.pointer (some ⟨m,0,none⟩) :: args.map a.eval) (by simp [g1]) (fun i c v hc hv=>by
  match i with
  | 0=>
    simp at hc hv
    subst hc;subst hv
    exact .ptr b 0 m hb
  | i+1=>exact g2 i c v (by simpa using hc) (by simpa using hv))
 have rp:=r.hp.perm hs
 refine (c.frame hr w S _ rp (by simpa using g3) g4).mono ?_
 rintro e w' ⟨v,rr,h',S',rfl,⟨h1,rfl,hq⟩,h3,h4,h5⟩
 have ev:lD w S hp w' S' (h1++hr):={h5 with
  other:=fun m hm hh=>h5.other m hm (fun ⟨x,hx,hb⟩=>hh ⟨x,hs.mem_iff.2 hx,hb⟩)
  new:=fun m hm=>(h5.new m hm).imp (fun ⟨x,hx,hb⟩=>⟨x,hs.mem_iff.2 hx,hb⟩) id}
 exact ⟨v,S',⟨n,(d,rr) :: tm,h1++hr⟩,rfl,(r.heap h5.mZ h4).put hn h3,ev,kk rr h1 hq⟩
theorem B1 {f:FuncId} {x:Operand} {args:List Operand} {ts:Array TypeId} {l l':List AV} {h0 hr H H':Heap} {V:AV} {b:Bk} {m:Nat} [bh P f] (hb:b.bX=some m) (hx:dx tm x=some (.raw (.func (.func f) #[.pointer (some ⟨m,0,none⟩)] #[]))) (hl:BI tm args=some l) (c:aI P f l' h0 (T0 H V)) (co:AB hp (.ptr b 0 :: l) l') (hs:Kp hp h0 hr) (ha:vq H hr=some H') (hn:Nat.blt d n=true)
 (kk:ae P all rest ⟨n,(d,V) :: tm,H'⟩ Q):ae P all (⟨some d,.call {callee:=.value x,args:=args.toArray,argTypes:=ts},ty,pos,af,none⟩ :: rest) ⟨n,tm,hp⟩ Q:=
 UF hb hx hl c co hs hn (fun r h' ⟨e1,e2⟩=>by subst e1;subst e2;rw [qz ha];exact kk)
end rules
section
variable {P:Program} {R:St→Prop} {k:List It} {σ:St}
def rV (P:Program) (R:St→Prop) (body:Code) (k:List It):Nat→St→Prop
 | 0=>fun _=>False
 | n+1=>fun σ=>ab P R (.code body :: .stop (fun aE=>aj aE (rV P R body k n)) :: k) σ
theorem rV.next {body:Code} {n:Nat} (h:ab P R (.code body :: .stop (fun aE=>aj aE (rV P R body k n)) :: k) σ):rV P R body k (n+1) σ:=h
theorem TD.Pg {I J:St→Prop} (h:∀ σ,I σ→J σ):∀ (e:Exit) (σ:St),TD P R (.stop I :: k) e σ→TD P R (.stop J :: k) e σ
 | .normal,σ,g=>h σ g
 | .exit _,_,g=>g
 | .goto _,_,g=>g
 | .ret,_,g=>g
 | .panic _,_,g=>g
 | .outgrown,_,g=>g
theorem ab.aaI {body:Code} (m:Nat) (h:rV P R body k m σ):ab P R (.code (.loop body) :: k) σ:=by
 refine ab.VT (fun m σ=>rV P R body k m σ) m (aj.here h) (fun m σ hI=>?_)
 cases m with
 | zero=>exact hI.elim
 | succ m=>
   intro w S a r
   refine wp_mono (hI w S a r) ?_
   rintro e a2 w2 ⟨JX,S2,h2,P3,Qr⟩
   exact ⟨JX,S2,TD.Pg (fun aE hk=>⟨m,Nat.lt_succ_self m,hk⟩) e JX h2,P3,Qr⟩
end
theorem J {α:Sort _} {a:α}:a=a:=rfl
section rules
variable {P:Program} {all:Array Oper} {n:Nat} {B:Heap} {tk:List Tok} {dy:List Nat} {i:Nat} {rest:List Oper} {tm:List (Nat×AV)} {acc:(Nat→Bk)→List (Nat×AV)} {Q:(Nat→Bk)→List (Nat×AV)→Prop} {d:Nat} {ty:TypeId} {pos:String} {af:Array Edge} {op:Op}
end rules
section
variable {P:Program} {o:Oper} {σ:St}
theorem QV.RB {k:IntKind} {a b:Int} (h:a=b) (q:QV P o σ (.int k a)):QV P o σ (.int k b):=h▸q
theorem QV.dT {p:Prop} [Decidable p] (hc:p) (h:QV P o σ (.bool (decide p))):QV P o σ (.bool true):=by rw [decide_eq_true hc] at h;exact h
theorem QV.dF {p:Prop} [Decidable p] (hc:¬ p) (h:QV P o σ (.bool (decide p))):QV P o σ (.bool false):=by rw [decide_eq_false hc] at h;exact h
end
section rules
variable {P:Program} {all:Array Oper} {n:Nat} {B:Heap} {tk:List Tok} {dy:List Nat} {i:Nat} {rest:List Oper} {tm:List (Nat×AV)} {acc:(Nat→Bk)→List (Nat×AV)} {Q:(Nat→Bk)→List (Nat×AV)→Prop} {d:Nat} {ty:TypeId} {pos:String} {af:Array Edge} {op:Op}
end rules
end Go.Eng
set_option linter.unusedSimpArgs false
namespace Go.Eng
open Go
variable [bD]
section rules
variable {P:Program} {all:Array Oper} {rest:List Oper} {n:Nat} {tm:List (Nat×AV)} {hp:Heap} {Q:St→Prop} {d:Nat} {ty:TypeId} {pos:String} {af:Array Edge}
end rules
section ara
variable {V:Type}
variable {kb:Bk→(Nat→Bk)→V→List (Bk×PO)} {bo bo':Nat→Bk} {bs bs':Nat→Nat→Bk}
end ara
section rules
variable {P:Program} {all:Array Oper} {rest:List Oper} {n:Nat} {tm:List (Nat×AV)} {hp:Heap} {Q:St→Prop} {d:Nat} {ty:TypeId} {pos:String} {af:Array Edge}
end rules
section todo
variable {P:Program} {R:St→Prop} {k:List It} {σ:St}
theorem cD {α:Type} {c:Operand} {x y:Code} {p:Prop} [Decidable p] {a b z:α} (h:(if p then a else b)=z) (hc:dx σ.tm c=some (.bool (decide p))) (h1:a=z→ab P R (.code x :: k) σ) (h2:b=z→ab P R (.code y :: k) σ):ab P R (.code (.cond c x y) :: k) σ:=
 ab.WI hc (fun hp=>h1 (hZ hp h)) (fun hp=>h2 (wM hp h))
theorem cB {α:Type} {c:Operand} {x y:Code} {p:Bool} {a b z:α} (h:(if p=true then a else b)=z) (hc:dx σ.tm c=some (.bool p)) (h1:a=z→ab P R (.code x :: k) σ) (h2:b=z→ab P R (.code y :: k) σ):ab P R (.code (.cond c x y) :: k) σ:=
 ab.cond hc (fun hp=>h1 (hZ hp h)) (fun hp=>h2 (ir hp h))
end todo
section rules
variable {P:Program} {all:Array Oper} {rest:List Oper} {n:Nat} {tm:List (Nat×AV)} {hp:Heap} {Q:St→Prop} {d:Nat} {ty:TypeId} {pos:String} {af:Array Edge} {op:Op} {s:Nat} {j:Nat}
theorem gT {α:Type} {p:Prop} [Decidable p] {a b z:α} (h:(if p then a else b)=z) (hj:(all[j]?).bind (·.dst)=some s) (hs:lk tm s=some (.bool (decide p))) (hn:Nat.blt d n=true) (h1:a=z→ae P all (⟨some d,op,ty,pos,af,none⟩ :: rest) ⟨n,(s,.bool true) :: tm,hp⟩ Q)
 (h2:b=z→ae P all rest ⟨n,(d,.raw undef) :: (s,.bool false) :: tm,hp⟩ Q):ae P all (⟨some d,op,ty,pos,af,some (j,true)⟩ :: rest) ⟨n,tm,hp⟩ Q:=
 ae.cq hj hs hn (fun hp=>h1 (hZ hp h)) (fun hp=>h2 (wM hp h))
theorem gF {α:Type} {p:Prop} [Decidable p] {a b z:α} (h:(if p then a else b)=z) (hj:(all[j]?).bind (·.dst)=some s) (hs:lk tm s=some (.bool (decide p))) (hn:Nat.blt d n=true) (h1:b=z→ae P all (⟨some d,op,ty,pos,af,none⟩ :: rest) ⟨n,(s,.bool false) :: tm,hp⟩ Q)
 (h2:a=z→ae P all rest ⟨n,(d,.raw undef) :: (s,.bool true) :: tm,hp⟩ Q):ae P all (⟨some d,op,ty,pos,af,some (j,false)⟩ :: rest) ⟨n,tm,hp⟩ Q:=
 ae.dC hj hs hn (fun hp=>h1 (wM hp h)) (fun hp=>h2 (hZ hp h))
end rules
theorem hP {P:Program} {σ:St} {s:Nat} {av:AV} {Q:List AV→St→Prop} (h1:lk σ.tm s=some av) (h2:Q [av] σ):aj σ (fun aE=>∃ rs,Rs P aE [.tmp s] rs∧Q rs aE):=aj.here ⟨[av],.cons (.tmp _ _ h1) .nil,h2⟩
theorem cR {hp:Heap} {l:List AV}:AB hp l l:=AB.refl _
theorem hH {P:Program} {σ:St} {s:Nat} {av:AV} {Q:List AV→Heap→Prop} {fj:Heap} (h1:lk σ.tm s=some av) (is:List Nat) (hs:Ft σ.hp is=some fj) (h2:Q [av] fj):aj σ (fun aE=>∃ rs,Rs P aE [.tmp s] rs∧(∃ h',HS aE.hp h'∧Q rs h')):=aj.here ⟨[av],.cons (.tmp _ _ h1) .nil,fj,BW hs,h2⟩
theorem hQ {P:Program} {σ:St} {s t:Nat} {av aw:AV} {Q:List AV→St→Prop} (h1:lk σ.tm s=some av) (P1:lk σ.tm t=some aw) (h2:Q [av,aw] σ):aj σ (fun aE=>∃ rs,Rs P aE [.tmp s,.tmp t] rs∧Q rs aE):=aj.here ⟨[av,aw],.cons (.tmp _ _ h1) (.cons (.tmp _ _ P1) .nil),h2⟩
theorem hI {P:Program} {σ:St} {s t:Nat} {av aw:AV} {Q:List AV→Heap→Prop} {fj:Heap} (h1:lk σ.tm s=some av) (P1:lk σ.tm t=some aw) (is:List Nat) (hs:Ft σ.hp is=some fj) (h2:Q [av,aw] fj):aj σ (fun aE=>∃ rs,Rs P aE [.tmp s,.tmp t] rs∧(∃ h',HS aE.hp h'∧Q rs h')):=aj.here ⟨[av,aw],.cons (.tmp _ _ h1) (.cons (.tmp _ _ P1) .nil),fj,BW hs,h2⟩
end Go.Eng
