/- The engine: abstract values, the symbolic heap, one rule for each operation. No program in sight. -/
import Derived.Test.YtifmjkaghhkhfaaGreatDoorEngE
import Derived.Shelf.SlSortCmp.NoneTotal
set_option linter.unusedVariables false
set_option linter.unusedSectionVars false
namespace Go.Eng
open Go
variable [bA]
section rules
variable {P:Program} {all:Array Oper} {n:Nat} {B:Heap} {tk:List Tok} {dy:List Nat} {i:Nat} {rest:List Oper} {tm:List (Nat×AV)} {acc:(Nat→Bk)→List (Nat×AV)} {Q:(Nat→Bk)→List (Nat×AV)→Prop} {d:Nat} {ty:TypeId} {pos:String} {af:Array Edge} {op:Op}
end rules
end Go.Eng
namespace Go.Eng
open Go Go.Proofs Go.Shelf Go.Lib
variable {P:Program} [bA]
end Go.Eng
namespace Go.Eng
open Go
variable [bA]
section rules
variable {P:Program} {all:Array Oper} {rest:List Oper} {n:Nat} {tm:List (Nat×AV)} {hp:Heap} {Q:List (Nat×AV)→Prop} {d1 d2 j s x:Nat} {t1 t2:TypeId} {p1 p2:String} {a1 a2:Array Edge} {a b:Bool}
end rules
section rules
variable {P:Program} {all:Array Oper} {rest:List Oper} {n:Nat} {tm:List (Nat×AV)} {hp:Heap} {Q:St→Prop} {d:Nat} {ty:TypeId} {pos:String} {af:Array Edge}
end rules
section rules
variable {P:Program} {all:Array Oper} {rest:List Oper} {n:Nat} {tm:List (Nat×AV)} {hp:Heap} {Q:St→Prop} {d:Nat} {ty:TypeId} {pos:String} {af:Array Edge}
end rules
section rules
variable {P:Program} {all:Array Oper} {rest:List Oper} {n:Nat} {tm:List (Nat×AV)} {hp:Heap} {Q:St→Prop} {d:Nat} {ty:TypeId} {pos:String} {af:Array Edge}
end rules
def Rf:AV→Bool
 | .int _ _=>true
 | .bool _=>true
 | .str _=>true
 | _=>false
theorem Oi {w:World} {S:Nat→Prop} {a:AV} {v u:Value} (h:Rf a=true) (hv:At w S a v) (hu:At w S a u):v=u∧∀ n,Instr.sameBits n v v=true:=by
 cases a<;>simp only [Rf,Bool.false_eq_true] at h
 ·rw [hv.eB,hu.eB];exact ⟨rfl,fun n=>by cases n<;>simp [Instr.sameBits]⟩
 ·rw [hv.kP,hu.kP];exact ⟨rfl,fun n=>by cases n<;>simp [Instr.sameBits]⟩
 ·rw [hv.gO,hu.gO]
  refine ⟨rfl,fun n=>?_⟩
  cases n<;>(simp only [Instr.sameBits];exact (Gc _ _).2 rfl)
theorem ye {α:Type} (p:α×α→Bool):∀ (l:List α),(∀ x∈l,p (x,x)=true)→(l.zip l).all p=true
 | [],_=>rfl
 | x :: r,h=>by
   rw [List.zip_cons_cons,List.all_cons,h x List.mem_cons_self,ye p r (fun y hy=>h y (List.mem_cons_of_mem _ hy))];rfl
theorem L1 {w:World} {S:Nat→Prop} {cs:List AV} {v u:Value} (h:∀ c∈cs,Rf c=true) (hv:At w S (.agg cs) v) (hu:At w S (.agg cs) u):Instr.sameBits 10000 v u=true:=by
 obtain ⟨vs,rfl,hl,ha⟩:=hv.nn
 obtain ⟨us,rfl,yN,DB⟩:=hu.nn
 have key:∀ (i:Nat) (h1:i < vs.size) (h2:i < us.size),vs[i]=us[i]∧∀ n,Instr.sameBits n vs[i] vs[i]=true:=fun i h1 h2=>by
  have hc:cs[i]? =some (cs[i]'(by omega)):=by simp [show i < cs.length by omega]
  exact Oi (h _ (List.getElem_mem _)) (ha i _ _ hc (by simp [h1])) (DB i _ _ hc (by simp [h2]))
 have heq:vs=us:=Array.ext (by omega) (fun i h1 h2=>(key i h1 h2).1)
 subst heq
 have g:∀ n:Nat,Instr.sameBits (n+1) (.agg vs) (.agg vs)=true:=fun n=>by
  simp only [Instr.sameBits,beq_self_eq_true,Bool.true_and]
  refine ye _ _ (fun x hx=>?_)
  obtain ⟨i,hi,rfl⟩:=List.getElem_of_mem hx
  simpa using (key i (by simpa using hi) (by simpa using hi)).2 n
 exact g 9999
def O8 (D:TypeDesc):Bool:=match D with
 | .int _=>true
 | .bool=>true
 | .string=>true
 | _=>false
theorem Qg {P:Program} {t:TypeId} {D:TypeDesc} (hu:P.underlying t=some D) (hD:O8 D=true) (b:Bool) (n:Nat) (v:Value) (w:World):(Instr.checkKey b (n+1) t v).run P w=.ok () w:=by
 cases D<;>simp only [O8,Bool.false_eq_true] at hD<;>simp [Instr.checkKey,run_underlying hu]
theorem L3 {P:Program} {t:TypeId} {D:TypeDesc} (hu:P.underlying t=some D) (hD:O8 D=true) {cs:Array Value} {off:Nat} {v:Value} (h:cs[off]? =some v) (w:World):(part t cs off).run P w=.ok v w:=by
 unfold part isAgg
 simp only [Sem.run_bind,run_underlying hu,Result.andThen_ok]
 cases D<;>simp_all [O8]
theorem CP {P:Program} (b:Bool) (n:Nat) (vs:Array Value) (w:World):∀ (fs:List Field),(∀ f∈fs,∃ D,P.underlying f.type=some D∧O8 D=true∧f.offset < vs.size)→(forIn fs PUnit.unit (fun f (_:PUnit)=>(if f.name≠"_" then do
 let x ← part f.type vs f.offset
 Instr.checkKey b (n+1) f.type x
 pure (ForInStep.yield PUnit.unit)
 else pure (ForInStep.yield PUnit.unit):Sem (ForInStep PUnit)))).run P w=.ok PUnit.unit w
 | [],_=>by simp
 | f :: fs,h=>by
   obtain ⟨D,h1,h2,h3⟩:=h f List.mem_cons_self
   have hp:∀ w1,(part f.type vs f.offset).run P w1=.ok vs[f.offset] w1:=L3 h1 h2 (by simp [h3])
   have ih:=CP b n vs w fs (fun g hg=>h g (List.mem_cons_of_mem _ hg))
   simp only [List.forIn_cons,Sem.run_bind]
   by_cases hn:f.name="_"
   ·simp only [hn,ne_eq,not_true_eq_false,if_false,Sem.run_pure,Result.andThen_ok]
    exact ih
   ·simp only [hn,ne_eq,not_false_eq_true,if_true,Sem.run_bind,hp,Result.andThen_ok,Qg h1 h2,Sem.run_pure]
    exact ih
theorem No {P:Program} {t:TypeId} {v:Value} {K:Type} [DecidableEq K] {k:K} {q:K→Value→Prop} (hq:∀ k' u,q k' u→∀ w,(Op.equal t v u).run P w=.ok (decide (k'=k)) w):∀ (es:List MapEntry) (ks:List K) (i:Nat) (w:World),ks.length=es.length→(∀ (i:Nat) k' e,ks[i]? =some k'→es[i]? =some e→q k' e.key)→(Instr.findAsking t v es i).run P w=.ok (vE k ks es i) w
 | [],[],i,w,_,_=>by simp [Instr.findAsking,vE]
 | [],k' :: ks,i,w,hl,_=>by simp at hl
 | e :: es,[],i,w,hl,_=>by simp at hl
 | e :: es,k' :: ks,i,w,hl,h=>by
   unfold Instr.findAsking vE
   rw [Sem.run_bind,hq k' e.key (h 0 k' e rfl rfl)]
   by_cases hk:k'=k
   ·simp [hk]
   ·simp only [hk,decide_false,Result.andThen_ok,Bool.false_eq_true,if_false]
    exact No hq es ks (i+1) w (by simpa using hl) (fun i k' e h1 h2=>h (i+1) k' e (by simpa using h1) (by simpa using h2))
theorem kL.struct {P:Program} {t:TypeId} {K:Type} [DecidableEq K] {g:K→AV} {dd:Nat} {fs:List Field} {n:Nat} [tB P t dd g] (hk:Nat.ble dd 10000=true) (hu:P.underlying t=some (.struct fs.toArray))
 (hf:∀ f∈fs,∃ D,P.underlying f.type=some D∧O8 D=true∧f.offset < n) (hg:∀ x,∃ cs,g x=.agg cs∧cs.length=n∧∀ c∈cs,Rf c=true) (inj:∀ a b,g a=g b→a=b):kL P t g where
 inj:=inj
 check:=fun {w S k v} hv b w1=>by
  obtain ⟨cs,e,hl,hs⟩:=hg k
  rw [e] at hv
  obtain ⟨vs,rfl,yN,ha⟩:=hv.nn
  have key:∀ m:Nat,(Instr.checkKey b (m+1+1) t (.agg vs)).run P w1=.ok () w1:=fun m=>by
   have h1:=CP (P:=P) b m vs w1 fs (fun f hm=>by obtain ⟨D,h1,h2,h3⟩:=hf f hm;exact ⟨D,h1,h2,by omega⟩)
   rw [Instr.checkKey]
   simp only [Sem.run_bind,run_underlying hu,Result.andThen_ok]
   rw [← Array.forIn_toList]
   simp only [h1,Result.andThen_ok,Sem.run_pure]
  exact key 9998
 find:=fun {w S k v} hv es ks hl Q3 w1=>by
  obtain ⟨cs,e,hn,hs⟩:=hg k
  have O6:=hv
  rw [e] at O6
  obtain ⟨vs,rfl,yN,ha⟩:=O6.nn
  have hq:=No (P:=P) (t:=t) (v:=.agg vs) (k:=k) (q:=fun k' u=>At w S (g k') u) (fun k' u hu w2=>by
   have:=tB.h (P:=P) (t:=t) (g:=g) k k' w S _ _ hv hu (10000 - dd) w2
   rw [Nat.sub_add_cancel (Nat.le_of_ble_eq_true hk)] at this
   rw [show decide (k'=k)=decide (k=k') by rw [Bool.eq_iff_iff];simp;exact eq_comm]
   exact this) es ks 0 w1 hl (fun i k' e h1 h2=>Q3 i k' e h1 h2)
  unfold Instr.findKey
  rw [Sem.run_bind,run_underlying hu]
  simp only [Result.andThen_ok]
  cases es with
  | nil=>
    cases ks with
    | nil=>simp [Instr.findNow,vE]
    | cons _ _=>simp at hl
  | cons m es=>
    have:Instr.findNow (.struct fs.toArray) (.agg vs) (m :: es) 0=none:=by
     unfold Instr.findNow;simp [Instr.sameNow]
    rw [this];exact hq
 bits:=fun {w S k v u} h1 h2=>by
  obtain ⟨cs,e,hn,hs⟩:=hg k
  rw [e] at h1 h2
  exact L1 hs h1 h2
section rules
variable {P:Program} {all:Array Oper} {rest:List Oper} {n:Nat} {tm:List (Nat×AV)} {hp:Heap} {Q:List (Nat×AV)→Prop} {d:Nat} {ty:TypeId} {pos:String} {af:Array Edge} {op:Op}
theorem AM.tD {f:FuncId} {x:Operand} {args:List Operand} {ts:Array TypeId} {sU l l':List AV} {R:AV} [bq P f] (hx:cZ (FT (looks all ⟨some d,.call {callee:=.value x,args:=args.toArray,argTypes:=ts},ty,pos,af,none⟩) tm) x=some (.func (.func f) sU)) (hl:zZ (FT (looks all ⟨some d,.call {callee:=.value x,args:=args.toArray,argTypes:=ts},ty,pos,af,none⟩) tm) args=some l) (c:Pu P f l' R) (co:xZ hp (l++sU) l') (hn:Nat.blt d n=true)
 (k:AM P all n hp rest ((d,R) :: tm) Q):AM P all n hp (⟨some d,.call {callee:=.value x,args:=args.toArray,argTypes:=ts},ty,pos,af,none⟩ :: rest) tm Q:=by
 refine AM.mv (fun w S a h1 h2 h3 h4 K Q' hK=>?_) hn k
 have r:=sf h1 h2 h3 h4
 obtain ⟨cv,e1,e2,e3⟩:=(bj r hx).xS
 show Oper.upon P _ a K Q' _
 rw [vw a _ e1]
 obtain ⟨g1,g2⟩:=tT r hl
 obtain ⟨g3,g4⟩:=xZ.at r.hp co (vs:=args.map a.eval++cv.toList) (by simp [g1,e2]) (vv g1 g2 (by simpa using e3))
 refine (c w S _ (tU h3.slt h3.jt) (by simpa using g3) g4).mono ?_
 rintro e w' ⟨v,rr,h',S',rfl,rfl,k3,k4,k5⟩
 exact hK v w' S' ⟨k5.Ey,fun m hm=>(k5.mH m hm).1,fun m hm hs=>(k5.other m hm (fun ⟨x,hx,_⟩=>by simp at hx)).2 hs,k4.slt⟩ k3
end rules
section values
variable {P:Program} {n:Nat} {tm:List (Nat×AV)} {hp:Heap} {d:Nat} {ty:TypeId} {pos:String} {af:Array Edge}
theorem za {x:Operand} {s ft:TypeId} {j off:Nat} {D:TypeDesc} {cs:List AV} {c:AV} [aD P ft D] (hf:∃ fs f,P.underlying s=some (.struct fs)∧fs[j]? =some f∧f.type=ft∧f.offset=off) (hx:cZ tm x=some (.agg cs))
 (hD:TypeDesc.iA D=false) (hc:cs[off]? =some c):QV P ⟨some d,.field s x j,ty,pos,af,none⟩ ⟨n,tm,hp⟩ c:=
 (fun w S a r=>by
  obtain ⟨fs,f,hu,hj,rfl,rfl⟩:=hf
  obtain ⟨vs,h2,h3,h4⟩:=(bj (σ:=⟨n,tm,hp⟩) r hx).nn
  obtain ⟨v,g1,g2⟩:=lZ.get h3 h4 hc
  refine ⟨v,fun w1 _=>?_,g2⟩
  have hr:=fG (P:=P) (t:=f.type) hD g1 w1
  simp only [execOp,h2,Instr.field,Sem.run_bind,run_underlying hu,Result.andThen_ok,hj]
  simp [asAgg,hr])
end values
section rules
variable {P:Program} {n:Nat} {tm:List (Nat×AV)} {hp:Heap} {d:Nat} {ty:TypeId} {pos:String} {af:Array Edge}
end rules
section
variable {K E:Type}
end
section rules
variable {P:Program} {all:Array Oper} {rest:List Oper} {n:Nat} {tm:List (Nat×AV)} {hp:Heap} {Q:St→Prop} {d:Nat} {ty:TypeId} {pos:String} {af:Array Edge}
end rules
section
variable {P:Program} {R:St→Prop} {k:List It} {σ:St}
end
theorem J {α:Sort _} {a:α}:a=a:=rfl
section rules
variable {P:Program} {all:Array Oper} {n:Nat} {B:Heap} {tk:List Tok} {dy:List Nat} {i:Nat} {rest:List Oper} {tm:List (Nat×AV)} {acc:(Nat→Bk)→List (Nat×AV)} {Q:(Nat→Bk)→List (Nat×AV)→Prop} {d:Nat} {ty:TypeId} {pos:String} {af:Array Edge} {op:Op}
end rules
section
variable {P:Program} {o:Oper} {σ:St}
theorem QV.dT {p:Prop} [Decidable p] (hc:p) (h:QV P o σ (.bool (decide p))):QV P o σ (.bool true):=by rw [decide_eq_true hc] at h;exact h
theorem QV.dF {p:Prop} [Decidable p] (hc:¬ p) (h:QV P o σ (.bool (decide p))):QV P o σ (.bool false):=by rw [decide_eq_false hc] at h;exact h
end
section rules
variable {P:Program} {all:Array Oper} {n:Nat} {B:Heap} {tk:List Tok} {dy:List Nat} {i:Nat} {rest:List Oper} {tm:List (Nat×AV)} {acc:(Nat→Bk)→List (Nat×AV)} {Q:(Nat→Bk)→List (Nat×AV)→Prop} {d:Nat} {ty:TypeId} {pos:String} {af:Array Edge} {op:Op}
end rules
end Go.Eng
set_option linter.unusedSimpArgs false
namespace Go.Eng
open Go
variable [bA]
section rules
variable {P:Program} {all:Array Oper} {rest:List Oper} {n:Nat} {tm:List (Nat×AV)} {hp:Heap} {Q:St→Prop} {d:Nat} {ty:TypeId} {pos:String} {af:Array Edge}
end rules
theorem nA.UH {h h':Heap} {b b':Bk} {o o':Ob} (u:nA h b o b' o' h') (b2:Bk) (o2:Ob):∃ h2,nA h b o b2 o2 h2∧nA h2 b2 o2 b' o' h':=by
 induction u with
 | here=>exact ⟨_,.here,.here⟩
 | next _ ih=>obtain ⟨h2,a,b⟩:=ih;exact ⟨_,.next a,.next b⟩
 | skip _ ih=>obtain ⟨h2,a,b⟩:=ih;exact ⟨_,.skip a,.skip b⟩
theorem CQ {w:World} {S:Nat→Prop} {hp de:Heap} {bp:Bk} {es xP:List (Bk×PO)} (r:cG w S hp) (u:nA hp bp (.cj es) bp (.cj xP) de) (h:es.Perm xP):cG w S de∧lz w S hp w S de:=by
 obtain ⟨p,q,rfl,rfl⟩:=u.split
 obtain ⟨Eb,oM⟩:bp.cd=none∧∀ e∈es,oV w S e.1 e.2:=r.holds (bp,.cj es) (bl.2 (.inl rfl))
 have Bd:∀ n,n∈eb (bp,.cj xP)↔n∈eb (bp,.cj es):=by
  intro n
  rw [wA,wA]
  constructor
  ·rintro (k | ⟨e,he,hn⟩)
   ·exact .inl k
   ·exact .inr ⟨e,h.mem_iff.2 he,hn⟩
  ·rintro (k | ⟨e,he,hn⟩)
   ·exact .inl k
   ·exact .inr ⟨e,h.mem_iff.1 he,hn⟩
 have e1:(eb (bp,.cj es)).Perm (eb (bp,.cj xP)):=by
  simp only [eb,Ob.more]
  exact List.Perm.append_left _ (h.filterMap _)
 have JK:∀ n,Has (p++(bp,.cj xP) :: q) n→Has (p++(bp,.cj es) :: q) n:=by
  rintro n ⟨e,he,hn⟩
  rcases bl.1 he with rfl | he
  ·exact ⟨_,bl.2 (.inl rfl),(Bd n).1 hn⟩
  ·exact ⟨e,bl.2 (.inr he),hn⟩
 refine ⟨⟨?_,?_,?_,r.slt,r.jt⟩,⟨rfl,rfl,rfl,Nat.le_refl _,fun n hn=>⟨hn,rfl⟩,fun n _ _=>⟨rfl,id⟩,fun n hn=>.inl (JK n hn),fun _=>Nat.le_refl _⟩⟩
 ·have:=r.nodup
  rw [List.flatMap_append,List.flatMap_cons] at this ⊢
  exact ((List.Perm.append_left _ (List.Perm.append_right _ e1)).nodup_iff).1 this
 ·intro e he
  rcases bl.1 he with rfl | he
  ·exact ⟨Eb,fun e he=>oM e (h.mem_iff.2 he)⟩
  ·exact r.holds e (bl.2 (.inr he))
 ·intro e he n hn
  rcases bl.1 he with rfl | he
  ·have:=r.sep (bp,.cj es) (bl.2 (.inl rfl)) n ((Bd n).1 hn)
   exact ⟨fun h=>(this.1 h).elim,fun h=>h.elim⟩
  ·exact r.sep e (bl.2 (.inr he)) n hn
theorem cG.same {w:World} {S:Nat→Prop} {h h':Heap} (r:cG w S h) (hp:h.Perm h'):cG w S h'∧lz w S h w S h':=
 ⟨r.perm hp,rfl,rfl,rfl,Nat.le_refl _,fun n hn=>⟨hn,rfl⟩,fun n _ _=>⟨rfl,id⟩,fun n ⟨e,he,hn⟩=>.inl ⟨e,hp.mem_iff.2 he,hn⟩,fun _=>Nat.le_refl _⟩
def Gd (xs:List (Bk×PO)):Heap:=xs.map fun e=>(e.1,e.2.ob)
theorem xv {w:World} {S:Nat→Prop} {bp:Bk} {xP:List (Bk×PO)}:∀ (xs es:List (Bk×PO)) {hp de:Heap},cG w S hp→nA hp bp (.cj es) bp (.cj xP) de→es.Perm (xs++xP)→cG w S (Gd xs++de)∧lz w S hp w S (Gd xs++de)
 | [],es,hp,de,r,u,h=>CQ r u h
 | x :: xs,es,hp,de,r,u,h=>by
   obtain ⟨h2,u1,u2⟩:=u.UH bp (.cj (xs++xP))
   obtain ⟨r1,e1⟩:=HY r u1 h
   obtain ⟨r2,e2⟩:=xv xs (xs++xP) r1 (.next u2) (List.Perm.refl _)
   obtain ⟨r3,e3⟩:=r2.same (h':=Gd (x :: xs)++de) List.perm_middle
   exact ⟨r3,(e1.trans e2).trans e3⟩
theorem zb {w:World} {S:Nat→Prop} {bp:Bk} {es:List (Bk×PO)}:∀ (xs xP:List (Bk×PO)) {yd de:Heap},cG w S (Gd xs++yd)→nA yd bp (.cj es) bp (.cj xP) de→xP.Perm (xs++es)→cG w S de∧lz w S (Gd xs++yd) w S de
 | [],xP,yd,de,r,u,h=>CQ r u h.symm
 | x :: xs,xP,yd,de,r,u,h=>by
   obtain ⟨h2,u1,u2⟩:=u.UH bp (.cj (xs++es))
   obtain ⟨r0,e0⟩:=r.same (h':=Gd xs++(x.1,x.2.ob) :: yd) List.perm_middle.symm
   obtain ⟨r1,e1⟩:=zb xs (xs++es) r0 (.next u1) (List.Perm.refl _)
   obtain ⟨r2,e2⟩:=JL r1 .here u2 h
   exact ⟨r2,(e0.trans e1).trans e2⟩
section ara
variable {V:Type}
def su (kb:Bk→(Nat→Bk)→V→List (Bk×PO)) (bo:Nat→Bk) (bs:Nat→Nat→Bk):Nat→List (Option V)→List (Bk×PO)
 | _,[]=>[]
 | i,some v :: r=>kb (bo i) (bs i) v++su kb bo bs (i+1) r
 | i,none :: r=>su kb bo bs (i+1) r
def ju (kb:Bk→(Nat→Bk)→V→List (Bk×PO)) (bo:Nat→Bk) (bs:Nat→Nat→Bk) (M:List V):List (Bk×PO):=su kb bo bs 0 (M.map some)
def Be (kb:Bk→(Nat→Bk)→V→List (Bk×PO)) (bo:Nat→Bk) (bs:Nat→Nat→Bk) (M:List V) (i:Int):List (Bk×PO):=su kb bo bs 0 ((M.map some).set i.toNat none)
variable {kb:Bk→(Nat→Bk)→V→List (Bk×PO)} {bo ua:Nat→Bk} {bs vk:Nat→Nat→Bk}
theorem uE:∀ (l:List (Option V)) (i:Nat),(∀ j v,l[j]? =some (some v)→bo (i+j)=ua (i+j)∧bs (i+j)=vk (i+j))→su kb bo bs i l=su kb ua vk i l
 | [],_,_=>rfl
 | some v :: r,i,h=>by
   obtain ⟨h1,h2⟩:=h 0 v rfl
   show kb (bo i) (bs i) v++su kb bo bs (i+1) r=kb (ua i) (vk i) v++su kb ua vk (i+1) r
   rw [show bo i=ua i from h1,show bs i=vk i from h2,uE r (i+1) (fun j v hj=>by
    have:=h (j+1) v (by simpa using hj)
    rw [show i+1+j=i+(j+1) by omega];exact this)]
 | none :: r,i,h=>uE r (i+1) (fun j v hj=>by
  have:=h (j+1) v (by simpa using hj)
  rw [show i+1+j=i+(j+1) by omega];exact this)
theorem Bf:∀ (l:List (Option V)) (i j:Nat) (v:V),l[j]? =some none→(su kb bo bs i (l.set j (some v))).Perm (kb (bo (i+j)) (bs (i+j)) v++su kb bo bs i l)
 | [],_,_,_,h=>by simp at h
 | o :: r,i,0,v,h=>by
   obtain rfl:o=none:=by simpa using h
   exact List.Perm.refl _
 | some u :: r,i,j+1,v,h=>by
   have:=Bf r (i+1) j v (by simpa using h)
   rw [show i+1+j=i+(j+1) by omega] at this
   show (kb (bo i) (bs i) u++su kb bo bs (i+1) (r.set j (some v))).Perm _
   refine (List.Perm.append_left _ this).trans ?_
   show (kb (bo i) (bs i) u++(kb (bo (i+(j+1))) (bs (i+(j+1))) v++su kb bo bs (i+1) r)).Perm (kb (bo (i+(j+1))) (bs (i+(j+1))) v++(kb (bo i) (bs i) u++su kb bo bs (i+1) r))
   rw [← List.append_assoc,← List.append_assoc]
   exact List.Perm.append_right _ List.perm_append_comm
 | none :: r,i,j+1,v,h=>by
   have:=Bf r (i+1) j v (by simpa using h)
   rw [show i+1+j=i+(j+1) by omega] at this
   exact this
theorem Bg:∀ (l m:List (Option V)) (i:Nat),su kb bo bs i (l++m)=su kb bo bs i l++su kb bo bs (i+l.length) m
 | [],m,i=>rfl
 | some v :: r,m,i=>by
   show kb (bo i) (bs i) v++su kb bo bs (i+1) (r++m)=(kb (bo i) (bs i) v++su kb bo bs (i+1) r)++su kb bo bs (i+(r.length+1)) m
   rw [Bg r m (i+1),List.append_assoc,show i+1+r.length=i+(r.length+1) by omega]
 | none :: r,m,i=>by
   show su kb bo bs (i+1) (r++m)=su kb bo bs (i+1) r++su kb bo bs (i+(r.length+1)) m
   rw [Bg r m (i+1),show i+1+r.length=i+(r.length+1) by omega]
theorem CR {M M':List V} {i:Int} {v v':V} {s:Nat→Bk} (h:idx M i=some v) (hM:M'=M.set i.toNat v') (hs:vk=fun j=>if j=i.toNat then s else bs j):(ju kb bo vk M').Perm (kb (bo i.toNat) s v'++Be kb bo bs M i):=by
 obtain ⟨h0,h1,h2⟩:=gS h
 unfold ju Be
 have hl:(M.map some)[i.toNat]? =some (some v):=by rw [List.getElem?_map,h2];rfl
 have lA:i.toNat < (M.map some).length:=(List.getElem?_eq_some_iff.1 hl).1
 have hn:((M.map some).set i.toNat none)[i.toNat]? =some none:=by rw [List.getElem?_set_self lA]
 have e1:M'.map some=((M.map some).set i.toNat none).set i.toNat (some v'):=by rw [hM,List.map_set,List.set_set]
 rw [e1]
 have:=Bf (kb:=kb) (bo:=bo) (bs:=vk) ((M.map some).set i.toNat none) 0 i.toNat v' hn
 rw [Nat.zero_add] at this
 refine this.trans ?_
 rw [show vk i.toNat=s by rw [hs];simp]
 refine List.Perm.append_left _ ?_
 rw [uE (ua:=bo) (vk:=bs) ((M.map some).set i.toNat none) 0 (fun j u hj=>by
  rw [Nat.zero_add]
  refine ⟨rfl,?_⟩
  have:j≠i.toNat:=fun e=>by rw [e,hn] at hj;simp at hj
  rw [hs];simp [this])]
theorem CS {M:List V} {i:Int} {v:V} (h:idx M i=some v):(ju kb bo bs M).Perm (kb (bo i.toNat) (bs i.toNat) v++Be kb bo bs M i):=
 CR h (Bb (gS h).2.2).symm (by funext j;split<;>simp_all)
theorem JM {M:List V} {b:Bk} {s:Nat→Bk} {v:V} (h1:∀ j,j < M.length→ua j=bo j) (h2:ua M.length=b) (h3:∀ j,j < M.length→vk j=bs j) (h4:vk M.length=s):(ju kb ua vk (M++[v])).Perm (kb b s v++ju kb bo bs M):=by
 unfold ju
 rw [List.map_append,Bg,List.length_map,Nat.zero_add]
 have e1:su kb ua vk M.length ([v].map some)=kb b s v:=by
  show kb (ua M.length) (vk M.length) v++[]=_
  rw [h2,h4,List.append_nil]
 rw [e1,uE (ua:=bo) (vk:=bs) (M.map some) 0 (fun j u hj=>by
  have:j < M.length:=by
   have:=(List.getElem?_eq_some_iff.1 hj).1
   simpa using this
  rw [Nat.zero_add]
  exact ⟨h1 j this,h3 j this⟩)]
 exact List.perm_append_comm
end ara
theorem aj.Hc {n:Nat} {tm:List (Nat×AV)} {hp:Heap} {T:St→Prop} {V:Type} {kb:Bk→(Nat→Bk)→V→List (Bk×PO)} (k:∀ (bp:Bk) (bo:Nat→Bk) (bs:Nat→Nat→Bk),aj ⟨n,tm,(bp,.cj (ju kb bo bs [])) :: hp⟩ T):aj ⟨n,tm,hp⟩ T:=by
 refine aj.step (De:=⟨n,tm,(⟨none,0⟩,.cj (ju kb (fun _=>⟨none,0⟩) (fun _ _=>⟨none,0⟩) [])) :: hp⟩) (fun w S a r=>?_) (k _ _ _)
 obtain ⟨g1,g2,g3⟩:=wk (b:=⟨none,0⟩) (o:=.cj []) r.hp (Ext.refl w) id ⟨rfl,by simp⟩ (.inl rfl)
 exact ⟨_,S,rfl,r.heap g3 g1,g2⟩
theorem aj.L4 {n:Nat} {tm:List (Nat×AV)} {hp de:Heap} {T:St→Prop} {V:Type} {kb:Bk→(Nat→Bk)→V→List (Bk×PO)} {bo:Nat→Bk} {bs:Nat→Nat→Bk} {M:List V} {i:Int} {v:V} {bp:Bk} (h:idx M i=some v) (u:nA hp bp (.cj (ju kb bo bs M)) bp (.cj (Be kb bo bs M i)) de)
 (k:aj ⟨n,tm,Gd (kb (bo i.toNat) (bs i.toNat) v)++de⟩ T):aj ⟨n,tm,hp⟩ T:=by
 refine aj.step (fun w S a r=>?_) k
 obtain ⟨g1,g2⟩:=xv _ _ r.hp u (CS h)
 exact ⟨_,S,rfl,r.heap (fun m hm=>⟨hm,rfl⟩) g1,g2⟩
theorem aj.Oj {n:Nat} {tm:List (Nat×AV)} {hp yd h0:Heap} {de:(Nat→Nat→Bk)→Heap} {T:St→Prop} {V:Type} {kb:Bk→(Nat→Bk)→V→List (Bk×PO)} {bo:Nat→Bk} {bs:Nat→Nat→Bk} {M M':List V} {i:Int} {v v':V} {b0 bp:Bk} {s:Nat→Bk} (h:idx M i=some v) (hb:b0=bo i.toNat) (hM:M'=M.set i.toNat v') (hs:CA hp h0 yd) (ho:h0=Gd (kb b0 s v')) (u:∀ vk,nA yd bp (.cj (Be kb bo bs M i)) bp (.cj (ju kb bo vk M')) (de vk))
 (k:∀ vk,aj ⟨n,tm,de vk⟩ T):aj ⟨n,tm,hp⟩ T:=by
 refine aj.step (De:=⟨n,tm,de (fun j=>if j=i.toNat then s else bs j)⟩) (fun w S a r=>?_) (k _)
 obtain ⟨g0,e0⟩:=r.hp.same hs.perm
 rw [ho] at g0 e0
 obtain ⟨g1,g2⟩:=zb _ _ g0 (u (fun j=>if j=i.toNat then s else bs j)) (by rw [hb];exact CR h hM rfl)
 exact ⟨_,S,rfl,r.heap (fun m hm=>⟨hm,rfl⟩) g1,e0.trans g2⟩
theorem aj.Ol {n:Nat} {tm:List (Nat×AV)} {hp yd h0:Heap} {de:(Nat→Bk)→(Nat→Nat→Bk)→Heap} {T:St→Prop} {V:Type} {kb:Bk→(Nat→Bk)→V→List (Bk×PO)} {bo:Nat→Bk} {bs:Nat→Nat→Bk} {M:List V} {v:V} {b bp:Bk} {s:Nat→Bk} (hs:CA hp h0 yd) (ho:h0=Gd (kb b s v)) (u:∀ ua vk,nA yd bp (.cj (ju kb bo bs M)) bp (.cj (ju kb ua vk (M++[v]))) (de ua vk))
 (k:∀ ua vk,(∀ j,j < M.length→ua j=bo j)→ua M.length=b→aj ⟨n,tm,de ua vk⟩ T):aj ⟨n,tm,hp⟩ T:=by
 have c1:∀ j,j < M.length→(fun j=>if j=M.length then b else bo j) j=bo j:=fun j hj=>if_neg (by omega)
 have c2:(fun j=>if j=M.length then b else bo j) M.length=b:=if_pos rfl
 refine aj.step (De:=⟨n,tm,de (fun j=>if j=M.length then b else bo j) (fun j=>if j=M.length then s else bs j)⟩) (fun w S a r=>?_) (k _ _ c1 c2)
 obtain ⟨g0,e0⟩:=r.hp.same hs.perm
 rw [ho] at g0 e0
 obtain ⟨g1,g2⟩:=zb _ _ g0 (u (fun j=>if j=M.length then b else bo j) (fun j=>if j=M.length then s else bs j)) (JM c1 c2 (fun j hj=>if_neg (by omega)) (if_pos rfl))
 exact ⟨_,S,rfl,r.heap (fun m hm=>⟨hm,rfl⟩) g1,e0.trans g2⟩
theorem aj.Om {n:Nat} {tm:List (Nat×AV)} {hp de:Heap} {T:St→Prop} {b:Bk} {o o':Ob} (he:o=o') (u:nA hp b o b o' de) (k:aj ⟨n,tm,de⟩ T):aj ⟨n,tm,hp⟩ T:=by
 subst he
 rw [CB u] at k
 exact k
def Ee (n:Nat) (l:List Int):Option Unit:=if ∀ x∈l,0≤x∧x < n then some () else none
theorem yf {n:Nat} {l:List Int} {u:Unit} (h:Ee n l=some u):∀ x∈l,0≤x∧x < n:=by
 unfold Ee at h
 split at h
 ·assumption
 ·cases h
def pA (bo:Nat→Bk) (i:Int):AV:=.ptr (bo i.toNat) 0
theorem Np {bo ua:Nat→Bk} {N:Nat} (h:∀ j,j < N→ua j=bo j) {i:Int} (hi:0≤i∧i < N):pA bo i=pA ua i:=by
 unfold pA;rw [h i.toNat (by omega)]
theorem L5 {bo ua:Nat→Bk} {N:Nat} (h:∀ j,j < N→ua j=bo j) {l:List Int} {u:Unit} (hg:Ee N l=some u):l.map (pA bo)=l.map (pA ua):=
 List.map_congr_left fun x hx=>Np h (yf hg x hx)
theorem On {K:Type} {gk:K→AV} {bo ua:Nat→Bk} {N:Nat} (h:∀ j,j < N→ua j=bo j) {M:List (K×Int)} {u:Unit} (hg:Ee N (M.map Prod.snd)=some u):(M.map fun e=>(gk e.1,pA bo e.2))=M.map fun e=>(gk e.1,pA ua e.2):=
 List.map_congr_left fun e he=>by rw [Np h (yf hg e.2 (List.mem_map.2 ⟨e,he,rfl⟩))]
theorem Oo {bo:Nat→Bk} {N:Nat} {b:Bk} (h:bo N=b) (o:Nat):AV.ptr (bo (N:Int).toNat) o=AV.ptr b o:=by
 rw [Int.toNat_natCast,h]
section rules
variable {P:Program} {all:Array Oper} {rest:List Oper} {n:Nat} {tm:List (Nat×AV)} {hp:Heap} {Q:St→Prop} {d:Nat} {ty:TypeId} {pos:String} {af:Array Edge}
theorem xw {K:Type} [DecidableEq K] {gk:K→AV} {gv:Int→AV} {M:List (K×Int)} {key:K} {t kt vt:TypeId} {i:TypeInfo} {x y:Operand} {b:Bk} [aD P t (.map kt vt)] [aX P vt i] [kL P kt gk] (hx:cZ tm x=some (.gD b)) (hy:cZ tm y=some (gk key)) (f:mr hp b (.mp (M.map fun e=>(gk e.1,gv e.2)))) (hz:i.zero=some (.pointer none)) (h:bQ M key=none):
 QV P ⟨some d,.lookup t x y false,ty,pos,af,none⟩ ⟨n,tm,hp⟩ (.raw (.pointer none)):=by
 intro w S a r
 have kx:=bj (σ:=⟨n,tm,hp⟩) r hx
 have ky:=bj (σ:=⟨n,tm,hp⟩) r hy
 obtain ⟨nb,hb,ex⟩:=kx.tZ
 obtain ⟨L,c,M',IC,ov,p1,p2,p3,p4,p5,p6,p7,p8⟩:=ya (kL.inj P kt) r.hp f
 obtain rfl:IC=nb:=by rw [p4] at hb;exact Option.some.inj hb
 rw [← tY p1 p8] at h
 have uZ:=kL.find (P:=P) (t:=kt) (g:=gk) ky ov.toList (M'.map Prod.fst) (by simpa using p6.symm) (fun j k' e h1 h2=>by
  rw [List.getElem?_map] at h1
  cases hm:M'[j]? with
  | none=>rw [hm] at h1;cases h1
  | some q=>rw [hm] at h1;rw [← Option.some.inj h1];exact (p7 j q e hm h2).1)
 rcases wy (gv:=gv) (w:=w) (S:=S) (k:=key) M' ov.toList 0 p6.symm (fun j e m h1 h2=>(p7 j e m h1 h2).2) with ⟨q1,q2⟩ | ⟨v',j,val,q1,q2,q3,_⟩
 ·refine ⟨.pointer none,fun w1 e1=>?_,.raw _⟩
  simp [execOp,Instr.lookup,ex,run_underlying (aD.h (P:=P) (t:=t)),lQ (e1.heap p5),kL.check (P:=P) (t:=kt) ky,uZ,q2,zeroValue,typeInfo,aX.h (P:=P) (t:=vt),hz]
 ·rw [q1] at h;cases h
theorem xx {K:Type} [DecidableEq K] {gk:K→AV} {gv:Int→AV} {M:List (K×Int)} {key:K} {v:Int} {t kt vt:TypeId} {i:TypeInfo} {x y:Operand} {b:Bk} [aD P t (.map kt vt)] [aX P vt i] [kL P kt gk] (hx:cZ tm x=some (.gD b)) (hy:cZ tm y=some (gk key)) (f:mr hp b (.mp (M.map fun e=>(gk e.1,gv e.2)))) (h:bQ M key=some v):
 QV P ⟨some d,.lookup t x y false,ty,pos,af,none⟩ ⟨n,tm,hp⟩ (gv v):=by
 intro w S a r
 have kx:=bj (σ:=⟨n,tm,hp⟩) r hx
 have ky:=bj (σ:=⟨n,tm,hp⟩) r hy
 obtain ⟨nb,hb,ex⟩:=kx.tZ
 obtain ⟨L,c,M',IC,ov,p1,p2,p3,p4,p5,p6,p7,p8⟩:=ya (kL.inj P kt) r.hp f
 obtain rfl:IC=nb:=by rw [p4] at hb;exact Option.some.inj hb
 rw [← tY p1 p8] at h
 have uZ:=kL.find (P:=P) (t:=kt) (g:=gk) ky ov.toList (M'.map Prod.fst) (by simpa using p6.symm) (fun j k' e h1 h2=>by
  rw [List.getElem?_map] at h1
  cases hm:M'[j]? with
  | none=>rw [hm] at h1;cases h1
  | some q=>rw [hm] at h1;rw [← Option.some.inj h1];exact (p7 j q e hm h2).1)
 rcases wy (gv:=gv) (w:=w) (S:=S) (k:=key) M' ov.toList 0 p6.symm (fun j e m h1 h2=>(p7 j e m h1 h2).2) with ⟨q1,q2⟩ | ⟨v',j,val,q1,q2,q3,_⟩
 ·rw [q1] at h;cases h
 ·rw [q1] at h
  obtain rfl:=Option.some.inj h
  refine ⟨val,fun w1 e1=>?_,q3⟩
  simp [execOp,Instr.lookup,ex,run_underlying (aD.h (P:=P) (t:=t)),lQ (e1.heap p5),kL.check (P:=P) (t:=kt) ky,uZ,q2]
end rules
section todo
variable {P:Program} {R:St→Prop} {k:List It} {σ:St}
theorem cD {α:Type} {c:Operand} {x y:Code} {p:Prop} [Decidable p] {a b z:α} (h:(if p then a else b)=z) (hc:cZ σ.tm c=some (.bool (decide p))) (h1:a=z→ae P R (.code x :: k) σ) (h2:b=z→ae P R (.code y :: k) σ):ae P R (.code (.cond c x y) :: k) σ:=
 ae.NS hc (fun hp=>h1 (rO hp h)) (fun hp=>h2 (yU hp h))
theorem cB {α:Type} {c:Operand} {x y:Code} {p:Bool} {a b z:α} (h:(if p=true then a else b)=z) (hc:cZ σ.tm c=some (.bool p)) (h1:a=z→ae P R (.code x :: k) σ) (h2:b=z→ae P R (.code y :: k) σ):ae P R (.code (.cond c x y) :: k) σ:=
 ae.cond hc (fun hp=>h1 (rO hp h)) (fun hp=>h2 (vz hp h))
end todo
section rules
variable {P:Program} {all:Array Oper} {rest:List Oper} {n:Nat} {tm:List (Nat×AV)} {hp:Heap} {Q:St→Prop} {d:Nat} {ty:TypeId} {pos:String} {af:Array Edge} {op:Op} {s:Nat} {j:Nat}
theorem gT {α:Type} {p:Prop} [Decidable p] {a b z:α} (h:(if p then a else b)=z) (hj:(all[j]?).bind (·.dst)=some s) (hs:lk tm s=some (.bool (decide p))) (hn:Nat.blt d n=true) (h1:a=z→ah P all (⟨some d,op,ty,pos,af,none⟩ :: rest) ⟨n,(s,.bool true) :: tm,hp⟩ Q)
 (h2:b=z→ah P all rest ⟨n,(d,.raw undef) :: (s,.bool false) :: tm,hp⟩ Q):ah P all (⟨some d,op,ty,pos,af,some (j,true)⟩ :: rest) ⟨n,tm,hp⟩ Q:=
 ah.bJ hj hs hn (fun hp=>h1 (rO hp h)) (fun hp=>h2 (yU hp h))
theorem gF {α:Type} {p:Prop} [Decidable p] {a b z:α} (h:(if p then a else b)=z) (hj:(all[j]?).bind (·.dst)=some s) (hs:lk tm s=some (.bool (decide p))) (hn:Nat.blt d n=true) (h1:b=z→ah P all (⟨some d,op,ty,pos,af,none⟩ :: rest) ⟨n,(s,.bool false) :: tm,hp⟩ Q)
 (h2:a=z→ah P all rest ⟨n,(d,.raw undef) :: (s,.bool true) :: tm,hp⟩ Q):ah P all (⟨some d,op,ty,pos,af,some (j,false)⟩ :: rest) ⟨n,tm,hp⟩ Q:=
 ah.fU hj hs hn (fun hp=>h1 (yU hp h)) (fun hp=>h2 (rO hp h))
end rules
theorem hP {P:Program} {σ:St} {s:Nat} {av:AV} {Q:List AV→St→Prop} (h1:lk σ.tm s=some av) (h2:Q [av] σ):aj σ (fun aC=>∃ rs,Rs P aC [.tmp s] rs∧Q rs aC):=aj.here ⟨[av],.cons (.tmp _ _ h1) .nil,h2⟩
theorem cR {hp:Heap} {l:List AV}:xZ hp l l:=xZ.refl _
theorem hH {P:Program} {σ:St} {s:Nat} {av:AV} {Q:List AV→Heap→Prop} {de:Heap} (h1:lk σ.tm s=some av) (is:List Nat) (hs:Bc σ.hp is=some de) (h2:Q [av] de):aj σ (fun aC=>∃ rs,Rs P aC [.tmp s] rs∧(∃ h',HS aC.hp h'∧Q rs h')):=aj.here ⟨[av],.cons (.tmp _ _ h1) .nil,de,yc hs,h2⟩
theorem hQ {P:Program} {σ:St} {s t:Nat} {av aw:AV} {Q:List AV→St→Prop} (h1:lk σ.tm s=some av) (FQ:lk σ.tm t=some aw) (h2:Q [av,aw] σ):aj σ (fun aC=>∃ rs,Rs P aC [.tmp s,.tmp t] rs∧Q rs aC):=aj.here ⟨[av,aw],.cons (.tmp _ _ h1) (.cons (.tmp _ _ FQ) .nil),h2⟩
theorem hI {P:Program} {σ:St} {s t:Nat} {av aw:AV} {Q:List AV→Heap→Prop} {de:Heap} (h1:lk σ.tm s=some av) (FQ:lk σ.tm t=some aw) (is:List Nat) (hs:Bc σ.hp is=some de) (h2:Q [av,aw] de):aj σ (fun aC=>∃ rs,Rs P aC [.tmp s,.tmp t] rs∧(∃ h',HS aC.hp h'∧Q rs h')):=aj.here ⟨[av,aw],.cons (.tmp _ _ h1) (.cons (.tmp _ _ FQ) .nil),de,yc hs,h2⟩
end Go.Eng
namespace Go.Eng
open Go
section
variable {K V:Type} [DecidableEq K] [x8 K]
end
end Go.Eng
namespace Go.Eng
open Go
variable [bA]
section rules
variable {P:Program} {all:Array Oper} {n:Nat} {B:Heap} {tk:List Tok} {dy:List Nat} {i:Nat} {rest:List Oper} {tm qQ:List (Nat×AV)} {acc:(Nat→Bk)→List (Nat×AV)} {Q:(Nat→Bk)→List (Nat×AV)→Prop} {d:Nat} {ty:TypeId} {pos:String} {af:Array Edge} {op:Op}
end rules
section
variable {P:Program} {R:St→Prop} {k:List It} {σ:St}
end
inductive CD:Type 1 where
 | v (a:AV)
 | l {α:Type} (sz:Nat) (g:α→AV) (xs:List α)
def JN (s:Nat→Bk):Nat→List CD→List AV
 | _,[]=>[]
 | k,.v a :: r=>a :: JN s k r
 | k,.l sz _ xs :: r=>.sl sz (s k) 0 xs.length :: JN s (k+1) r
def Oq (s:Nat→Bk):Nat→List CD→List (Bk×PO)
 | _,[]=>[]
 | k,.v _ :: r=>Oq s k r
 | k,.l sz g xs :: r=>(s k,.arr sz (xs.map g)) :: Oq s (k+1) r
def L6:List CD→List AV
 | []=>[]
 | .v a :: r=>a :: L6 r
 | .l sz g xs :: r=>.list sz (xs.map g) :: L6 r
theorem Ge (s:Nat→Bk):∀ (k:Nat) (D:List CD),(JN s k D).length=(L6 D).length
 | _,[]=>rfl
 | k,.v a :: r=>congrArg (· +1) (Ge s k r)
 | k,.l sz g xs :: r=>congrArg (· +1) (Ge s (k+1) r)
structure KB {V:Type} (kb:Bk→(Nat→Bk)→V→List (Bk×PO)) (fs:V→List AV):Prop where
 ok:∃ D:V→List CD,(∀ b s v,kb b s v=(b,.cells (JN s 0 (D v))) :: Oq s 0 (D v))∧∀ v,fs v=L6 (D v)
theorem xy {b:Bk} {o:Ob}:∀ {h:Heap},(b,o)∈h→mr h b o
 | [],h=>by simp at h
 | e :: r,h=>by
   rcases List.mem_cons.1 h with rfl | h
   ·exact .here
   ·exact .next (xy h)
theorem Gf {s:Nat→Bk} {hp:Heap}:∀ (D:List CD) (k:Nat),(∀ e∈Oq s k D,mr hp e.1 e.2.ob)→∀ (i:Nat) c c',(JN s k D)[i]? =some c→(L6 D)[i]? =some c'→nJ hp c c'
 | [],_,_,i,c,c',h,_=>by simp [JN] at h
 | .v a :: r,k,hf,i,c,c',h,h'=>by
   match i with
   | 0=>
     simp only [JN,L6,List.getElem?_cons_zero,Option.some.injEq] at h h'
     subst h;subst h';exact .co (.refl _)
   | i+1=>exact Gf r k (fun e he=>hf e (by simpa [Oq] using he)) i c c' (by simpa [JN] using h) (by simpa [L6] using h')
 | .l sz g xs :: r,k,hf,i,c,c',h,h'=>by
   match i with
   | 0=>
     simp only [JN,L6,List.getElem?_cons_zero,Option.some.injEq] at h h'
     subst h;subst h'
     exact .arr sz (s k) _ _ (hf (s k,.arr sz (xs.map g)) (by simp [Oq])) (by simp)
   | i+1=>exact Gf r (k+1) (fun e he=>hf e (by simp only [Oq,List.mem_cons];exact .inr he)) i c c' (by simpa [JN] using h) (by simpa [L6] using h')
theorem L7 {e:Bk×PO} {l:List (Bk×PO)} (h:e∈l):(e.1,e.2.ob)∈Gd l:=List.mem_map.2 ⟨e,h,rfl⟩
theorem KB.Y2 {V:Type} {kb:Bk→(Nat→Bk)→V→List (Bk×PO)} {fs:V→List AV} (K:KB kb fs) (b:Bk) (s:Nat→Bk) (v:V) (de:Heap):nJ (Gd (kb b s v)++de) (.ptr b 0) (.gg (fs v)):=by
 obtain ⟨D,h1,h2⟩:=K.ok
 rw [h2]
 refine .box b (JN s 0 (D v)) _ (xy (List.mem_append_left _ ?_)) (Ge s 0 (D v)).symm (Gf (D v) 0 fun e he=>xy (List.mem_append_left _ (L7 ?_)))
 ·rw [h1];exact List.mem_cons_self ..
 ·rw [h1];exact List.mem_cons_of_mem _ he
def Bh:List (Bk×PO)→Heap→Option Heap
 | [],r=>some r
 | (b,.cells cs) :: l,r=>match Bh l r with
   | some m=>some ((b,.cells cs) :: m)
   | none=>none
 | (b,.arr sz xs) :: l,r=>match Bh l r with
   | some m=>some ((b,.arr sz xs) :: m)
   | none=>none
theorem wB:∀ {l:List (Bk×PO)} {r m:Heap},Bh l r=some m→Gd l++r=m
 | [],r,m,h=>Option.some.inj h
 | (b,.cells cs) :: l,r,m,h=>by
   unfold Bh at h
   split at h
   ·rename_i m' hm
    obtain rfl:=Option.some.inj h
    rw [← wB hm];rfl
   ·cases h
 | (b,.arr sz xs) :: l,r,m,h=>by
   unfold Bh at h
   split at h
   ·rename_i m' hm
    obtain rfl:=Option.some.inj h
    rw [← wB hm];rfl
   ·cases h
theorem EV {l:List (Bk×PO)} {m:Heap} (h:Bh l []=some m):m=Gd l:=by rw [← wB h,List.append_nil]
section view
variable {V:Type} {kb:Bk→(Nat→Bk)→V→List (Bk×PO)} {fs:V→List AV} {bo:Nat→Bk} {bs:Nat→Nat→Bk} {M:List V} {i:Int} {v:V} {hp de KZ:Heap} {b bp:Bk}
theorem Bi {w:World} {S:Nat→Prop} (r:cG w S hp) (h:idx M i=some v) (u:nA hp bp (.cj (ju kb bo bs M)) bp (.cj (Be kb bo bs M i)) de):cG w S (Gd (kb (bo i.toNat) (bs i.toNat) v)++de)∧∀ n,Has (Gd (kb (bo i.toNat) (bs i.toNat) v)++de) n→Has hp n:=by
 obtain ⟨r1,e1⟩:=xv _ _ r u (CS h)
 refine ⟨r1,fun n hn=>?_⟩
 rcases e1.new n hn with h | h
 ·exact h
 ·have:=r1.lt hn;omega
theorem QV.ara {P:Program} {o:Oper} {n:Nat} {tm:List (Nat×AV)} {av:AV} (h:idx M i=some v) (u:nA hp bp (.cj (ju kb bo bs M)) bp (.cj (Be kb bo bs M i)) de) (e:Bh (kb (bo i.toNat) (bs i.toNat) v) de=some KZ) (q:QV P o ⟨n,tm,KZ⟩ av):QV P o ⟨n,tm,hp⟩ av:=by
 intro w S a r
 have:=wB e
 subst this
 exact q w S a ⟨r.size,r.defers,r.tm,(Bi r.hp h u).1⟩
theorem nJ.ara {a a':AV} (h:idx M i=some v) (u:nA hp bp (.cj (ju kb bo bs M)) bp (.cj (Be kb bo bs M i)) de) (e:Bh (kb (bo i.toNat) (bs i.toNat) v) de=some KZ) (c:nJ KZ a a'):nJ hp a a':=by
 refine .Q1 fun w S x r at_=>?_
 have:=wB e
 subst this
 obtain ⟨r1,r2⟩:=Bi r h u
 exact (c.at r1 at_).mono fun m hm=>⟨hm.imp id (r2 m),rfl⟩
theorem L8 {o:Ob} {hp:Heap} (f:mr hp b o) (o':Ob):∃ de,nA hp b o b o' de:=by
 induction f with
 | here=>exact ⟨_,.here⟩
 | next _ ih=>obtain ⟨h,u⟩:=ih;exact ⟨_,.next u⟩
 | skip _ ih=>obtain ⟨h,u⟩:=ih;exact ⟨_,.skip u⟩
theorem nJ.L9 (K:KB kb fs) (h:idx M i=some v) (f:mr hp bp (.cj (ju kb bo bs M))):nJ hp (pA bo i) (.gg (fs v)):=by
 obtain ⟨de,u⟩:=L8 f (.cj (Be kb bo bs M i))
 refine .Q1 fun w S x r at_=>?_
 obtain ⟨r1,r2⟩:=Bi r h u
 exact ((K.Y2 (bo i.toNat) (bs i.toNat) v de).at r1 at_).mono fun m hm=>⟨hm.imp id (r2 m),rfl⟩
theorem nJ.Nq (K:KB kb fs) (h:idx M i=some v) (f:mr hp bp (.cj (ju kb bo bs M))):nJ hp (.ptr (bo i.toNat) 0) (.gg (fs v)):=nJ.L9 K h f
def idxs (M:List V):List Int→Option (List V)
 | []=>some []
 | i :: r=>(idx M i).bind fun v=>(idxs M r).bind fun l=>some (v :: l)
theorem CT {M:List V} {i:Int} {r:List Int} {vs:List V} (h:idxs M (i :: r)=some vs):∃ v l,idx M i=some v∧idxs M r=some l∧vs=v :: l:=by
 unfold idxs at h
 cases h1:idx M i with
 | none=>rw [h1] at h;cases h
 | some v=>
   rw [h1] at h
   cases h2:idxs M r with
   | none=>rw [h2] at h;cases h
   | some l=>rw [h2] at h;exact ⟨v,l,rfl,rfl,(Option.some.inj h).symm⟩
theorem EW {M:List V}:∀ {l:List Int} {vs:List V},idxs M l=some vs→vs.length=l.length
 | [],vs,h=>by obtain rfl:=Option.some.inj h;rfl
 | i :: r,vs,h=>by obtain ⟨v,l,_,h2,rfl⟩:=CT h;simp [EW h2]
theorem EX {M:List V}:∀ {l:List Int} {vs:List V},idxs M l=some vs→∀ (j:Nat) i,l[j]? =some i→∃ v,vs[j]? =some v∧idx M i=some v
 | [],vs,_,j,i,h=>by simp at h
 | i0 :: r,vs,h,j,i,hj=>by
   obtain ⟨v,l,h1,h2,rfl⟩:=CT h
   match j with
   | 0=>simp at hj;subst hj;exact ⟨v,rfl,h1⟩
   | j+1=>exact EX h2 j i (by simpa using hj)
theorem CU {α:Type} (f:α→AV) (h:∀ x,(f x).cells=[f x]) (l:List α):flat (l.map f)=l.map f:=by
 induction l with
 | nil=>rfl
 | cons x r ih=>rw [List.map_cons,iJ,h,ih];rfl
theorem nJ.Qh (K:KB kb fs) {l:List Int} {vs:List V} (hl:idxs M l=some vs) (f:mr hp b (.arr 1 (l.map (pA bo)))∨mr hp b (.yM 1 (l.map (pA bo)))) (fp:mr hp bp (.cj (ju kb bo bs M))):nJ hp (.sl 1 b 0 l.length) (.list 1 (vs.map fun x=>.gg (fs x))):=by
 refine .Q1 fun w S x r at_=>?_
 have h0:At w (SB S hp) (.list 1 (l.map (pA bo))) x:=by
  have h1:nJ hp (.sl 1 b 0 l.length) (.list 1 (l.map (pA bo))):=by
   rcases f with f | f
   ·exact .arr 1 b _ _ f (by simp)
   ·exact .co (.yM 1 b _ _ f (by simp))
  exact h1.at r at_
 have hlen:=EW hl
 cases h0 with
 | list sz xs a cap ws lx Ot hh hm hc=>
   have e1:flat (l.map (pA bo))=l.map (pA bo):=CU _ (fun _=>rfl) l
   have e2:flat (vs.map fun x=>AV.gg (fs x))=vs.map fun x=>AV.gg (fs x):=CU _ (fun _=>rfl) vs
   rw [e1] at Ot hh
   have:(vs.map fun x=>AV.gg (fs x)).length=(l.map (pA bo)).length:=by simp [hlen]
   rw [← this] at hc ⊢
   refine .list 1 _ a cap ws (fun y hy=>?_) (by rw [e2,this];exact Ot) (fun j c v' Dh hv=>?_) hm hc
   ·obtain ⟨q,_,rfl⟩:=List.mem_map.1 hy
    exact ⟨rfl,fun c hc=>by simp only [AV.cells,List.mem_singleton] at hc;subst hc;rfl⟩
   ·rw [e2] at Dh
    have hj:j < l.length:=by
     have:=(List.getElem?_eq_some_iff.1 Dh).1
     simp [hlen] at this;exact this
    obtain ⟨y,hy,Y3⟩:=EX hl j l[j] (by simp [hj])
    rw [List.getElem?_map,hy] at Dh
    obtain rfl:=Option.some.inj Dh
    have ha:=hh j (pA bo l[j]) v' (by simp [hj]) hv
    have DB:At w S (pA bo l[j]) v':=by
     unfold pA at ha ⊢
     cases ha with
     | ptr _ _ n hb=>exact .ptr _ _ n hb
    exact (nJ.L9 K Y3 fp).at r DB
end view
theorem aj.EY {n:Nat} {tm:List (Nat×AV)} {hp de KZ:Heap} {T:St→Prop} {V:Type} {kb:Bk→(Nat→Bk)→V→List (Bk×PO)} {bo:Nat→Bk} {bs:Nat→Nat→Bk} {M:List V} {i:Int} {v:V} {bp:Bk} (h:idx M i=some v) (u:nA hp bp (.cj (ju kb bo bs M)) bp (.cj (Be kb bo bs M i)) de) (e:Bh (kb (bo i.toNat) (bs i.toNat) v) de=some KZ)
 (k:aj ⟨n,tm,KZ⟩ T):aj ⟨n,tm,hp⟩ T:=aj.L4 h u (by rw [wB e];exact k)
theorem aj.Hd {n:Nat} {tm:List (Nat×AV)} {hp yd h0:Heap} {de:(Nat→Nat→Bk)→Heap} {T:St→Prop} {V:Type} {kb:Bk→(Nat→Bk)→V→List (Bk×PO)} {bo:Nat→Bk} {bs:Nat→Nat→Bk} {M:List V} {i:Int} {v v':V} {bp:Bk} {s:Nat→Bk} (h:idx M i=some v) (hs:CA hp h0 yd) (ho:Bh (kb (bo i.toNat) s v') []=some h0) (u:∀ vk,nA yd bp (.cj (Be kb bo bs M i)) bp (.cj (ju kb bo vk (M.set i.toNat v'))) (de vk))
 (k:∀ vk,aj ⟨n,tm,de vk⟩ T):aj ⟨n,tm,hp⟩ T:=aj.Oj h rfl rfl hs (EV ho) u k
theorem aj.He {n:Nat} {tm:List (Nat×AV)} {hp yd h0:Heap} {de:(Nat→Bk)→(Nat→Nat→Bk)→Heap} {T:St→Prop} {V:Type} {kb:Bk→(Nat→Bk)→V→List (Bk×PO)} {bo:Nat→Bk} {bs:Nat→Nat→Bk} {M:List V} {v:V} {b bp:Bk} {s:Nat→Bk} (hs:CA hp h0 yd) (ho:Bh (kb b s v) []=some h0) (u:∀ ua vk,nA yd bp (.cj (ju kb bo bs M)) bp (.cj (ju kb ua vk (M++[v]))) (de ua vk))
 (k:∀ ua vk,(∀ j,j < M.length→ua j=bo j)→ua M.length=b→aj ⟨n,tm,de ua vk⟩ T):aj ⟨n,tm,hp⟩ T:=aj.Ol hs (EV ho) u k
theorem Qi {n:Nat} {a c:List Int} {u:Unit} (h:Ee n (a++c)=some u):Ee n a=some ():=by
 have:=yf h
 unfold Ee;rw [if_pos]
 exact fun x hx=>this x (List.mem_append_left _ hx)
theorem Qj {n:Nat} {a c:List Int} {u:Unit} (h:Ee n (a++c)=some u):Ee n c=some ():=by
 have:=yf h
 unfold Ee;rw [if_pos]
 exact fun x hx=>this x (List.mem_append_right _ hx)
theorem DC {bo:Nat→Bk} {N:Nat} {b:Bk} (h:bo N=b) (o:Nat):AV.ptr (bo ((N:Nat):Int).toNat) o=AV.ptr b o:=Oo h o
theorem JO {bo ua:Nat→Bk} {N:Nat} (h:∀ j,j < N→ua j=bo j) {l:List Int} {u:Unit} (hg:Ee N l=some u):Ob.arr 1 (l.map (pA bo))=Ob.arr 1 (l.map (pA ua)):=congrArg (Ob.arr 1) (L5 h hg)
theorem Qk {K:Type} {gk:K→AV} {bo ua:Nat→Bk} {N:Nat} (h:∀ j,j < N→ua j=bo j) {M:List (K×Int)} {u:Unit} (hg:Ee N (M.map Prod.snd)=some u):Ob.mp (M.map fun e=>(gk e.1,pA bo e.2))=Ob.mp (M.map fun e=>(gk e.1,pA ua e.2)):=congrArg Ob.mp (On h hg)
def Rg (l:List Bk) (k:Nat):Bk:=l.getD k ⟨none,0⟩
theorem aj.Ou {n s:Nat} {tm:List (Nat×AV)} {hp h0 yd:Heap} {T:St→Prop} {av bZ:AV} (hs:lk tm s=some av) (SO:CA hp h0 yd) (co:nJ h0 av bZ) (k:aj ⟨n,(s,bZ) :: tm,yd⟩ T):aj ⟨n,tm,hp⟩ T:=by
 refine aj.step (De:=⟨n,(s,bZ) :: tm,yd⟩) (fun w S a r=>?_) k
 obtain ⟨g0,e0⟩:=r.hp.same SO.perm
 let S':Nat→Prop:=SB S h0
 have mono:∀ m,S m→S' m∧w.heap[m]? =w.heap[m]?:=fun m hm=>⟨.inl hm,rfl⟩
 have xm:=g0.nodup
 have Ag:yd.Sublist (h0++yd):=List.sublist_append_right _ _
 have JP:h0.Sublist (h0++yd):=List.sublist_append_left _ _
 have yS:cG w S' yd:=by
  refine ⟨xm.sublist (zr Ag),fun e he=>(g0.holds e (Ag.subset he)).mono mono (fun _ _=>rfl),fun e he m hm=>?_,fun m hm=>?_,fun g o ho=>⟨.inl (r.hp.jt g o ho).1,(r.hp.jt g o ho).2⟩⟩
  ·rw [← g0.sep e (Ag.subset he) m hm]
   refine ⟨fun hs=>hs.elim id fun ⟨x,hx,JE⟩=>?_,.inl⟩
   exfalso
   rw [List.flatMap_append,List.nodup_append] at xm
   exact xm.2.2 m (List.mem_flatMap.2 ⟨x,hx,JE⟩) m (List.mem_flatMap.2 ⟨e,he,hm⟩) rfl
  ·rcases hm with h | ⟨x,hx,JE⟩
   ·exact r.hp.slt m h
   ·exact g0.lt ⟨x,JP.subset hx,JE⟩
 have hr:=r.heap mono yS
 refine ⟨_,S',rfl,⟨hr.size,hr.defers,fun t av h=>?_,hr.hp⟩,rfl,rfl,rfl,Nat.le_refl _,mono,fun m hm hh=>⟨rfl,fun hs=>hs.elim id fun ⟨x,hx,JE⟩=>(hh ⟨x,SO.perm.mem_iff.2 (JP.subset hx),JE⟩).elim⟩,fun m hm=>.inl ?_,fun _=>Nat.le_refl _⟩
 ·simp only [lk] at h
  split at h
  ·rename_i Y4
   obtain rfl:s=t:=by simpa using Y4
   obtain rfl:=Option.some.inj h
   obtain ⟨v,e1,e2⟩:=r.tm s _ hs
   exact ⟨v,e1,co.at (g0.sub JP) e2⟩
  ·exact hr.tm t av h
 ·obtain ⟨e,he,hb⟩:=hm
  exact ⟨e,SO.perm.mem_iff.2 (Ag.subset he),hb⟩
end Go.Eng
namespace Go.Eng
open Go Go.Sort Go.Proofs
variable [bA]
structure Hf (P:Program) (f:FuncId):Prop where
 some_:∀ (enc:Nat→Value) (_:OneCell enc) (cf:Nat→Nat→Int) (_:SWO (ltOf cf)) (g:Nat) (cb:Array Value) (cd off cap:Nat) (d:Array Nat) (w:World)
  (_:∀ args w,(callFunc g args).run P w=.ok (.enter g args) w) (_:CmpLays1 P g cb enc cf cd off d.size w) (_:Sort.Holds enc w cd off d) (_:cd < w.heap.size) (_:d.size < 4611686018427387904),
  Calls P f #[.slice (some ⟨cd,off,none⟩) d.size cap,.func (.func g) #[] cb] w fun e w'=>
   e=.returned (.tuple #[])∧∃ n os,w'=sortWorld enc w cd off n (pdq (ltOf cf) d 0 d.size (Lib.bitLen d.size) true true) os
 none_:∀ (p:Option Addr) (cap:Nat) (fv:Value) (w:World),Calls P f #[.slice p 0 cap,fv] w fun e w'=>e=.returned (.tuple #[])∧w'=w
theorem EZ {P:Program} {α:Type} {f:FuncId} (K:Hf P f) {gf:FuncId} [bq P gf] {g:α→AV} {C C':List AV} {Lb:Heap} {fn:α→α→Option Int}
 (Jx:∀ {x y:α} {u:Int},fn x y=some u→∃ a c,nJ Lb (g x) a∧nJ Lb (g y) c∧@Pu nk P gf (a :: c :: C') (I u)) (hC:sV Lb C C')
 (K7:∀ x,(g x).cells=[g x]) (AJ:∀ x,(g x).one=true) {Xs Ys:List α} {b:Bk} (h:A3 fn Xs=some Ys):
 aG P f [.sl 1 b 0 Xs.length,.func (.func gf) C] ((b,.arr 1 (Xs.map g)) :: Lb) (T0 ((b,.arr 1 (Ys.map g)) :: Lb) (.nI [])):=by
 intro w S vs r hl ha
 obtain ⟨v0,v1,rfl⟩:∃ v0 v1,vs=#[v0,v1]:=by
  match vs,hl with
  | ⟨[v0,v1]⟩,_=>exact ⟨v0,v1,rfl⟩
 have a0:=ha 0 _ v0 rfl rfl
 have a1:=ha 1 _ v1 rfl rfl
 obtain ⟨oa,cap,rfl,e2⟩:=a0.uy
 obtain ⟨cv,rfl,BV,SA⟩:=a1.xS
 match Xs,h with
 | [],h=>
   obtain rfl:=Option.some.inj h
   refine (K.none_ oa cap _ w).mono ?_
   rintro e w' ⟨rfl,rfl⟩
   exact ⟨_,.nI [],_,S,rfl,⟨rfl,rfl⟩,.nI [] #[] rfl (fun i c v hc=>by simp at hc),r,lz.refl _ _ _⟩
 | x :: xr,h=>
   rw [uD] at h
   by_cases hc:(xr.length+1 < 4611686018427387904∧(∀ a∈x :: xr,∀ b∈x :: xr,∃ u,fn a b=some u)∧SWO (ltOf (rP fn x xr)))
   ·rw [if_pos hc] at h
    obtain rfl:=Option.some.inj h
    obtain ⟨hlen,N6,hO⟩:=hc
    have rI:(b,Ob.arr 1 ((x :: xr).map g))∈(b,Ob.arr 1 ((x :: xr).map g)) :: Lb:=List.mem_cons_self ..
    obtain ⟨h0,h1,h2⟩:=r.holds _ rI
    replace h1:xr.length+1≤b.cap:=by simpa using h1
    rcases h2 with ⟨_,IZ⟩ | ⟨m,row,E,hb,AZ,lx,tJ⟩
    ·have P4:b.cap=0:=IZ
     omega
    rcases e2 with ⟨hn,_,_,_,_⟩ | ⟨m',B2,rfl,hle,SC⟩ | ⟨m',ad,_,_,NT,_⟩
    ·rw [hn] at hb;cases hb
    ·obtain rfl:m'=m:=by rw [B2] at hb;exact Option.some.inj hb
     have N7:m' < w.heap.size:=vo AZ
     have nS:¬ S m':=fun hs=>by have:=(r.sep _ rI m' (lY hb)).1 hs;exact this
     have nR:¬ Has Lb m':=fun ⟨e,he,tO⟩=>by
      have:=r.nodup
      rw [List.flatMap_cons,List.nodup_append] at this
      exact this.2.2 m' (lY hb) m' (List.mem_flatMap.2 ⟨e,he,tO⟩) rfl
     have rR:cG w S Lb:=r.sub (List.sublist_cons_self _ _)
     rw [y7 K7] at tJ
     have Se:xr.length+1≤row.size:=by rw [show row.size=b.cap from lx.trans (Nat.mul_one _)];exact h1
     let ix:Nat→Nat:=fun i=>if i < xr.length+1 then i else 0
     have SD:∀ i,ix i < xr.length+1:=fun i=>by simp only [ix];split<;>omega
     have N8:∀ i,(x :: xr)[ix i]? =some (tz x xr i):=by
      intro i
      simp only [ix,tz,List.getD_eq_getElem?_getD]
      split
      ·rename_i hi
       rw [List.getElem?_eq_getElem (by simpa using hi)];simp
      ·rename_i hi
       rw [List.getElem?_eq_none (l:=x :: xr) (i:=i) (by simp;omega)];simp
     let enc:Nat→Value:=fun i=>row[ix i]!
     have EO:∀ i,At w S (g (tz x xr i)) (enc i):=by
      intro i
      have hi:=SD i
      refine tJ (ix i) _ _ (by rw [List.getElem?_map,N8 i];rfl) ?_
      simp only [enc]
      rw [getElem!_pos row (ix i) (by omega),Array.getElem?_eq_getElem (by omega)]
     have N9:OneCell enc:=fun i=>(EO i).FW (AJ _)
     have Jy:Sort.Holds enc w m' 0 (Array.range (xr.length+1)):=by
      intro j hj
      rw [Array.size_range] at hj
      have LV:j < row.size:=by omega
      have e1:enc (Array.range (xr.length+1))[j]! =row[j]:=by
       rw [getElem!_pos _ _ (by simpa using hj),Array.getElem_range]
       simp only [enc,ix,if_pos hj]
       rw [getElem!_pos row j LV]
      rw [e1]
      constructor
      ·simp only [World.cell?,AZ,Nat.zero_add,Option.isSome_none,Bool.false_eq_true,if_false]
       rw [Array.getElem?_eq_getElem LV]
      ·simp [World.frozen?,AZ]
     have Ev:∀ (mm:Nat) (dk:Array Nat) (os:Array Obj) (n:Nat),n < w.heap.size→n≠m'→(sortWorld enc w m' 0 mm dk os).heap[n]? =w.heap[n]?:=fun mm dk os n hn mJ=>HW enc w m' 0 mm dk os hn mJ
     have Cs:∀ (mm:Nat) (dk:Array Nat) (os:Array Obj),w.heap.size≤(sortWorld enc w m' 0 mm dk os).heap.size:=fun mm dk os=>by unfold sortWorld;simp
     have O9:∀ (mm:Nat) (dk:Array Nat) (os:Array Obj) n,S n→S n∧(sortWorld enc w m' 0 mm dk os).heap[n]? =w.heap[n]?:=fun mm dk os n hs=>⟨hs,Ev mm dk os n (r.slt n hs) (fun e=>nS (e▸hs))⟩
     have Ql:∀ (mm:Nat) (dk:Array Nat) (os:Array Obj),cG (sortWorld enc w m' 0 mm dk os) S Lb:=fun mm dk os=>
      ⟨rR.nodup,fun e he=>(rR.holds e he).mono (O9 mm dk os) (fun n hn=>Ev mm dk os n (rR.lt ⟨e,he,hn⟩) (fun e'=>nR ⟨e,he,e'▸hn⟩)),rR.sep,fun n hn=>Nat.lt_of_lt_of_le (rR.slt n hn) (Cs mm dk os),fun g o ho=>⟨(r.jt g o ho).1,Cq (O9 mm dk os g (r.jt g o ho).1).2 (r.jt g o ho).2⟩⟩
     have Oa:CmpLays1 P gf cv enc (rP fn x xr) m' 0 (Array.range (xr.length+1)).size w:=by
      intro mm os dk YS i j
      obtain ⟨u,hu⟩:=N6 _ (jg x xr i) _ (jg x xr j)
      obtain ⟨a,c,ca,cc,hp⟩:=Jx hu
      have rr:=Ql mm dk os
      have Y5:(g (tz x xr i) :: g (tz x xr j) :: C).length=([enc i,enc j]++cv.toList).length:=by simp [‹C.length=cv.size›]
      have G8:lZ (sortWorld enc w m' 0 mm dk os) S (g (tz x xr i) :: g (tz x xr j) :: C) (([enc i,enc j]++cv.toList).toArray):=by
       intro q e v he hv
       match q with
       | 0=>simp at he hv;subst he;subst hv;exact (EO i).mono (O9 mm dk os)
       | 1=>simp at he hv;subst he;subst hv;exact (EO j).mono (O9 mm dk os)
       | q+2=>
         simp only [List.getElem?_cons_succ] at he
         have O6:cv[q]? =some v:=by simpa using hv
         exact (SA q e v he O6).mono (O9 mm dk os)
      obtain ⟨k1,k2⟩:=sV.at rr (.cons ca (.cons cc hC)) Y5 G8
      have e1:(#[enc i,enc j]++cv:Array Value)=([enc i,enc j]++cv.toList).toArray:=by simp
      rw [e1]
      refine (hp _ (SB S Lb) _ (@tU nk _ _ (fun n hn=>hn.elim (rr.slt n) fun h=>rr.lt h) (fun g o ho=>⟨.inl (rr.jt g o ho).1,(rr.jt g o ho).2⟩)) (by simpa using k1) k2).mono ?_
      rintro e w' ⟨v,rv,h',S',rfl,hq,h3,h4,h5⟩
      obtain rfl:=hq
      rw [h3.eB]
      refine ⟨?_,@Ext.grown nk _ _ trivial (@lz.Ey nk _ _ _ _ _ h5)⟩
      unfold rP
      rw [hu];rfl
     have LW:(Array.range (xr.length+1)).size=xr.length+1:=Array.size_range
     have EP:=K.some_ enc N9 (rP fn x xr) hO gf cv m' 0 cap (Array.range (xr.length+1)) w (fun args w=>rJ gf args w) Oa Jy N7 (by rw [LW];exact hlen)
     rw [LW] at EP
     simp only [Nat.zero_mul]
     refine EP.mono ?_
     rintro e w' ⟨rfl,q,os,rfl⟩
     have K9:=pdq_sorts (ltOf (rP fn x xr)) hO (Array.range (xr.length+1)) 0 (xr.length+1) (Lib.bitLen (xr.length+1)) true true (Nat.zero_le _) (by rw [LW];exact Nat.le_refl _) (Or.inl rfl)
     generalize Dx:pdq (ltOf (rP fn x xr)) (Array.range (xr.length+1)) 0 (xr.length+1) (Lib.bitLen (xr.length+1)) true true=d' at K9 ⊢
     have ER:d'.size=xr.length+1:=by rw [K9.1.1,LW]
     have hW:=O9 q d' os
     have P6:∀ y∈(d'.toList.map (tz x xr)).map g,El 1 y:=by
      intro y hy
      simp only [List.mem_map] at hy
      obtain ⟨z,⟨i,_,rfl⟩,rfl⟩:=hy
      exact h0 _ (List.mem_map.2 ⟨_,jg x xr i,rfl⟩)
     have hh:Go.Eng.Holds (sortWorld enc w m' 0 q d' os) S b (.arr 1 ((d'.toList.map (tz x xr)).map g)):=by
      refine ⟨P6,by simp [ER];omega,.inr ⟨m',_,E,hb,JB enc w m' q d' os AZ,by simp [putCells,lx],?_⟩⟩
      rw [y7 K7]
      intro j c v hc hv
      have Iz:j < xr.length+1:=by
       have:=(List.getElem?_eq_some_iff.1 hc).1
       simpa [ER] using this
      have LV:j < row.size:=by omega
      have SE:(d'.toList.map (tz x xr))[j]? =some (tz x xr d'[j]!):=by
       rw [List.getElem?_map,Array.getElem?_toList,Array.getElem?_eq_getElem (by omega),getElem!_pos d' j (by omega)];rfl
      rw [List.getElem?_map,SE] at hc
      obtain rfl:=Option.some.inj hc
      simp only [putCells,Array.getElem?_mapIdx,Array.getElem?_eq_getElem LV,Option.map_some,Option.some.injEq] at hv
      rw [if_pos ⟨Nat.zero_le _,by rw [ER];omega⟩,Nat.sub_zero] at hv
      rw [← hv]
      exact (EO _).mono hW
     have Jz:=Cs q d' os
     have rN:=Ql q d' os
     refine ⟨_,.nI [],_,S,rfl,⟨rfl,rfl⟩,.nI [] #[] rfl (fun i c v hc=>by simp at hc),⟨r.nodup,fun e he=>?_,fun e he n hn=>?_,fun n hn=>Nat.lt_of_lt_of_le (r.slt n hn) Jz,rN.jt⟩,?_⟩
     ·rcases List.mem_cons.1 he with rfl | he
      ·exact hh
      ·exact rN.holds e he
     ·rcases List.mem_cons.1 he with rfl | he
      ·replace hn:=(vm rfl).1 hn
       rw [hb] at hn
       obtain rfl:=Option.some.inj hn
       exact ⟨fun hs=>(nS hs).elim,fun hf=>hf.elim⟩
      ·exact rN.sep e he n hn
     ·refine ⟨rfl,rfl,rfl,Jz,hW,fun n hn SF=>⟨Ev q d' os n hn (fun e=>SF ⟨_,rI,by rw [e];exact lY hb⟩),id⟩,?_,?_⟩
      ·rintro n ⟨e,he,tO⟩
       rcases List.mem_cons.1 he with rfl | he
       ·exact .inl ⟨_,rI,tO⟩
       ·exact .inl ⟨e,List.mem_cons_of_mem _ he,tO⟩
      ·intro _
       show w.drawn≤w.drawn+q
       omega
    ·simp at NT
   ·rw [if_neg hc] at h;cases h
noncomputable def E0 {V:Type} (fn:V→V→Option Int) (M:List V) (l:List Int):Option (List Int):=
 A3 (fun i j=>(idx M i).bind fun x=>(idx M j).bind fun y=>fn x y) l
theorem zJ {P:Program} {V:Type} {f:FuncId} (K:Hf P f) {gf:FuncId} [bq P gf] {kb:Bk→(Nat→Bk)→V→List (Bk×PO)} {fs:V→List AV} (B:KB kb fs) {C:List AV} {fn:V→V→Option Int} (Jx:∀ {x y:V} {u:Int},fn x y=some u→@Pu nk P gf (.gg (fs x) :: .gg (fs y) :: C) (I u))
 {M:List V} {bo:Nat→Bk} {bs:Nat→Nat→Bk} {bp b:Bk} {l r:List Int} (h:E0 fn M l=some r):
 aG P f [.sl 1 b 0 l.length,.func (.func gf) C] [(b,.arr 1 (l.map (pA bo))),(bp,.cj (ju kb bo bs M))] (T0 [(b,.arr 1 (r.map (pA bo))),(bp,.cj (ju kb bo bs M))] (.nI [])):=by
 refine EZ K (g:=pA bo) (fn:=fun i j=>(idx M i).bind fun x=>(idx M j).bind fun y=>fn x y) (C':=C) ?_ (sV.refl C) (fun _=>rfl) (fun _=>rfl) h
 intro i j u hu
 cases hi:idx M i with
 | none=>rw [hi] at hu;cases hu
 | some x=>
   cases hj:idx M j with
   | none=>rw [hi,hj] at hu;cases hu
   | some y=>
     rw [hi,hj] at hu
     exact ⟨_,_,nJ.L9 B hi .here,nJ.L9 B hj .here,Jx hu⟩
theorem HZ {α:Type} {fn:α→α→Option Int} {Xs Ys:List α} (h:A3 fn Xs=some Ys):Ys.length=Xs.length:=by
 match Xs,h with
 | [],h=>obtain rfl:=Option.some.inj h;rfl
 | x :: xr,h=>
   rw [uD] at h
   by_cases hc:(xr.length+1 < 4611686018427387904∧(∀ a∈x :: xr,∀ b∈x :: xr,∃ u,fn a b=some u)∧SWO (ltOf (rP fn x xr)))
   ·rw [if_pos hc] at h
    obtain rfl:=Option.some.inj h
    have K9:=pdq_sorts (ltOf (rP fn x xr)) hc.2.2 (Array.range (xr.length+1)) 0 (xr.length+1) (Lib.bitLen (xr.length+1)) true true (Nat.zero_le _) (by rw [Array.size_range];exact Nat.le_refl _) (Or.inl rfl)
    have:=K9.1.1
    rw [Array.size_range] at this
    simp [this]
   ·rw [if_neg hc] at h;cases h
theorem wC {V:Type} {fn:V→V→Option Int} {M:List V} {l r:List Int} (h:E0 fn M l=some r):r.length=l.length:=HZ h
end Go.Eng
