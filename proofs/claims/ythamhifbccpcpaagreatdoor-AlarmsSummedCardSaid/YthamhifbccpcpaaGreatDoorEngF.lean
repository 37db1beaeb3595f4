/- The engine: abstract values, the symbolic heap, one rule for each operation. No program in sight. -/
import Derived.Test.YthamhifbccpcpaaGreatDoorEngE
import Derived.Shelf.SlSortCmp.NoneTotal
import Derived.Lib.Case
import Derived.Lib.Overlaps
import Derived.Lib.AppendZeros
set_option linter.unusedVariables false
set_option linter.unusedSectionVars false
namespace Go.Eng
open Go
variable [bF]
section rules
variable {P:Program} {all:Array Oper} {n:Nat} {B:Heap} {tk:List Tok} {dy:List Nat} {i:Nat} {rest:List Oper} {tm:List (Nat×AV)} {acc:(Nat→Bk)→List (Nat×AV)} {Q:(Nat→Bk)→List (Nat×AV)→Prop} {d:Nat} {ty:TypeId} {pos:String} {af:Array Edge} {op:Op}
end rules
end Go.Eng
namespace Go.Eng
open Go Go.Proofs Go.Shelf Go.Lib
variable {P:Program} [bF]
def E6 (P:Program) (f:FuncId) (T E:TypeId):Prop:=∀ (b n:Nat) (p:Value) (w:World),w.heap[b]? =some (.cells #[p,.slice none 0 0] T (0,0))→(p=.pointer none∨p=.pointer (some ⟨b,0,none⟩))→n≤281474976710656→
    Calls P f #[.pointer (some ⟨b,0,none⟩),.int .i64 n] w fun e w'=>e=.returned (.tuple #[])∧
     ∃ v',w'.heap[b]? =some (.cells #[.pointer (some ⟨b,0,none⟩),v'] T (0,0))∧w'.ownsRowF 0 E 1 v' 0 []∧(v'.ownBlock=none∨∃ m,v'.ownBlock=some m∧w.heap.size≤m)∧gD w w' b none
def K8 (n:Int):Option Unit:=if 0≤n∧n≤281474976710656 then some () else none
theorem K9 {f:FuncId} {T E:TypeId} (hd:¬ bF.dr) (hG:E6 P f T E) {b:Bk} {n:Int} {u:Unit} (h:K8 n=some u):
 aJ P f [.ptr b 0,I n] [(b,.qK T E none [])] (T1 (fun q':Bk=>[(b,.qK T E q'.bN [])]) (fun _=>.iV [])):=by
 obtain ⟨h0,h1⟩:0≤n∧n≤281474976710656:=by
  unfold K8 at h
  split at h
  ·assumption
  ·cases h
 intro w S vs r hlen ha
 match vs,hlen with
 | ⟨[u0,u1]⟩,_=>
   have hs:=(ha 1 _ _ rfl rfl).cO
   obtain ⟨m,hm,hu⟩:=(ha 0 _ _ rfl rfl).lK
   subst hs hu
   obtain ⟨k,p,v,g1,g2,g3,g4,g5⟩:=r.holds _ (List.mem_singleton.2 rfl)
   obtain rfl:k=m:=by rw [g1] at hm;exact Option.some.inj hm
   obtain rfl:v=.slice none 0 0:=by
    rcases g4.2 with ⟨hv,_⟩ | ⟨g,cap,cur,fz,hv,_⟩
    ·exact hv
    ·rw [hv] at g5;simp [Value.ownBlock] at g5
   have hn:((n.toNat:Nat):Int)=n:=Int.toNat_of_nonneg h0
   have hc:=hG k n.toNat p w g2 g3 (by omega)
   rw [hn] at hc
   refine hc.mono ?_
   rintro e w' ⟨rfl,v',k1,k2,k3,k4⟩
   have hh:Holds w' S b (.qK T E v'.ownBlock []):=⟨k,_,v',g1,k1,.inr rfl,k2,rfl⟩
   obtain ⟨r1,r2⟩:=H4 r .here k4.os k4.tape k4.output k4.size (fun hh=>absurd hh hd) (fun i h1 h2 h3=>k4.keep i h1 (fun e=>h2 (by rw [e];exact g1)) (by simp)) hh k3
   exact ⟨_,_,_,S,rfl,⟨⟨v'.ownBlock,0⟩,rfl,rfl⟩,.iV _ _ rfl (fun i c u hc hu=>by simp at hc),r1,r2⟩
end Go.Eng
namespace Go.Eng
open Go
variable [bF]
section rules
variable {P:Program} {all:Array Oper} {rest:List Oper} {n:Nat} {tm:List (Nat×AV)} {hp:Heap} {Q:List (Nat×AV)→Prop} {d1 d2 j s x:Nat} {t1 t2:TypeId} {p1 p2:String} {a1 a2:Array Edge} {a b:Bool}
end rules
section rules
variable {P:Program} {all:Array Oper} {rest:List Oper} {n:Nat} {tm:List (Nat×AV)} {hp:Heap} {Q:St→Prop} {d:Nat} {ty:TypeId} {pos:String} {af:Array Edge}
end rules
section rules
variable {P:Program} {all:Array Oper} {rest:List Oper} {n:Nat} {tm:List (Nat×AV)} {hp:Heap} {Q:St→Prop} {d:Nat} {ty:TypeId} {pos:String} {af:Array Edge}
end rules
section rules
variable {P:Program} {all:Array Oper} {rest:List Oper} {n:Nat} {tm:List (Nat×AV)} {hp:Heap} {Q:St→Prop} {d:Nat} {ty:TypeId} {pos:String} {af:Array Edge}
end rules
def U5:AV→Bool
 | .int _ _=>true
 | .bool _=>true
 | .str _=>true
 | _=>false
theorem Qt {w:World} {S:Nat→Prop} {a:AV} {v u:Value} (h:U5 a=true) (hv:At w S a v) (hu:At w S a u):v=u∧∀ n,Instr.sameBits n v v=true:=by
 cases a<;>simp only [U5,Bool.false_eq_true] at h
 ·rw [hv.cO,hu.cO];exact ⟨rfl,fun n=>by cases n<;>simp [Instr.sameBits]⟩
 ·rw [hv.me,hu.me];exact ⟨rfl,fun n=>by cases n<;>simp [Instr.sameBits]⟩
 ·rw [hv.ct,hu.ct]
  refine ⟨rfl,fun n=>?_⟩
  cases n<;>(simp only [Instr.sameBits];exact (GM _ _).2 rfl)
theorem xh {α:Type} (p:α×α→Bool):∀ (l:List α),(∀ x∈l,p (x,x)=true)→(l.zip l).all p=true
 | [],_=>rfl
 | x :: r,h=>by
   rw [List.zip_cons_cons,List.all_cons,h x List.mem_cons_self,xh p r (fun y hy=>h y (List.mem_cons_of_mem _ hy))];rfl
theorem NX {w:World} {S:Nat→Prop} {cs:List AV} {v u:Value} (h:∀ c∈cs,U5 c=true) (hv:At w S (.agg cs) v) (hu:At w S (.agg cs) u):Instr.sameBits 10000 v u=true:=by
 obtain ⟨vs,rfl,hl,ha⟩:=hv.nq
 obtain ⟨us,rfl,vI,Dp⟩:=hu.nq
 have key:∀ (i:Nat) (h1:i < vs.size) (h2:i < us.size),vs[i]=us[i]∧∀ n,Instr.sameBits n vs[i] vs[i]=true:=fun i h1 h2=>by
  have hc:cs[i]? =some (cs[i]'(by omega)):=by simp [show i < cs.length by omega]
  exact Qt (h _ (List.getElem_mem _)) (ha i _ _ hc (by simp [h1])) (Dp i _ _ hc (by simp [h2]))
 have heq:vs=us:=Array.ext (by omega) (fun i h1 h2=>(key i h1 h2).1)
 subst heq
 have g:∀ n:Nat,Instr.sameBits (n+1) (.agg vs) (.agg vs)=true:=fun n=>by
  simp only [Instr.sameBits,beq_self_eq_true,Bool.true_and]
  refine xh _ _ (fun x hx=>?_)
  obtain ⟨i,hi,rfl⟩:=List.getElem_of_mem hx
  simpa using (key i (by simpa using hi) (by simpa using hi)).2 n
 exact g 9999
def RQ (D:TypeDesc):Bool:=match D with
 | .int _=>true
 | .bool=>true
 | .string=>true
 | _=>false
theorem Tn {P:Program} {t:TypeId} {D:TypeDesc} (hu:P.underlying t=some D) (hD:RQ D=true) (b:Bool) (n:Nat) (v:Value) (w:World):(Instr.checkKey b (n+1) t v).run P w=.ok () w:=by
 cases D<;>simp only [RQ,Bool.false_eq_true] at hD<;>simp [Instr.checkKey,run_underlying hu]
theorem NY {P:Program} {t:TypeId} {D:TypeDesc} (hu:P.underlying t=some D) (hD:RQ D=true) {cs:Array Value} {off:Nat} {v:Value} (h:cs[off]? =some v) (w:World):(part t cs off).run P w=.ok v w:=by
 unfold part isAgg
 simp only [Sem.run_bind,run_underlying hu,Result.andThen_ok]
 cases D<;>simp_all [RQ]
theorem Cl {P:Program} (b:Bool) (n:Nat) (vs:Array Value) (w:World):∀ (fs:List Field),(∀ f∈fs,∃ D,P.underlying f.type=some D∧RQ D=true∧f.offset < vs.size)→(forIn fs PUnit.unit (fun f (_:PUnit)=>(if f.name≠"_" then do
 let x ← part f.type vs f.offset
 Instr.checkKey b (n+1) f.type x
 pure (ForInStep.yield PUnit.unit)
 else pure (ForInStep.yield PUnit.unit):Sem (ForInStep PUnit)))).run P w=.ok PUnit.unit w
 | [],_=>by simp
 | f :: fs,h=>by
   obtain ⟨D,h1,h2,h3⟩:=h f List.mem_cons_self
   have hp:∀ w1,(part f.type vs f.offset).run P w1=.ok vs[f.offset] w1:=NY h1 h2 (by simp [h3])
   have ih:=Cl b n vs w fs (fun g hg=>h g (List.mem_cons_of_mem _ hg))
   simp only [List.forIn_cons,Sem.run_bind]
   by_cases hn:f.name="_"
   ·simp only [hn,ne_eq,not_true_eq_false,if_false,Sem.run_pure,Result.andThen_ok]
    exact ih
   ·simp only [hn,ne_eq,not_false_eq_true,if_true,Sem.run_bind,hp,Result.andThen_ok,Tn h1 h2,Sem.run_pure]
    exact ih
theorem Pk {P:Program} {t:TypeId} {v:Value} {K:Type} [DecidableEq K] {k:K} {q:K→Value→Prop} (hq:∀ k' u,q k' u→∀ w,(Op.equal t v u).run P w=.ok (decide (k'=k)) w):∀ (es:List MapEntry) (ks:List K) (i:Nat) (w:World),ks.length=es.length→(∀ (i:Nat) k' e,ks[i]? =some k'→es[i]? =some e→q k' e.key)→(Instr.findAsking t v es i).run P w=.ok (uB k ks es i) w
 | [],[],i,w,_,_=>by simp [Instr.findAsking,uB]
 | [],k' :: ks,i,w,hl,_=>by simp at hl
 | e :: es,[],i,w,hl,_=>by simp at hl
 | e :: es,k' :: ks,i,w,hl,h=>by
   unfold Instr.findAsking uB
   rw [Sem.run_bind,hq k' e.key (h 0 k' e rfl rfl)]
   by_cases hk:k'=k
   ·simp [hk]
   ·simp only [hk,decide_false,Result.andThen_ok,Bool.false_eq_true,if_false]
    exact Pk hq es ks (i+1) w (by simpa using hl) (fun i k' e h1 h2=>h (i+1) k' e (by simpa using h1) (by simpa using h2))
theorem lH.struct {P:Program} {t:TypeId} {K:Type} [DecidableEq K] {g:K→AV} {dd:Nat} {fs:List Field} {n:Nat} [qQ P t dd g] (hk:Nat.ble dd 10000=true) (hu:P.underlying t=some (.struct fs.toArray))
 (hf:∀ f∈fs,∃ D,P.underlying f.type=some D∧RQ D=true∧f.offset < n) (hg:∀ x,∃ cs,g x=.agg cs∧cs.length=n∧∀ c∈cs,U5 c=true) (inj:∀ a b,g a=g b→a=b):lH P t g where
 inj:=inj
 check:=fun {w S k v} hv b w1=>by
  obtain ⟨cs,e,hl,hs⟩:=hg k
  rw [e] at hv
  obtain ⟨vs,rfl,vI,ha⟩:=hv.nq
  have key:∀ m:Nat,(Instr.checkKey b (m+1+1) t (.agg vs)).run P w1=.ok () w1:=fun m=>by
   have h1:=Cl (P:=P) b m vs w1 fs (fun f hm=>by obtain ⟨D,h1,h2,h3⟩:=hf f hm;exact ⟨D,h1,h2,by omega⟩)
   rw [Instr.checkKey]
   simp only [Sem.run_bind,run_underlying hu,Result.andThen_ok]
   rw [← Array.forIn_toList]
   simp only [h1,Result.andThen_ok,Sem.run_pure]
  exact key 9998
 find:=fun {w S k v} hv es ks hl Kq w1=>by
  obtain ⟨cs,e,hn,hs⟩:=hg k
  have NG:=hv
  rw [e] at NG
  obtain ⟨vs,rfl,vI,ha⟩:=NG.nq
  have hq:=Pk (P:=P) (t:=t) (v:=.agg vs) (k:=k) (q:=fun k' u=>At w S (g k') u) (fun k' u hu w2=>by
   have:=qQ.h (P:=P) (t:=t) (g:=g) k k' w S _ _ hv hu (10000 - dd) w2
   rw [Nat.sub_add_cancel (Nat.le_of_ble_eq_true hk)] at this
   rw [show decide (k'=k)=decide (k=k') by rw [Bool.eq_iff_iff];simp;exact eq_comm]
   exact this) es ks 0 w1 hl (fun i k' e h1 h2=>Kq i k' e h1 h2)
  unfold Instr.findKey
  rw [Sem.run_bind,run_underlying hu]
  simp only [Result.andThen_ok]
  cases es with
  | nil=>
    cases ks with
    | nil=>simp [Instr.findNow,uB]
    | cons _ _=>simp at hl
  | cons m es=>
    have:Instr.findNow (.struct fs.toArray) (.agg vs) (m :: es) 0=none:=by
     unfold Instr.findNow;simp [Instr.sameNow]
    rw [this];exact hq
 bits:=fun {w S k v u} h1 h2=>by
  obtain ⟨cs,e,hn,hs⟩:=hg k
  rw [e] at h1 h2
  exact NX hs h1 h2
section rules
variable {P:Program} {all:Array Oper} {rest:List Oper} {n:Nat} {tm:List (Nat×AV)} {hp:Heap} {Q:List (Nat×AV)→Prop} {d:Nat} {ty:TypeId} {pos:String} {af:Array Edge} {op:Op}
theorem AM.yd {f:FuncId} {x:Operand} {args:List Operand} {ts:Array TypeId} {oL l l':List AV} {R:AV} [bu P f] (hx:cG (Gl (looks all ⟨some d,.call {callee:=.value x,args:=args.toArray,argTypes:=ts},ty,pos,af,none⟩) tm) x=some (.func (.func f) oL)) (hl:x1 (Gl (looks all ⟨some d,.call {callee:=.value x,args:=args.toArray,argTypes:=ts},ty,pos,af,none⟩) tm) args=some l) (c:Pu P f l' R) (co:wT hp (l++oL) l') (hn:Nat.blt d n=true)
 (k:AM P all n hp rest ((d,R) :: tm) Q):AM P all n hp (⟨some d,.call {callee:=.value x,args:=args.toArray,argTypes:=ts},ty,pos,af,none⟩ :: rest) tm Q:=by
 refine AM.mv (fun w S a h1 h2 h3 h4 K Q' hK=>?_) hn k
 have r:=qI h1 h2 h3 h4
 obtain ⟨cv,e1,e2,e3⟩:=(bj r hx).um
 show Oper.upon P _ a K Q' _
 rw [qO a _ e1]
 obtain ⟨g1,g2⟩:=qN r hl
 obtain ⟨g3,g4⟩:=wT.at r.hp co (vs:=args.map a.eval++cv.toList) (by simp [g1,e2]) (sB g1 g2 (by simpa using e3))
 refine (c w S _ (qP h3.slt h3.fe) (by simpa using g3) g4).mono ?_
 rintro e w' ⟨v,rr,h',S',rfl,rfl,k3,k4,k5⟩
 exact hK v w' S' ⟨k5.B6,fun m hm=>(k5.keep m hm).1,fun m hm hs=>(k5.other m hm (fun ⟨x,hx,_⟩=>by simp at hx)).2 hs,k4.slt⟩ k3
end rules
section values
variable {P:Program} {n:Nat} {tm:List (Nat×AV)} {hp:Heap} {d:Nat} {ty:TypeId} {pos:String} {af:Array Edge}
end values
section rules
variable {P:Program} {n:Nat} {tm:List (Nat×AV)} {hp:Heap} {d:Nat} {ty:TypeId} {pos:String} {af:Array Edge}
end rules
section
variable {K E:Type}
end
section rules
variable {P:Program} {all:Array Oper} {rest:List Oper} {n:Nat} {tm:List (Nat×AV)} {hp:Heap} {Q:St→Prop} {d:Nat} {ty:TypeId} {pos:String} {af:Array Edge}
end rules
section
variable {P:Program} {R:St→Prop} {k:List It} {σ:St}
end
theorem J {α:Sort _} {a:α}:a=a:=rfl
section rules
variable {P:Program} {all:Array Oper} {n:Nat} {B:Heap} {tk:List Tok} {dy:List Nat} {i:Nat} {rest:List Oper} {tm:List (Nat×AV)} {acc:(Nat→Bk)→List (Nat×AV)} {Q:(Nat→Bk)→List (Nat×AV)→Prop} {d:Nat} {ty:TypeId} {pos:String} {af:Array Edge} {op:Op}
end rules
section
variable {P:Program} {o:Oper} {σ:St}
theorem QV.dT {p:Prop} [Decidable p] (hc:p) (h:QV P o σ (.bool (decide p))):QV P o σ (.bool true):=by rw [decide_eq_true hc] at h;exact h
theorem QV.dF {p:Prop} [Decidable p] (hc:¬ p) (h:QV P o σ (.bool (decide p))):QV P o σ (.bool false):=by rw [decide_eq_false hc] at h;exact h
end
section rules
variable {P:Program} {all:Array Oper} {n:Nat} {B:Heap} {tk:List Tok} {dy:List Nat} {i:Nat} {rest:List Oper} {tm:List (Nat×AV)} {acc:(Nat→Bk)→List (Nat×AV)} {Q:(Nat→Bk)→List (Nat×AV)→Prop} {d:Nat} {ty:TypeId} {pos:String} {af:Array Edge} {op:Op}
end rules
end Go.Eng
set_option linter.unusedSimpArgs false
namespace Go.Eng
open Go
variable [bF]
section rules
variable {P:Program} {all:Array Oper} {rest:List Oper} {n:Nat} {tm:List (Nat×AV)} {hp:Heap} {Q:St→Prop} {d:Nat} {ty:TypeId} {pos:String} {af:Array Edge}
end rules
theorem mT.Yn {h h':Heap} {b b':Bk} {o o':Ob} (u:mT h b o b' o' h') (b2:Bk) (o2:Ob):∃ h2,mT h b o b2 o2 h2∧mT h2 b2 o2 b' o' h':=by
 induction u with
 | here=>exact ⟨_,.here,.here⟩
 | next _ ih=>obtain ⟨h2,a,b⟩:=ih;exact ⟨_,.next a,.next b⟩
 | skip _ ih=>obtain ⟨h2,a,b⟩:=ih;exact ⟨_,.skip a,.skip b⟩
theorem Cm {w:World} {S:Nat→Prop} {hp cC:Heap} {bp:Bk} {es wU:List (Bk×PO)} (r:ck w S hp) (u:mT hp bp (.bU es) bp (.bU wU) cC) (h:es.Perm wU):ck w S cC∧iE w S hp w S cC:=by
 obtain ⟨p,q,rfl,rfl⟩:=u.split
 obtain ⟨Bu,gU⟩:bp.bN=none∧∀ e∈es,om w S e.1 e.2:=r.holds (bp,.bU es) (bd.2 (.inl rfl))
 have Av:∀ n,n∈eb (bp,.bU wU)↔n∈eb (bp,.bU es):=by
  intro n
  rw [vu,vu]
  constructor
  ·rintro (k | ⟨e,he,hn⟩)
   ·exact .inl k
   ·exact .inr ⟨e,h.mem_iff.2 he,hn⟩
  ·rintro (k | ⟨e,he,hn⟩)
   ·exact .inl k
   ·exact .inr ⟨e,h.mem_iff.1 he,hn⟩
 have e1:(eb (bp,.bU es)).Perm (eb (bp,.bU wU)):=by
  simp only [eb,Ob.more]
  exact List.Perm.append_left _ (h.filterMap _)
 have K3:∀ n,Has (p++(bp,.bU wU) :: q) n→Has (p++(bp,.bU es) :: q) n:=by
  rintro n ⟨e,he,hn⟩
  rcases bd.1 he with rfl | he
  ·exact ⟨_,bd.2 (.inl rfl),(Av n).1 hn⟩
  ·exact ⟨e,bd.2 (.inr he),hn⟩
 refine ⟨⟨?_,?_,?_,r.slt,r.fe⟩,⟨rfl,rfl,rfl,Nat.le_refl _,fun n hn=>⟨hn,rfl⟩,fun n _ _=>⟨rfl,id⟩,fun n hn=>.inl (K3 n hn),fun _=>Nat.le_refl _⟩⟩
 ·have:=r.nodup
  rw [List.flatMap_append,List.flatMap_cons] at this ⊢
  exact ((List.Perm.append_left _ (List.Perm.append_right _ e1)).nodup_iff).1 this
 ·intro e he
  rcases bd.1 he with rfl | he
  ·exact ⟨Bu,fun e he=>gU e (h.mem_iff.2 he)⟩
  ·exact r.holds e (bd.2 (.inr he))
 ·intro e he n hn
  rcases bd.1 he with rfl | he
  ·have:=r.sep (bp,.bU es) (bd.2 (.inl rfl)) n ((Av n).1 hn)
   exact ⟨fun h=>(this.1 h).elim,fun h=>h.elim⟩
  ·exact r.sep e (bd.2 (.inr he)) n hn
theorem ck.same {w:World} {S:Nat→Prop} {h h':Heap} (r:ck w S h) (hp:h.Perm h'):ck w S h'∧iE w S h w S h':=
 ⟨r.perm hp,rfl,rfl,rfl,Nat.le_refl _,fun n hn=>⟨hn,rfl⟩,fun n _ _=>⟨rfl,id⟩,fun n ⟨e,he,hn⟩=>.inl ⟨e,hp.mem_iff.2 he,hn⟩,fun _=>Nat.le_refl _⟩
def GV (xs:List (Bk×PO)):Heap:=xs.map fun e=>(e.1,e.2.ob)
theorem wD {w:World} {S:Nat→Prop} {bp:Bk} {wU:List (Bk×PO)}:∀ (xs es:List (Bk×PO)) {hp cC:Heap},ck w S hp→mT hp bp (.bU es) bp (.bU wU) cC→es.Perm (xs++wU)→ck w S (GV xs++cC)∧iE w S hp w S (GV xs++cC)
 | [],es,hp,cC,r,u,h=>Cm r u h
 | x :: xs,es,hp,cC,r,u,h=>by
   obtain ⟨h2,u1,u2⟩:=u.Yn bp (.bU (xs++wU))
   obtain ⟨r1,e1⟩:=Jc r u1 h
   obtain ⟨r2,e2⟩:=wD xs (xs++wU) r1 (.next u2) (List.Perm.refl _)
   obtain ⟨r3,e3⟩:=r2.same (h':=GV (x :: xs)++cC) List.perm_middle
   exact ⟨r3,(e1.trans e2).trans e3⟩
theorem ye {w:World} {S:Nat→Prop} {bp:Bk} {es:List (Bk×PO)}:∀ (xs wU:List (Bk×PO)) {xf cC:Heap},ck w S (GV xs++xf)→mT xf bp (.bU es) bp (.bU wU) cC→wU.Perm (xs++es)→ck w S cC∧iE w S (GV xs++xf) w S cC
 | [],wU,xf,cC,r,u,h=>Cm r u h.symm
 | x :: xs,wU,xf,cC,r,u,h=>by
   obtain ⟨h2,u1,u2⟩:=u.Yn bp (.bU (xs++es))
   obtain ⟨r0,e0⟩:=r.same (h':=GV xs++(x.1,x.2.ob) :: xf) List.perm_middle.symm
   obtain ⟨r1,e1⟩:=ye xs (xs++es) r0 (.next u1) (List.Perm.refl _)
   obtain ⟨r2,e2⟩:=K4 r1 .here u2 h
   exact ⟨r2,(e0.trans e1).trans e2⟩
section ara
variable {V:Type}
def qS (kb:Bk→(Nat→Bk)→V→List (Bk×PO)) (bo:Nat→Bk) (bs:Nat→Nat→Bk):Nat→List (Option V)→List (Bk×PO)
 | _,[]=>[]
 | i,some v :: r=>kb (bo i) (bs i) v++qS kb bo bs (i+1) r
 | i,none :: r=>qS kb bo bs (i+1) r
def gl (kb:Bk→(Nat→Bk)→V→List (Bk×PO)) (bo:Nat→Bk) (bs:Nat→Nat→Bk) (M:List V):List (Bk×PO):=qS kb bo bs 0 (M.map some)
def BJ (kb:Bk→(Nat→Bk)→V→List (Bk×PO)) (bo:Nat→Bk) (bs:Nat→Nat→Bk) (M:List V) (i:Int):List (Bk×PO):=qS kb bo bs 0 ((M.map some).set i.toNat none)
variable {kb:Bk→(Nat→Bk)→V→List (Bk×PO)} {bo sF:Nat→Bk} {bs sk:Nat→Nat→Bk}
theorem tp:∀ (l:List (Option V)) (i:Nat),(∀ j v,l[j]? =some (some v)→bo (i+j)=sF (i+j)∧bs (i+j)=sk (i+j))→qS kb bo bs i l=qS kb sF sk i l
 | [],_,_=>rfl
 | some v :: r,i,h=>by
   obtain ⟨h1,h2⟩:=h 0 v rfl
   show kb (bo i) (bs i) v++qS kb bo bs (i+1) r=kb (sF i) (sk i) v++qS kb sF sk (i+1) r
   rw [show bo i=sF i from h1,show bs i=sk i from h2,tp r (i+1) (fun j v hj=>by
    have:=h (j+1) v (by simpa using hj)
    rw [show i+1+j=i+(j+1) by omega];exact this)]
 | none :: r,i,h=>tp r (i+1) (fun j v hj=>by
  have:=h (j+1) v (by simpa using hj)
  rw [show i+1+j=i+(j+1) by omega];exact this)
theorem Ax:∀ (l:List (Option V)) (i j:Nat) (v:V),l[j]? =some none→(qS kb bo bs i (l.set j (some v))).Perm (kb (bo (i+j)) (bs (i+j)) v++qS kb bo bs i l)
 | [],_,_,_,h=>by simp at h
 | o :: r,i,0,v,h=>by
   obtain rfl:o=none:=by simpa using h
   exact List.Perm.refl _
 | some u :: r,i,j+1,v,h=>by
   have:=Ax r (i+1) j v (by simpa using h)
   rw [show i+1+j=i+(j+1) by omega] at this
   show (kb (bo i) (bs i) u++qS kb bo bs (i+1) (r.set j (some v))).Perm _
   refine (List.Perm.append_left _ this).trans ?_
   show (kb (bo i) (bs i) u++(kb (bo (i+(j+1))) (bs (i+(j+1))) v++qS kb bo bs (i+1) r)).Perm (kb (bo (i+(j+1))) (bs (i+(j+1))) v++(kb (bo i) (bs i) u++qS kb bo bs (i+1) r))
   rw [← List.append_assoc,← List.append_assoc]
   exact List.Perm.append_right _ List.perm_append_comm
 | none :: r,i,j+1,v,h=>by
   have:=Ax r (i+1) j v (by simpa using h)
   rw [show i+1+j=i+(j+1) by omega] at this
   exact this
theorem Ay:∀ (l m:List (Option V)) (i:Nat),qS kb bo bs i (l++m)=qS kb bo bs i l++qS kb bo bs (i+l.length) m
 | [],m,i=>rfl
 | some v :: r,m,i=>by
   show kb (bo i) (bs i) v++qS kb bo bs (i+1) (r++m)=(kb (bo i) (bs i) v++qS kb bo bs (i+1) r)++qS kb bo bs (i+(r.length+1)) m
   rw [Ay r m (i+1),List.append_assoc,show i+1+r.length=i+(r.length+1) by omega]
 | none :: r,m,i=>by
   show qS kb bo bs (i+1) (r++m)=qS kb bo bs (i+1) r++qS kb bo bs (i+(r.length+1)) m
   rw [Ay r m (i+1),show i+1+r.length=i+(r.length+1) by omega]
theorem Cn {M M':List V} {i:Int} {v v':V} {s:Nat→Bk} (h:idx M i=some v) (hM:M'=M.set i.toNat v') (hs:sk=fun j=>if j=i.toNat then s else bs j):(gl kb bo sk M').Perm (kb (bo i.toNat) s v'++BJ kb bo bs M i):=by
 obtain ⟨h0,h1,h2⟩:=cV h
 unfold gl BJ
 have hl:(M.map some)[i.toNat]? =some (some v):=by rw [List.getElem?_map,h2];rfl
 have iT:i.toNat < (M.map some).length:=(List.getElem?_eq_some_iff.1 hl).1
 have hn:((M.map some).set i.toNat none)[i.toNat]? =some none:=by rw [List.getElem?_set_self iT]
 have e1:M'.map some=((M.map some).set i.toNat none).set i.toNat (some v'):=by rw [hM,List.map_set,List.set_set]
 rw [e1]
 have:=Ax (kb:=kb) (bo:=bo) (bs:=sk) ((M.map some).set i.toNat none) 0 i.toNat v' hn
 rw [Nat.zero_add] at this
 refine this.trans ?_
 rw [show sk i.toNat=s by rw [hs];simp]
 refine List.Perm.append_left _ ?_
 rw [tp (sF:=bo) (sk:=bs) ((M.map some).set i.toNat none) 0 (fun j u hj=>by
  rw [Nat.zero_add]
  refine ⟨rfl,?_⟩
  have:j≠i.toNat:=fun e=>by rw [e,hn] at hj;simp at hj
  rw [hs];simp [this])]
theorem Cp {M:List V} {i:Int} {v:V} (h:idx M i=some v):(gl kb bo bs M).Perm (kb (bo i.toNat) (bs i.toNat) v++BJ kb bo bs M i):=
 Cn h (sE (cV h).2.2).symm (by funext j;split<;>simp_all)
theorem La {M:List V} {b:Bk} {s:Nat→Bk} {v:V} (h1:∀ j,j < M.length→sF j=bo j) (h2:sF M.length=b) (h3:∀ j,j < M.length→sk j=bs j) (h4:sk M.length=s):(gl kb sF sk (M++[v])).Perm (kb b s v++gl kb bo bs M):=by
 unfold gl
 rw [List.map_append,Ay,List.length_map,Nat.zero_add]
 have e1:qS kb sF sk M.length ([v].map some)=kb b s v:=by
  show kb (sF M.length) (sk M.length) v++[]=_
  rw [h2,h4,List.append_nil]
 rw [e1,tp (sF:=bo) (sk:=bs) (M.map some) 0 (fun j u hj=>by
  have:j < M.length:=by
   have:=(List.getElem?_eq_some_iff.1 hj).1
   simpa using this
  rw [Nat.zero_add]
  exact ⟨h1 j this,h3 j this⟩)]
 exact List.perm_append_comm
end ara
theorem ai.Dq {n:Nat} {tm:List (Nat×AV)} {hp:Heap} {T:St→Prop} {V:Type} {kb:Bk→(Nat→Bk)→V→List (Bk×PO)} (k:∀ (bp:Bk) (bo:Nat→Bk) (bs:Nat→Nat→Bk),ai ⟨n,tm,(bp,.bU (gl kb bo bs [])) :: hp⟩ T):ai ⟨n,tm,hp⟩ T:=by
 refine ai.step (Bv:=⟨n,tm,(⟨none,0⟩,.bU (gl kb (fun _=>⟨none,0⟩) (fun _ _=>⟨none,0⟩) [])) :: hp⟩) (fun w S a r=>?_) (k _ _ _)
 obtain ⟨g1,g2,g3⟩:=qn (b:=⟨none,0⟩) (o:=.bU []) r.hp (Ext.refl w) id ⟨rfl,by simp⟩ (.inl rfl)
 exact ⟨_,S,rfl,r.heap g3 g1,g2⟩
theorem ai.NZ {n:Nat} {tm:List (Nat×AV)} {hp cC:Heap} {T:St→Prop} {V:Type} {kb:Bk→(Nat→Bk)→V→List (Bk×PO)} {bo:Nat→Bk} {bs:Nat→Nat→Bk} {M:List V} {i:Int} {v:V} {bp:Bk} (h:idx M i=some v) (u:mT hp bp (.bU (gl kb bo bs M)) bp (.bU (BJ kb bo bs M i)) cC)
 (k:ai ⟨n,tm,GV (kb (bo i.toNat) (bs i.toNat) v)++cC⟩ T):ai ⟨n,tm,hp⟩ T:=by
 refine ai.step (fun w S a r=>?_) k
 obtain ⟨g1,g2⟩:=wD _ _ r.hp u (Cp h)
 exact ⟨_,S,rfl,r.heap (fun m hm=>⟨hm,rfl⟩) g1,g2⟩
theorem ai.Qu {n:Nat} {tm:List (Nat×AV)} {hp xf h0:Heap} {cC:(Nat→Nat→Bk)→Heap} {T:St→Prop} {V:Type} {kb:Bk→(Nat→Bk)→V→List (Bk×PO)} {bo:Nat→Bk} {bs:Nat→Nat→Bk} {M M':List V} {i:Int} {v v':V} {b0 bp:Bk} {s:Nat→Bk} (h:idx M i=some v) (hb:b0=bo i.toNat) (hM:M'=M.set i.toNat v') (hs:B8 hp h0 xf) (ho:h0=GV (kb b0 s v')) (u:∀ sk,mT xf bp (.bU (BJ kb bo bs M i)) bp (.bU (gl kb bo sk M')) (cC sk))
 (k:∀ sk,ai ⟨n,tm,cC sk⟩ T):ai ⟨n,tm,hp⟩ T:=by
 refine ai.step (Bv:=⟨n,tm,cC (fun j=>if j=i.toNat then s else bs j)⟩) (fun w S a r=>?_) (k _)
 obtain ⟨g0,e0⟩:=r.hp.same hs.perm
 rw [ho] at g0 e0
 obtain ⟨g1,g2⟩:=ye _ _ g0 (u (fun j=>if j=i.toNat then s else bs j)) (by rw [hb];exact Cn h hM rfl)
 exact ⟨_,S,rfl,r.heap (fun m hm=>⟨hm,rfl⟩) g1,e0.trans g2⟩
theorem ai.Qv {n:Nat} {tm:List (Nat×AV)} {hp xf h0:Heap} {cC:(Nat→Bk)→(Nat→Nat→Bk)→Heap} {T:St→Prop} {V:Type} {kb:Bk→(Nat→Bk)→V→List (Bk×PO)} {bo:Nat→Bk} {bs:Nat→Nat→Bk} {M:List V} {v:V} {b bp:Bk} {s:Nat→Bk} (hs:B8 hp h0 xf) (ho:h0=GV (kb b s v)) (u:∀ sF sk,mT xf bp (.bU (gl kb bo bs M)) bp (.bU (gl kb sF sk (M++[v]))) (cC sF sk))
 (k:∀ sF sk,(∀ j,j < M.length→sF j=bo j)→sF M.length=b→ai ⟨n,tm,cC sF sk⟩ T):ai ⟨n,tm,hp⟩ T:=by
 have c1:∀ j,j < M.length→(fun j=>if j=M.length then b else bo j) j=bo j:=fun j hj=>if_neg (by omega)
 have c2:(fun j=>if j=M.length then b else bo j) M.length=b:=if_pos rfl
 refine ai.step (Bv:=⟨n,tm,cC (fun j=>if j=M.length then b else bo j) (fun j=>if j=M.length then s else bs j)⟩) (fun w S a r=>?_) (k _ _ c1 c2)
 obtain ⟨g0,e0⟩:=r.hp.same hs.perm
 rw [ho] at g0 e0
 obtain ⟨g1,g2⟩:=ye _ _ g0 (u (fun j=>if j=M.length then b else bo j) (fun j=>if j=M.length then s else bs j)) (La c1 c2 (fun j hj=>if_neg (by omega)) (if_pos rfl))
 exact ⟨_,S,rfl,r.heap (fun m hm=>⟨hm,rfl⟩) g1,e0.trans g2⟩
theorem ai.N0 {n:Nat} {tm:List (Nat×AV)} {hp cC:Heap} {T:St→Prop} {b:Bk} {o o':Ob} (he:o=o') (u:mT hp b o b o' cC) (k:ai ⟨n,tm,cC⟩ T):ai ⟨n,tm,hp⟩ T:=by
 subst he
 rw [B9 u] at k
 exact k
def BK (n:Nat) (l:List Int):Option Unit:=if ∀ x∈l,0≤x∧x < n then some () else none
theorem xi {n:Nat} {l:List Int} {u:Unit} (h:BK n l=some u):∀ x∈l,0≤x∧x < n:=by
 unfold BK at h
 split at h
 ·assumption
 ·cases h
def pA (bo:Nat→Bk) (i:Int):AV:=.ptr (bo i.toNat) 0
theorem Pl {bo sF:Nat→Bk} {N:Nat} (h:∀ j,j < N→sF j=bo j) {i:Int} (hi:0≤i∧i < N):pA bo i=pA sF i:=by
 unfold pA;rw [h i.toNat (by omega)]
theorem N1 {bo sF:Nat→Bk} {N:Nat} (h:∀ j,j < N→sF j=bo j) {l:List Int} {u:Unit} (hg:BK N l=some u):l.map (pA bo)=l.map (pA sF):=
 List.map_congr_left fun x hx=>Pl h (xi hg x hx)
theorem Qw {K:Type} {gk:K→AV} {bo sF:Nat→Bk} {N:Nat} (h:∀ j,j < N→sF j=bo j) {M:List (K×Int)} {u:Unit} (hg:BK N (M.map Prod.snd)=some u):(M.map fun e=>(gk e.1,pA bo e.2))=M.map fun e=>(gk e.1,pA sF e.2):=
 List.map_congr_left fun e he=>by rw [Pl h (xi hg e.2 (List.mem_map.2 ⟨e,he,rfl⟩))]
theorem Qx {bo:Nat→Bk} {N:Nat} {b:Bk} (h:bo N=b) (o:Nat):AV.ptr (bo (N:Int).toNat) o=AV.ptr b o:=by
 rw [Int.toNat_natCast,h]
section rules
variable {P:Program} {all:Array Oper} {rest:List Oper} {n:Nat} {tm:List (Nat×AV)} {hp:Heap} {Q:St→Prop} {d:Nat} {ty:TypeId} {pos:String} {af:Array Edge}
theorem oZ {K:Type} [DecidableEq K] {gk:K→AV} {gv:Int→AV} {M:List (K×Int)} {key:K} {t kt vt:TypeId} {i:TypeInfo} {x y:Operand} {b:Bk} [aE P t (.map kt vt)] [aX P vt i] [lH P kt gk] (hx:cG tm x=some (.jO b)) (hy:cG tm y=some (gk key)) (f:mD hp b (.mp (M.map fun e=>(gk e.1,gv e.2)))) (hz:i.zero=some (.pointer none)) (h:eB M key=none):
 QV P ⟨some d,.lookup t x y false,ty,pos,af,none⟩ ⟨n,tm,hp⟩ (.raw (.pointer none)):=by
 intro w S a r
 have kx:=bj (σ:=⟨n,tm,hp⟩) r hx
 have ky:=bj (σ:=⟨n,tm,hp⟩) r hy
 obtain ⟨nb,hb,ex⟩:=kx.uC
 obtain ⟨L,c,M',HX,fy,p1,p2,p3,p4,p5,p6,p7,p8⟩:=zF (lH.inj P kt) r.hp f
 obtain rfl:HX=nb:=by rw [p4] at hb;exact Option.some.inj hb
 rw [← vp p1 p8] at h
 have xb:=lH.find (P:=P) (t:=kt) (g:=gk) ky fy.toList (M'.map Prod.fst) (by simpa using p6.symm) (fun j k' e h1 h2=>by
  rw [List.getElem?_map] at h1
  cases hm:M'[j]? with
  | none=>rw [hm] at h1;cases h1
  | some q=>rw [hm] at h1;rw [← Option.some.inj h1];exact (p7 j q e hm h2).1)
 rcases xa (gv:=gv) (w:=w) (S:=S) (k:=key) M' fy.toList 0 p6.symm (fun j e m h1 h2=>(p7 j e m h1 h2).2) with ⟨q1,q2⟩ | ⟨v',j,val,q1,q2,q3,_⟩
 ·refine ⟨.pointer none,fun w1 e1=>?_,.raw _⟩
  simp [execOp,Instr.lookup,ex,run_underlying (aE.h (P:=P) (t:=t)),kM (e1.heap p5),lH.check (P:=P) (t:=kt) ky,xb,q2,zeroValue,typeInfo,aX.h (P:=P) (t:=vt),hz]
 ·rw [q1] at h;cases h
theorem o0 {K:Type} [DecidableEq K] {gk:K→AV} {gv:Int→AV} {M:List (K×Int)} {key:K} {v:Int} {t kt vt:TypeId} {i:TypeInfo} {x y:Operand} {b:Bk} [aE P t (.map kt vt)] [aX P vt i] [lH P kt gk] (hx:cG tm x=some (.jO b)) (hy:cG tm y=some (gk key)) (f:mD hp b (.mp (M.map fun e=>(gk e.1,gv e.2)))) (h:eB M key=some v):
 QV P ⟨some d,.lookup t x y false,ty,pos,af,none⟩ ⟨n,tm,hp⟩ (gv v):=by
 intro w S a r
 have kx:=bj (σ:=⟨n,tm,hp⟩) r hx
 have ky:=bj (σ:=⟨n,tm,hp⟩) r hy
 obtain ⟨nb,hb,ex⟩:=kx.uC
 obtain ⟨L,c,M',HX,fy,p1,p2,p3,p4,p5,p6,p7,p8⟩:=zF (lH.inj P kt) r.hp f
 obtain rfl:HX=nb:=by rw [p4] at hb;exact Option.some.inj hb
 rw [← vp p1 p8] at h
 have xb:=lH.find (P:=P) (t:=kt) (g:=gk) ky fy.toList (M'.map Prod.fst) (by simpa using p6.symm) (fun j k' e h1 h2=>by
  rw [List.getElem?_map] at h1
  cases hm:M'[j]? with
  | none=>rw [hm] at h1;cases h1
  | some q=>rw [hm] at h1;rw [← Option.some.inj h1];exact (p7 j q e hm h2).1)
 rcases xa (gv:=gv) (w:=w) (S:=S) (k:=key) M' fy.toList 0 p6.symm (fun j e m h1 h2=>(p7 j e m h1 h2).2) with ⟨q1,q2⟩ | ⟨v',j,val,q1,q2,q3,_⟩
 ·rw [q1] at h;cases h
 ·rw [q1] at h
  obtain rfl:=Option.some.inj h
  refine ⟨val,fun w1 e1=>?_,q3⟩
  simp [execOp,Instr.lookup,ex,run_underlying (aE.h (P:=P) (t:=t)),kM (e1.heap p5),lH.check (P:=P) (t:=kt) ky,xb,q2]
end rules
section todo
variable {P:Program} {R:St→Prop} {k:List It} {σ:St}
theorem cD {α:Type} {c:Operand} {x y:Code} {p:Prop} [Decidable p] {a b z:α} (h:(if p then a else b)=z) (hc:cG σ.tm c=some (.bool (decide p))) (h1:a=z→aa P R (.code x :: k) σ) (h2:b=z→aa P R (.code y :: k) σ):aa P R (.code (.cond c x y) :: k) σ:=
 aa.PY hc (fun hp=>h1 (uy hp h)) (fun hp=>h2 (EI hp h))
theorem cB {α:Type} {c:Operand} {x y:Code} {p:Bool} {a b z:α} (h:(if p=true then a else b)=z) (hc:cG σ.tm c=some (.bool p)) (h1:a=z→aa P R (.code x :: k) σ) (h2:b=z→aa P R (.code y :: k) σ):aa P R (.code (.cond c x y) :: k) σ:=
 aa.cond hc (fun hp=>h1 (uy hp h)) (fun hp=>h2 (w5 hp h))
end todo
section rules
variable {P:Program} {all:Array Oper} {rest:List Oper} {n:Nat} {tm:List (Nat×AV)} {hp:Heap} {Q:St→Prop} {d:Nat} {ty:TypeId} {pos:String} {af:Array Edge} {op:Op} {s:Nat} {j:Nat}
theorem gT {α:Type} {p:Prop} [Decidable p] {a b z:α} (h:(if p then a else b)=z) (hj:(all[j]?).bind (·.dst)=some s) (hs:lk tm s=some (.bool (decide p))) (hn:Nat.blt d n=true) (h1:a=z→ae P all (⟨some d,op,ty,pos,af,none⟩ :: rest) ⟨n,(s,.bool true) :: tm,hp⟩ Q)
 (h2:b=z→ae P all rest ⟨n,(d,.raw undef) :: (s,.bool false) :: tm,hp⟩ Q):ae P all (⟨some d,op,ty,pos,af,some (j,true)⟩ :: rest) ⟨n,tm,hp⟩ Q:=
 ae.bW hj hs hn (fun hp=>h1 (uy hp h)) (fun hp=>h2 (EI hp h))
theorem gF {α:Type} {p:Prop} [Decidable p] {a b z:α} (h:(if p then a else b)=z) (hj:(all[j]?).bind (·.dst)=some s) (hs:lk tm s=some (.bool (decide p))) (hn:Nat.blt d n=true) (h1:b=z→ae P all (⟨some d,op,ty,pos,af,none⟩ :: rest) ⟨n,(s,.bool false) :: tm,hp⟩ Q)
 (h2:a=z→ae P all rest ⟨n,(d,.raw undef) :: (s,.bool true) :: tm,hp⟩ Q):ae P all (⟨some d,op,ty,pos,af,some (j,false)⟩ :: rest) ⟨n,tm,hp⟩ Q:=
 ae.gg hj hs hn (fun hp=>h1 (EI hp h)) (fun hp=>h2 (uy hp h))
end rules
theorem hP {P:Program} {σ:St} {s:Nat} {av:AV} {Q:List AV→St→Prop} (h1:lk σ.tm s=some av) (h2:Q [av] σ):ai σ (fun aG=>∃ rs,Rs P aG [.tmp s] rs∧Q rs aG):=ai.here ⟨[av],.cons (.tmp _ _ h1) .nil,h2⟩
theorem cR {hp:Heap} {l:List AV}:wT hp l l:=wT.refl _
theorem hH {P:Program} {σ:St} {s:Nat} {av:AV} {Q:List AV→Heap→Prop} {cC:Heap} (h1:lk σ.tm s=some av) (is:List Nat) (hs:As σ.hp is=some cC) (h2:Q [av] cC):ai σ (fun aG=>∃ rs,Rs P aG [.tmp s] rs∧(∃ h',HS aG.hp h'∧Q rs h')):=ai.here ⟨[av],.cons (.tmp _ _ h1) .nil,cC,xe hs,h2⟩
theorem hQ {P:Program} {σ:St} {s t:Nat} {av aw:AV} {Q:List AV→St→Prop} (h1:lk σ.tm s=some av) (Hw:lk σ.tm t=some aw) (h2:Q [av,aw] σ):ai σ (fun aG=>∃ rs,Rs P aG [.tmp s,.tmp t] rs∧Q rs aG):=ai.here ⟨[av,aw],.cons (.tmp _ _ h1) (.cons (.tmp _ _ Hw) .nil),h2⟩
theorem hI {P:Program} {σ:St} {s t:Nat} {av aw:AV} {Q:List AV→Heap→Prop} {cC:Heap} (h1:lk σ.tm s=some av) (Hw:lk σ.tm t=some aw) (is:List Nat) (hs:As σ.hp is=some cC) (h2:Q [av,aw] cC):ai σ (fun aG=>∃ rs,Rs P aG [.tmp s,.tmp t] rs∧(∃ h',HS aG.hp h'∧Q rs h')):=ai.here ⟨[av,aw],.cons (.tmp _ _ h1) (.cons (.tmp _ _ Hw) .nil),cC,xe hs,h2⟩
end Go.Eng
namespace Go.Eng
open Go
section
variable {K V:Type} [DecidableEq K] [wB K]
end
end Go.Eng
namespace Go.Eng
open Go
variable [bF]
section rules
variable {P:Program} {all:Array Oper} {n:Nat} {B:Heap} {tk:List Tok} {dy:List Nat} {i:Nat} {rest:List Oper} {tm pP:List (Nat×AV)} {acc:(Nat→Bk)→List (Nat×AV)} {Q:(Nat→Bk)→List (Nat×AV)→Prop} {d:Nat} {ty:TypeId} {pos:String} {af:Array Edge} {op:Op}
end rules
section
variable {P:Program} {R:St→Prop} {k:List It} {σ:St}
end
inductive CD:Type 1 where
 | v (a:AV)
 | l {α:Type} (sz:Nat) (g:α→AV) (xs:List α)
def Lb (s:Nat→Bk):Nat→List CD→List AV
 | _,[]=>[]
 | k,.v a :: r=>a :: Lb s k r
 | k,.l sz _ xs :: r=>.sl sz (s k) 0 xs.length :: Lb s (k+1) r
def Qy (s:Nat→Bk):Nat→List CD→List (Bk×PO)
 | _,[]=>[]
 | k,.v _ :: r=>Qy s k r
 | k,.l sz g xs :: r=>(s k,.arr sz (xs.map g)) :: Qy s (k+1) r
def N2:List CD→List AV
 | []=>[]
 | .v a :: r=>a :: N2 r
 | .l sz g xs :: r=>.list sz (xs.map g) :: N2 r
theorem GW (s:Nat→Bk):∀ (k:Nat) (D:List CD),(Lb s k D).length=(N2 D).length
 | _,[]=>rfl
 | k,.v a :: r=>congrArg (· +1) (GW s k r)
 | k,.l sz g xs :: r=>congrArg (· +1) (GW s (k+1) r)
structure KB {V:Type} (kb:Bk→(Nat→Bk)→V→List (Bk×PO)) (fs:V→List AV):Prop where
 ok:∃ D:V→List CD,(∀ b s v,kb b s v=(b,.cells (Lb s 0 (D v))) :: Qy s 0 (D v))∧∀ v,fs v=N2 (D v)
theorem wE {b:Bk} {o:Ob}:∀ {h:Heap},(b,o)∈h→mD h b o
 | [],h=>by simp at h
 | e :: r,h=>by
   rcases List.mem_cons.1 h with rfl | h
   ·exact .here
   ·exact .next (wE h)
theorem GX {s:Nat→Bk} {hp:Heap}:∀ (D:List CD) (k:Nat),(∀ e∈Qy s k D,mD hp e.1 e.2.ob)→∀ (i:Nat) c c',(Lb s k D)[i]? =some c→(N2 D)[i]? =some c'→oq hp c c'
 | [],_,_,i,c,c',h,_=>by simp [Lb] at h
 | .v a :: r,k,hf,i,c,c',h,h'=>by
   match i with
   | 0=>
     simp only [Lb,N2,List.getElem?_cons_zero,Option.some.injEq] at h h'
     subst h;subst h';exact .co (.refl _)
   | i+1=>exact GX r k (fun e he=>hf e (by simpa [Qy] using he)) i c c' (by simpa [Lb] using h) (by simpa [N2] using h')
 | .l sz g xs :: r,k,hf,i,c,c',h,h'=>by
   match i with
   | 0=>
     simp only [Lb,N2,List.getElem?_cons_zero,Option.some.injEq] at h h'
     subst h;subst h'
     exact .arr sz (s k) _ _ (hf (s k,.arr sz (xs.map g)) (by simp [Qy])) (by simp)
   | i+1=>exact GX r (k+1) (fun e he=>hf e (by simp only [Qy,List.mem_cons];exact .inr he)) i c c' (by simpa [Lb] using h) (by simpa [N2] using h')
theorem N3 {e:Bk×PO} {l:List (Bk×PO)} (h:e∈l):(e.1,e.2.ob)∈GV l:=List.mem_map.2 ⟨e,h,rfl⟩
theorem KB.cob {V:Type} {kb:Bk→(Nat→Bk)→V→List (Bk×PO)} {fs:V→List AV} (K:KB kb fs) (b:Bk) (s:Nat→Bk) (v:V) (cC:Heap):oq (GV (kb b s v)++cC) (.ptr b 0) (.eo (fs v)):=by
 obtain ⟨D,h1,h2⟩:=K.ok
 rw [h2]
 refine .box b (Lb s 0 (D v)) _ (wE (List.mem_append_left _ ?_)) (GW s 0 (D v)).symm (GX (D v) 0 fun e he=>wE (List.mem_append_left _ (N3 ?_)))
 ·rw [h1];exact List.mem_cons_self ..
 ·rw [h1];exact List.mem_cons_of_mem _ he
def BL:List (Bk×PO)→Heap→Option Heap
 | [],r=>some r
 | (b,.cells cs) :: l,r=>match BL l r with
   | some m=>some ((b,.cells cs) :: m)
   | none=>none
 | (b,.arr sz xs) :: l,r=>match BL l r with
   | some m=>some ((b,.arr sz xs) :: m)
   | none=>none
theorem xj:∀ {l:List (Bk×PO)} {r m:Heap},BL l r=some m→GV l++r=m
 | [],r,m,h=>Option.some.inj h
 | (b,.cells cs) :: l,r,m,h=>by
   unfold BL at h
   split at h
   ·rename_i m' hm
    obtain rfl:=Option.some.inj h
    rw [← xj hm];rfl
   ·cases h
 | (b,.arr sz xs) :: l,r,m,h=>by
   unfold BL at h
   split at h
   ·rename_i m' hm
    obtain rfl:=Option.some.inj h
    rw [← xj hm];rfl
   ·cases h
theorem E7 {l:List (Bk×PO)} {m:Heap} (h:BL l []=some m):m=GV l:=by rw [← xj h,List.append_nil]
section view
variable {V:Type} {kb:Bk→(Nat→Bk)→V→List (Bk×PO)} {fs:V→List AV} {bo:Nat→Bk} {bs:Nat→Nat→Bk} {M:List V} {i:Int} {v:V} {hp cC O1:Heap} {b bp:Bk}
theorem E8 {w:World} {S:Nat→Prop} (r:ck w S hp) (h:idx M i=some v) (u:mT hp bp (.bU (gl kb bo bs M)) bp (.bU (BJ kb bo bs M i)) cC):ck w S (GV (kb (bo i.toNat) (bs i.toNat) v)++cC)∧∀ n,Has (GV (kb (bo i.toNat) (bs i.toNat) v)++cC) n→Has hp n:=by
 obtain ⟨r1,e1⟩:=wD _ _ r u (Cp h)
 refine ⟨r1,fun n hn=>?_⟩
 rcases e1.new n hn with h | h
 ·exact h
 ·have:=r1.lt hn;omega
theorem QV.ara {P:Program} {o:Oper} {n:Nat} {tm:List (Nat×AV)} {av:AV} (h:idx M i=some v) (u:mT hp bp (.bU (gl kb bo bs M)) bp (.bU (BJ kb bo bs M i)) cC) (e:BL (kb (bo i.toNat) (bs i.toNat) v) cC=some O1) (q:QV P o ⟨n,tm,O1⟩ av):QV P o ⟨n,tm,hp⟩ av:=by
 intro w S a r
 have:=xj e
 subst this
 exact q w S a ⟨r.size,r.defers,r.tm,(E8 r.hp h u).1⟩
theorem N4 {o:Ob} {hp:Heap} (f:mD hp b o) (o':Ob):∃ cC,mT hp b o b o' cC:=by
 induction f with
 | here=>exact ⟨_,.here⟩
 | next _ ih=>obtain ⟨h,u⟩:=ih;exact ⟨_,.next u⟩
 | skip _ ih=>obtain ⟨h,u⟩:=ih;exact ⟨_,.skip u⟩
theorem oq.N5 (K:KB kb fs) (h:idx M i=some v) (f:mD hp bp (.bU (gl kb bo bs M))):oq hp (pA bo i) (.eo (fs v)):=by
 obtain ⟨cC,u⟩:=N4 f (.bU (BJ kb bo bs M i))
 refine .Mz fun w S x r at_=>?_
 obtain ⟨r1,r2⟩:=E8 r h u
 exact ((K.cob (bo i.toNat) (bs i.toNat) v cC).at r1 at_).mono fun m hm=>⟨hm.imp id (r2 m),rfl⟩
theorem oq.Tp (K:KB kb fs) (h:idx M i=some v) (f:mD hp bp (.bU (gl kb bo bs M))):oq hp (.ptr (bo i.toNat) 0) (.eo (fs v)):=oq.N5 K h f
def idxs (M:List V):List Int→Option (List V)
 | []=>some []
 | i :: r=>(idx M i).bind fun v=>(idxs M r).bind fun l=>some (v :: l)
theorem Cq {M:List V} {i:Int} {r:List Int} {vs:List V} (h:idxs M (i :: r)=some vs):∃ v l,idx M i=some v∧idxs M r=some l∧vs=v :: l:=by
 unfold idxs at h
 cases h1:idx M i with
 | none=>rw [h1] at h;cases h
 | some v=>
   rw [h1] at h
   cases h2:idxs M r with
   | none=>rw [h2] at h;cases h
   | some l=>rw [h2] at h;exact ⟨v,l,rfl,rfl,(Option.some.inj h).symm⟩
theorem E9 {M:List V}:∀ {l:List Int} {vs:List V},idxs M l=some vs→vs.length=l.length
 | [],vs,h=>by obtain rfl:=Option.some.inj h;rfl
 | i :: r,vs,h=>by obtain ⟨v,l,_,h2,rfl⟩:=Cq h;simp [E9 h2]
theorem Fa {M:List V}:∀ {l:List Int} {vs:List V},idxs M l=some vs→∀ (j:Nat) i,l[j]? =some i→∃ v,vs[j]? =some v∧idx M i=some v
 | [],vs,_,j,i,h=>by simp at h
 | i0 :: r,vs,h,j,i,hj=>by
   obtain ⟨v,l,h1,h2,rfl⟩:=Cq h
   match j with
   | 0=>simp at hj;subst hj;exact ⟨v,rfl,h1⟩
   | j+1=>exact Fa h2 j i (by simpa using hj)
theorem Cr {α:Type} (f:α→AV) (h:∀ x,(f x).cells=[f x]) (l:List α):flat (l.map f)=l.map f:=by
 induction l with
 | nil=>rfl
 | cons x r ih=>rw [List.map_cons,gH,h,ih];rfl
theorem oq.Qz (K:KB kb fs) {l:List Int} {vs:List V} (hl:idxs M l=some vs) (f:mD hp b (.arr 1 (l.map (pA bo)))∨mD hp b (.zy 1 (l.map (pA bo)))) (fp:mD hp bp (.bU (gl kb bo bs M))):oq hp (.sl 1 b 0 l.length) (.list 1 (vs.map fun x=>.eo (fs x))):=by
 refine .Mz fun w S x r at_=>?_
 have h0:At w (SB S hp) (.list 1 (l.map (pA bo))) x:=by
  have h1:oq hp (.sl 1 b 0 l.length) (.list 1 (l.map (pA bo))):=by
   rcases f with f | f
   ·exact .arr 1 b _ _ f (by simp)
   ·exact .co (.zy 1 b _ _ f (by simp))
  exact h1.at r at_
 have hlen:=E9 hl
 cases h0 with
 | list sz xs a cap ws gG RR hh hm hc=>
   have e1:flat (l.map (pA bo))=l.map (pA bo):=Cr _ (fun _=>rfl) l
   have e2:flat (vs.map fun x=>AV.eo (fs x))=vs.map fun x=>AV.eo (fs x):=Cr _ (fun _=>rfl) vs
   rw [e1] at RR hh
   have:(vs.map fun x=>AV.eo (fs x)).length=(l.map (pA bo)).length:=by simp [hlen]
   rw [← this] at hc ⊢
   refine .list 1 _ a cap ws (fun y hy=>?_) (by rw [e2,this];exact RR) (fun j c v' HB hv=>?_) hm hc
   ·obtain ⟨q,_,rfl⟩:=List.mem_map.1 hy
    exact ⟨rfl,fun c hc=>by simp only [AV.cells,List.mem_singleton] at hc;subst hc;rfl⟩
   ·rw [e2] at HB
    have hj:j < l.length:=by
     have:=(List.getElem?_eq_some_iff.1 HB).1
     simp [hlen] at this;exact this
    obtain ⟨y,hy,hyi⟩:=Fa hl j l[j] (by simp [hj])
    rw [List.getElem?_map,hy] at HB
    obtain rfl:=Option.some.inj HB
    have ha:=hh j (pA bo l[j]) v' (by simp [hj]) hv
    have Dp:At w S (pA bo l[j]) v':=by
     unfold pA at ha ⊢
     cases ha with
     | ptr _ _ n hb=>exact .ptr _ _ n hb
    exact (oq.N5 K hyi fp).at r Dp
end view
theorem ai.mU {n:Nat} {tm:List (Nat×AV)} {hp cC O1:Heap} {T:St→Prop} {V:Type} {kb:Bk→(Nat→Bk)→V→List (Bk×PO)} {bo:Nat→Bk} {bs:Nat→Nat→Bk} {M:List V} {i:Int} {v:V} {bp:Bk} (h:idx M i=some v) (u:mT hp bp (.bU (gl kb bo bs M)) bp (.bU (BJ kb bo bs M i)) cC) (e:BL (kb (bo i.toNat) (bs i.toNat) v) cC=some O1)
 (k:ai ⟨n,tm,O1⟩ T):ai ⟨n,tm,hp⟩ T:=ai.NZ h u (by rw [xj e];exact k)
theorem ai.pg {n:Nat} {tm:List (Nat×AV)} {hp xf h0:Heap} {cC:(Nat→Nat→Bk)→Heap} {T:St→Prop} {V:Type} {kb:Bk→(Nat→Bk)→V→List (Bk×PO)} {bo:Nat→Bk} {bs:Nat→Nat→Bk} {M:List V} {i:Int} {v v':V} {bp:Bk} {s:Nat→Bk} (h:idx M i=some v) (hs:B8 hp h0 xf) (ho:BL (kb (bo i.toNat) s v') []=some h0) (u:∀ sk,mT xf bp (.bU (BJ kb bo bs M i)) bp (.bU (gl kb bo sk (M.set i.toNat v'))) (cC sk))
 (k:∀ sk,ai ⟨n,tm,cC sk⟩ T):ai ⟨n,tm,hp⟩ T:=ai.Qu h rfl rfl hs (E7 ho) u k
theorem ai.Dr {n:Nat} {tm:List (Nat×AV)} {hp xf h0:Heap} {cC:(Nat→Bk)→(Nat→Nat→Bk)→Heap} {T:St→Prop} {V:Type} {kb:Bk→(Nat→Bk)→V→List (Bk×PO)} {bo:Nat→Bk} {bs:Nat→Nat→Bk} {M:List V} {v:V} {b bp:Bk} {s:Nat→Bk} (hs:B8 hp h0 xf) (ho:BL (kb b s v) []=some h0) (u:∀ sF sk,mT xf bp (.bU (gl kb bo bs M)) bp (.bU (gl kb sF sk (M++[v]))) (cC sF sk))
 (k:∀ sF sk,(∀ j,j < M.length→sF j=bo j)→sF M.length=b→ai ⟨n,tm,cC sF sk⟩ T):ai ⟨n,tm,hp⟩ T:=ai.Qv hs (E7 ho) u k
theorem H6 {α:Type} (M:List α) (v:α):idx (M++[v]) (M.length:Int)=some v:=by
 unfold idx
 rw [if_pos (Int.natCast_nonneg _),Int.toNat_natCast,List.getElem?_append_right (Nat.le_refl _),Nat.sub_self];rfl
theorem Tq {n:Nat} {a c:List Int} {u:Unit} (h:BK n (a++c)=some u):BK n a=some ():=by
 have:=xi h
 unfold BK;rw [if_pos]
 exact fun x hx=>this x (List.mem_append_left _ hx)
theorem Tr {n:Nat} {a c:List Int} {u:Unit} (h:BK n (a++c)=some u):BK n c=some ():=by
 have:=xi h
 unfold BK;rw [if_pos]
 exact fun x hx=>this x (List.mem_append_right _ hx)
theorem Az {bo:Nat→Bk} {N:Nat} {b:Bk} (h:bo N=b) (o:Nat):AV.ptr (bo ((N:Nat):Int).toNat) o=AV.ptr b o:=Qx h o
theorem Lc {bo sF:Nat→Bk} {N:Nat} (h:∀ j,j < N→sF j=bo j) {l:List Int} {u:Unit} (hg:BK N l=some u):Ob.arr 1 (l.map (pA bo))=Ob.arr 1 (l.map (pA sF)):=congrArg (Ob.arr 1) (N1 h hg)
theorem Pm {K:Type} {gk:K→AV} {bo sF:Nat→Bk} {N:Nat} (h:∀ j,j < N→sF j=bo j) {M:List (K×Int)} {u:Unit} (hg:BK N (M.map Prod.snd)=some u):Ob.mp (M.map fun e=>(gk e.1,pA bo e.2))=Ob.mp (M.map fun e=>(gk e.1,pA sF e.2)):=congrArg Ob.mp (Qw h hg)
def Jh (l:List Bk) (k:Nat):Bk:=l.getD k ⟨none,0⟩
theorem ai.Ld {n s:Nat} {tm:List (Nat×AV)} {hp h0 xf:Heap} {T:St→Prop} {av eW:AV} (hs:lk tm s=some av) (WI:B8 hp h0 xf) (co:oq h0 av eW) (k:ai ⟨n,(s,eW) :: tm,xf⟩ T):ai ⟨n,tm,hp⟩ T:=by
 refine ai.step (Bv:=⟨n,(s,eW) :: tm,xf⟩) (fun w S a r=>?_) k
 obtain ⟨g0,e0⟩:=r.hp.same WI.perm
 let S':Nat→Prop:=SB S h0
 have mono:∀ m,S m→S' m∧w.heap[m]? =w.heap[m]?:=fun m hm=>⟨.inl hm,rfl⟩
 have vf:=g0.nodup
 have uc:xf.Sublist (h0++xf):=List.sublist_append_right _ _
 have Le:h0.Sublist (h0++xf):=List.sublist_append_left _ _
 have x5:ck w S' xf:=by
  refine ⟨vf.sublist (yB uc),fun e he=>(g0.holds e (uc.subset he)).mono mono (fun _ _=>rfl),fun e he m hm=>?_,fun m hm=>?_,fun g o ho=>⟨.inl (r.hp.fe g o ho).1,(r.hp.fe g o ho).2⟩⟩
  ·rw [← g0.sep e (uc.subset he) m hm]
   refine ⟨fun hs=>hs.elim id fun ⟨x,hx,JT⟩=>?_,.inl⟩
   exfalso
   rw [List.flatMap_append,List.nodup_append] at vf
   exact vf.2.2 m (List.mem_flatMap.2 ⟨x,hx,JT⟩) m (List.mem_flatMap.2 ⟨e,he,hm⟩) rfl
  ·rcases hm with h | ⟨x,hx,JT⟩
   ·exact r.hp.slt m h
   ·exact g0.lt ⟨x,Le.subset hx,JT⟩
 have hr:=r.heap mono x5
 refine ⟨_,S',rfl,⟨hr.size,hr.defers,fun t av h=>?_,hr.hp⟩,rfl,rfl,rfl,Nat.le_refl _,mono,fun m hm hh=>⟨rfl,fun hs=>hs.elim id fun ⟨x,hx,JT⟩=>(hh ⟨x,WI.perm.mem_iff.2 (Le.subset hx),JT⟩).elim⟩,fun m hm=>.inl ?_,fun _=>Nat.le_refl _⟩
 ·simp only [lk] at h
  split at h
  ·rename_i WE
   obtain rfl:s=t:=by simpa using WE
   obtain rfl:=Option.some.inj h
   obtain ⟨v,e1,e2⟩:=r.tm s _ hs
   exact ⟨v,e1,co.at (g0.sub Le) e2⟩
  ·exact hr.tm t av h
 ·obtain ⟨e,he,hb⟩:=hm
  exact ⟨e,WI.perm.mem_iff.2 (uc.subset he),hb⟩
end Go.Eng
namespace Go.Eng
open Go Go.Sort Go.Proofs
variable [bF]
structure H7 (P:Program) (f:FuncId):Prop where
 some_:∀ (enc:Nat→Value) (_:OneCell enc) (cf:Nat→Nat→Int) (_:SWO (ltOf cf)) (g:Nat) (cb:Array Value) (bN off cap:Nat) (d:Array Nat) (w:World)
  (_:∀ args w,(callFunc g args).run P w=.ok (.enter g args) w) (_:CmpLays1 P g cb enc cf bN off d.size w) (_:Sort.Holds enc w bN off d) (_:bN < w.heap.size) (_:d.size < 4611686018427387904),
  Calls P f #[.slice (some ⟨bN,off,none⟩) d.size cap,.func (.func g) #[] cb] w fun e w'=>
   e=.returned (.tuple #[])∧∃ n os,w'=sortWorld enc w bN off n (pdq (ltOf cf) d 0 d.size (Lib.bitLen d.size) true true) os
 none_:∀ (p:Option Addr) (cap:Nat) (fv:Value) (w:World),Calls P f #[.slice p 0 cap,fv] w fun e w'=>e=.returned (.tuple #[])∧w'=w
theorem Fb {P:Program} {α:Type} {f:FuncId} (K:H7 P f) {gf:FuncId} [bu P gf] {g:α→AV} {C C':List AV} {MP:Heap} {fn:α→α→Option Int}
 (KU:∀ {x y:α} {u:Int},fn x y=some u→∃ a c,oq MP (g x) a∧oq MP (g y) c∧@Pu mC P gf (a :: c :: C') (I u)) (hC:qs MP C C')
 (RM:∀ x,(g x).cells=[g x]) (tW:∀ x,(g x).one=true) {Xs Ys:List α} {b:Bk} (h:Ai fn Xs=some Ys):
 aJ P f [.sl 1 b 0 Xs.length,.func (.func gf) C] ((b,.arr 1 (Xs.map g)) :: MP) (T0 ((b,.arr 1 (Ys.map g)) :: MP) (.iV [])):=by
 intro w S vs r hl ha
 obtain ⟨v0,v1,rfl⟩:∃ v0 v1,vs=#[v0,v1]:=by
  match vs,hl with
  | ⟨[v0,v1]⟩,_=>exact ⟨v0,v1,rfl⟩
 have a0:=ha 0 _ v0 rfl rfl
 have a1:=ha 1 _ v1 rfl rfl
 obtain ⟨oa,cap,rfl,e2⟩:=a0.sd
 obtain ⟨cv,rfl,Bz,Wm⟩:=a1.um
 match Xs,h with
 | [],h=>
   obtain rfl:=Option.some.inj h
   refine (K.none_ oa cap _ w).mono ?_
   rintro e w' ⟨rfl,rfl⟩
   exact ⟨_,.iV [],_,S,rfl,⟨rfl,rfl⟩,.iV [] #[] rfl (fun i c v hc=>by simp at hc),r,iE.refl _ _ _⟩
 | x :: xr,h=>
   rw [th] at h
   by_cases hc:(xr.length+1 < 4611686018427387904∧(∀ a∈x :: xr,∀ b∈x :: xr,∃ u,fn a b=some u)∧SWO (ltOf (qu fn x xr)))
   ·rw [if_pos hc] at h
    obtain rfl:=Option.some.inj h
    obtain ⟨hlen,P9,hO⟩:=hc
    have qp:(b,Ob.arr 1 ((x :: xr).map g))∈(b,Ob.arr 1 ((x :: xr).map g)) :: MP:=List.mem_cons_self ..
    obtain ⟨h0,h1,h2⟩:=r.holds _ qp
    replace h1:xr.length+1≤b.cap:=by simpa using h1
    rcases h2 with ⟨_,C7⟩ | ⟨m,row,E,hb,tf,gG,pO⟩
    ·have Pc:b.cap=0:=C7
     omega
    rcases e2 with ⟨hn,_,_,_,_⟩ | ⟨m',zT,rfl,hle,SU⟩ | ⟨m',ad,_,_,Ni,_⟩
    ·rw [hn] at hb;cases hb
    ·obtain rfl:m'=m:=by rw [zT] at hb;exact Option.some.inj hb
     have KV:m' < w.heap.size:=rP tf
     have nS:¬ S m':=fun hs=>by have:=(r.sep _ qp m' (jT hb)).1 hs;exact this
     have nR:¬ Has MP m':=fun ⟨e,he,qe⟩=>by
      have:=r.nodup
      rw [List.flatMap_cons,List.nodup_append] at this
      exact this.2.2 m' (jT hb) m' (List.mem_flatMap.2 ⟨e,he,qe⟩) rfl
     have rR:ck w S MP:=r.sub (List.sublist_cons_self _ _)
     rw [qJ RM] at pO
     have RG:xr.length+1≤row.size:=by rw [show row.size=b.cap from gG.trans (Nat.mul_one _)];exact h1
     let ix:Nat→Nat:=fun i=>if i < xr.length+1 then i else 0
     have JS:∀ i,ix i < xr.length+1:=fun i=>by simp only [ix];split<;>omega
     have Qa:∀ i,(x :: xr)[ix i]? =some (se x xr i):=by
      intro i
      simp only [ix,se,List.getD_eq_getElem?_getD]
      split
      ·rename_i hi
       rw [List.getElem?_eq_getElem (by simpa using hi)];simp
      ·rename_i hi
       rw [List.getElem?_eq_none (l:=x :: xr) (i:=i) (by simp;omega)];simp
     let enc:Nat→Value:=fun i=>row[ix i]!
     have EU:∀ i,At w S (g (se x xr i)) (enc i):=by
      intro i
      have hi:=JS i
      refine pO (ix i) _ _ (by rw [List.getElem?_map,Qa i];rfl) ?_
      simp only [enc]
      rw [getElem!_pos row (ix i) (by omega),Array.getElem?_eq_getElem (by omega)]
     have Qb:OneCell enc:=fun i=>(EU i).Gs (tW _)
     have KW:Sort.Holds enc w m' 0 (Array.range (xr.length+1)):=by
      intro j hj
      rw [Array.size_range] at hj
      have HR:j < row.size:=by omega
      have e1:enc (Array.range (xr.length+1))[j]! =row[j]:=by
       rw [getElem!_pos _ _ (by simpa using hj),Array.getElem_range]
       simp only [enc,ix,if_pos hj]
       rw [getElem!_pos row j HR]
      rw [e1]
      constructor
      ·simp only [World.cell?,tf,Nat.zero_add,Option.isSome_none,Bool.false_eq_true,if_false]
       rw [Array.getElem?_eq_getElem HR]
      ·simp [World.frozen?,tf]
     have Ew:∀ (mm:Nat) (dk:Array Nat) (os:Array Obj) (n:Nat),n < w.heap.size→n≠m'→(sortWorld enc w m' 0 mm dk os).heap[n]? =w.heap[n]?:=fun mm dk os n hn mb=>ya enc w m' 0 mm dk os hn mb
     have sA:∀ (mm:Nat) (dk:Array Nat) (os:Array Obj),w.heap.size≤(sortWorld enc w m' 0 mm dk os).heap.size:=fun mm dk os=>by unfold sortWorld;simp
     have RS:∀ (mm:Nat) (dk:Array Nat) (os:Array Obj) n,S n→S n∧(sortWorld enc w m' 0 mm dk os).heap[n]? =w.heap[n]?:=fun mm dk os n hs=>⟨hs,Ew mm dk os n (r.slt n hs) (fun e=>nS (e▸hs))⟩
     have Ts:∀ (mm:Nat) (dk:Array Nat) (os:Array Obj),ck (sortWorld enc w m' 0 mm dk os) S MP:=fun mm dk os=>
      ⟨rR.nodup,fun e he=>(rR.holds e he).mono (RS mm dk os) (fun n hn=>Ew mm dk os n (rR.lt ⟨e,he,hn⟩) (fun e'=>nR ⟨e,he,e'▸hn⟩)),rR.sep,fun n hn=>Nat.lt_of_lt_of_le (rR.slt n hn) (sA mm dk os),fun g o ho=>⟨(r.fe g o ho).1,wV (RS mm dk os g (r.fe g o ho).1).2 (r.fe g o ho).2⟩⟩
     have Qd:CmpLays1 P gf cv enc (qu fn x xr) m' 0 (Array.range (xr.length+1)).size w:=by
      intro mm os dk hdk i j
      obtain ⟨u,hu⟩:=P9 _ (ik x xr i) _ (ik x xr j)
      obtain ⟨a,c,ca,cc,hp⟩:=KU hu
      have rr:=Ts mm dk os
      have hlv:(g (se x xr i) :: g (se x xr j) :: C).length=([enc i,enc j]++cv.toList).length:=by simp [‹C.length=cv.size›]
      have HT:kG (sortWorld enc w m' 0 mm dk os) S (g (se x xr i) :: g (se x xr j) :: C) (([enc i,enc j]++cv.toList).toArray):=by
       intro q e v he hv
       match q with
       | 0=>simp at he hv;subst he;subst hv;exact (EU i).mono (RS mm dk os)
       | 1=>simp at he hv;subst he;subst hv;exact (EU j).mono (RS mm dk os)
       | q+2=>
         simp only [List.getElem?_cons_succ] at he
         have NG:cv[q]? =some v:=by simpa using hv
         exact (Wm q e v he NG).mono (RS mm dk os)
      obtain ⟨k1,k2⟩:=qs.at rr (.cons ca (.cons cc hC)) hlv HT
      have e1:(#[enc i,enc j]++cv:Array Value)=([enc i,enc j]++cv.toList).toArray:=by simp
      rw [e1]
      refine (hp _ (SB S MP) _ (@qP mC _ _ (fun n hn=>hn.elim (rr.slt n) fun h=>rr.lt h) (fun g o ho=>⟨.inl (rr.fe g o ho).1,(rr.fe g o ho).2⟩)) (by simpa using k1) k2).mono ?_
      rintro e w' ⟨v,rv,h',S',rfl,hq,h3,h4,h5⟩
      obtain rfl:=hq
      rw [h3.cO]
      refine ⟨?_,@Ext.grown mC _ _ trivial (@iE.B6 mC _ _ _ _ _ h5)⟩
      unfold qu
      rw [hu];rfl
     have ND:(Array.range (xr.length+1)).size=xr.length+1:=Array.size_range
     have Ce:=K.some_ enc Qb (qu fn x xr) hO gf cv m' 0 cap (Array.range (xr.length+1)) w (fun args w=>qq gf args w) Qd KW KV (by rw [ND];exact hlen)
     rw [ND] at Ce
     simp only [Nat.zero_mul]
     refine Ce.mono ?_
     rintro e w' ⟨rfl,q,os,rfl⟩
     have MO:=pdq_sorts (ltOf (qu fn x xr)) hO (Array.range (xr.length+1)) 0 (xr.length+1) (Lib.bitLen (xr.length+1)) true true (Nat.zero_le _) (by rw [ND];exact Nat.le_refl _) (Or.inl rfl)
     generalize Di:pdq (ltOf (qu fn x xr)) (Array.range (xr.length+1)) 0 (xr.length+1) (Lib.bitLen (xr.length+1)) true true=d' at MO ⊢
     have EV:d'.size=xr.length+1:=by rw [MO.1.1,ND]
     have hW:=RS q d' os
     have Qe:∀ y∈(d'.toList.map (se x xr)).map g,El 1 y:=by
      intro y hy
      simp only [List.mem_map] at hy
      obtain ⟨z,⟨i,_,rfl⟩,rfl⟩:=hy
      exact h0 _ (List.mem_map.2 ⟨_,ik x xr i,rfl⟩)
     have hh:Go.Eng.Holds (sortWorld enc w m' 0 q d' os) S b (.arr 1 ((d'.toList.map (se x xr)).map g)):=by
      refine ⟨Qe,by simp [EV];omega,.inr ⟨m',_,E,hb,EX enc w m' q d' os tf,by simp [putCells,gG],?_⟩⟩
      rw [qJ RM]
      intro j c v hc hv
      have Ec:j < xr.length+1:=by
       have:=(List.getElem?_eq_some_iff.1 hc).1
       simpa [EV] using this
      have HR:j < row.size:=by omega
      have Wn:(d'.toList.map (se x xr))[j]? =some (se x xr d'[j]!):=by
       rw [List.getElem?_map,Array.getElem?_toList,Array.getElem?_eq_getElem (by omega),getElem!_pos d' j (by omega)];rfl
      rw [List.getElem?_map,Wn] at hc
      obtain rfl:=Option.some.inj hc
      simp only [putCells,Array.getElem?_mapIdx,Array.getElem?_eq_getElem HR,Option.map_some,Option.some.injEq] at hv
      rw [if_pos ⟨Nat.zero_le _,by rw [EV];omega⟩,Nat.sub_zero] at hv
      rw [← hv]
      exact (EU _).mono hW
     have EW:=sA q d' os
     have rN:=Ts q d' os
     refine ⟨_,.iV [],_,S,rfl,⟨rfl,rfl⟩,.iV [] #[] rfl (fun i c v hc=>by simp at hc),⟨r.nodup,fun e he=>?_,fun e he n hn=>?_,fun n hn=>Nat.lt_of_lt_of_le (r.slt n hn) EW,rN.fe⟩,?_⟩
     ·rcases List.mem_cons.1 he with rfl | he
      ·exact hh
      ·exact rN.holds e he
     ·rcases List.mem_cons.1 he with rfl | he
      ·replace hn:=(sY rfl).1 hn
       rw [hb] at hn
       obtain rfl:=Option.some.inj hn
       exact ⟨fun hs=>(nS hs).elim,fun hf=>hf.elim⟩
      ·exact rN.sep e he n hn
     ·refine ⟨rfl,rfl,rfl,EW,hW,fun n hn SX=>⟨Ew q d' os n hn (fun e=>SX ⟨_,qp,by rw [e];exact jT hb⟩),id⟩,?_,?_⟩
      ·rintro n ⟨e,he,qe⟩
       rcases List.mem_cons.1 he with rfl | he
       ·exact .inl ⟨_,qp,qe⟩
       ·exact .inl ⟨e,List.mem_cons_of_mem _ he,qe⟩
      ·intro _
       show w.drawn≤w.drawn+q
       omega
    ·simp at Ni
   ·rw [if_neg hc] at h;cases h
noncomputable def Fc {V:Type} (fn:V→V→Option Int) (M:List V) (l:List Int):Option (List Int):=
 Ai (fun i j=>(idx M i).bind fun x=>(idx M j).bind fun y=>fn x y) l
theorem yO {P:Program} {V:Type} {f:FuncId} (K:H7 P f) {gf:FuncId} [bu P gf] {kb:Bk→(Nat→Bk)→V→List (Bk×PO)} {fs:V→List AV} (B:KB kb fs) {C:List AV} {fn:V→V→Option Int} (KU:∀ {x y:V} {u:Int},fn x y=some u→@Pu mC P gf (.eo (fs x) :: .eo (fs y) :: C) (I u))
 {M:List V} {bo:Nat→Bk} {bs:Nat→Nat→Bk} {bp b:Bk} {l r:List Int} (h:Fc fn M l=some r):
 aJ P f [.sl 1 b 0 l.length,.func (.func gf) C] [(b,.arr 1 (l.map (pA bo))),(bp,.bU (gl kb bo bs M))] (T0 [(b,.arr 1 (r.map (pA bo))),(bp,.bU (gl kb bo bs M))] (.iV [])):=by
 refine Fb K (g:=pA bo) (fn:=fun i j=>(idx M i).bind fun x=>(idx M j).bind fun y=>fn x y) (C':=C) ?_ (qs.refl C) (fun _=>rfl) (fun _=>rfl) h
 intro i j u hu
 cases hi:idx M i with
 | none=>rw [hi] at hu;cases hu
 | some x=>
   cases hj:idx M j with
   | none=>rw [hi,hj] at hu;cases hu
   | some y=>
     rw [hi,hj] at hu
     exact ⟨_,_,oq.N5 B hi .here,oq.N5 B hj .here,KU hu⟩
theorem Ji {α:Type} {fn:α→α→Option Int} {Xs Ys:List α} (h:Ai fn Xs=some Ys):Ys.length=Xs.length:=by
 match Xs,h with
 | [],h=>obtain rfl:=Option.some.inj h;rfl
 | x :: xr,h=>
   rw [th] at h
   by_cases hc:(xr.length+1 < 4611686018427387904∧(∀ a∈x :: xr,∀ b∈x :: xr,∃ u,fn a b=some u)∧SWO (ltOf (qu fn x xr)))
   ·rw [if_pos hc] at h
    obtain rfl:=Option.some.inj h
    have MO:=pdq_sorts (ltOf (qu fn x xr)) hc.2.2 (Array.range (xr.length+1)) 0 (xr.length+1) (Lib.bitLen (xr.length+1)) true true (Nat.zero_le _) (by rw [Array.size_range];exact Nat.le_refl _) (Or.inl rfl)
    have:=MO.1.1
    rw [Array.size_range] at this
    simp [this]
   ·rw [if_neg hc] at h;cases h
theorem vw {V:Type} {fn:V→V→Option Int} {M:List V} {l r:List Int} (h:Fc fn M l=some r):r.length=l.length:=Ji h
end Go.Eng
namespace Go.Eng
open Go
variable [bF]
section rules
variable {P:Program} {all:Array Oper} {rest:List Oper} {n:Nat} {tm:List (Nat×AV)} {hp:Heap} {Q:St→Prop} {d:Nat} {ty:TypeId} {pos:String} {af:Array Edge}
end rules
section rules
variable {P:Program} {all:Array Oper} {rest:List Oper} {n:Nat} {tm:List (Nat×AV)} {hp:Heap} {Q:St→Prop} {d:Nat} {ty:TypeId} {pos:String} {af:Array Edge}
end rules
section rules
variable {P:Program} {all:Array Oper} {rest:List Oper} {n:Nat} {tm:List (Nat×AV)} {hp:Heap} {Q:St→Prop} {d:Nat} {ty:TypeId} {pos:String} {af:Array Edge}
end rules
end Go.Eng
namespace Go.Eng
open Go Go.Proofs
variable [bF]
section rules
variable {P:Program} {all:Array Oper} {rest:List Oper} {n:Nat} {tm:List (Nat×AV)} {hp:Heap} {Q:St→Prop} {d:Nat} {ty:TypeId} {pos:String} {af:Array Edge}
end rules
end Go.Eng
namespace Go.Eng
open Go Go.Sort Go.Proofs
variable [bF]
section rules
variable {P:Program} {all:Array Oper} {rest:List Oper} {n:Nat} {tm:List (Nat×AV)} {hp:Heap} {Q:St→Prop} {d:Nat} {ty:TypeId} {pos:String} {af:Array Edge}
end rules
end Go.Eng
namespace Go.Eng
open Go Go.Proofs
variable [bF]
section rules
variable {P:Program} {all:Array Oper} {rest:List Oper} {n:Nat} {tm:List (Nat×AV)} {hp:Heap} {Q:St→Prop} {d:Nat} {ty:TypeId} {pos:String} {af:Array Edge}
end rules
section order
variable {P:Program} {all:Array Oper} {n m:Nat}
variable {mc:Nat→Option AV} {en:Nat→Env} {e:Env} {I:Array Bool→Act→World→(Nat→Prop)→Prop}
end order
section lit
variable {K V:Type} [DecidableEq K] [wB K]
variable {P:Program} {all:Array Oper} {n m:Nat} {hp:Heap} {p:Nat} {al:List (Nat×Nat)} {gk:K→AV} {gv:V→AV} {lit:List (Nat×K×V)}
end lit
section rules
variable {K V:Type} [DecidableEq K] [wB K] {P:Program} {all:Array Oper} {n:Nat} {hp:Heap} {p:Nat} {al:List (Nat×Nat)} {gk:K→AV} {gv:V→AV} {lit:List (Nat×K×V)} {A:List Nat}
variable {i:Nat} {l l1 l2 rest:List Oper} {tm:List (Nat×AV)} {Q:List (Nat×AV)→Prop} {d:Nat} {ty:TypeId} {pos:String} {af:Array Edge} {op:Op}
end rules
end Go.Eng
namespace Go.Eng
open Go
variable [bF]
section rules
variable {P:Program} {all:Array Oper} {rest:List Oper} {n:Nat} {tm:List (Nat×AV)} {hp:Heap} {Q:St→Prop} {d:Nat} {ty:TypeId} {pos:String} {af:Array Edge}
end rules
section
variable {P:Program} {n:Nat} {tm:List (Nat×AV)} {hp:Heap} {d:Nat} {ty:TypeId} {pos:String} {af:Array Edge}
end
section rules
variable {P:Program} {all:Array Oper} {rest:List Oper} {n:Nat} {tm:List (Nat×AV)} {hp:Heap} {Q:St→Prop} {d:Nat} {ty:TypeId} {pos:String} {af:Array Edge}
end rules
section rules
variable {P:Program} {all:Array Oper} {rest:List Oper} {n:Nat} {tm:List (Nat×AV)} {hp:Heap} {Q:St→Prop} {d:Nat} {ty:TypeId} {pos:String} {af:Array Edge}
end rules
section rules
variable {P:Program} {all:Array Oper} {rest:List Oper} {n:Nat} {tm:List (Nat×AV)} {hp:Heap} {Q:St→Prop} {d:Nat} {ty:TypeId} {pos:String} {af:Array Edge}
end rules
section rules
variable {P:Program} {all:Array Oper} {rest:List Oper} {n:Nat} {tm:List (Nat×AV)} {hp:Heap} {Q:St→Prop} {d:Nat} {ty:TypeId} {pos:String} {af:Array Edge}
end rules
section rules
variable {P:Program} {all:Array Oper} {rest:List Oper} {n:Nat} {tm:List (Nat×AV)} {hp:Heap} {Q:St→Prop} {d:Nat} {ty:TypeId} {pos:String} {af:Array Edge}
end rules
section plain
variable {K E:Type} [DecidableEq K]
end plain
end Go.Eng
