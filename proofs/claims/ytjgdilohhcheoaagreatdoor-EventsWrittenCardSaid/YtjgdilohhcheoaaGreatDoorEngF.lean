/- The engine: abstract values, the symbolic heap, one rule for each operation. No program in sight. -/
import Derived.Test.YtjgdilohhcheoaaGreatDoorEngE
import Derived.Shelf.SlSortCmp.NoneTotal
import Derived.Lib.Case
import Derived.Lib.Overlaps
import Derived.Lib.AppendZeros
set_option linter.unusedVariables false
set_option linter.unusedSectionVars false
namespace Go.Eng
open Go
variable [bz]
section rules
variable {P:Program} {all:Array Oper} {n:Nat} {B:Heap} {tk:List Tok} {dy:List Nat} {i:Nat} {rest:List Oper} {tm:List (Nat×AV)} {acc:(Nat→Bk)→List (Nat×AV)} {Q:(Nat→Bk)→List (Nat×AV)→Prop} {d:Nat} {ty:TypeId} {pos:String} {af:Array Edge} {op:Op}
end rules
end Go.Eng
namespace Go.Eng
open Go Go.Proofs Go.Shelf Go.Lib
variable {P:Program} [bz]
end Go.Eng
namespace Go.Eng
open Go
variable [bz]
section rules
variable {P:Program} {all:Array Oper} {rest:List Oper} {n:Nat} {tm:List (Nat×AV)} {hp:Heap} {Q:List (Nat×AV)→Prop} {d1 d2 j s x:Nat} {t1 t2:TypeId} {p1 p2:String} {a1 a2:Array Edge} {a b:Bool}
end rules
section rules
variable {P:Program} {all:Array Oper} {rest:List Oper} {n:Nat} {tm:List (Nat×AV)} {hp:Heap} {Q:St→Prop} {d:Nat} {ty:TypeId} {pos:String} {af:Array Edge}
end rules
section rules
variable {P:Program} {all:Array Oper} {rest:List Oper} {n:Nat} {tm:List (Nat×AV)} {hp:Heap} {Q:St→Prop} {d:Nat} {ty:TypeId} {pos:String} {af:Array Edge}
end rules
section rules
variable {P:Program} {all:Array Oper} {rest:List Oper} {n:Nat} {tm:List (Nat×AV)} {hp:Heap} {Q:St→Prop} {d:Nat} {ty:TypeId} {pos:String} {af:Array Edge}
end rules
def Rb:AV→Bool
 | .int _ _=>true
 | .bool _=>true
 | .str _=>true
 | _=>false
theorem Ng {w:World} {S:Nat→Prop} {a:AV} {v u:Value} (h:Rb a=true) (hv:At w S a v) (hu:At w S a u):v=u∧∀ n,Instr.sameBits n v v=true:=by
 cases a<;>simp only [Rb,Bool.false_eq_true] at h
 ·rw [hv.bR,hu.bR];exact ⟨rfl,fun n=>by cases n<;>simp [Instr.sameBits]⟩
 ·rw [hv.kS,hu.kS];exact ⟨rfl,fun n=>by cases n<;>simp [Instr.sameBits]⟩
 ·rw [hv.ct,hu.ct]
  refine ⟨rfl,fun n=>?_⟩
  cases n<;>(simp only [Instr.sameBits];exact (EF _ _).2 rfl)
theorem vN {α:Type} (p:α×α→Bool):∀ (l:List α),(∀ x∈l,p (x,x)=true)→(l.zip l).all p=true
 | [],_=>rfl
 | x :: r,h=>by
   rw [List.zip_cons_cons,List.all_cons,h x List.mem_cons_self,vN p r (fun y hy=>h y (List.mem_cons_of_mem _ hy))];rfl
theorem KS {w:World} {S:Nat→Prop} {cs:List AV} {v u:Value} (h:∀ c∈cs,Rb c=true) (hv:At w S (.agg cs) v) (hu:At w S (.agg cs) u):Instr.sameBits 10000 v u=true:=by
 obtain ⟨vs,rfl,hl,ha⟩:=hv.jo
 obtain ⟨us,rfl,sq,vO⟩:=hu.jo
 have key:∀ (i:Nat) (h1:i < vs.size) (h2:i < us.size),vs[i]=us[i]∧∀ n,Instr.sameBits n vs[i] vs[i]=true:=fun i h1 h2=>by
  have hc:cs[i]? =some (cs[i]'(by omega)):=by simp [show i < cs.length by omega]
  exact Ng (h _ (List.getElem_mem _)) (ha i _ _ hc (by simp [h1])) (vO i _ _ hc (by simp [h2]))
 have heq:vs=us:=Array.ext (by omega) (fun i h1 h2=>(key i h1 h2).1)
 subst heq
 have g:∀ n:Nat,Instr.sameBits (n+1) (.agg vs) (.agg vs)=true:=fun n=>by
  simp only [Instr.sameBits,beq_self_eq_true,Bool.true_and]
  refine vN _ _ (fun x hx=>?_)
  obtain ⟨i,hi,rfl⟩:=List.getElem_of_mem hx
  simpa using (key i (by simpa using hi) (by simpa using hi)).2 n
 exact g 9999
def Oj (D:TypeDesc):Bool:=match D with
 | .int _=>true
 | .bool=>true
 | .string=>true
 | _=>false
theorem P5 {P:Program} {t:TypeId} {D:TypeDesc} (hu:P.underlying t=some D) (hD:Oj D=true) (b:Bool) (n:Nat) (v:Value) (w:World):(Instr.checkKey b (n+1) t v).run P w=.ok () w:=by
 cases D<;>simp only [Oj,Bool.false_eq_true] at hD<;>simp [Instr.checkKey,run_underlying hu]
theorem KT {P:Program} {t:TypeId} {D:TypeDesc} (hu:P.underlying t=some D) (hD:Oj D=true) {cs:Array Value} {off:Nat} {v:Value} (h:cs[off]? =some v) (w:World):(part t cs off).run P w=.ok v w:=by
 unfold part isAgg
 simp only [Sem.run_bind,run_underlying hu,Result.andThen_ok]
 cases D<;>simp_all [Oj]
theorem A8 {P:Program} (b:Bool) (n:Nat) (vs:Array Value) (w:World):∀ (fs:List Field),(∀ f∈fs,∃ D,P.underlying f.type=some D∧Oj D=true∧f.offset < vs.size)→(forIn fs PUnit.unit (fun f (_:PUnit)=>(if f.name≠"_" then do
 let x ← part f.type vs f.offset
 Instr.checkKey b (n+1) f.type x
 pure (ForInStep.yield PUnit.unit)
 else pure (ForInStep.yield PUnit.unit):Sem (ForInStep PUnit)))).run P w=.ok PUnit.unit w
 | [],_=>by simp
 | f :: fs,h=>by
   obtain ⟨D,h1,h2,h3⟩:=h f List.mem_cons_self
   have hp:∀ w1,(part f.type vs f.offset).run P w1=.ok vs[f.offset] w1:=KT h1 h2 (by simp [h3])
   have ih:=A8 b n vs w fs (fun g hg=>h g (List.mem_cons_of_mem _ hg))
   simp only [List.forIn_cons,Sem.run_bind]
   by_cases hn:f.name="_"
   ·simp only [hn,ne_eq,not_true_eq_false,if_false,Sem.run_pure,Result.andThen_ok]
    exact ih
   ·simp only [hn,ne_eq,not_false_eq_true,if_true,Sem.run_bind,hp,Result.andThen_ok,P5 h1 h2,Sem.run_pure]
    exact ih
theorem Md {P:Program} {t:TypeId} {v:Value} {K:Type} [DecidableEq K] {k:K} {q:K→Value→Prop} (hq:∀ k' u,q k' u→∀ w,(Op.equal t v u).run P w=.ok (decide (k'=k)) w):∀ (es:List MapEntry) (ks:List K) (i:Nat) (w:World),ks.length=es.length→(∀ (i:Nat) k' e,ks[i]? =some k'→es[i]? =some e→q k' e.key)→(Instr.findAsking t v es i).run P w=.ok (td k ks es i) w
 | [],[],i,w,_,_=>by simp [Instr.findAsking,td]
 | [],k' :: ks,i,w,hl,_=>by simp at hl
 | e :: es,[],i,w,hl,_=>by simp at hl
 | e :: es,k' :: ks,i,w,hl,h=>by
   unfold Instr.findAsking td
   rw [Sem.run_bind,hq k' e.key (h 0 k' e rfl rfl)]
   by_cases hk:k'=k
   ·simp [hk]
   ·simp only [hk,decide_false,Result.andThen_ok,Bool.false_eq_true,if_false]
    exact Md hq es ks (i+1) w (by simpa using hl) (fun i k' e h1 h2=>h (i+1) k' e (by simpa using h1) (by simpa using h2))
theorem il.struct {P:Program} {t:TypeId} {K:Type} [DecidableEq K] {g:K→AV} {dd:Nat} {fs:List Field} {n:Nat} [lr P t dd g] (hk:Nat.ble dd 10000=true) (hu:P.underlying t=some (.struct fs.toArray))
 (hf:∀ f∈fs,∃ D,P.underlying f.type=some D∧Oj D=true∧f.offset < n) (hg:∀ x,∃ cs,g x=.agg cs∧cs.length=n∧∀ c∈cs,Rb c=true) (inj:∀ a b,g a=g b→a=b):il P t g where
 inj:=inj
 check:=fun {w S k v} hv b w1=>by
  obtain ⟨cs,e,hl,hs⟩:=hg k
  rw [e] at hv
  obtain ⟨vs,rfl,sq,ha⟩:=hv.jo
  have key:∀ m:Nat,(Instr.checkKey b (m+1+1) t (.agg vs)).run P w1=.ok () w1:=fun m=>by
   have h1:=A8 (P:=P) b m vs w1 fs (fun f hm=>by obtain ⟨D,h1,h2,h3⟩:=hf f hm;exact ⟨D,h1,h2,by omega⟩)
   rw [Instr.checkKey]
   simp only [Sem.run_bind,run_underlying hu,Result.andThen_ok]
   rw [← Array.forIn_toList]
   simp only [h1,Result.andThen_ok,Sem.run_pure]
  exact key 9998
 find:=fun {w S k v} hv es ks hl Od w1=>by
  obtain ⟨cs,e,hn,hs⟩:=hg k
  have Q7:=hv
  rw [e] at Q7
  obtain ⟨vs,rfl,sq,ha⟩:=Q7.jo
  have hq:=Md (P:=P) (t:=t) (v:=.agg vs) (k:=k) (q:=fun k' u=>At w S (g k') u) (fun k' u hu w2=>by
   have:=lr.h (P:=P) (t:=t) (g:=g) k k' w S _ _ hv hu (10000 - dd) w2
   rw [Nat.sub_add_cancel (Nat.le_of_ble_eq_true hk)] at this
   rw [show decide (k'=k)=decide (k=k') by rw [Bool.eq_iff_iff];simp;exact eq_comm]
   exact this) es ks 0 w1 hl (fun i k' e h1 h2=>Od i k' e h1 h2)
  unfold Instr.findKey
  rw [Sem.run_bind,run_underlying hu]
  simp only [Result.andThen_ok]
  cases es with
  | nil=>
    cases ks with
    | nil=>simp [Instr.findNow,td]
    | cons _ _=>simp at hl
  | cons m es=>
    have:Instr.findNow (.struct fs.toArray) (.agg vs) (m :: es) 0=none:=by
     unfold Instr.findNow;simp [Instr.sameNow]
    rw [this];exact hq
 bits:=fun {w S k v u} h1 h2=>by
  obtain ⟨cs,e,hn,hs⟩:=hg k
  rw [e] at h1 h2
  exact KS hs h1 h2
section rules
variable {P:Program} {all:Array Oper} {rest:List Oper} {n:Nat} {tm:List (Nat×AV)} {hp:Heap} {Q:List (Nat×AV)→Prop} {d:Nat} {ty:TypeId} {pos:String} {af:Array Edge} {op:Op}
theorem AM.BW {f:FuncId} {x:Operand} {args:List Operand} {ts:Array TypeId} {pZ l l':List AV} {R:AV} [bf P f] (hx:bS (yL (looks all ⟨some d,.call {callee:=.value x,args:=args.toArray,argTypes:=ts},ty,pos,af,none⟩) tm) x=some (.func (.func f) pZ)) (hl:wH (yL (looks all ⟨some d,.call {callee:=.value x,args:=args.toArray,argTypes:=ts},ty,pos,af,none⟩) tm) args=some l) (c:Pu P f l' R) (co:uW hp (l++pZ) l') (hn:Nat.blt d n=true)
 (k:AM P all n hp rest ((d,R) :: tm) Q):AM P all n hp (⟨some d,.call {callee:=.value x,args:=args.toArray,argTypes:=ts},ty,pos,af,none⟩ :: rest) tm Q:=by
 refine AM.mv (fun w S a h1 h2 h3 h4 K Q' hK=>?_) hn k
 have r:=pf h1 h2 h3 h4
 obtain ⟨cv,e1,e2,e3⟩:=(aN r hx).yz
 show Oper.upon P _ a K Q' _
 rw [sT a _ e1]
 obtain ⟨g1,g2⟩:=qU r hl
 obtain ⟨g3,g4⟩:=uW.at r.hp co (vs:=args.map a.eval++cv.toList) (by simp [g1,e2]) (qR g1 g2 (by simpa using e3))
 refine (c w S _ (sY h3.slt h3.gQ) (by simpa using g3) g4).mono ?_
 rintro e w' ⟨v,rr,h',S',rfl,rfl,k3,k4,k5⟩
 exact hK v w' S' ⟨k5.Fo,fun m hm=>(k5.iH m hm).1,fun m hm hs=>(k5.other m hm (fun ⟨x,hx,_⟩=>by simp at hx)).2 hs,k4.slt⟩ k3
end rules
section values
variable {P:Program} {n:Nat} {tm:List (Nat×AV)} {hp:Heap} {d:Nat} {ty:TypeId} {pos:String} {af:Array Edge}
end values
section rules
variable {P:Program} {n:Nat} {tm:List (Nat×AV)} {hp:Heap} {d:Nat} {ty:TypeId} {pos:String} {af:Array Edge}
end rules
section
variable {K E:Type}
end
section rules
variable {P:Program} {all:Array Oper} {rest:List Oper} {n:Nat} {tm:List (Nat×AV)} {hp:Heap} {Q:St→Prop} {d:Nat} {ty:TypeId} {pos:String} {af:Array Edge}
end rules
section
variable {P:Program} {R:St→Prop} {k:List It} {σ:St}
end
theorem J {α:Sort _} {a:α}:a=a:=rfl
section rules
variable {P:Program} {all:Array Oper} {n:Nat} {B:Heap} {tk:List Tok} {dy:List Nat} {i:Nat} {rest:List Oper} {tm:List (Nat×AV)} {acc:(Nat→Bk)→List (Nat×AV)} {Q:(Nat→Bk)→List (Nat×AV)→Prop} {d:Nat} {ty:TypeId} {pos:String} {af:Array Edge} {op:Op}
end rules
section
variable {P:Program} {o:Oper} {σ:St}
end
section rules
variable {P:Program} {all:Array Oper} {n:Nat} {B:Heap} {tk:List Tok} {dy:List Nat} {i:Nat} {rest:List Oper} {tm:List (Nat×AV)} {acc:(Nat→Bk)→List (Nat×AV)} {Q:(Nat→Bk)→List (Nat×AV)→Prop} {d:Nat} {ty:TypeId} {pos:String} {af:Array Edge} {op:Op}
end rules
end Go.Eng
set_option linter.unusedSimpArgs false
namespace Go.Eng
open Go
variable [bz]
section rules
variable {P:Program} {all:Array Oper} {rest:List Oper} {n:Nat} {tm:List (Nat×AV)} {hp:Heap} {Q:St→Prop} {d:Nat} {ty:TypeId} {pos:String} {af:Array Edge}
end rules
theorem iE.U6 {h h':Heap} {b b':Bk} {o o':Ob} (u:iE h b o b' o' h') (b2:Bk) (o2:Ob):∃ h2,iE h b o b2 o2 h2∧iE h2 b2 o2 b' o' h':=by
 induction u with
 | here=>exact ⟨_,.here,.here⟩
 | next _ ih=>obtain ⟨h2,a,b⟩:=ih;exact ⟨_,.next a,.next b⟩
 | skip _ ih=>obtain ⟨h2,a,b⟩:=ih;exact ⟨_,.skip a,.skip b⟩
theorem A9 {w:World} {S:Nat→Prop} {hp bY:Heap} {bp:Bk} {es tf:List (Bk×PO)} (r:bZ w S hp) (u:iE hp bp (.bU es) bp (.bU tf) bY) (h:es.Perm tf):bZ w S bY∧gY w S hp w S bY:=by
 obtain ⟨p,q,rfl,rfl⟩:=u.split
 obtain ⟨AD,ga⟩:bp.cr=none∧∀ e∈es,mS w S e.1 e.2:=r.holds (bp,.bU es) (bb.2 (.inl rfl))
 have y5:∀ n,n∈eb (bp,.bU tf)↔n∈eb (bp,.bU es):=by
  intro n
  rw [ua,ua]
  constructor
  ·rintro (k | ⟨e,he,hn⟩)
   ·exact .inl k
   ·exact .inr ⟨e,h.mem_iff.2 he,hn⟩
  ·rintro (k | ⟨e,he,hn⟩)
   ·exact .inl k
   ·exact .inr ⟨e,h.mem_iff.1 he,hn⟩
 have e1:(eb (bp,.bU es)).Perm (eb (bp,.bU tf)):=by
  simp only [eb,Ob.more]
  exact List.Perm.append_left _ (h.filterMap _)
 have Im:∀ n,Has (p++(bp,.bU tf) :: q) n→Has (p++(bp,.bU es) :: q) n:=by
  rintro n ⟨e,he,hn⟩
  rcases bb.1 he with rfl | he
  ·exact ⟨_,bb.2 (.inl rfl),(y5 n).1 hn⟩
  ·exact ⟨e,bb.2 (.inr he),hn⟩
 refine ⟨⟨?_,?_,?_,r.slt,r.gQ⟩,⟨rfl,rfl,rfl,Nat.le_refl _,fun n hn=>⟨hn,rfl⟩,fun n _ _=>⟨rfl,id⟩,fun n hn=>.inl (Im n hn),fun _=>Nat.le_refl _⟩⟩
 ·have:=r.nodup
  rw [List.flatMap_append,List.flatMap_cons] at this ⊢
  exact ((List.Perm.append_left _ (List.Perm.append_right _ e1)).nodup_iff).1 this
 ·intro e he
  rcases bb.1 he with rfl | he
  ·exact ⟨AD,fun e he=>ga e (h.mem_iff.2 he)⟩
  ·exact r.holds e (bb.2 (.inr he))
 ·intro e he n hn
  rcases bb.1 he with rfl | he
  ·have:=r.sep (bp,.bU es) (bb.2 (.inl rfl)) n ((y5 n).1 hn)
   exact ⟨fun h=>(this.1 h).elim,fun h=>h.elim⟩
  ·exact r.sep e (bb.2 (.inr he)) n hn
theorem bZ.same {w:World} {S:Nat→Prop} {h h':Heap} (r:bZ w S h) (hp:h.Perm h'):bZ w S h'∧gY w S h w S h':=
 ⟨r.perm hp,rfl,rfl,rfl,Nat.le_refl _,fun n hn=>⟨hn,rfl⟩,fun n _ _=>⟨rfl,id⟩,fun n ⟨e,he,hn⟩=>.inl ⟨e,hp.mem_iff.2 he,hn⟩,fun _=>Nat.le_refl _⟩
def GG (xs:List (Bk×PO)):Heap:=xs.map fun e=>(e.1,e.2.ob)
theorem vg {w:World} {S:Nat→Prop} {bp:Bk} {tf:List (Bk×PO)}:∀ (xs es:List (Bk×PO)) {hp bY:Heap},bZ w S hp→iE hp bp (.bU es) bp (.bU tf) bY→es.Perm (xs++tf)→bZ w S (GG xs++bY)∧gY w S hp w S (GG xs++bY)
 | [],es,hp,bY,r,u,h=>A9 r u h
 | x :: xs,es,hp,bY,r,u,h=>by
   obtain ⟨h2,u1,u2⟩:=u.U6 bp (.bU (xs++tf))
   obtain ⟨r1,e1⟩:=Gy r u1 h
   obtain ⟨r2,e2⟩:=vg xs (xs++tf) r1 (.next u2) (List.Perm.refl _)
   obtain ⟨r3,e3⟩:=r2.same (h':=GG (x :: xs)++bY) List.perm_middle
   exact ⟨r3,(e1.trans e2).trans e3⟩
theorem ub {w:World} {S:Nat→Prop} {bp:Bk} {es:List (Bk×PO)}:∀ (xs tf:List (Bk×PO)) {ri bY:Heap},bZ w S (GG xs++ri)→iE ri bp (.bU es) bp (.bU tf) bY→tf.Perm (xs++es)→bZ w S bY∧gY w S (GG xs++ri) w S bY
 | [],tf,ri,bY,r,u,h=>A9 r u h.symm
 | x :: xs,tf,ri,bY,r,u,h=>by
   obtain ⟨h2,u1,u2⟩:=u.U6 bp (.bU (xs++es))
   obtain ⟨r0,e0⟩:=r.same (h':=GG xs++(x.1,x.2.ob) :: ri) List.perm_middle.symm
   obtain ⟨r1,e1⟩:=ub xs (xs++es) r0 (.next u1) (List.Perm.refl _)
   obtain ⟨r2,e2⟩:=Io r1 .here u2 h
   exact ⟨r2,(e0.trans e1).trans e2⟩
section ara
variable {V:Type}
def pD (kb:Bk→(Nat→Bk)→V→List (Bk×PO)) (bo:Nat→Bk) (bs:Nat→Nat→Bk):Nat→List (Option V)→List (Bk×PO)
 | _,[]=>[]
 | i,some v :: r=>kb (bo i) (bs i) v++pD kb bo bs (i+1) r
 | i,none :: r=>pD kb bo bs (i+1) r
def gA (kb:Bk→(Nat→Bk)→V→List (Bk×PO)) (bo:Nat→Bk) (bs:Nat→Nat→Bk) (M:List V):List (Bk×PO):=pD kb bo bs 0 (M.map some)
def xW (kb:Bk→(Nat→Bk)→V→List (Bk×PO)) (bo:Nat→Bk) (bs:Nat→Nat→Bk) (M:List V) (i:Int):List (Bk×PO):=pD kb bo bs 0 ((M.map some).set i.toNat none)
variable {kb:Bk→(Nat→Bk)→V→List (Bk×PO)} {bo tg:Nat→Bk} {bs sI:Nat→Nat→Bk}
theorem sa:∀ (l:List (Option V)) (i:Nat),(∀ j v,l[j]? =some (some v)→bo (i+j)=tg (i+j)∧bs (i+j)=sI (i+j))→pD kb bo bs i l=pD kb tg sI i l
 | [],_,_=>rfl
 | some v :: r,i,h=>by
   obtain ⟨h1,h2⟩:=h 0 v rfl
   show kb (bo i) (bs i) v++pD kb bo bs (i+1) r=kb (tg i) (sI i) v++pD kb tg sI (i+1) r
   rw [show bo i=tg i from h1,show bs i=sI i from h2,sa r (i+1) (fun j v hj=>by
    have:=h (j+1) v (by simpa using hj)
    rw [show i+1+j=i+(j+1) by omega];exact this)]
 | none :: r,i,h=>sa r (i+1) (fun j v hj=>by
  have:=h (j+1) v (by simpa using hj)
  rw [show i+1+j=i+(j+1) by omega];exact this)
theorem y9:∀ (l:List (Option V)) (i j:Nat) (v:V),l[j]? =some none→(pD kb bo bs i (l.set j (some v))).Perm (kb (bo (i+j)) (bs (i+j)) v++pD kb bo bs i l)
 | [],_,_,_,h=>by simp at h
 | o :: r,i,0,v,h=>by
   obtain rfl:o=none:=by simpa using h
   exact List.Perm.refl _
 | some u :: r,i,j+1,v,h=>by
   have:=y9 r (i+1) j v (by simpa using h)
   rw [show i+1+j=i+(j+1) by omega] at this
   show (kb (bo i) (bs i) u++pD kb bo bs (i+1) (r.set j (some v))).Perm _
   refine (List.Perm.append_left _ this).trans ?_
   show (kb (bo i) (bs i) u++(kb (bo (i+(j+1))) (bs (i+(j+1))) v++pD kb bo bs (i+1) r)).Perm (kb (bo (i+(j+1))) (bs (i+(j+1))) v++(kb (bo i) (bs i) u++pD kb bo bs (i+1) r))
   rw [← List.append_assoc,← List.append_assoc]
   exact List.Perm.append_right _ List.perm_append_comm
 | none :: r,i,j+1,v,h=>by
   have:=y9 r (i+1) j v (by simpa using h)
   rw [show i+1+j=i+(j+1) by omega] at this
   exact this
theorem za:∀ (l m:List (Option V)) (i:Nat),pD kb bo bs i (l++m)=pD kb bo bs i l++pD kb bo bs (i+l.length) m
 | [],m,i=>rfl
 | some v :: r,m,i=>by
   show kb (bo i) (bs i) v++pD kb bo bs (i+1) (r++m)=(kb (bo i) (bs i) v++pD kb bo bs (i+1) r)++pD kb bo bs (i+(r.length+1)) m
   rw [za r m (i+1),List.append_assoc,show i+1+r.length=i+(r.length+1) by omega]
 | none :: r,m,i=>by
   show pD kb bo bs (i+1) (r++m)=pD kb bo bs (i+1) r++pD kb bo bs (i+(r.length+1)) m
   rw [za r m (i+1),show i+1+r.length=i+(r.length+1) by omega]
theorem Ba {M M':List V} {i:Int} {v v':V} {s:Nat→Bk} (h:idx M i=some v) (hM:M'=M.set i.toNat v') (hs:sI=fun j=>if j=i.toNat then s else bs j):(gA kb bo sI M').Perm (kb (bo i.toNat) s v'++xW kb bo bs M i):=by
 obtain ⟨h0,h1,h2⟩:=ew h
 unfold gA xW
 have hl:(M.map some)[i.toNat]? =some (some v):=by rw [List.getElem?_map,h2];rfl
 have gZ:i.toNat < (M.map some).length:=(List.getElem?_eq_some_iff.1 hl).1
 have hn:((M.map some).set i.toNat none)[i.toNat]? =some none:=by rw [List.getElem?_set_self gZ]
 have e1:M'.map some=((M.map some).set i.toNat none).set i.toNat (some v'):=by rw [hM,List.map_set,List.set_set]
 rw [e1]
 have:=y9 (kb:=kb) (bo:=bo) (bs:=sI) ((M.map some).set i.toNat none) 0 i.toNat v' hn
 rw [Nat.zero_add] at this
 refine this.trans ?_
 rw [show sI i.toNat=s by rw [hs];simp]
 refine List.Perm.append_left _ ?_
 rw [sa (tg:=bo) (sI:=bs) ((M.map some).set i.toNat none) 0 (fun j u hj=>by
  rw [Nat.zero_add]
  refine ⟨rfl,?_⟩
  have:j≠i.toNat:=fun e=>by rw [e,hn] at hj;simp at hj
  rw [hs];simp [this])]
theorem wR {M:List V} {i:Int} {v:V} (h:idx M i=some v):(gA kb bo bs M).Perm (kb (bo i.toNat) (bs i.toNat) v++xW kb bo bs M i):=
 Ba h (yX (ew h).2.2).symm (by funext j;split<;>simp_all)
theorem Is {M:List V} {b:Bk} {s:Nat→Bk} {v:V} (h1:∀ j,j < M.length→tg j=bo j) (h2:tg M.length=b) (h3:∀ j,j < M.length→sI j=bs j) (h4:sI M.length=s):(gA kb tg sI (M++[v])).Perm (kb b s v++gA kb bo bs M):=by
 unfold gA
 rw [List.map_append,za,List.length_map,Nat.zero_add]
 have e1:pD kb tg sI M.length ([v].map some)=kb b s v:=by
  show kb (tg M.length) (sI M.length) v++[]=_
  rw [h2,h4,List.append_nil]
 rw [e1,sa (tg:=bo) (sI:=bs) (M.map some) 0 (fun j u hj=>by
  have:j < M.length:=by
   have:=(List.getElem?_eq_some_iff.1 hj).1
   simpa using this
  rw [Nat.zero_add]
  exact ⟨h1 j this,h3 j this⟩)]
 exact List.perm_append_comm
end ara
theorem aj.FM {n:Nat} {tm:List (Nat×AV)} {hp:Heap} {T:St→Prop} {V:Type} {kb:Bk→(Nat→Bk)→V→List (Bk×PO)} (k:∀ (bp:Bk) (bo:Nat→Bk) (bs:Nat→Nat→Bk),aj ⟨n,tm,(bp,.bU (gA kb bo bs [])) :: hp⟩ T):aj ⟨n,tm,hp⟩ T:=by
 refine aj.step (yy:=⟨n,tm,(⟨none,0⟩,.bU (gA kb (fun _=>⟨none,0⟩) (fun _ _=>⟨none,0⟩) [])) :: hp⟩) (fun w S a r=>?_) (k _ _ _)
 obtain ⟨g1,g2,g3⟩:=oc (b:=⟨none,0⟩) (o:=.bU []) r.hp (Ext.refl w) id ⟨rfl,by simp⟩ (.inl rfl)
 exact ⟨_,S,rfl,r.heap g3 g1,g2⟩
theorem aj.KU {n:Nat} {tm:List (Nat×AV)} {hp bY:Heap} {T:St→Prop} {V:Type} {kb:Bk→(Nat→Bk)→V→List (Bk×PO)} {bo:Nat→Bk} {bs:Nat→Nat→Bk} {M:List V} {i:Int} {v:V} {bp:Bk} (h:idx M i=some v) (u:iE hp bp (.bU (gA kb bo bs M)) bp (.bU (xW kb bo bs M i)) bY)
 (k:aj ⟨n,tm,GG (kb (bo i.toNat) (bs i.toNat) v)++bY⟩ T):aj ⟨n,tm,hp⟩ T:=by
 refine aj.step (fun w S a r=>?_) k
 obtain ⟨g1,g2⟩:=vg _ _ r.hp u (wR h)
 exact ⟨_,S,rfl,r.heap (fun m hm=>⟨hm,rfl⟩) g1,g2⟩
theorem aj.Nh {n:Nat} {tm:List (Nat×AV)} {hp ri h0:Heap} {bY:(Nat→Nat→Bk)→Heap} {T:St→Prop} {V:Type} {kb:Bk→(Nat→Bk)→V→List (Bk×PO)} {bo:Nat→Bk} {bs:Nat→Nat→Bk} {M M':List V} {i:Int} {v v':V} {b0 bp:Bk} {s:Nat→Bk} (h:idx M i=some v) (hb:b0=bo i.toNat) (hM:M'=M.set i.toNat v') (hs:zT hp h0 ri) (ho:h0=GG (kb b0 s v')) (u:∀ sI,iE ri bp (.bU (xW kb bo bs M i)) bp (.bU (gA kb bo sI M')) (bY sI))
 (k:∀ sI,aj ⟨n,tm,bY sI⟩ T):aj ⟨n,tm,hp⟩ T:=by
 refine aj.step (yy:=⟨n,tm,bY (fun j=>if j=i.toNat then s else bs j)⟩) (fun w S a r=>?_) (k _)
 obtain ⟨g0,e0⟩:=r.hp.same hs.perm
 rw [ho] at g0 e0
 obtain ⟨g1,g2⟩:=ub _ _ g0 (u (fun j=>if j=i.toNat then s else bs j)) (by rw [hb];exact Ba h hM rfl)
 exact ⟨_,S,rfl,r.heap (fun m hm=>⟨hm,rfl⟩) g1,e0.trans g2⟩
theorem aj.Ni {n:Nat} {tm:List (Nat×AV)} {hp ri h0:Heap} {bY:(Nat→Bk)→(Nat→Nat→Bk)→Heap} {T:St→Prop} {V:Type} {kb:Bk→(Nat→Bk)→V→List (Bk×PO)} {bo:Nat→Bk} {bs:Nat→Nat→Bk} {M:List V} {v:V} {b bp:Bk} {s:Nat→Bk} (hs:zT hp h0 ri) (ho:h0=GG (kb b s v)) (u:∀ tg sI,iE ri bp (.bU (gA kb bo bs M)) bp (.bU (gA kb tg sI (M++[v]))) (bY tg sI))
 (k:∀ tg sI,(∀ j,j < M.length→tg j=bo j)→tg M.length=b→aj ⟨n,tm,bY tg sI⟩ T):aj ⟨n,tm,hp⟩ T:=by
 have c1:∀ j,j < M.length→(fun j=>if j=M.length then b else bo j) j=bo j:=fun j hj=>if_neg (by omega)
 have c2:(fun j=>if j=M.length then b else bo j) M.length=b:=if_pos rfl
 refine aj.step (yy:=⟨n,tm,bY (fun j=>if j=M.length then b else bo j) (fun j=>if j=M.length then s else bs j)⟩) (fun w S a r=>?_) (k _ _ c1 c2)
 obtain ⟨g0,e0⟩:=r.hp.same hs.perm
 rw [ho] at g0 e0
 obtain ⟨g1,g2⟩:=ub _ _ g0 (u (fun j=>if j=M.length then b else bo j) (fun j=>if j=M.length then s else bs j)) (Is c1 c2 (fun j hj=>if_neg (by omega)) (if_pos rfl))
 exact ⟨_,S,rfl,r.heap (fun m hm=>⟨hm,rfl⟩) g1,e0.trans g2⟩
theorem aj.Nj {n:Nat} {tm:List (Nat×AV)} {hp bY:Heap} {T:St→Prop} {b:Bk} {o o':Ob} (he:o=o') (u:iE hp b o b o' bY) (k:aj ⟨n,tm,bY⟩ T):aj ⟨n,tm,hp⟩ T:=by
 subst he
 rw [AP u] at k
 exact k
def Me (n:Nat) (l:List Int):Option Unit:=if ∀ x∈l,0≤x∧x < n then some () else none
theorem Iu {n:Nat} {l:List Int} {u:Unit} (h:Me n l=some u):∀ x∈l,0≤x∧x < n:=by
 unfold Me at h
 split at h
 ·assumption
 ·cases h
def pA (bo:Nat→Bk) (i:Int):AV:=.ptr (bo i.toNat) 0
theorem P6 {bo tg:Nat→Bk} {N:Nat} (h:∀ j,j < N→tg j=bo j) {i:Int} (hi:0≤i∧i < N):pA bo i=pA tg i:=by
 unfold pA;rw [h i.toNat (by omega)]
theorem Nk {K:Type} {gk:K→AV} {bo tg:Nat→Bk} {N:Nat} (h:∀ j,j < N→tg j=bo j) {M:List (K×Int)} {u:Unit} (hg:Me N (M.map Prod.snd)=some u):(M.map fun e=>(gk e.1,pA bo e.2))=M.map fun e=>(gk e.1,pA tg e.2):=
 List.map_congr_left fun e he=>by rw [P6 h (Iu hg e.2 (List.mem_map.2 ⟨e,he,rfl⟩))]
theorem Nl {bo:Nat→Bk} {N:Nat} {b:Bk} (h:bo N=b) (o:Nat):AV.ptr (bo (N:Int).toNat) o=AV.ptr b o:=by
 rw [Int.toNat_natCast,h]
section rules
variable {P:Program} {all:Array Oper} {rest:List Oper} {n:Nat} {tm:List (Nat×AV)} {hp:Heap} {Q:St→Prop} {d:Nat} {ty:TypeId} {pos:String} {af:Array Edge}
theorem vh {K:Type} [DecidableEq K] {gk:K→AV} {gv:Int→AV} {M:List (K×Int)} {key:K} {t kt vt:TypeId} {i:TypeInfo} {x y:Operand} {b:Bk} [ay P t (.map kt vt)] [aP P vt i] [il P kt gk] (hx:bS tm x=some (.cd b)) (hy:bS tm y=some (gk key)) (f:kR hp b (.mp (M.map fun e=>(gk e.1,gv e.2)))) (hz:i.zero=some (.pointer none)) (h:bB M key=none):
 QV P ⟨some d,.lookup t x y false,ty,pos,af,none⟩ ⟨n,tm,hp⟩ (.raw (.pointer none)):=by
 intro w S a r
 have kx:=aN (σ:=⟨n,tm,hp⟩) r hx
 have ky:=aN (σ:=⟨n,tm,hp⟩) r hy
 obtain ⟨nb,hb,ex⟩:=kx.lY
 obtain ⟨L,c,M',zU,dW,p1,p2,p3,p4,p5,p6,p7,p8⟩:=tY (il.inj P kt) r.hp f
 obtain rfl:zU=nb:=by rw [p4] at hb;exact Option.some.inj hb
 rw [← pj p1 p8] at h
 have pC:=il.find (P:=P) (t:=kt) (g:=gk) ky dW.toList (M'.map Prod.fst) (by simpa using p6.symm) (fun j k' e h1 h2=>by
  rw [List.getElem?_map] at h1
  cases hm:M'[j]? with
  | none=>rw [hm] at h1;cases h1
  | some q=>rw [hm] at h1;rw [← Option.some.inj h1];exact (p7 j q e hm h2).1)
 rcases r8 (gv:=gv) (w:=w) (S:=S) (k:=key) M' dW.toList 0 p6.symm (fun j e m h1 h2=>(p7 j e m h1 h2).2) with ⟨q1,q2⟩ | ⟨v',j,val,q1,q2,q3,_⟩
 ·refine ⟨.pointer none,fun w1 e1=>?_,.raw _⟩
  simp [execOp,Instr.lookup,ex,run_underlying (ay.h (P:=P) (t:=t)),fh (e1.heap p5),il.check (P:=P) (t:=kt) ky,pC,q2,zeroValue,typeInfo,aP.h (P:=P) (t:=vt),hz]
 ·rw [q1] at h;cases h
theorem vi {K:Type} [DecidableEq K] {gk:K→AV} {gv:Int→AV} {M:List (K×Int)} {key:K} {v:Int} {t kt vt:TypeId} {i:TypeInfo} {x y:Operand} {b:Bk} [ay P t (.map kt vt)] [aP P vt i] [il P kt gk] (hx:bS tm x=some (.cd b)) (hy:bS tm y=some (gk key)) (f:kR hp b (.mp (M.map fun e=>(gk e.1,gv e.2)))) (h:bB M key=some v):
 QV P ⟨some d,.lookup t x y false,ty,pos,af,none⟩ ⟨n,tm,hp⟩ (gv v):=by
 intro w S a r
 have kx:=aN (σ:=⟨n,tm,hp⟩) r hx
 have ky:=aN (σ:=⟨n,tm,hp⟩) r hy
 obtain ⟨nb,hb,ex⟩:=kx.lY
 obtain ⟨L,c,M',zU,dW,p1,p2,p3,p4,p5,p6,p7,p8⟩:=tY (il.inj P kt) r.hp f
 obtain rfl:zU=nb:=by rw [p4] at hb;exact Option.some.inj hb
 rw [← pj p1 p8] at h
 have pC:=il.find (P:=P) (t:=kt) (g:=gk) ky dW.toList (M'.map Prod.fst) (by simpa using p6.symm) (fun j k' e h1 h2=>by
  rw [List.getElem?_map] at h1
  cases hm:M'[j]? with
  | none=>rw [hm] at h1;cases h1
  | some q=>rw [hm] at h1;rw [← Option.some.inj h1];exact (p7 j q e hm h2).1)
 rcases r8 (gv:=gv) (w:=w) (S:=S) (k:=key) M' dW.toList 0 p6.symm (fun j e m h1 h2=>(p7 j e m h1 h2).2) with ⟨q1,q2⟩ | ⟨v',j,val,q1,q2,q3,_⟩
 ·rw [q1] at h;cases h
 ·rw [q1] at h
  obtain rfl:=Option.some.inj h
  refine ⟨val,fun w1 e1=>?_,q3⟩
  simp [execOp,Instr.lookup,ex,run_underlying (ay.h (P:=P) (t:=t)),fh (e1.heap p5),il.check (P:=P) (t:=kt) ky,pC,q2]
end rules
section todo
variable {P:Program} {R:St→Prop} {k:List It} {σ:St}
theorem cD {α:Type} {c:Operand} {x y:Code} {p:Prop} [Decidable p] {a b z:α} (h:(if p then a else b)=z) (hc:bS σ.tm c=some (.bool (decide p))) (h1:a=z→aa P R (.code x :: k) σ) (h2:b=z→aa P R (.code y :: k) σ):aa P R (.code (.cond c x y) :: k) σ:=
 aa.yF hc (fun hp=>h1 (nv hp h)) (fun hp=>h2 (vz hp h))
theorem cB {α:Type} {c:Operand} {x y:Code} {p:Bool} {a b z:α} (h:(if p=true then a else b)=z) (hc:bS σ.tm c=some (.bool p)) (h1:a=z→aa P R (.code x :: k) σ) (h2:b=z→aa P R (.code y :: k) σ):aa P R (.code (.cond c x y) :: k) σ:=
 aa.cond hc (fun hp=>h1 (nv hp h)) (fun hp=>h2 (ql hp h))
end todo
section rules
variable {P:Program} {all:Array Oper} {rest:List Oper} {n:Nat} {tm:List (Nat×AV)} {hp:Heap} {Q:St→Prop} {d:Nat} {ty:TypeId} {pos:String} {af:Array Edge} {op:Op} {s:Nat} {j:Nat}
theorem gT {α:Type} {p:Prop} [Decidable p] {a b z:α} (h:(if p then a else b)=z) (hj:(all[j]?).bind (·.dst)=some s) (hs:lk tm s=some (.bool (decide p))) (hn:Nat.blt d n=true) (h1:a=z→ah P all (⟨some d,op,ty,pos,af,none⟩ :: rest) ⟨n,(s,.bool true) :: tm,hp⟩ Q)
 (h2:b=z→ah P all rest ⟨n,(d,.raw undef) :: (s,.bool false) :: tm,hp⟩ Q):ah P all (⟨some d,op,ty,pos,af,some (j,true)⟩ :: rest) ⟨n,tm,hp⟩ Q:=
 ah.cJ hj hs hn (fun hp=>h1 (nv hp h)) (fun hp=>h2 (vz hp h))
theorem gF {α:Type} {p:Prop} [Decidable p] {a b z:α} (h:(if p then a else b)=z) (hj:(all[j]?).bind (·.dst)=some s) (hs:lk tm s=some (.bool (decide p))) (hn:Nat.blt d n=true) (h1:b=z→ah P all (⟨some d,op,ty,pos,af,none⟩ :: rest) ⟨n,(s,.bool false) :: tm,hp⟩ Q)
 (h2:a=z→ah P all rest ⟨n,(d,.raw undef) :: (s,.bool true) :: tm,hp⟩ Q):ah P all (⟨some d,op,ty,pos,af,some (j,false)⟩ :: rest) ⟨n,tm,hp⟩ Q:=
 ah.fH hj hs hn (fun hp=>h1 (vz hp h)) (fun hp=>h2 (nv hp h))
end rules
theorem hP {P:Program} {σ:St} {s:Nat} {av:AV} {Q:List AV→St→Prop} (h1:lk σ.tm s=some av) (h2:Q [av] σ):aj σ (fun aI=>∃ rs,Rs P aI [.tmp s] rs∧Q rs aI):=aj.here ⟨[av],.cons (.tmp _ _ h1) .nil,h2⟩
theorem cR {hp:Heap} {l:List AV}:uW hp l l:=uW.refl _
theorem hH {P:Program} {σ:St} {s:Nat} {av:AV} {Q:List AV→Heap→Prop} {bY:Heap} (h1:lk σ.tm s=some av) (is:List Nat) (hs:yY σ.hp is=some bY) (h2:Q [av] bY):aj σ (fun aI=>∃ rs,Rs P aI [.tmp s] rs∧(∃ h',HS aI.hp h'∧Q rs h')):=aj.here ⟨[av],.cons (.tmp _ _ h1) .nil,bY,vL hs,h2⟩
theorem hQ {P:Program} {σ:St} {s t:Nat} {av aw:AV} {Q:List AV→St→Prop} (h1:lk σ.tm s=some av) (z6:lk σ.tm t=some aw) (h2:Q [av,aw] σ):aj σ (fun aI=>∃ rs,Rs P aI [.tmp s,.tmp t] rs∧Q rs aI):=aj.here ⟨[av,aw],.cons (.tmp _ _ h1) (.cons (.tmp _ _ z6) .nil),h2⟩
theorem hI {P:Program} {σ:St} {s t:Nat} {av aw:AV} {Q:List AV→Heap→Prop} {bY:Heap} (h1:lk σ.tm s=some av) (z6:lk σ.tm t=some aw) (is:List Nat) (hs:yY σ.hp is=some bY) (h2:Q [av,aw] bY):aj σ (fun aI=>∃ rs,Rs P aI [.tmp s,.tmp t] rs∧(∃ h',HS aI.hp h'∧Q rs h')):=aj.here ⟨[av,aw],.cons (.tmp _ _ h1) (.cons (.tmp _ _ z6) .nil),bY,vL hs,h2⟩
end Go.Eng
namespace Go.Eng
open Go
section
variable {K V:Type} [DecidableEq K] [wC K]
end
end Go.Eng
namespace Go.Eng
open Go
variable [bz]
def pN:Nat→Nat→Nat
 | 0,b=>2 * b+1
 | a+1,b=>2 * pN a b
theorem BX:∀ (a b a' b':Nat),pN a b=pN a' b'→a=a'∧b=b'
 | 0,b,0,b',h=>by unfold pN at h;exact ⟨rfl,by omega⟩
 | 0,b,a'+1,b',h=>by unfold pN at h;omega
 | a+1,b,0,b',h=>by unfold pN at h;omega
 | a+1,b,a'+1,b',h=>by
   unfold pN at h
   obtain ⟨h1,h2⟩:=BX a b a' b' (by omega)
   exact ⟨by rw [h1],h2⟩
def pO:Option Nat→Nat
 | none=>0
 | some n=>n+1
theorem Sz:pO none=0:=rfl
theorem SA (n:Nat):pO (some n)=n+1:=rfl
theorem Iv {a b:Option Nat} (h:pO a=pO b):a=b:=by
 cases a<;>cases b<;>simp only [Sz,SA] at h
 ·rfl
 ·omega
 ·omega
 ·rename_i n m
  rw [show n=m by omega]
def Iw (a b:Bk):Bk:=⟨some (pN (pN (pO a.cr) a.cap) (pN (pO b.cr) b.cap)),0⟩
theorem FN {a b a' b':Bk} (h:Iw a b=Iw a' b'):a=a'∧b=b':=by
 have h1:=Option.some.inj (Bk.mk.inj h).1
 obtain ⟨h2,h3⟩:=BX _ _ _ _ h1
 obtain ⟨h4,h5⟩:=BX _ _ _ _ h2
 obtain ⟨h6,h7⟩:=BX _ _ _ _ h3
 cases a;cases b;cases a';cases b'
 simp only at h4 h5 h6 h7
 rw [Iv h4,h5,Iv h6,h7]
 exact ⟨rfl,rfl⟩
open Classical in
noncomputable def JP (x:Bk):Bk:=if h:∃ a b,Iw a b=x then h.choose else x
open Classical in
noncomputable def Ho (x:Bk):Bk:=if h:∃ a b,Iw a b=x then h.choose_spec.choose else x
theorem Ix (a b:Bk):JP (Iw a b)=a:=by
 have h:∃ a' b',Iw a' b'=Iw a b:=⟨a,b,rfl⟩
 unfold JP
 rw [dif_pos h]
 exact (FN h.choose_spec.choose_spec).1
theorem Iy (a b:Bk):Ho (Iw a b)=b:=by
 have h:∃ a' b',Iw a' b'=Iw a b:=⟨a,b,rfl⟩
 unfold Ho
 rw [dif_pos h]
 exact (FN h.choose_spec.choose_spec).2
section rules
variable {P:Program} {all:Array Oper} {n:Nat} {B:Heap} {tk:List Tok} {dy:List Nat} {i:Nat} {rest:List Oper} {tm kD:List (Nat×AV)} {acc:(Nat→Bk)→List (Nat×AV)} {Q:(Nat→Bk)→List (Nat×AV)→Prop} {d:Nat} {ty:TypeId} {pos:String} {af:Array Edge} {op:Op}
theorem AT.P7 {V:Bk→Bk→AV} {Ti H1:(Nat→Bk)→Heap} {Pi H2:Bk→Bk→Heap} (Er:∀ β,rW tk i β=[[]]) (H4:∀ β,qB tk i β=Ti β) (H5:∀ β b,iW tk i (mD β i b)=Pi (JP b) (Ho b)) (h1:∀ β,nK (Ti β) B=some (H1 β)) (h2:∀ x y,nK (Pi x y) B=some (H2 x y)) (hn:Nat.blt d n=true) (hr:Nb d tm=kD) (Kw:dy.contains i=true)
 (pt:∀ β,ah P all [⟨some d,op,ty,pos,af,none⟩] ⟨n,yL (looks all ⟨some d,op,ty,pos,af,none⟩) (tm++acc β),H1 β⟩ (fun aI=>∃ x y vd,aI=⟨n,vd,H2 x y⟩∧lk vd d=some (V x y)))
 (k:AT P all n B tk dy (i+1) rest kD (fun β=>(d,V (JP (β i)) (Ho (β i))) :: acc β) Q):AT P all n B tk dy i (⟨some d,op,ty,pos,af,none⟩ :: rest) tm acc Q:=by
 refine AT.PY (V:=fun b=>V (JP b) (Ho b)) (Pi:=fun b=>Pi (JP b) (Ho b)) (H2:=fun b=>H2 (JP b) (Ho b)) Er H4 H5 h1 (fun b=>h2 _ _) hn hr Kw (fun β=>?_) k
 refine fun w S a r=>fy ?_ _ _ _ (pt β w S a r)
 rintro e a' w' ⟨he,aI,S',⟨x,y,vd,q1,q2⟩,hh⟩
 exact ⟨he,aI,S',⟨Iw x y,vd,by rw [Ix,Iy];exact q1,by rw [Ix,Iy];exact q2⟩,hh⟩
end rules
section
variable {P:Program} {R:St→Prop} {k:List It} {σ:St}
end
def zb:List (Bk×PO)→Heap→Option Heap
 | [],r=>some r
 | (b,.cells cs) :: l,r=>match zb l r with
   | some m=>some ((b,.cells cs) :: m)
   | none=>none
 | (b,.arr sz xs) :: l,r=>match zb l r with
   | some m=>some ((b,.arr sz xs) :: m)
   | none=>none
theorem vP:∀ {l:List (Bk×PO)} {r m:Heap},zb l r=some m→GG l++r=m
 | [],r,m,h=>Option.some.inj h
 | (b,.cells cs) :: l,r,m,h=>by
   unfold zb at h
   split at h
   ·rename_i m' hm
    obtain rfl:=Option.some.inj h
    rw [← vP hm];rfl
   ·cases h
 | (b,.arr sz xs) :: l,r,m,h=>by
   unfold zb at h
   split at h
   ·rename_i m' hm
    obtain rfl:=Option.some.inj h
    rw [← vP hm];rfl
   ·cases h
theorem zc {l:List (Bk×PO)} {m:Heap} (h:zb l []=some m):m=GG l:=by rw [← vP h,List.append_nil]
section view
variable {V:Type} {kb:Bk→(Nat→Bk)→V→List (Bk×PO)} {fs:V→List AV} {bo:Nat→Bk} {bs:Nat→Nat→Bk} {M:List V} {i:Int} {v:V} {hp bY LP:Heap} {b bp:Bk}
theorem Iz {w:World} {S:Nat→Prop} (r:bZ w S hp) (h:idx M i=some v) (u:iE hp bp (.bU (gA kb bo bs M)) bp (.bU (xW kb bo bs M i)) bY):bZ w S (GG (kb (bo i.toNat) (bs i.toNat) v)++bY)∧∀ n,Has (GG (kb (bo i.toNat) (bs i.toNat) v)++bY) n→Has hp n:=by
 obtain ⟨r1,e1⟩:=vg _ _ r u (wR h)
 refine ⟨r1,fun n hn=>?_⟩
 rcases e1.new n hn with h | h
 ·exact h
 ·have:=r1.lt hn;omega
theorem QV.ara {P:Program} {o:Oper} {n:Nat} {tm:List (Nat×AV)} {av:AV} (h:idx M i=some v) (u:iE hp bp (.bU (gA kb bo bs M)) bp (.bU (xW kb bo bs M i)) bY) (e:zb (kb (bo i.toNat) (bs i.toNat) v) bY=some LP) (q:QV P o ⟨n,tm,LP⟩ av):QV P o ⟨n,tm,hp⟩ av:=by
 intro w S a r
 have:=vP e
 subst this
 exact q w S a ⟨r.size,r.defers,r.tm,(Iz r.hp h u).1⟩
end view
theorem aj.og {n:Nat} {tm:List (Nat×AV)} {hp ri h0 bY:Heap} {T:St→Prop} {V:Type} {kb:Bk→(Nat→Bk)→V→List (Bk×PO)} {bo:Nat→Bk} {bs:Nat→Nat→Bk} {M:List V} {i:Int} {v:V} {bp:Bk} (h:idx M i=some v) (hs:zT hp h0 ri) (ho:zb (kb (bo i.toNat) (bs i.toNat) v) []=some h0) (u:iE ri bp (.bU (xW kb bo bs M i)) bp (.bU (gA kb bo bs M)) bY)
 (k:aj ⟨n,tm,bY⟩ T):aj ⟨n,tm,hp⟩ T:=by
 refine aj.step (yy:=⟨n,tm,bY⟩) (fun w S a r=>?_) k
 obtain ⟨g0,e0⟩:=r.hp.same hs.perm
 rw [zc ho] at g0 e0
 obtain ⟨g1,g2⟩:=ub _ _ g0 u (wR h)
 exact ⟨_,S,rfl,r.heap (fun m hm=>⟨hm,rfl⟩) g1,e0.trans g2⟩
theorem aj.eB {n:Nat} {tm:List (Nat×AV)} {hp bY LP:Heap} {T:St→Prop} {V:Type} {kb:Bk→(Nat→Bk)→V→List (Bk×PO)} {bo:Nat→Bk} {bs:Nat→Nat→Bk} {M:List V} {i:Int} {v:V} {bp:Bk} (h:idx M i=some v) (u:iE hp bp (.bU (gA kb bo bs M)) bp (.bU (xW kb bo bs M i)) bY) (e:zb (kb (bo i.toNat) (bs i.toNat) v) bY=some LP)
 (k:aj ⟨n,tm,LP⟩ T):aj ⟨n,tm,hp⟩ T:=aj.KU h u (by rw [vP e];exact k)
theorem aj.jU {n:Nat} {tm:List (Nat×AV)} {hp ri h0:Heap} {bY:(Nat→Nat→Bk)→Heap} {T:St→Prop} {V:Type} {kb:Bk→(Nat→Bk)→V→List (Bk×PO)} {bo:Nat→Bk} {bs:Nat→Nat→Bk} {M:List V} {i:Int} {v v':V} {bp:Bk} {s:Nat→Bk} (h:idx M i=some v) (hs:zT hp h0 ri) (ho:zb (kb (bo i.toNat) s v') []=some h0) (u:∀ sI,iE ri bp (.bU (xW kb bo bs M i)) bp (.bU (gA kb bo sI (M.set i.toNat v'))) (bY sI))
 (k:∀ sI,aj ⟨n,tm,bY sI⟩ T):aj ⟨n,tm,hp⟩ T:=aj.Nh h rfl rfl hs (zc ho) u k
theorem aj.FO {n:Nat} {tm:List (Nat×AV)} {hp ri h0:Heap} {bY:(Nat→Bk)→(Nat→Nat→Bk)→Heap} {T:St→Prop} {V:Type} {kb:Bk→(Nat→Bk)→V→List (Bk×PO)} {bo:Nat→Bk} {bs:Nat→Nat→Bk} {M:List V} {v:V} {b bp:Bk} {s:Nat→Bk} (hs:zT hp h0 ri) (ho:zb (kb b s v) []=some h0) (u:∀ tg sI,iE ri bp (.bU (gA kb bo bs M)) bp (.bU (gA kb tg sI (M++[v]))) (bY tg sI))
 (k:∀ tg sI,(∀ j,j < M.length→tg j=bo j)→tg M.length=b→aj ⟨n,tm,bY tg sI⟩ T):aj ⟨n,tm,hp⟩ T:=aj.Ni hs (zc ho) u k
theorem FP {α:Type} (M:List α) (v:α):idx (M++[v]) (M.length:Int)=some v:=by
 unfold idx
 rw [if_pos (Int.natCast_nonneg _),Int.toNat_natCast,List.getElem?_append_right (Nat.le_refl _),Nat.sub_self];rfl
theorem KV {α:Type} {M:List α} {i:Int} {x:α} (h:idx M i=some x) (v:α):idx (M++[v]) i=some x:=by
 obtain ⟨h0,h1,h2⟩:=ew h
 unfold idx
 rw [if_pos h0,List.getElem?_append_left (by omega),h2]
theorem IA {bo:Nat→Bk} {N:Nat} {b:Bk} (h:bo N=b) (o:Nat):AV.ptr (bo ((N:Nat):Int).toNat) o=AV.ptr b o:=Nl h o
theorem Mf {K:Type} {gk:K→AV} {bo tg:Nat→Bk} {N:Nat} (h:∀ j,j < N→tg j=bo j) {M:List (K×Int)} {u:Unit} (hg:Me N (M.map Prod.snd)=some u):Ob.mp (M.map fun e=>(gk e.1,pA bo e.2))=Ob.mp (M.map fun e=>(gk e.1,pA tg e.2)):=congrArg Ob.mp (Nk h hg)
def Df (l:List Bk) (k:Nat):Bk:=l.getD k ⟨none,0⟩
end Go.Eng
namespace Go.Eng
open Go Go.Sort Go.Proofs
variable [bz]
end Go.Eng
namespace Go.Eng
open Go
variable [bz]
section rules
variable {P:Program} {all:Array Oper} {rest:List Oper} {n:Nat} {tm:List (Nat×AV)} {hp:Heap} {Q:St→Prop} {d:Nat} {ty:TypeId} {pos:String} {af:Array Edge}
theorem Ag {t e:TypeId} {i:TypeInfo} {z:Value} {len sz:Nat} {parts:List (Nat×Operand)} {xs:List AV} [ay P t (.slice e)] [aP P e i] [kK P e sz] (hz:i.zero=some z) (hl:Gi tm parts 0=some xs) (hlen:Nat.beq parts.length len=true) (sB:sQ sz xs=true)
 (Fi:Nat.ble (len * i.size) 16777216=true) (hn:Nat.blt d n=true) (kk:∀ m:Nat,ah P all rest ⟨n,(d,.sl sz ⟨some m,len⟩ 0 len) :: tm,(⟨some m,len⟩,.arr sz xs) :: hp⟩ Q):ah P all (⟨some d,.buildSlice t len parts.toArray,ty,pos,af,none⟩ :: rest) ⟨n,tm,hp⟩ Q:=by
 obtain ⟨i',CQ,Ep⟩:=kK.h (P:=P) (t:=e)
 obtain rfl:i'=i:=by rw [aP.h (P:=P) (t:=e)] at CQ;exact (Option.some.inj CQ).symm
 subst Ep
 refine ah.Cv rfl fun w S a r=>?_
 obtain rfl:parts.length=len:=Nat.eq_of_beq_eq_true hlen
 have Fi:=Nat.le_of_ble_eq_true Fi
 obtain ⟨zz,Fj⟩:∃ zz:Array Value,zz=if parts.length * i'.size=0 then #[] else z.cells:=⟨_,rfl⟩
 obtain ⟨vs,g1,g2,g3,g4⟩:=vw (σ:=⟨n,tm,hp⟩) r i'.size parts 0 xs ((Array.range (parts.length * i'.size)).map (zz[· % zz.size]!)) hl (jg sB) (by simp)
 simp only [Nat.zero_mul,List.take_zero,List.nil_append] at g1
 have e0:=Ext.alloc w (.cells vs.toArray e)
 have hh:Holds (w.alloc (.cells vs.toArray e)) S ⟨some w.heap.size,parts.length⟩ (.arr i'.size xs):=by
  refine ⟨jg sB,by simp [g3],.inr ⟨w.heap.size,vs.toArray,e,rfl,?_,by simp [g2,g3],g4.mono fun m hm=>⟨hm,e0.same m (r.hp.slt m hm)⟩⟩⟩
  show (w.heap.push _)[w.heap.size]? =_
  simp
 obtain ⟨k1,k2,k3⟩:=oc r.hp e0 id hh (.inr ⟨_,rfl,Nat.le_refl _⟩)
 refine ⟨.slice (some ⟨w.heap.size,0,none⟩) parts.length parts.length,w.alloc (.cells vs.toArray e),S,_,?_,(r.heap k3 k1).put hn ?_,k2,kk w.heap.size⟩
 ·have hm:((parts.toArray.map fun p=>(p.1,a.eval p.2))).toList=parts.map fun p=>(p.1,a.eval p.2):=by simp
  simp only [execOp,Instr.buildSlice,Sem.run_bind,run_underlying (ay.h (P:=P) (t:=t)),Result.andThen_ok,sizeOf,typeInfo,run_program,aP.h (P:=P) (t:=e),Sem.run_pure]
  rw [if_neg (by omega)]
  by_cases h0:parts.length * i'.size=0
  ·rw [if_pos h0] at Fj ⊢
   subst Fj
   simp only [Sem.run_bind,Result.andThen_ok,Sem.run_pure,hm,g1,nH]
  ·rw [if_neg h0] at Fj ⊢
   subst Fj
   simp only [Sem.run_bind,Result.andThen_ok,Sem.run_pure,zeroValue,typeInfo,run_program,aP.h (P:=P) (t:=e),hz,hm,g1,nH]
 ·have:=At.sl (w:=w.alloc (.cells vs.toArray e)) (S:=S) i'.size ⟨some w.heap.size,parts.length⟩ 0 parts.length w.heap.size parts.length rfl (Nat.le_refl _) (by simp)
  simpa using this
theorem xD {t e:TypeId} {i:TypeInfo} {x y:Operand} {k:IntKind} {j:Int} {q o sz len:Nat} {b:Bk} [ay P t (.slice e)] [aP P e i] (hx:bS tm x=some (.sl sz b 0 len)) (eF:Nat.beq i.size sz=true) (hy:bS tm y=some (.int k j))
 (hj:j=(q:Int)) (hq:Nat.blt q len=true) (ho:Nat.beq (q * sz) o=true):QV P ⟨some d,.indexAddr t x y,ty,pos,af,none⟩ ⟨n,tm,hp⟩ (.ptr b o):=
 (fun w S a r=>by
  obtain rfl:i.size=sz:=Nat.eq_of_beq_eq_true eF
  have hq:q < len:=by
   have:=Nat.le_of_ble_eq_true (show Nat.ble (q+1) len=true from hq);omega
  have ho:=Nat.eq_of_beq_eq_true ho
  obtain ⟨oa,cap,e1,e2⟩:=(aN (σ:=⟨n,tm,hp⟩) r hx).mB
  rcases e2 with ⟨_,_,hl,_⟩ | ⟨m,hb,rfl,h1,h2⟩ | ⟨m,ad,hb,_,hl,_⟩
  ·omega
  ·refine ⟨.pointer (some ⟨m,o,none⟩),fun w1 _=>?_,.ptr _ _ m hb⟩
   have:=sP (P:=P) (ay.h (P:=P) (t:=t)) (aP.h (P:=P) (t:=e)) ⟨m,0 * i.size,none⟩ len cap k j (by omega) (by omega) w1
   have Y3:j.toNat=q:=by omega
   rw [je,← Nat.add_mul,Y3,Nat.zero_add,ho] at this
   simp only [Nat.zero_mul] at this
   simp [execOp,e1,(aN (σ:=⟨n,tm,hp⟩) r hy).bR,this]
  ·omega)
end rules
theorem aj.IB {n m k sz:Nat} {tm:List (Nat×AV)} {hp bY:Heap} {T:St→Prop} {xs cs:List AV} (u:iE hp ⟨some m,k⟩ (.arr sz xs) ⟨some m,k⟩ (.cells cs) bY) (hk:Nat.beq xs.length k=true) (hc:flat xs=cs) (kk:aj ⟨n,tm,bY⟩ T):aj ⟨n,tm,hp⟩ T:=fun w S a r=>by
 obtain ⟨h1,h2,h3⟩:=r.hp.holds _ u.lp.mem
 have hk:=Nat.eq_of_beq_eq_true hk
 subst hc
 have hlen:∀ xs:List AV,(∀ x∈xs,El sz x)→(flat xs).length=xs.length * sz:=by
  intro xs
  induction xs with
  | nil=>intro _;simp [flat]
  | cons x r ih=>
    intro h
    have:=ih fun y hy=>h y (List.mem_cons_of_mem _ hy)
    have hx:=(h x (List.mem_cons_self ..)).1
    show (x.cells++flat r).length=_
    rw [List.length_append,this,hx,List.length_cons,Nat.add_mul,Nat.one_mul,Nat.add_comm]
 have hH:Holds w S ⟨some m,k⟩ (.cells (flat xs)):=by
  refine ⟨fun c hc=>?_,?_⟩
  ·obtain ⟨x,hx,Pj⟩:=List.mem_flatMap.1 hc
   exact (h1 x hx).2 c Pj
  ·rcases h3 with ⟨hb,_⟩ | ⟨n',vs,E,g1,g2,g3,g4⟩
   ·cases hb
   ·exact ⟨n',vs,E,g1,g2,by rw [g3,hlen xs h1,hk],g4⟩
 obtain ⟨r1,e1,_⟩:=kM r.hp u (vK w (some m)) id id hH (.inl rfl)
 obtain ⟨aI,S',t1,t2,t3⟩:=kk w S a (r.heap (fun m hm=>⟨hm,rfl⟩) r1)
 exact ⟨aI,S',t1,t2,e1.trans t3⟩
theorem aj.kT {n m k sz:Nat} {tm:List (Nat×AV)} {hp bY:Heap} {T:St→Prop} {b:Bk} {xs cs:List AV} (hb:(⟨some m,k⟩:Bk)=b) (u:iE hp b (.cells cs) b (.arr sz xs) bY) (hk:Nat.beq xs.length k=true) (hc:flat xs=cs) (sB:sQ sz xs=true) (kk:aj ⟨n,tm,bY⟩ T):aj ⟨n,tm,hp⟩ T:=fun w S a r=>by
 obtain ⟨h1,n',vs,E,g1,g2,g3,g4⟩:=r.hp.holds _ u.lp.mem
 have hk:=Nat.eq_of_beq_eq_true hk
 have sB:=jg sB
 subst hc
 subst hb
 have hlen:∀ xs:List AV,(∀ x∈xs,El sz x)→(flat xs).length=xs.length * sz:=by
  intro xs
  induction xs with
  | nil=>intro _;simp [flat]
  | cons x r ih=>
    intro h
    have:=ih fun y hy=>h y (List.mem_cons_of_mem _ hy)
    have hx:=(h x (List.mem_cons_self ..)).1
    show (x.cells++flat r).length=_
    rw [List.length_append,this,hx,List.length_cons,Nat.add_mul,Nat.one_mul,Nat.add_comm]
 have hH:Holds w S ⟨some m,k⟩ (.arr sz xs):=⟨sB,by show xs.length≤k;omega,.inr ⟨n',vs,E,g1,g2,by rw [g3,hlen xs sB,hk],g4⟩⟩
 obtain ⟨r1,e1,_⟩:=kM r.hp u (vK w (some m)) id id hH (.inl rfl)
 obtain ⟨aI,S',t1,t2,t3⟩:=kk w S a (r.heap (fun m hm=>⟨hm,rfl⟩) r1)
 exact ⟨aI,S',t1,t2,e1.trans t3⟩
def vQ (s:List UInt8):Option (List UInt8):=if s.length≤140737488355328∧s.all (fun b=>decide (b.toNat < 128))=true then some (Lib.toUpperA s) else none
section rules
variable {P:Program} {all:Array Oper} {rest:List Oper} {n:Nat} {tm:List (Nat×AV)} {hp:Heap} {Q:St→Prop} {d:Nat} {ty:TypeId} {pos:String} {af:Array Edge}
end rules
section rules
variable {P:Program} {all:Array Oper} {rest:List Oper} {n:Nat} {tm:List (Nat×AV)} {hp:Heap} {Q:St→Prop} {d:Nat} {ty:TypeId} {pos:String} {af:Array Edge}
end rules
end Go.Eng
namespace Go.Eng
open Go Go.Proofs
variable [bz]
section rules
variable {P:Program} {all:Array Oper} {rest:List Oper} {n:Nat} {tm:List (Nat×AV)} {hp:Heap} {Q:St→Prop} {d:Nat} {ty:TypeId} {pos:String} {af:Array Edge}
end rules
end Go.Eng
namespace Go.Eng
open Go Go.Sort Go.Proofs
variable [bz]
section rules
variable {P:Program} {all:Array Oper} {rest:List Oper} {n:Nat} {tm:List (Nat×AV)} {hp:Heap} {Q:St→Prop} {d:Nat} {ty:TypeId} {pos:String} {af:Array Edge}
end rules
end Go.Eng
namespace Go.Eng
open Go Go.Proofs
variable [bz]
section rules
variable {P:Program} {all:Array Oper} {rest:List Oper} {n:Nat} {tm:List (Nat×AV)} {hp:Heap} {Q:St→Prop} {d:Nat} {ty:TypeId} {pos:String} {af:Array Edge}
end rules
section order
variable {P:Program} {all:Array Oper} {n m:Nat}
def uJ (P:Program) (all:Array Oper) (n m:Nat) (I:Array Bool→Act→World→(Nat→Prop)→Prop) (i:Nat) (o:Oper) (e:Env) (av:Option AV):Prop:=
 (∀ d,o.dst=some d→d < n)∧∀ (listed:Array Bool) (w:World) (S:Nat→Prop) (a:Act),Ft all m listed→i < listed.size→listed.getD i false=false→(∀ j,pw all i j→listed.getD j false=true)→a.tmps.size=n→a.defers=[]→(∀ n,S n→n < w.heap.size)→I listed a w S→wK w S (looks all o) e a→
  ((Region.wanted o (yielded all a.tmps)=true∧∀ (K:Act→World→Prop) (Q:Exit→Act→World→Prop),(∀ v w' S',(∀ k,S k→S' k∧w'.heap[k]? =w.heap[k]?)→(∀ n,S' n→n < w'.heap.size)→I (listed.setIfInBounds i true) (a.put o.dst v) w' S'→(∀ x,av=some x→At w' S' x v)→K (a.put o.dst v) w')→o.wp P a w K Q)∨
   (Region.wanted o (yielded all a.tmps)=false∧I (listed.setIfInBounds i true) (a.put o.dst undef) w S∧∀ x,av=some x→x=.raw undef))
variable {gP:Nat→Option AV} {en:Nat→Env} {e:Env} {I:Array Bool→Act→World→(Nat→Prop)→Prop}
theorem GH (hB:qj all m) (hm:m≤all.size) {Q:Exit→Act→World→Prop} (h0:en 0=e) (hs:∀ i o,i < m→all[i]? =some o→uJ P all n m I i o (en i) (gP i)∧en (i+1)=fQ (en i) o.dst (gP i))
 (fin:∀ listed a w S,(∀ i,i < m→listed.getD i false=true)→a.tmps.size=n→a.defers=[]→(∀ n,S n→n < w.heap.size)→I listed a w S→sZ w S (en m) a→wpList P all Q (all.toList.drop m) a w):
 ∀ (fuel:Nat) (listed:Array Bool) (a:Act) (w:World) (S:Nat→Prop),Ft all m listed→(listed.toList.count true)+fuel=all.size→a.tmps.size=n→a.defers=[]→(∀ n,S n→n < w.heap.size)→I listed a w S→sZ w S (nM all gP e listed all.size) a→
   wpAny P .any all Q fuel listed a w:=by
 have Hl:∀ i o,i < m→all[i]? =some o→en (i+1)=fQ (en i) o.dst (gP i):=fun i o h1 h2=>(hs i o h1 h2).2
 have done:∀ (fuel:Nat) (listed:Array Bool) (a:Act) (w:World) (S:Nat→Prop),Ft all m listed→(listed.toList.count true)+fuel=all.size→a.tmps.size=n→a.defers=[]→(∀ n,S n→n < w.heap.size)→I listed a w S→sZ w S (nM all gP e listed all.size) a→
  (∀ i,i < m→listed.getD i false=true)→wpAny P .any all Q fuel listed a w:=by
  intro fuel listed a w S L hc eF tV hr hg qa ga
  have Ec:∀ i,m≤i→listed.getD i false=false:=fun i hi=>by
   cases hv:listed.getD i false with
   | false=>rfl
   | true=>have:=L.head i hv;omega
  have HM:listed.toList.count true=m:=by
   have:listed.toList=List.replicate m true++List.replicate (all.size - m) false:=by
    apply List.ext_getElem?
    intro i
    rcases Nat.lt_or_ge i m with hi | hi
    ·have iV:i < listed.size:=by rw [L.size];omega
     rw [List.getElem?_append_left (by simpa using hi)]
     have:=ga i hi
     simp [iV] at this
     simp [iV,hi,this]
    ·rw [List.getElem?_append_right (by simpa using hi)]
     rcases Nat.lt_or_ge i listed.size with iV | iV
     ·have:=Ec i hi
      simp [iV] at this
      have h2:i - m < all.size - m:=by rw [L.size] at iV;omega
      simp [iV,h2,this]
     ·have h2:¬ i - m < all.size - m:=by rw [L.size] at iV;omega
      simp [List.getElem?_eq_none (l:=listed.toList) (by simpa using iV),h2]
   rw [this,List.count_append,List.count_replicate,List.count_replicate]
   simp
  have HN:nM all gP e listed all.size=en m:=by
   have key:∀ k,k≤all.size→nM all gP e listed k=en (min k m):=by
    intro k
    induction k with
    | zero=>intro _;simp [nM,h0]
    | succ k ih=>
      intro hk
      have qk:all[k]? =some all[k]:=by simp [show k < all.size by omega]
      simp only [nM,qk,Option.bind_some,ih (by omega)]
      rcases Nat.lt_or_ge k m with h | h
      ·rw [if_pos (ga k h),Nat.min_eq_left (by omega),Nat.min_eq_left (by omega),Hl k _ h qk]
      ·rw [if_neg (by rw [Ec k h];simp),Nat.min_eq_right (by omega),Nat.min_eq_right (by omega)]
   rw [key all.size (Nat.le_refl _),Nat.min_eq_right hm]
  rw [HN] at qa
  exact yK hB fuel m listed a w (Nat.le_refl _) (by omega) L.size ga Ec (fin listed a w S ga eF tV hr hg qa)
 intro fuel
 induction fuel with
 | zero=>
   intro listed a w S L hc eF tV hr hg qa
   refine done 0 listed a w S L hc eF tV hr hg qa (fun i hi=>?_)
   have wL:listed.toList.count true=listed.toList.length:=by rw [Array.length_toList,L.size];omega
   have ga:=List.count_eq_length.1 wL
   have iV:i < listed.size:=by rw [L.size];omega
   have:=ga listed[i] (by simp)
   simp [iV];exact this.symm
 | succ fuel ih=>
   intro listed a w S L hc eF tV hr hg qa
   by_cases ga:∀ i,i < m→listed.getD i false=true
   ·exact done _ listed a w S L hc eF tV hr hg qa ga
   ·refine ⟨fun Er=>(ga fun i hi=>tT hB L.size Er i (by omega)).elim,fun i hi=>?_⟩
    obtain ⟨CQ,Ep⟩:=qV hi
    have pe:=vy Ep
    have tU:all[i]? =some all[i]:=by simp [CQ]
    have zS:i < m:=by
     rcases Nat.lt_or_ge i m with h | h
     ·exact h
     ·refine (ga fun j hj=>?_).elim
      have Hj:all[j]? =some all[j]:=by simp [show j < all.size by omega]
      exact gR.ready L.closed ((iy hB tU Hj (by omega)).2 h) hi
    have iV:i < listed.size:=by rw [L.size];exact CQ
    obtain ⟨⟨Hh,xx⟩,_⟩:=hs i _ zS tU
    have nJ:wK w S (looks all all[i]) (en i) a:=by
     intro s Hk av kC
     have hc:=AS (gP:=gP) (en:=en) (e:=e) hB L h0 Hl hm tU zS pe (fun j hj=>gR.ready L.closed hj hi) Hk all.size (Nat.le_refl _)
     rw [Nat.min_eq_right (by omega)] at hc
     exact qa s av (by rw [hc];exact kC)
    have L':Ft all m (listed.setIfInBounds i true):=by
     refine ⟨by simpa using L.size,fun k hk=>?_,fun k j o hk qk hw=>?_⟩
     ·rw [cK iV] at hk
      split at hk
      ·omega
      ·exact L.head k hk
     ·rw [cK iV] at hk
      rw [cK iV]
      split
      ·rfl
      ·split at hk
       ·rename_i PA
        subst PA
        obtain rfl:all[k]=o:=by rw [tU] at qk;exact Option.some.inj qk
        exact oy tU hi hw
       ·exact L.closed k j o hk qk hw
    have wL:(listed.setIfInBounds i true).toList.count true+fuel=all.size:=by
     have CR:listed[i]=false:=by simpa [iV] using pe
     have:(listed.setIfInBounds i true).toList=listed.toList.set i true:=by simp
     rw [this,List.count_set (by simpa using iV)]
     have JJ:listed.toList[i]'(by simpa using iV)=false:=by simpa using CR
     rw [JJ]
     have e1:(if (false==true)=true then 1 else 0)=0:=rfl
     have e2:(if (true==true)=true then 1 else 0)=1:=rfl
     rw [e1,e2]
     omega
    have Kk:∀ (v:Value) (w':World) (S':Nat→Prop),(∀ k,S k→S' k∧w'.heap[k]? =w.heap[k]?)→(∀ x,gP i=some x→At w' S' x v)→sZ w' S' (nM all gP e (listed.setIfInBounds i true) all.size) (a.put (all[i]).dst v):=by
     intro v w' S' SC lU s av kC
     rw [CX (gP:=gP) (e:=e) hB L tU zS pe s all.size (Nat.le_refl _),if_pos (by omega)] at kC
     by_cases hd:(all[i]).dst=some s
     ·rw [hd,jt] at kC
      have Kl:=Hh s hd
      exact ⟨v,by rw [hd];simp [Act.put,eF,Kl],lU _ kC⟩
     ·rw [gz hd] at kC
      obtain ⟨u,h1,h2⟩:=qa s av kC
      refine ⟨u,?_,h2.mono SC⟩
      cases Km:(all[i]).dst with
      | none=>simpa [Act.put] using h1
      | some d'=>
        have qN:d'≠s:=fun e=>hd (by rw [Km,e])
        simp [Act.put,qN,h1]
    have MU:∀ v,(a.put (all[i]).dst v).tmps.size=n:=fun v=>by cases (all[i]).dst<;>simp [Act.put,eF]
    have MW:∀ v,(a.put (all[i]).dst v).defers=[]:=fun v=>by cases (all[i]).dst<;>simp [Act.put,tV]
    simp only [wpOp,tU]
    rcases xx listed w S a L iV pe (fun j hj=>gR.ready L.closed hj hi) eF tV hr hg nJ with ⟨hw,JM⟩ | ⟨hw,hI,kC⟩
    ·rw [if_pos hw]
     exact .inl (JM _ _ (fun v w' S' SC gZ hI lU=>ih _ _ _ S' L' wL (MU v) (MW v) gZ hI (Kk v w' S' SC lU)))
    ·rw [if_neg (by rw [hw];simp)]
     refine ih _ _ _ S L' wL (MU _) (MW _) hr hI (Kk _ w S (fun k hk=>⟨hk,rfl⟩) (fun x hx=>?_))
     rw [kC x hx];exact .raw _
end order
theorem KW {w:World} {S:Nat→Prop} {hp:Heap} {b:Bk} {es tf:List (AV×AV)} (r:bZ w S ((b,.mp es) :: hp)) (h:es.Perm tf):bZ w S ((b,.mp tf) :: hp)∧gY w S ((b,.mp es) :: hp) w S ((b,.mp tf) :: hp):=by
 obtain ⟨L,c,hL,hH⟩:=r.holds _ (List.mem_cons_self ..)
 obtain ⟨r1,e1,_⟩:=kM r (o':=.mp tf) .here (vK w b.cr) id id ⟨L,c,hL.trans h,hH⟩ (.inl rfl)
 exact ⟨r1,e1⟩
section lit
variable {K V:Type} [DecidableEq K] [wC K]
def nw (lit:List (Nat×K×V)) (c:Nat→Bool):List (K×V):=(lit.filter (fun x=>c x.1)).map (·.2)
def wS (gk:K→AV) (gv:V→AV) (M:List (K×V)):List (AV×AV):=M.map fun e=>(gk e.1,gv e.2)
theorem sb {lit:List (Nat×K×V)} {c c':Nat→Bool} (h:∀ x∈lit,c x.1=c' x.1):nw lit c=nw lit c':=by
 unfold nw;rw [List.filter_congr h]
theorem Dg {lit:List (Nat×K×V)} {c:Nat→Bool} (h:∀ x∈lit,c x.1=true):nw lit c=lit.map (·.2):=by
 unfold nw;rw [List.filter_eq_self.2 h]
theorem GJ {lit:List (Nat×K×V)} {c:Nat→Bool} (h:∀ x∈lit,c x.1=false):nw lit c=[]:=by
 unfold nw;rw [List.filter_eq_nil_iff.2 (fun x hx=>by rw [h x hx];simp)];rfl
theorem xE {M:List (K×V)} {k:K} (h:∀ e∈M,e.1≠k):o3 M k=M:=by
 unfold o3
 exact List.filter_eq_self.2 fun e he=>by simpa using h e he
theorem IC:∀ {lit:List (Nat×K×V)} {c:Nat→Bool} {i:Nat} {k:K} {v:V},(lit.map (·.1)).Nodup→(lit.map (·.2.1)).Nodup→(i,k,v)∈lit→c i=false→(gm (nw lit c) k v).Perm (nw lit (fun j=>if j=i then true else c j)):=by
 intro lit c i k v hn hk hx hc
 have Nn:∀ e∈nw lit c,e.1≠k:=by
  intro e he P8
  obtain ⟨x,SD,rfl⟩:=List.mem_map.1 he
  obtain ⟨Rc,P9⟩:=List.mem_filter.1 SD
  have:x=(i,k,v):=by
   obtain ⟨a,b,AU⟩:=List.append_of_mem hx
   subst AU
   rw [List.map_append,List.map_cons,List.nodup_append] at hk
   obtain ⟨k1,k2,k3⟩:=hk
   rcases List.mem_append.1 Rc with h | h
   ·exact (k3 _ (List.mem_map.2 ⟨x,h,rfl⟩) k (by simp) P8).elim
   ·rcases List.mem_cons.1 h with h | h
    ·exact h
    ·exact ((List.nodup_cons.1 k2).1 (List.mem_map.2 ⟨x,h,P8⟩)).elim
  subst this
  rw [hc] at P9;cases P9
 refine (A6 _ _ _).trans ?_
 rw [xE Nn]
 obtain ⟨a,b,AU⟩:=List.append_of_mem hx
 subst AU
 rw [List.map_append,List.map_cons,List.nodup_append] at hn
 obtain ⟨n1,n2,n3⟩:=hn
 have ha:∀ x∈a,(if x.1=i then true else c x.1)=c x.1:=fun x hx=>if_neg (n3 _ (List.mem_map.2 ⟨x,hx,rfl⟩) i (by simp))
 have hb:∀ x∈b,(if x.1=i then true else c x.1)=c x.1:=fun x hx=>if_neg (fun e=>(List.nodup_cons.1 n2).1 (List.mem_map.2 ⟨x,hx,e⟩))
 unfold nw
 rw [List.filter_append,List.filter_append,List.filter_cons,List.filter_cons,List.filter_congr ha,List.filter_congr hb]
 simp only [hc,if_true,Bool.false_eq_true,if_false,List.map_append,List.map_cons]
 exact List.perm_middle.symm
def IL (w0:World) (S0:Nat→Prop) (hp:Heap) (p:Nat) (al:List (Nat×Nat)) (gk:K→AV) (gv:V→AV) (lit:List (Nat×K×V)) (listed:Array Bool) (a:Act) (w:World) (S:Nat→Prop):Prop:=
 if listed.getD p false=true then ∃ b v,(∀ x∈al,listed.getD x.1 false=true→a.tmps[x.2]? =some v)∧At w S (.cd b) v∧bZ w S ((b,.mp (wS gk gv (nw lit (listed.getD · false)))) :: hp)∧gY w0 S0 hp w S ((b,.mp (wS gk gv (nw lit (listed.getD · false)))) :: hp)
 else bZ w S hp∧gY w0 S0 hp w S hp
variable {P:Program} {all:Array Oper} {n m:Nat} {hp:Heap} {p:Nat} {al:List (Nat×Nat)} {gk:K→AV} {gv:V→AV} {lit:List (Nat×K×V)}
def refs (us:List (Nat×Nat)) (b:Bk):List (Nat×AV):=us.map fun x=>(x.2,.cd b)
inductive Dh (P:Program) (all:Array Oper) (n:Nat) (hp:Heap) (p:Nat) (al:List (Nat×Nat)) (gk:K→AV) (gv:V→AV) (lit:List (Nat×K×V)):Nat→List Oper→Env→Env→Prop
 | nil (i:Nat) (e:Env):Dh P all n hp p al gk gv lit i [] e e
 | am {i:Nat} {o:Oper} {l:List Oper} {e e':Env} {av:AV} (hi:i≠p) (hl:∀ x∈lit,x.1≠i) (ha:∀ x∈al,x.1≠i) (hd:∀ x∈al,o.dst≠some x.2) (h:AK P all n hp o e av) (k:Dh P all n hp p al gk gv lit (i+1) l (fQ e o.dst (some av)) e'):Dh P all n hp p al gk gv lit i (o :: l) e e'
 | mk {o:Oper} {l:List Oper} {e e':Env} {dp:Nat} (hl:∀ x∈lit,x.1≠p) (hd:o.dst=some dp) (hu:∀ x∈al,x.1=p→x.2=dp) (ID:∀ x∈al,x.1≠p→pw all x.1 p) (ha:∀ x∈lit,pw all x.1 p) (h:mF P all n hp o e [] (fun b=>.cd b) (fun b=>[(b,.mp [])])) (k:Dh P all n hp p al gk gv lit (p+1) l (fQ e o.dst none) e'):Dh P all n hp p al gk gv lit p (o :: l) e e'
 | mv {i:Nat} {o:Oper} {l:List Oper} {e e':Env} {s:Nat} {us:List (Nat×Nat)} (hi:i≠p) (hl:∀ x∈lit,x.1≠i) (hd:o.dst=some s) (hu:∀ x∈al,x.1=i→x.2=s) (hs:∀ x∈al,x.1≠i→x.2≠s) (ha:pw all i p) (BY:∀ x∈us,x∈al∧pw all i x.1) (hg:o.guard=none) (hn:s < n) (h:∀ b,MV P all n o (wM (lk (refs us b)) e) hp (.cd b)) (k:Dh P all n hp p al gk gv lit (i+1) l (fQ e o.dst none) e'):Dh P all n hp p al gk gv lit i (o :: l) e e'
 | ins {i:Nat} {o:Oper} {l:List Oper} {e e':Env} {key:K} {v:V} {us:List (Nat×Nat)} (hx:(i,key,v)∈lit) (hi:i≠p) (Di:∀ x∈al,x.1≠i) (hd:o.dst=none) (ha:pw all i p) (BY:∀ x∈us,x∈al∧pw all i x.1) (h:∀ b M,mF P all n hp o (wM (lk (refs us b)) e) [(b,.mp (wS gk gv M))] (fun _=>.raw undef) (fun _=>[(b,.mp (wS gk gv (gm M key v)))])) (k:Dh P all n hp p al gk gv lit (i+1) l e e'):Dh P all n hp p al gk gv lit i (o :: l) e e'
 | look {i:Nat} {o:Oper} {l:List Oper} {e e':Env} {av:AV} {us:List (Nat×Nat)} (hi:i≠p) (hl:∀ x∈lit,x.1≠i) (Di:∀ x∈al,x.1≠i) (hd:∀ x∈al,o.dst≠some x.2) (ha:pw all i p) (ID:∀ x∈lit,pw all i x.1) (BY:∀ x∈us,x∈al∧pw all i x.1) (h:∀ b,AK P all n ((b,.mp (wS gk gv (lit.map (·.2)))) :: hp) o (wM (lk (refs us b)) e) av) (k:Dh P all n hp p al gk gv lit (i+1) l (fQ e o.dst (some av)) e'):Dh P all n hp p al gk gv lit i (o :: l) e e'
theorem wT {a:Act} {d:Option Nat} {v u:Value} {s:Nat} (h:d≠some s) (hv:a.tmps[s]? =some u):(a.put d v).tmps[s]? =some u:=by
 cases d with
 | none=>simpa [Act.put] using hv
 | some d'=>
   have qN:d'≠s:=fun e=>h (by rw [e])
   simp [Act.put,qN,hv]
theorem IE {w0:World} {S0:Nat→Prop} {i:Nat} {o:Oper} {e:Env} {av:AV} (hi:i≠p) (hl:∀ x∈lit,x.1≠i) (Di:∀ x∈al,x.1≠i) (hd:∀ x∈al,o.dst≠some x.2) (h:AK P all n hp o e av):uJ P all n m (IL w0 S0 hp p al gk gv lit) i o e (some av):=by
 refine ⟨h.1,fun listed w S a L iV pe qC eF tV gZ hI nJ=>?_⟩
 have nO:∀ k,k≠i→(listed.setIfInBounds i true).getD k false=listed.getD k false:=fun k hk=>by rw [cK iV,if_neg hk]
 have IF:nw lit ((listed.setIfInBounds i true).getD · false)=nw lit (listed.getD · false):=sb fun x hx=>nO _ (hl x hx)
 have Hm:(listed.setIfInBounds i true).getD p false=listed.getD p false:=nO p (Ne.symm hi)
 rcases h.2 with ⟨hw,JM⟩ | ⟨hw,kC⟩
 ·refine .inl ⟨js hw nJ,fun K Q hK=>?_⟩
  unfold IL at hI hK
  rw [Hm,IF] at hK
  split at hI
  ·rename_i hl
   obtain ⟨b,u,h1,h2,h3,h4⟩:=hI
   refine JM w S a eF tV (h3.sub (List.sublist_cons_self _ _)) nJ K Q (fun v w' S' g lU=>hK v w' S' (g.iH gZ) g.slt ?_ (fun x hx=>by rw [← Option.some.inj hx];exact lU))
   rw [if_pos hl]
   exact ⟨b,u,fun x hx FQ=>wT (hd x hx) (h1 x hx (by rw [← nO _ (Di x hx)];exact FQ)),h2.mono (g.iH gZ),h3.grow g,h4.trans (g.Oc gZ _)⟩
  ·rename_i hl
   refine JM w S a eF tV hI.1 nJ K Q (fun v w' S' g lU=>hK v w' S' (g.iH gZ) g.slt ?_ (fun x hx=>by rw [← Option.some.inj hx];exact lU))
   rw [if_neg hl]
   exact ⟨hI.1.grow g,hI.2.trans (g.Oc gZ _)⟩
 ·refine .inr ⟨js hw nJ,?_,fun x hx=>by rw [← Option.some.inj hx];exact kC⟩
  unfold IL at hI ⊢
  rw [Hm,IF]
  split at hI
  ·rename_i hl
   obtain ⟨b,u,h1,h2⟩:=hI
   rw [if_pos hl]
   exact ⟨b,u,fun x hx FQ=>wT (hd x hx) (h1 x hx (by rw [← nO _ (Di x hx)];exact FQ)),h2⟩
  ·rename_i hl
   rw [if_neg hl];exact hI
theorem IG {w0:World} {S0:Nat→Prop} {o:Oper} {e:Env} {dp:Nat} (hl:∀ x∈lit,x.1≠p) (hd:o.dst=some dp) (hu:∀ x∈al,x.1=p→x.2=dp) (ID:∀ x∈al,x.1≠p→pw all x.1 p) (ha:∀ x∈lit,pw all x.1 p) (h:mF P all n hp o e [] (fun b=>.cd b) (fun b=>[(b,.mp [])])):uJ P all n m (IL w0 S0 hp p al gk gv lit) p o e none:=by
 refine ⟨h.1,fun listed w S a L iV pe qC eF tV gZ hI nJ=>?_⟩
 have FR:∀ x∈lit,listed.getD x.1 false=false:=fun x hx=>by
  cases hv:listed.getD x.1 false with
  | false=>rfl
  | true=>have:=gR.HJ L.closed (ha x hx) hv;rw [pe] at this;cases this
 have IF:nw lit ((listed.setIfInBounds p true).getD · false)=([]:List (K×V)):=GJ fun x hx=>by rw [cK iV,if_neg (hl x hx)];exact FR x hx
 unfold IL at hI
 rw [if_neg (by rw [pe];simp)] at hI
 rcases h.2 with ⟨hw,SE⟩ | ⟨hw,kC⟩
 ·refine .inl ⟨js hw nJ,fun K Q hK=>?_⟩
  refine SE w S a eF tV (by simpa using hI.1) nJ K Q (fun b v w' S' ev hr lU=>hK v w' S' ev.iH hr.slt ?_ (fun x hx=>by cases hx))
  unfold IL
  rw [cK iV,if_pos rfl,if_pos rfl,IF]
  refine ⟨b,v,fun x hx FQ=>?_,lU,hr,hI.2.trans ev⟩
  have Hh:=h.1 dp hd
  by_cases SF:x.1=p
  ·rw [hu x hx SF,hd];simp [Act.put,eF,Hh]
  ·rw [cK iV,if_neg SF] at FQ
   have:=gR.HJ L.closed (ID x hx SF) FQ
   rw [pe] at this;cases this
 ·have:=(kC ⟨none,0⟩).2
  cases this
theorem BZ:∀ {us:List (Nat×Nat)} {b:Bk} {s:Nat} {av:AV},lk (refs us b) s=some av→av=.cd b∧∃ x∈us,x.2=s
 | [],b,s,av,h=>by simp [refs,lk] at h
 | y :: us,b,s,av,h=>by
   by_cases hs:y.2=s
   ·subst hs
    have:lk (refs (y :: us) b) y.2=some (.cd b):=by simp [refs,lk]
    rw [this] at h
    exact ⟨(Option.some.inj h).symm,y,by simp,rfl⟩
   ·have:lk (refs (y :: us) b) s=lk (refs us b) s:=by simp [refs,lk,mj hs]
    rw [this] at h
    obtain ⟨h1,x,h2,h3⟩:=BZ h
    exact ⟨h1,x,List.mem_cons_of_mem _ h2,h3⟩
theorem EI {w:World} {S:Nat→Prop} {ls:List Nat} {e:Env} {a:Act} {b:Bk} {v:Value} {us:List (Nat×Nat)} (h:wK w S ls e a) (hv:∀ x∈us,a.tmps[x.2]? =some v) (lU:At w S (.cd b) v):wK w S ls (wM (lk (refs us b)) e) a:=by
 intro s hs av kC
 unfold wM at kC
 cases hl:lk (refs us b) s with
 | some dt=>
   rw [hl] at kC
   obtain rfl:=Option.some.inj kC
   obtain ⟨rfl,x,hx,rfl⟩:=BZ hl
   exact ⟨v,hv x hx,lU⟩
 | none=>
   rw [hl] at kC
   exact h s hs av kC
theorem IH {w0:World} {S0:Nat→Prop} {i:Nat} {o:Oper} {e:Env} {s:Nat} {us:List (Nat×Nat)} (hi:i≠p) (hl:∀ x∈lit,x.1≠i) (hd:o.dst=some s) (hu:∀ x∈al,x.1=i→x.2=s) (hs:∀ x∈al,x.1≠i→x.2≠s) (ha:pw all i p) (BY:∀ x∈us,x∈al∧pw all i x.1) (hg:o.guard=none) (hn:s < n) (h:∀ b,MV P all n o (wM (lk (refs us b)) e) hp (.cd b)):uJ P all n m (IL w0 S0 hp p al gk gv lit) i o e none:=by
 refine ⟨fun d uo=>by rw [hd] at uo;obtain rfl:=Option.some.inj uo;exact hn,fun listed w S a L iV pe qC eF tV gZ hI nJ=>?_⟩
 have ri:=qC p ha
 have nO:∀ k,k≠i→(listed.setIfInBounds i true).getD k false=listed.getD k false:=fun k hk=>by rw [cK iV,if_neg hk]
 have IF:nw lit ((listed.setIfInBounds i true).getD · false)=nw lit (listed.getD · false):=sb fun x hx=>nO _ (hl x hx)
 unfold IL at hI
 rw [if_pos ri] at hI
 obtain ⟨b,u,h1,h2,h3,h4⟩:=hI
 have vR:=EI nJ (us:=us) (fun x hx=>h1 x (BY x hx).1 (qC _ (BY x hx).2)) h2
 refine .inl ⟨by simp [Region.wanted,hg],fun K Q hK=>?_⟩
 refine h b w S a eF tV (h3.sub (List.sublist_cons_self _ _)) vR K Q (fun v w' S' g lU=>hK v w' S' (g.iH gZ) g.slt ?_ (fun x hx=>by cases hx))
 obtain ⟨nb,hb,hv⟩:=lU.lY
 obtain ⟨zU,xo,RW⟩:=h2.lY
 have Y4:v=u:=by rw [hb] at xo;obtain rfl:=Option.some.inj xo;rw [hv,RW]
 subst Y4
 unfold IL
 rw [nO p (Ne.symm hi),if_pos ri,IF]
 refine ⟨b,v,fun x hx FQ=>?_,lU,h3.grow g,h4.trans (g.Oc gZ _)⟩
 by_cases SG:x.1=i
 ·rw [hu x hx SG,hd];simp [Act.put,eF,hn]
 ·exact wT (by rw [hd];exact fun e=>hs x hx SG (Option.some.inj e).symm) (h1 x hx (by rw [← nO _ SG];exact FQ))
theorem GK {w0:World} {S0:Nat→Prop} {i:Nat} {o:Oper} {e:Env} {key:K} {v:V} (Qa:(lit.map (·.1)).Nodup) (Mg:(lit.map (·.2.1)).Nodup) {us:List (Nat×Nat)} (hx:(i,key,v)∈lit) (hi:i≠p) (Di:∀ x∈al,x.1≠i) (hd:o.dst=none) (ha:pw all i p) (BY:∀ x∈us,x∈al∧pw all i x.1) (h:∀ b M,mF P all n hp o (wM (lk (refs us b)) e) [(b,.mp (wS gk gv M))] (fun _=>.raw undef) (fun _=>[(b,.mp (wS gk gv (gm M key v)))])):uJ P all n m (IL w0 S0 hp p al gk gv lit) i o e (some (.raw undef)):=by
 refine ⟨(h ⟨none,0⟩ []).1,fun listed w S a L iV pe qC eF tV gZ hI nJ=>?_⟩
 have ri:=qC p ha
 unfold IL at hI
 rw [if_pos ri] at hI
 obtain ⟨b,u,h1,h2,h3,h4⟩:=hI
 have vR:=EI nJ (us:=us) (fun x hx=>h1 x (BY x hx).1 (qC _ (BY x hx).2)) h2
 have nO:∀ k,k≠i→(listed.setIfInBounds i true).getD k false=listed.getD k false:=fun k hk=>by rw [cK iV,if_neg hk]
 have IF:nw lit ((listed.setIfInBounds i true).getD · false)=nw lit (fun j=>if j=i then true else listed.getD j false):=sb fun x _=>cK iV
 have j8:=IC (c:=(listed.getD · false)) Qa Mg hx pe
 rw [← IF] at j8
 rcases (h b (nw lit (listed.getD · false))).2 with ⟨hw,SE⟩ | ⟨hw,kC⟩
 ·refine .inl ⟨js hw vR,fun K Q hK=>?_⟩
  refine SE w S a eF tV h3 vR K Q (fun b' v' w' S' ev hr lU=>hK v' w' S' ev.iH hr.slt ?_ (fun x hx=>by rw [← Option.some.inj hx];exact lU))
  obtain ⟨r2,e2⟩:=KW hr (j8.map _:(wS gk gv _).Perm (wS gk gv _))
  unfold IL
  rw [cK iV,if_neg (Ne.symm hi),if_pos ri]
  exact ⟨b,u,fun x hx FQ=>wT (by rw [hd];simp) (h1 x hx (by rw [← nO _ (Di x hx)];exact FQ)),h2.mono ev.iH,r2,(h4.trans ev).trans e2⟩
 ·have h5:=(kC ⟨none,0⟩).1
  refine .inr ⟨js hw vR,?_,fun x hx=>(Option.some.inj hx).symm⟩
  have h6:wS gk gv (gm (nw lit (listed.getD · false)) key v)=wS gk gv (nw lit (listed.getD · false)):=by
   have:=List.cons.inj h5
   have:=(Prod.mk.inj this.1).2
   exact Ob.mp.inj this
  have h7:=congrArg List.length h6
  have h8:=(A6 (nw lit (listed.getD · false)) key v).length_eq
  have Nn:∀ e∈nw lit (listed.getD · false),e.1≠key:=by
   intro e he P8
   obtain ⟨x,SD,rfl⟩:=List.mem_map.1 he
   obtain ⟨Rc,P9⟩:=List.mem_filter.1 SD
   have:x=(i,key,v):=by
    obtain ⟨a',b',AU⟩:=List.append_of_mem hx
    rw [AU] at Mg Rc
    rw [List.map_append,List.map_cons,List.nodup_append] at Mg
    obtain ⟨k1,k2,k3⟩:=Mg
    rcases List.mem_append.1 Rc with h | h
    ·exact (k3 _ (List.mem_map.2 ⟨x,h,rfl⟩) key (by simp) P8).elim
    ·rcases List.mem_cons.1 h with h | h
     ·exact h
     ·exact ((List.nodup_cons.1 k2).1 (List.mem_map.2 ⟨x,h,P8⟩)).elim
   subst this
   simp only [pe] at P9;cases P9
  rw [xE Nn] at h8
  simp only [wS,List.length_map,List.length_cons] at h7 h8
  omega
theorem EJ {w0:World} {S0:Nat→Prop} {i:Nat} {o:Oper} {e:Env} {av:AV} (hi:i≠p) {us:List (Nat×Nat)} (hl:∀ x∈lit,x.1≠i) (Di:∀ x∈al,x.1≠i) (hd:∀ x∈al,o.dst≠some x.2) (ha:pw all i p) (ID:∀ x∈lit,pw all i x.1) (BY:∀ x∈us,x∈al∧pw all i x.1) (h:∀ b,AK P all n ((b,.mp (wS gk gv (lit.map (·.2)))) :: hp) o (wM (lk (refs us b)) e) av):uJ P all n m (IL w0 S0 hp p al gk gv lit) i o e (some av):=by
 refine ⟨(h ⟨none,0⟩).1,fun listed w S a L iV pe qC eF tV gZ hI nJ=>?_⟩
 have ri:=qC p ha
 have nO:∀ k,k≠i→(listed.setIfInBounds i true).getD k false=listed.getD k false:=fun k hk=>by rw [cK iV,if_neg hk]
 have IF:nw lit ((listed.setIfInBounds i true).getD · false)=nw lit (listed.getD · false):=sb fun x hx=>nO _ (hl x hx)
 have ga:nw lit (listed.getD · false)=lit.map (·.2):=Dg fun x hx=>qC _ (ID x hx)
 have Hm:(listed.setIfInBounds i true).getD p false=true:=by rw [nO p (Ne.symm hi)];exact ri
 unfold IL at hI
 rw [if_pos ri,ga] at hI
 obtain ⟨b,u,h1,h2,h3,h4⟩:=hI
 have vR:=EI nJ (us:=us) (fun x hx=>h1 x (BY x hx).1 (qC _ (BY x hx).2)) h2
 rcases (h b).2 with ⟨hw,JM⟩ | ⟨hw,kC⟩
 ·refine .inl ⟨js hw vR,fun K Q hK=>?_⟩
  refine JM w S a eF tV h3 vR K Q (fun v w' S' g lU=>hK v w' S' (g.iH gZ) g.slt ?_ (fun x hx=>by rw [← Option.some.inj hx];exact lU))
  unfold IL
  rw [if_pos Hm,IF,ga]
  exact ⟨b,u,fun x hx FQ=>wT (hd x hx) (h1 x hx (by rw [← nO _ (Di x hx)];exact FQ)),h2.mono (g.iH gZ),h3.grow g,h4.trans (g.Oc gZ _)⟩
 ·refine .inr ⟨js hw vR,?_,fun x hx=>by rw [← Option.some.inj hx];exact kC⟩
  unfold IL
  rw [if_pos Hm,IF,ga]
  exact ⟨b,u,fun x hx FQ=>wT (hd x hx) (h1 x hx (by rw [← nO _ (Di x hx)];exact FQ)),h2,h3,h4⟩
theorem Dh.yI {w0:World} {S0:Nat→Prop} (Qa:(lit.map (·.1)).Nodup) (Mg:(lit.map (·.2.1)).Nodup) {i0:Nat} {l:List Oper} {e e':Env} (h:Dh P all n hp p al gk gv lit i0 l e e'):
 ∃ (gP:Nat→Option AV) (en:Nat→Env),en 0=e∧en l.length=e'∧∀ j o,l[j]? =some o→uJ P all n m (IL w0 S0 hp p al gk gv lit) (i0+j) o (en j) (gP j)∧en (j+1)=fQ (en j) o.dst (gP j):=by
 have key:∀ {i0:Nat} {o:Oper} {l:List Oper} {e e1 e':Env} {x:Option AV},uJ P all n m (IL w0 S0 hp p al gk gv lit) i0 o e x→e1=fQ e o.dst x→(∃ (gP:Nat→Option AV) (en:Nat→Env),en 0=e1∧en l.length=e'∧∀ j o,l[j]? =some o→uJ P all n m (IL w0 S0 hp p al gk gv lit) (i0+1+j) o (en j) (gP j)∧en (j+1)=fQ (en j) o.dst (gP j))→
  ∃ (gP:Nat→Option AV) (en:Nat→Env),en 0=e∧en (o :: l).length=e'∧∀ j o',(o :: l)[j]? =some o'→uJ P all n m (IL w0 S0 hp p al gk gv lit) (i0+j) o' (en j) (gP j)∧en (j+1)=fQ (en j) o'.dst (gP j):=by
  intro i0 o l e e1 e' x xp he ⟨gP,en,h0,h1,h2⟩
  refine ⟨fun i=>match i with | 0=>x | i+1=>gP i,fun i=>match i with | 0=>e | i+1=>en i,rfl,h1,fun j o' ho=>?_⟩
  match j with
  | 0=>simp at ho;subst ho;exact ⟨xp,by rw [← he];exact h0⟩
  | j+1=>
    have:=h2 j o' (by simpa using ho)
    rw [show i0+(j+1)=i0+1+j by omega]
    exact this
 induction h with
 | nil i e=>exact ⟨fun _=>none,fun _=>e,rfl,rfl,fun i o h=>by simp at h⟩
 | am hi hl Di hd h k ih=>exact key (IE hi hl Di hd h) rfl ih
 | mk hl hd hu ID ha h k ih=>exact key (IG hl hd hu ID ha h) rfl ih
 | mv hi hl hd hu hs ha BY hg hn h k ih=>exact key (IH hi hl hd hu hs ha BY hg hn h) rfl ih
 | ins hx hi Di hd ha BY h k ih=>exact key (GK Qa Mg hx hi Di hd ha BY h) (by rw [hd];rfl) ih
 | look hi hl Di hd ha ID BY h k ih=>exact key (EJ hi hl Di hd ha ID BY h) rfl ih
end lit
section rules
variable {K V:Type} [DecidableEq K] [wC K] {P:Program} {all:Array Oper} {n:Nat} {hp:Heap} {p:Nat} {al:List (Nat×Nat)} {gk:K→AV} {gv:V→AV} {lit:List (Nat×K×V)} {A:List Nat}
def AL (P:Program) (all:Array Oper) (n:Nat) (hp:Heap) (p:Nat) (al:List (Nat×Nat)) (gk:K→AV) (gv:V→AV) (lit:List (Nat×K×V)) (A:List Nat) (i:Nat) (l:List Oper) (tm:List (Nat×AV)) (Q:List (Nat×AV)→Prop):Prop:=
 Aa all=A→∃ kD,Dh P all n hp p al gk gv lit i l (lk tm) (lk kD)∧Q kD
variable {i:Nat} {l l1 l2 rest:List Oper} {tm:List (Nat×AV)} {Q:List (Nat×AV)→Prop} {d:Nat} {ty:TypeId} {pos:String} {af:Array Edge} {op:Op}
theorem AL.nil (h:Q tm):AL P all n hp p al gk gv lit A i [] tm Q:=fun _=>⟨tm,.nil _ _,h⟩
def zd (al:List (Nat×Nat)) (p:Nat) (ks:List Nat) (i:Nat) (l:List Oper):Bool:=(l.all fun o=>match o.dst with | some d=>al.all fun x=>!Nat.beq d x.2 | none=>true)&&(Nat.blt p i||Nat.ble (i+l.length) p)&&((ks.all fun k=>Nat.blt k i||Nat.ble (i+l.length) k)&&al.all fun x=>Nat.blt x.1 i||Nat.ble (i+l.length) x.1)
theorem Qb:∀ {l1:List Oper} {e e':Env} {i:Nat} (h:JL P all n hp l1 e e') (hn:zd al p (lit.map (·.1)) i l1=true) {l2:List Oper} {e2:Env},Dh P all n hp p al gk gv lit (i+l1.length) l2 e' e2→Dh P all n hp p al gk gv lit i (l1++l2) e e2:=by
 intro l1 e e' i h
 have xx:∀ {i:Nat} {o:Oper} {l:List Oper},zd al p (lit.map (·.1)) i (o :: l)=true→i≠p∧(∀ x∈lit,x.1≠i)∧(∀ x∈al,x.1≠i)∧(∀ x∈al,o.dst≠some x.2)∧zd al p (lit.map (·.1)) (i+1) l=true:=by
  intro i o l hn
  unfold zd at hn ⊢
  simp only [Bool.and_eq_true,List.all_eq_true,List.length_cons,Bool.or_eq_true] at hn ⊢
  obtain ⟨⟨h1,h2⟩,h3,h4⟩:=hn
  refine ⟨fun e=>?_,fun x hx e=>?_,fun x hx e=>?_,fun x hx e=>?_,⟨fun o' Py=>h1 o' (List.mem_cons_of_mem _ Py),?_⟩,fun k hk=>?_,fun x hx=>?_⟩
  ·simp at h2;omega
  ·have:=h3 x.1 (List.mem_map.2 ⟨x,hx,rfl⟩);simp at this;omega
  ·have:=h4 x hx;simp at this;omega
  ·have:=h1 o (List.mem_cons_self ..);rw [e] at this;have:=List.all_eq_true.1 this x hx;simp at this
  ·simp at h2 ⊢;omega
  ·have:=h3 k hk;simp at this ⊢;omega
  ·have:=h4 x hx;simp at this ⊢;omega
 induction h generalizing i with
 | nil e=>intro hn l2 e2 k;simpa using k
 | @run o l e e' av hg hm hd k ih=>
   intro hn l2 e2 kk
   obtain ⟨a1,a2,a3,a4,a5⟩:=xx hn
   refine .am a1 a2 a3 a4 ⟨hd,.inl ⟨hg,hm⟩⟩ ?_
   rw [r5]
   exact ih a5 (by rw [show i+1+l.length=i+(o :: l).length by simp;omega];exact kk)
 | @pass o l e e' hg hd k ih=>
   intro hn l2 e2 kk
   obtain ⟨a1,a2,a3,a4,a5⟩:=xx hn
   refine .am a1 a2 a3 a4 ⟨hd,.inr ⟨hg,rfl⟩⟩ ?_
   rw [r5]
   exact ih a5 (by rw [show i+1+l.length=i+(o :: l).length by simp;omega];exact kk)
theorem AL.am (m:Nat) (hs:Ab m l=some (l1,l2)) (hn:zd al p (lit.map (·.1)) i l1=true) (h:AM P all n hp l1 tm (fun kD=>AL P all n hp p al gk gv lit A (i+m) l2 kD Q)):AL P all n hp p al gk gv lit A i l tm Q:=by
 intro hA
 obtain ⟨rfl,rfl⟩:=pg hs
 obtain ⟨vd,h1,h2⟩:=h
 obtain ⟨kD,h3,h4⟩:=h2 hA
 exact ⟨kD,Qb h1 hn h3,h4⟩
def Mh (A:List Nat) (i:Nat) (ks:List Nat):Bool:=ks.all fun k=>(A.getD i 0).testBit k
theorem II {ks:List Nat} (hA:Aa all=A) (h:Mh A i ks=true) {k:Nat} (hk:k∈ks):pw all i k:=by
 have:=List.all_eq_true.1 h k hk
 subst hA;exact iP this
def U7 (A:List Nat) (i:Nat) (al us:List (Nat×Nat)):Bool:=us.all fun x=>al.contains x&&(A.getD i 0).testBit x.1
theorem KX {us:List (Nat×Nat)} (hA:Aa all=A) (h:U7 A i al us=true):∀ x∈us,x∈al∧pw all i x.1:=by
 intro x hx
 have:=List.all_eq_true.1 h x hx
 rw [Bool.and_eq_true] at this
 exact ⟨by simpa using this.1,by subst hA;exact iP this.2⟩
theorem GL (hd:lk tm d=none):fQ (lk tm) (some d) none=lk tm:=by
 funext s
 simp only [fQ]
 split
 ·rename_i e;subst e;exact hd.symm
 ·rfl
theorem AL.mk {dp:Nat} {t:TypeId} (ps:List Nat) (M1:lit.map (·.1)=ps) (hn:Nat.blt dp n=true) (hd:lk tm dp=none) (hl:(ps.all fun x=>(A.getD x 0).testBit i&&!Nat.beq x i)=true) (ID:(al.all fun x=>bif Nat.beq x.1 i then Nat.beq x.2 dp else (A.getD x.1 0).testBit i)=true) (k:AL P all n hp i al gk gv lit A (i+1) rest tm Q):AL P all n hp i al gk gv lit A i (⟨some dp,.makeMap t none,ty,pos,af,none⟩ :: rest) tm Q:=by
 intro hA
 obtain ⟨kD,h1,h2⟩:=k hA
 have sq:∀ x∈lit,((A.getD x.1 0).testBit i&&!Nat.beq x.1 i)=true:=fun x hx=>List.all_eq_true.1 hl x.1 (by rw [← M1];exact List.mem_map.2 ⟨x,hx,rfl⟩)
 have Qd:=List.all_eq_true.1 ID
 refine ⟨kD,.mk (dp:=dp) (fun x hx e=>?_) rfl (fun x hx e=>?_) (fun x hx e=>?_) (fun x hx=>?_) ?_ ?_,h2⟩
 ·have:=sq x hx;rw [e] at this;simp at this
 ·have:=Qd x hx;rw [e] at this;simpa using this
 ·have:=Qd x hx
  rw [mj e] at this
  subst hA;exact iP this
 ·have:=sq x hx
  rw [Bool.and_eq_true] at this
  subst hA;exact iP this.1
 ·refine ph rfl (fun d' uo=>by obtain rfl:=Option.some.inj uo;simpa using hn) rfl (fun _=>rfl) ?_ (fun e=>by cases e)
  exact kE hn (fun b=>ah.nil ⟨b,_,rfl,fun d' uo=>by obtain rfl:=Option.some.inj uo;simp [lk]⟩)
 ·show Dh P all n hp i al gk gv lit (i+1) rest (fQ (lk tm) (some dp) none) (lk kD)
  rw [GL hd];exact h1
theorem FT (us:List (Nat×Nat)) (b:Bk):wM (lk (refs us b)) (lk tm)=lk (refs us b++tm):=(AZ _ _).symm
theorem AL.ins {t kt vt:TypeId} {key:K} {v:V} {x y z:Operand} {av:AV} (us:List (Nat×Nat)) [ay P t (.map kt vt)] [il P kt gk] (hf:lit.find? (fun x=>Nat.beq x.1 i)=some (i,key,v)) (hb:Mh A i [p]=true) (Y5:Nat.beq i p=false) (Di:(al.all fun x=>!Nat.beq x.1 i)=true) (BY:U7 A i al us=true) (hx:∀ b,bS (yL (looks all ⟨none,.insert t x y z,ty,pos,af,none⟩) (refs us b++tm)) x=some (.cd b)) (hy:∀ b,bS (yL (looks all ⟨none,.insert t x y z,ty,pos,af,none⟩) (refs us b++tm)) y=some (gk key)) (hz:∀ b,bS (yL (looks all ⟨none,.insert t x y z,ty,pos,af,none⟩) (refs us b++tm)) z=some av) (kC:av=gv v) (k:AL P all n hp p al gk gv lit A (i+1) rest tm Q):
 AL P all n hp p al gk gv lit A i (⟨none,.insert t x y z,ty,pos,af,none⟩ :: rest) tm Q:=by
 intro hA
 obtain ⟨kD,h1,h2⟩:=k hA
 refine ⟨kD,.ins (us:=us) (List.mem_of_find?_eq_some hf) (fun e=>by subst e;simp at Y5) (fun x hx e=>?_) rfl (II hA hb (by simp)) (KX hA BY) (fun b M=>?_) h1,h2⟩
 ·have:=List.all_eq_true.1 Di x hx;rw [e] at this;simp at this
 rw [FT]
 refine ph rfl (fun d' uo=>by cases uo) rfl (fun _=>rfl) ?_ (fun _ _=>rfl)
 exact C3 (gk:=gk) (gv:=gv) (M:=M) (key:=key) (v:=v) (hx b) (hy b) (hz b) kC .here (ah.nil ⟨⟨none,0⟩,_,rfl,fun d' uo=>by cases uo⟩)
def IJ {α:Type} [DecidableEq α]:List α→Bool
 | []=>true
 | a :: l=>l.all (fun b=>!decide (a=b))&&IJ l
theorem wU {α:Type} [DecidableEq α]:∀ {l:List α},IJ l=true→l.Nodup
 | [],_=>List.nodup_nil
 | a :: l,h=>by
   simp only [IJ,Bool.and_eq_true,List.all_eq_true] at h
   refine List.nodup_cons.2 ⟨fun hm=>?_,wU h.2⟩
   have:=h.1 a hm
   simp at this
theorem aa.KY {R:St→Prop} {k:List It} {id:Nat} {tm:List (Nat×AV)} {l hd tl:List Oper} (m:Nat) (hm:P.follows .mixedOrders=true) (hs:Ab m l=some (hd,tl)) (hA:Aa l.toArray=A) (PB:AN l.toArray m A=true) (p:Nat) (al:List (Nat×Nat)) (gk:K→AV) (gv:V→AV) (lit:List (Nat×K×V)) (Qa:IJ (lit.map (·.1))=true) (Mg:IJ (lit.map (·.2.1))=true) (Ol:(Nat.blt p m&&(lit.all (fun x=>Nat.blt x.1 m)&&al.all (fun x=>Nat.blt x.1 m)))=true)
 (h:AL P l.toArray n hp p al gk gv lit A 0 hd tm (fun kD=>∀ b,ah P l.toArray tl ⟨n,refs al b++kD,(b,.mp ((lit.map (·.2)).map fun e=>(gk e.1,gv e.2))) :: hp⟩ (aa P R k))):aa P R (.code (.region id l.toArray true) :: k) ⟨n,tm,hp⟩:=by
 have hB:qj l.toArray m:=⟨A,hA,PB⟩
 intro w S a r
 obtain ⟨hl,Gm⟩:=pg hs
 obtain ⟨kD,Sg,pt⟩:=h hA
 obtain ⟨gP,en,e0,e1,e2⟩:=Sg.yI (m:=m) (w0:=w) (S0:=S) (wU Qa) (wU Mg)
 have eF:m≤l.toArray.size:=by simp [hl,Gm]
 rw [Bool.and_eq_true,Bool.and_eq_true] at Ol
 refine wp_region_any hm ?_
 have s9:Ext w {w with drawn:=w.drawn+1}:=Ext.AE w _ (Nat.le_succ _)
 have hf:∀ k,(Array.replicate l.toArray.size false).getD k false=false:=by
  intro k
  rcases Nat.lt_or_ge k l.toArray.size with h | h
  ·simp at h;simp [h]
  ·simp at h;simp [Nat.not_lt.2 h]
 have Kn:∀ k,nM l.toArray gP (lk tm) (Array.replicate l.toArray.size false) k=lk tm:=by
  intro k
  induction k with
  | zero=>rfl
  | succ k ih=>simp only [nM,ih];rw [if_neg (by rw [hf k];simp)]
 refine GH (P:=P) (all:=l.toArray) (n:=n) (m:=m) (gP:=gP) (en:=en) (e:=lk tm) (I:=IL w S hp p al gk gv lit) hB eF e0 (fun i o hi ho=>?_) (fun listed a' w' S' ga h1 h2 h3 h4 h5=>?_) l.toArray.size (Array.replicate l.toArray.size false) a _ S
  ⟨by simp,(fun k hk=>by rw [hf k] at hk;cases hk),(fun k i o hk=>by rw [hf k] at hk;cases hk)⟩ (by simp [List.count_replicate]) r.size r.defers (fun n hn=>r.hp.slt n hn) ?_ (by rw [Kn];exact (r.ext s9).tm)
 ·have:l[i]? =some o:=by simpa using ho
  rw [hl,List.getElem?_append_left (by omega)] at this
  have:=e2 i o this
  rw [Nat.zero_add] at this
  exact this
 ·have LW:l.toArray.toList.drop m=tl:=by
   simp only [hl,← Gm]
   exact List.drop_left
  rw [LW]
  have R5:en m=lk kD:=by rw [← Gm];exact e1
  rw [R5] at h5
  unfold IL at h4
  rw [if_pos (ga p (by simpa using Ol.1)),Dg (fun x hx=>ga x.1 (by have:=List.all_eq_true.1 Ol.2.1 x hx;simpa using this))] at h4
  obtain ⟨b,v,k1,k2,k3,k4⟩:=h4
  refine fy ?_ _ _ _ ((pt b).go (h:=hp) (w:=w) (S:=S) ⟨h1,h2,fun s av Fz=>?_,k3⟩ k4)
  ·rintro ex a2 w2 ⟨rfl,D9,S2,q1,q2,q3⟩
   exact ⟨D9,S2,q1,q2,q3⟩
  ·have IK:wM (lk (refs al b)) (lk kD) s=some av:=by rw [FT];exact Fz
   unfold wM at IK
   cases hr:lk (refs al b) s with
   | some dt=>
     rw [hr] at IK
     obtain rfl:=Option.some.inj IK
     obtain ⟨rfl,x,hx,rfl⟩:=BZ hr
     exact ⟨v,k1 x hx (ga x.1 (by have:=List.all_eq_true.1 Ol.2.2 x hx;simpa using this)),k2⟩
   | none=>
     rw [hr] at IK
     exact h5 s av IK
 ·unfold IL
  rw [if_neg (by rw [hf p];simp)]
  exact ⟨r.hp.ext s9,gY.ext (h:=hp) r.hp.slt s9⟩
end rules
end Go.Eng
namespace Go.Eng
open Go
variable [bz]
section rules
variable {P:Program} {all:Array Oper} {rest:List Oper} {n:Nat} {tm:List (Nat×AV)} {hp:Heap} {Q:St→Prop} {d:Nat} {ty:TypeId} {pos:String} {af:Array Edge}
end rules
section
variable {P:Program} {n:Nat} {tm:List (Nat×AV)} {hp:Heap} {d:Nat} {ty:TypeId} {pos:String} {af:Array Edge}
theorem Np {x y z:Operand} {ts:Array TypeId} {k:IntKind} {i j l:Int} (hx:bS tm x=some (.int k i)) (hy:bS tm y=some (.int k j)) (hz:bS tm z=some (.int k l)):QV P ⟨some d,.call {callee:=.builtin .max,args:=#[x,y,z],argTypes:=ts},ty,pos,af,none⟩ ⟨n,tm,hp⟩ (.int k (max (max i j) l)):=
 (fun w S a r=>⟨.int k (max (max i j) l),fun w1 _=>by
  have e:∀ i j:Int,(if i < j then j else i)=max i j:=by intro i j;rw [Int.max_def];split<;>split<;>omega
  simp [execOp,(aN (σ:=⟨n,tm,hp⟩) r hx).bR,(aN (σ:=⟨n,tm,hp⟩) r hy).bR,(aN (σ:=⟨n,tm,hp⟩) r hz).bR,resolve,invoke,builtin,Builtin.max_,Builtin.max2,e],.int _ _⟩)
end
section rules
variable {P:Program} {all:Array Oper} {rest:List Oper} {n:Nat} {tm:List (Nat×AV)} {hp:Heap} {Q:St→Prop} {d:Nat} {ty:TypeId} {pos:String} {af:Array Edge}
end rules
theorem Dj {P:Program} {t t2 e E ty:TypeId} {i:TypeInfo} {w:World} (ht:P.underlying t=some (.slice e)) (hi:P.info? e=some i) (g off Qe SH:Nat) (cur:Array Value) (hg:w.heap[g]? =some (.cells cur E (0,0)))
 (a:Addr) (lV rQ k:Nat) (news:List Value) (hk:Nat.min lV Qe=k) (hl:news.length=k * i.size) (HD:∀ (j:Nat) u,news[j]? =some u→w.cell? (a.add j)=some u) (h1:∀ u∈news,u.oneCell'=true)
 (CH:off+news.length≤cur.size):
 (Builtin.copy_ #[t,t2] ty #[.slice (some ⟨g,off,none⟩) Qe SH,.slice (some a) lV rQ]).run P w=
  .ok (goInt k) (w.setRow g (cur.toList.take off++news++cur.toList.drop (off+news.length)).toArray):=by
 have hf:=run_firstCells_some (P:=P) w i.size k a lV rQ news hl HD
 have xp:=run_storeCells_at P g off E news 0 cur w hg (by simpa using CH) h1
 simp only [Nat.add_zero] at xp
 simp [Builtin.copy_,run_underlying ht,sizeOf,typeInfo,hi,Builtin.lenOf,hk,hf,xp]
section rules
variable {P:Program} {all:Array Oper} {rest:List Oper} {n:Nat} {tm:List (Nat×AV)} {hp:Heap} {Q:St→Prop} {d:Nat} {ty:TypeId} {pos:String} {af:Array Edge}
def uu (hp:Heap) (sz k N:Nat) (src:AV) (ys:List AV):Prop:=ys.length=k∧∀ (w:World) (S:Nat→Prop) (v:Value),bZ w S hp→At w S src v→
 (∀ y∈ys,El sz y)∧∃ (a:Option Addr) (c len:Nat) (iN:List Value),v=.slice a len c∧Nat.min len N=k∧iN.length=k * sz∧gX w S (flat ys) iN.toArray∧∀ (i:Nat) u,iN[i]? =some u→∃ ad,a=some ad∧w.cell? (ad.add i)=some u
theorem uu.of {hp:Heap} {sz k N:Nat} {src:AV} {ys:List AV} (hs:Src hp sz src ys) (hk:Nat.min ys.length N=k):uu hp sz k N src (ys.take k):=by
 have U8:k≤ys.length:=by rw [← hk];exact Nat.min_le_left _ _
 refine ⟨by simp;omega,fun w S v r h=>?_⟩
 obtain ⟨k0,ad,c,iN,e2,k1,k2,k3⟩:=hs.at r h
 have hyl:k * sz≤ys.length * sz:=Nat.mul_le_mul_right _ U8
 refine ⟨fun y hy=>k0 y (List.mem_of_mem_take hy),ad,c,ys.length,iN.take (k * sz),e2,hk,by rw [List.length_take,k1];omega,?_,?_⟩
 ·rw [nI ys k k0]
  intro j c' u hc hu
  simp only [List.getElem?_toArray] at hu
  rw [List.getElem?_take] at hc hu
  split at hc
  ·rename_i hj
   rw [if_pos hj] at hu
   exact k2 j c' u hc (by simpa using hu)
  ·cases hc
 ·intro j u hu
  rw [List.getElem?_take] at hu
  split at hu
  ·exact k3 j u hu
  ·cases hu
theorem uu.over {hp:Heap} {sz k N off len:Nat} {b:Bk} {xs:List AV} (f:kR hp b (.arr sz xs)) (hk:Nat.min len N=k) (ho:off+k≤xs.length):uu hp sz k N (.sl sz b off len) ((xs.drop off).take k):=by
 have U8:k≤len:=by rw [← hk];exact Nat.min_le_left _ _
 refine ⟨by simp;omega,fun w S v r h=>?_⟩
 obtain ⟨oa,cap,rfl,e3⟩:=h.mB
 have lU:At w S (.sl sz b off k) (.slice oa k cap):=by
  rcases e3 with ⟨hb,Py,hl,ha,hc⟩ | ⟨m,hb,ha,q1,q2⟩ | ⟨m,ad,hb,ha,hl,hc⟩
  ·obtain rfl:k=0:=by omega
   subst Py ha hc
   exact .yv sz b hb
  ·subst ha
   exact .sl sz b off k m cap hb (by omega) q2
  ·obtain rfl:k=0:=by omega
   subst ha hc
   exact .Hg sz b off m ad hb
 obtain ⟨k0,ad,c,iN,e2,k1,k2,k3⟩:=wJ r (.inl f) ho lU
 have hlen:((xs.drop off).take k).length=k:=by simp;omega
 rw [hlen] at e2 k1
 injection e2 with e4 e5 e6
 subst e4 e6
 exact ⟨k0,oa,cap,len,iN,rfl,hk,k1,k2,k3⟩
theorem KZ {t t2 e:TypeId} {i:TypeInfo} {x y:Operand} {src:AV} {b:Bk} {L N k sz:Nat} {xs ys:List AV} {bY:Heap} [ay P t (.slice e)] [aP P e i] (hx:bS tm x=some (.sl sz b L N)) (hy:bS tm y=some src) (eF:Nat.beq i.size sz=true) (h0:Nat.blt 0 sz=true) (hn:Nat.blt d n=true)
 (hs:uu hp sz k N src ys) (Ia:0 < k) (U9:k≤N) (hL:L≤xs.length) (u:iE hp b (.arr sz xs) b (.arr sz (xs.take L++ys++xs.drop (L+k))) bY)
 (kk:ah P all rest ⟨n,(d,.int .i64 (k:Nat)) :: tm,bY⟩ Q):ah P all (⟨some d,.call {callee:=.builtin .copy,args:=#[x,y],argTypes:=#[t,t2]},ty,pos,af,none⟩ :: rest) ⟨n,tm,hp⟩ Q:=by
 refine ah.Cv rfl fun w S a r=>?_
 obtain rfl:i.size=sz:=Nat.eq_of_beq_eq_true eF
 have h0:0 < i.size:=by simpa using h0
 obtain ⟨Qf,hs⟩:=hs
 obtain ⟨k0,ad,c,len,iN,e2,Y6,k1,k2,k3⟩:=hs w S _ r.hp (aN (σ:=⟨n,tm,hp⟩) r hy)
 obtain ⟨oa,cap,e1,e3⟩:=(aN (σ:=⟨n,tm,hp⟩) r hx).mB
 rcases e3 with ⟨_,_,hl,_,_⟩ | ⟨m,ss,rfl,q1,q2⟩ | ⟨_,_,_,_,hl,_⟩
 ·omega
 ·obtain ⟨g0,g1,⟨g2,_⟩ | ⟨m',vs,E,g2,g3,g4,g5⟩⟩:=iO r.hp (.inl u.lp)
  ·rw [g2] at ss;cases ss
  obtain rfl:m'=m:=by rw [g2] at ss;exact Option.some.inj ss
  have Fk:0 < iN.length:=by rw [k1];exact Nat.mul_pos (by omega) h0
  obtain ⟨Kb,rfl,_⟩:=k3 0 iN[0] (by simp [Fk])
  have uT:∀ u∈iN,u.oneCell'=true:=qQ (cs:=flat ys) (vs:=iN.toArray) (by simp [k1,bu k0,Qf]) k2 (yw k0)
  have LS:∀ (j:Nat) u,iN[j]? =some u→w.cell? (Kb.add j)=some u:=fun j u hu=>by
   obtain ⟨YY,h1,h2⟩:=k3 j u hu
   obtain rfl:=Option.some.inj h1
   exact h2
  have xz:(L+k) * i.size≤b.cap * i.size:=Nat.mul_le_mul_right _ (by omega)
  rw [Nat.add_mul] at xz
  have hr:=Dj (P:=P) (t2:=t2) (ty:=ty) (ay.h (P:=P) (t:=t)) (aP.h (P:=P) (t:=e)) m' (L * i.size) N cap vs g3 Kb len c k iN Y6 k1 LS uT (by rw [k1,g4];exact xz)
  have Y7:∀ x∈xs.take L++ys++xs.drop (L+k),El i.size x:=fun x hx=>by
   rcases List.mem_append.1 hx with h | h
   ·rcases List.mem_append.1 h with h | h
    ·exact g0 x (List.mem_of_mem_take h)
    ·exact k0 x h
   ·exact g0 x (List.mem_of_mem_drop h)
  have Y8:=bu g0
  have yO:(vs.toList.take (L * i.size)++iN++vs.toList.drop (L * i.size+iN.length)).toArray.size=b.cap * i.size:=by
   simp [k1];omega
  have IM:∀ (j:Nat) (c':AV) (u:Value),(flat (xs.take L++ys++xs.drop (L+k)))[j]? =some c'→(vs.toList.take (L * i.size)++iN++vs.toList.drop (L * i.size+iN.length)).toArray[j]? =some u→At w S c' u:=by
   intro j c' u hc hu
   rw [jJ,jJ,nI xs L g0,qS xs (L+k) g0] at hc
   simp only [List.getElem?_toArray] at hu
   rw [k1] at hu
   have hA:((flat xs).take (L * i.size)).length=L * i.size:=by
    rw [List.length_take,Y8]
    have:=Nat.mul_le_mul_right i.size hL
    omega
   have hB:(flat ys).length=k * i.size:=by rw [bu k0,Qf]
   have Va:(vs.toList.take (L * i.size)).length=L * i.size:=by simp;omega
   rcases Nat.lt_or_ge j (L * i.size) with h | h
   ·rw [List.append_assoc,List.getElem?_append_left (by omega),List.getElem?_take,if_pos h] at hc
    rw [List.append_assoc,List.getElem?_append_left (by omega),List.getElem?_take,if_pos h] at hu
    exact g5 j c' u hc (by simpa using hu)
   ·rcases Nat.lt_or_ge j (L * i.size+k * i.size) with h' | h'
    ·rw [List.getElem?_append_left (by rw [List.length_append];omega),List.getElem?_append_right (by omega),hA] at hc
     rw [List.getElem?_append_left (by rw [List.length_append,k1];omega),List.getElem?_append_right (by omega),Va] at hu
     exact k2 _ c' u hc (by simpa using hu)
    ·rw [List.getElem?_append_right (by rw [List.length_append];omega),List.length_append,hA,hB,List.getElem?_drop,Nat.add_mul] at hc
     rw [List.getElem?_append_right (by rw [List.length_append,k1];omega),List.length_append,Va,k1,List.getElem?_drop] at hu
     exact g5 _ c' u hc (by simpa using hu)
  generalize (vs.toList.take (L * i.size)++iN++vs.toList.drop (L * i.size+iN.length)).toArray=uU at hr yO IM
  have nS:¬ S m':=fun hs=>(r.hp.sep _ u.lp.mem m' (jZ ss)).1 hs
  have ex:∀ k,S k→S k∧(w.setRow m' uU).heap[k]? =w.heap[k]?:=fun k hk=>⟨hk,setRow_other w m' k _ (fun e=>nS (e▸hk))⟩
  have gb:GB w (w.setRow m' uU) b.cr:=⟨⟨rfl,rfl,rfl,by simp,fun k _ hk=>setRow_other w m' k _ (fun e=>hk (by rw [ss,e]))⟩,fun _=>Nat.le_refl _⟩
  have SI:(xs.take L++ys++xs.drop (L+k)).length≤b.cap:=by simp;omega
  obtain ⟨j1,j2,j3⟩:=kM r.hp u gb id id ⟨Y7,SI,.inr ⟨m',uU,E,ss,setRow_heap w m' vs _ E _ g3,yO,fun j c' v hc hv=>(IM j c' v hc hv).mono ex⟩⟩ (.inl rfl)
  refine ⟨goInt k,w.setRow m' uU,S,_,?_,(r.heap j3 j1).put hn (.int _ _),j2,kk⟩
  simp [execOp,resolve,invoke,builtin,e1,e2,hr]
 ·omega
theorem GM {x:Operand} {t e:TypeId} {m len cap:Nat} [ay P t (.slice e)] (hx:bS tm x=some (Ee m len cap)):QV P ⟨some d,.call {callee:=.builtin .cap,args:=#[x],argTypes:=#[t]},ty,pos,af,none⟩ ⟨n,tm,hp⟩ (.int .i64 (cap:Nat)):=
 (fun w S a r=>⟨.int .i64 (cap:Nat),fun w1 _=>by
  have h1:=(aN (σ:=⟨n,tm,hp⟩) r hx).jQ
  simp [execOp,h1,resolve,invoke,builtin,Builtin.cap_,run_underlying (ay.h (P:=P) (t:=t)),goInt],.int _ _⟩)
end rules
theorem Nq {w:World} {S:Nat→Prop} {b b2:Bk} {sz Vb:Nat} {xs ys:List AV} {rest:Heap} (r:bZ w S ((b,.arr sz xs) :: (b2,.arr Vb ys) :: rest)) {m:Nat} (h1:b.cr=some m) (h2:b2.cr=some m):False:=by
 have:=r.nodup
 simp [eb,Ob.more,h1,h2] at this
section rules
variable {P:Program} {all:Array Oper} {rest:List Oper} {n:Nat} {tm:List (Nat×AV)} {hp:Heap} {Q:St→Prop} {d:Nat} {ty:TypeId} {pos:String} {af:Array Edge}
theorem EK {t tb e:TypeId} {i:TypeInfo} {f:FuncId} {x y:Operand} {ts:Array TypeId} {b b2:Bk} {L N M sz:Nat} {xs ys:List AV} {yL:Heap} [ay P t (.slice e)] [aP P e i]
 (SJ:∀ (args:Array Value) (w:World),(callFunc f args).run P w=((Extern.SlicesOverlaps.overlaps #[t,t] #[tb] args).run P w).andThen fun v w'=>.ok (.value v) w')
 (hx:bS tm x=some (.sl sz b2 0 M)) (hy:bS tm y=some (.sl sz b L N)) (hM:0 < M) (hN:0 < N) (eF:Nat.beq i.size sz=true) (h0:Nat.blt 0 sz=true) (hn:Nat.blt d n=true) (SK:hp=(b,.arr sz xs) :: (b2,.arr sz ys) :: yL)
 (kk:ah P all rest ⟨n,(d,.bool false) :: tm,hp⟩ Q):ah P all (⟨some d,.call {callee:=.value (.func f),args:=#[x,y],argTypes:=ts},ty,pos,af,none⟩ :: rest) ⟨n,tm,hp⟩ Q:=by
 refine ah.Cv rfl fun w S a r=>?_
 obtain rfl:i.size=sz:=Nat.eq_of_beq_eq_true eF
 have h0:0 < i.size:=by simpa using h0
 obtain ⟨oa,cap,e1,e3⟩:=(aN (σ:=⟨n,tm,hp⟩) r hx).mB
 obtain ⟨oa2,SL,e2,e4⟩:=(aN (σ:=⟨n,tm,hp⟩) r hy).mB
 have fb:kR hp b (.arr i.size xs):=by subst SK;exact (iE.here (b':=b) (o':=.arr i.size xs)).lp
 have Y9:kR hp b2 (.arr i.size ys):=by subst SK;exact (iE.next (iE.here (b':=b2) (o':=.arr i.size ys))).lp
 rcases e3 with ⟨_,_,hl,_,_⟩ | ⟨m2,IN,rfl,q1,q2⟩ | ⟨_,_,_,_,hl,_⟩
 ·omega
 ·rcases e4 with ⟨_,_,hl,_,_⟩ | ⟨m,ss,rfl,q3,q4⟩ | ⟨_,_,_,_,hl,_⟩
  ·omega
  ·obtain ⟨g0,g1,⟨g2,_⟩ | ⟨m',vs,E,g2,g3,g4,g5⟩⟩:=iO r.hp (.inl fb)
   ·rw [g2] at ss;cases ss
   obtain rfl:m'=m:=by rw [g2] at ss;exact Option.some.inj ss
   obtain ⟨j0,j1,⟨j2,_⟩ | ⟨SN,Za,E2,j2,j3,j4,j5⟩⟩:=iO r.hp (.inl Y9)
   ·rw [j2] at IN;cases IN
   obtain rfl:SN=m2:=by rw [j2] at IN;exact Option.some.inj IN
   have qN:SN≠m':=by
    intro h
    subst h
    have rr:=r.hp
    subst SK
    exact Nq rr ss IN
   have CN:0 < b.cap * i.size:=Nat.mul_pos (by omega) h0
   have Vc:=Lib.run_overlaps_apart (P:=P) w t tb e (ay.h (P:=P) (t:=t)) i.size (fun w=>by simp [sizeOf,typeInfo,aP.h (P:=P) (t:=e)]) ⟨SN,0 * i.size,none⟩ ⟨m',L * i.size,none⟩ M cap N SL qN E2 E Za.size vs.size (by simp [World.shape?,j3]) (by simp [World.shape?,g3]) (by rw [g4];omega) (by simp [World.frozen?,j3]) (by simp [World.frozen?,j3])
   refine ⟨.bool false,w,S,_,?_,r.put hn (.bool _),gY.refl _ _ _,kk⟩
   simp only [Nat.zero_mul] at Vc
   have ef:a.eval (Operand.func f)=Value.func (.func f) #[] #[]:=rfl
   simp [execOp,resolve,Deferred.ofValue,ef,invoke,e1,e2,SJ,Vc,Result.andThen]
  ·omega
 ·omega
end rules
theorem wV {P:Program} {w:World} (t tn ty e:TypeId) (i:TypeInfo) (z:Value) (k kn:IntKind) (ht:P.underlying t=some (.slice e)) (Zb:P.underlying tn=some (.int kn)) (hi:P.info? e=some i) (hz:i.zero=some z)
 (b:Addr) (lV rQ:Nat) (sS:List Value) (Zc:sS.length=lV * i.size) (holds:∀ (j:Nat) v,sS[j]? =some v→w.cell? (b.add j)=some v)
 (n:Nat) (h0:0 < n) (hs:0 < i.size) (hg:rQ < lV+n) (Pr:((lV+n:Nat):Int)≤9223372036854775807) (hb:(lV+n) * i.bytes≤140737488355328):
 (Builtin.append_ #[t,tn] ty #[.slice (some b) lV rQ,.int k n]).run P w=
  .ok (.slice (some ⟨w.heap.size,0,none⟩) (lV+n) (grownCap w (lV+n) rQ e))
   (w.drew.alloc (.cells (sS.toArray++Builtin.zeroCells z.cells n++Builtin.zeroCells z.cells (grownCap w (lV+n) rQ e - (lV+n))) e)):=by
 have Vd:n≠0:=by omega
 have hw:IntKind.i64.wrap (n:Int)=n:=by rw [IntKind.wrap_i64];omega
 have hn:¬ (lV+n≤rQ):=by omega
 have SO:¬ (9223372036854775807 < ((lV:Int)+(n:Int))):=by omega
 have CH:=growslice_fits (need:=lV+n) (old:=rQ) (bytes:=i.bytes) hg hb
 have SP:¬ (281474976710656 < Builtin.nextslicecap (lV+n) rQ * i.bytes):=by omega
 have hnb:n * i.bytes≤(lV+n) * i.bytes:=Nat.mul_le_mul_right _ (by omega)
 have SQ:¬ (281474976710656 < (n:Int) * (i.bytes:Int)):=by
  rw [← Int.natCast_mul]
  omega
 have SR:¬ ((n:Int) < 0):=by omega
 have Zd:¬ (n * i.size=0):=Nat.mul_ne_zero Vd (by omega)
 have Ze:=run_firstCells_some (P:=P) w.drew i.size lV b lV rQ sS Zc (by simpa using holds)
 simp [Builtin.append_,run_underlying ht,run_underlying Zb,sizeOf,typeInfo,zeroValue,hi,hz,asInt,asIntOf,hw,hn,Vd,SR,Zd,SO,SP,SQ,Question.forced,Ze,newRow,grownCap]
section rules
variable {P:Program} {all:Array Oper} {rest:List Oper} {n:Nat} {tm:List (Nat×AV)} {hp:Heap} {Q:St→Prop} {d:Nat} {ty:TypeId} {pos:String} {af:Array Edge}
theorem EM {α:Type} {g:α→AV} {Z:α} {Xs:List α} {t tn e:TypeId} {i:TypeInfo} {z:Value} {x y:Operand} {k kn:IntKind} {K:Int} {sz m len cap:Nat} {b:Bk} [ay P t (.slice e)] [ay P tn (.int kn)] [aP P e i]
 (hx:bS tm x=some (Ee m len cap)) (hy:bS tm y=some (.int k K)) (hz:i.zero=some z) (hg:yC z=g Z) (hs:i.size=sz) (sB:N9 sz (g Z)=true) (vv:Nat.blt 0 sz=true) (hb:Nat.ble i.bytes 65536=true) (hn:Nat.blt d n=true)
 (ss:b.cr=some m) (f:kR hp b (.arr sz (Xs.map g))) (hlen:len≤Xs.length) (hK:0 < K) (CN:cap < len+K.toNat) (Zf:(len:Int)+K≤1000000000)
 (kk:∀ b':Bk,ah P all rest ⟨n,(d,.sl sz b' 0 (len+K.toNat)) :: tm,(b',.arr sz ((Xs.take len++List.replicate K.toNat Z).map g)) :: hp⟩ Q):ah P all (⟨some d,.call {callee:=.builtin .append,args:=#[x,y],argTypes:=#[t,tn]},ty,pos,af,none⟩ :: rest) ⟨n,tm,hp⟩ Q:=by
 subst hs
 have vv:0 < i.size:=Nat.lt_of_lt_of_le (Nat.lt_of_succ_le (Nat.le_of_ble_eq_true vv)) (Nat.le_refl _)
 have hb:=Nat.le_of_ble_eq_true hb
 refine ah.Cv rfl fun w S a r=>?_
 have e1:=(aN (σ:=⟨n,tm,hp⟩) r hx).jQ
 have e2:=(aN (σ:=⟨n,tm,hp⟩) r hy).bR
 have hE:=yE sB
 obtain ⟨hl,lU⟩:=mT w S z (by rw [hg];exact hE.2)
 rw [hg] at hl lU
 have wB:z.cells.size=i.size:=by rw [← hl];exact hE.1
 obtain ⟨g0,g1,⟨g2,_⟩ | ⟨m',vs,E,g2,g3,g4,g5⟩⟩:=iO r.hp (.inl f)
 ·rw [g2] at ss;cases ss
 obtain rfl:m'=m:=by rw [g2] at ss;exact Option.some.inj ss
 obtain ⟨K',rfl⟩:∃ K':Nat,K=K':=⟨K.toNat,by omega⟩
 simp only [Int.toNat_natCast] at *
 have PC:len≤b.cap:=by rw [List.length_map] at g1;omega
 have hmul:=Nat.mul_le_mul_right i.size PC
 have Om:(vs.toList.take (len * i.size)).length=len * i.size:=by simp;omega
 have hbb:(len+K') * i.bytes≤1000000000 * 65536:=Nat.mul_le_mul (by omega) hb
 have hr:=wV (P:=P) (w:=w) t tn ty e i z k kn (ay.h (P:=P) (t:=t)) (ay.h (P:=P) (t:=tn)) (aP.h (P:=P) (t:=e)) hz ⟨m',0,none⟩ len cap (vs.toList.take (len * i.size)) Om (fun j u hu=>by
  rw [je,Nat.zero_add,mo g3]
  rw [List.getElem?_take] at hu
  split at hu
  ·simpa using hu
  ·cases hu) K' (by omega) vv CN (by omega) (by omega)
 have MP:=grownCap_ge w (len+K') cap e
 have ex:Ext w (w.drew.alloc (.cells ((vs.toList.take (len * i.size)).toArray++Builtin.zeroCells z.cells K'++Builtin.zeroCells z.cells (grownCap w (len+K') cap e - (len+K'))) e)):=(Ext.AE w _ (Nat.le_succ _)).trans (Ext.alloc w.drew _)
 generalize grownCap w (len+K') cap e=cp at *
 have SS:(Xs.take len++List.replicate K' Z).map g=(Xs.map g).take len++List.replicate K' (g Z):=by simp
 have Fg:(Builtin.zeroCells z.cells K').size=K' * i.size:=by rw [size_zeroCells,wB]
 have Ad:∀ (j:Nat) (v:Value),(Builtin.zeroCells z.cells K')[j]? =some v→z.cells[j % i.size]? =some v:=by
  intro j v hv
  unfold Builtin.zeroCells at hv
  simp only [Array.getElem?_map,Option.map_eq_some_iff] at hv
  obtain ⟨q,hq,rfl⟩:=hv
  have:q=j:=by
   rw [Array.getElem?_eq_some_iff] at hq
   obtain ⟨h1,h2⟩:=hq
   simpa using h2.symm
  subst this
  rw [wB]
  have gZ:q % i.size < z.cells.size:=by rw [wB];exact Nat.mod_lt _ vv
  simp [gZ]
 have Og:∀ x∈(Xs.map g).take len++List.replicate K' (g Z),El i.size x:=fun x hx=>by
  rcases List.mem_append.1 hx with h | h
  ·exact g0 x (List.mem_of_mem_take h)
  ·rw [List.eq_of_mem_replicate h];exact hE
 have hh:Holds (w.drew.alloc (.cells ((vs.toList.take (len * i.size)).toArray++Builtin.zeroCells z.cells K'++Builtin.zeroCells z.cells (cp - (len+K'))) e)) S ⟨some w.heap.size,cp⟩ (.arr i.size ((Xs.take len++List.replicate K' Z).map g)):=by
  rw [SS]
  refine ⟨Og,by simp;omega,.inr ⟨w.heap.size,(vs.toList.take (len * i.size)).toArray++Builtin.zeroCells z.cells K'++Builtin.zeroCells z.cells (cp - (len+K')),e,rfl,?_,?_,fun j cc v Gs hv=>?_⟩⟩
  ·show (w.heap.push _)[w.heap.size]? =_
   simp
  ·simp only [Array.size_append,List.size_toArray,size_zeroCells,wB,Om]
   rw [← Nat.add_mul,← Nat.add_mul]
   congr 1
   omega
  ·have CD:=(List.getElem?_eq_some_iff.1 Gs).1
   rw [bu Og] at CD
   have LW:((Xs.map g).take len).length=len:=by rw [List.length_take,List.length_map];omega
   rw [List.length_append,LW,List.length_replicate] at CD
   rw [jJ,nI _ len g0] at Gs
   have hA:((flat (Xs.map g)).take (len * i.size)).length=len * i.size:=by
    rw [List.length_take,bu g0,List.length_map]
    have:=Nat.mul_le_mul_right i.size hlen
    omega
   rw [Nat.add_mul] at CD
   rw [Array.getElem?_append_left (by simp only [Array.size_append,List.size_toArray,Fg,Om];omega)] at hv
   rcases Nat.lt_or_ge j (len * i.size) with h | h
   ·rw [List.getElem?_append_left (by omega),List.getElem?_take,if_pos h] at Gs
    rw [Array.getElem?_append_left (by simp only [List.size_toArray,Om];omega),List.getElem?_toArray,List.getElem?_take,if_pos h] at hv
    exact (g5 j cc v Gs (by simpa using hv)).mono fun m hm=>⟨hm,ex.same m (r.hp.slt m hm)⟩
   ·rw [List.getElem?_append_right (by omega),hA,yS hE.1 _ _ (by omega)] at Gs
    rw [Array.getElem?_append_right (by simp only [List.size_toArray,Om];omega)] at hv
    simp only [List.size_toArray,Om] at hv
    exact (lU _ _ _ Gs (Ad _ v hv)).mono fun m hm=>⟨hm,ex.same m (r.hp.slt m hm)⟩
 obtain ⟨k1,k2,k3⟩:=oc r.hp ex id hh (.inr ⟨_,rfl,Nat.le_refl _⟩)
 refine ⟨.slice (some ⟨w.heap.size,0,none⟩) (len+K') cp,_,S,_,?_,(r.heap k3 k1).put hn ?_,k2,kk ⟨some w.heap.size,cp⟩⟩
 ·simp [execOp,resolve,invoke,builtin,e1,e2,hr]
 ·have:=At.sl (w:=w.drew.alloc (.cells ((vs.toList.take (len * i.size)).toArray++Builtin.zeroCells z.cells K'++Builtin.zeroCells z.cells (cp - (len+K'))) e)) (S:=S) i.size ⟨some w.heap.size,cp⟩ 0 (len+K') w.heap.size cp rfl MP (by simp)
  simpa using this
end rules
def K1 {α:Type} (xs:List α) (i:Int) (ys:List α):Option (List α):=match ys with
 | [y]=>if 0≤i∧i≤xs.length∧(xs.length:Int) < 1000000 then some (xs.take i.toNat++y :: xs.drop i.toNat) else none
 | _=>none
theorem GN {α:Type} {xs ys r:List α} {i:Int} (h:K1 xs i ys=some r):∃ (y:α) (k:Nat),ys=[y]∧i=k∧k≤xs.length∧xs.length < 1000000∧r=xs.take k++y :: xs.drop k:=by
 unfold K1 at h
 split at h
 ·rename_i y
  split at h
  ·rename_i hc
   exact ⟨y,i.toNat,rfl,by omega,by omega,by omega,(Option.some.inj h).symm⟩
  ·cases h
 ·cases h
theorem uu.whole {α:Type} {g:α→AV} {hp:Heap} {sz N:Nat} {b:Bk} {Ys:List α} (f:kR hp b (.arr sz (Ys.map g))) (hN:Ys.length≤N):uu hp sz Ys.length N (.sl sz b 0 Ys.length) (Ys.map g):=by
 have:=uu.of (k:=Ys.length) (N:=N) (Src.whole (hp:=hp) (sz:=sz) b Ys.length (Ys.map g) (.inl f) (by simp)) (by rw [List.length_map];exact Nat.min_eq_left hN)
 rwa [List.take_of_length_le (by simp)] at this
theorem uu.Mi {α:Type} {g:α→AV} {hp:Heap} {sz k N off len:Nat} {b:Bk} {Xs:List α} (f:kR hp b (.arr sz (Xs.map g))) (hk:Nat.min len N=k) (ho:off+k≤Xs.length):uu hp sz k N (.sl sz b off len) (((Xs.drop off).take k).map g):=by
 have:=uu.over f hk (by simpa using ho)
 rwa [← List.map_drop,← List.map_take] at this
section rules
variable {P:Program} {all:Array Oper} {rest:List Oper} {n:Nat} {tm:List (Nat×AV)} {hp:Heap} {Q:St→Prop} {d:Nat} {ty:TypeId} {pos:String} {af:Array Edge}
theorem B0 {α:Type} {g:α→AV} {Xs Ys Zs:List α} {t t2 e:TypeId} {i:TypeInfo} {x y:Operand} {src:AV} {b:Bk} {L N k sz:Nat} {bY:Heap} [ay P t (.slice e)] [aP P e i] (hx:bS tm x=some (.sl sz b L N)) (hy:bS tm y=some src) (eF:Nat.beq i.size sz=true) (h0:Nat.blt 0 sz=true) (hn:Nat.blt d n=true)
 (hs:uu hp sz k N src (Ys.map g)) (Ia:0 < k) (U9:k≤N) (hL:L≤Xs.length) (hz:Xs.take L++Ys++Xs.drop (L+k)=Zs) (u:iE hp b (.arr sz (Xs.map g)) b (.arr sz (Zs.map g)) bY)
 (kk:ah P all rest ⟨n,(d,.int .i64 (k:Nat)) :: tm,bY⟩ Q):ah P all (⟨some d,.call {callee:=.builtin .copy,args:=#[x,y],argTypes:=#[t,t2]},ty,pos,af,none⟩ :: rest) ⟨n,tm,hp⟩ Q:=by
 subst hz
 refine KZ (xs:=Xs.map g) (ys:=Ys.map g) hx hy eF h0 hn hs Ia U9 (by simpa using hL) (by rw [List.map_append,List.map_append,List.map_take,List.map_drop] at u;exact u) kk
end rules
theorem K2 {α:Type} {Xs:List α} {k:Nat} {y Z:α} (hk:k < Xs.length):(Xs.take k++List.replicate (Xs.length+1 - k) Z).take k++[y]++(Xs.take k++List.replicate (Xs.length+1 - k) Z).drop (k+1)=Xs.take k++y :: List.replicate (Xs.length - k) Z:=by
 have h1:(Xs.take k).length=k:=by simp;omega
 rw [List.take_left' h1,show Xs.length+1 - k=(Xs.length - k)+1 by omega,List.replicate_succ]
 rw [show k+1=(Xs.take k).length+1 by omega,List.drop_append]
 simp
theorem K3 {α:Type} {Xs:List α} {k:Nat} {y Z:α} (hk:k < Xs.length):(Xs.take k++y :: List.replicate (Xs.length - k) Z).take (k+1)++(Xs.drop k).take (Xs.length - k)++(Xs.take k++y :: List.replicate (Xs.length - k) Z).drop (k+1+(Xs.length - k))=Xs.take k++y :: Xs.drop k:=by
 have h1:(Xs.take k).length=k:=by simp;omega
 have h2:(Xs.take k++y :: List.replicate (Xs.length - k) Z).drop (k+1+(Xs.length - k))=[]:=List.drop_eq_nil_of_le (by simp;omega)
 rw [h2,List.append_nil,List.take_of_length_le (l:=Xs.drop k) (by simp)]
 have:(Xs.take k++y :: List.replicate (Xs.length - k) Z).take (k+1)=Xs.take k++[y]:=by
  rw [show Xs.take k++y :: List.replicate (Xs.length - k) Z=(Xs.take k++[y])++List.replicate (Xs.length - k) Z by simp]
  exact List.take_left' (by simp;omega)
 rw [this]
 simp
theorem GO {α:Type} {Xs:List α} {k:Nat} {x:α} (hk:k < Xs.length) (hx:Xs[k]? =some x):Xs.take (k+1)++(Xs.drop k).take (Xs.length - k)++Xs.drop (k+1+(Xs.length - k))=Xs.take k++x :: Xs.drop k:=by
 have h2:Xs.drop (k+1+(Xs.length - k))=[]:=List.drop_eq_nil_of_le (by omega)
 rw [h2,List.append_nil,List.take_of_length_le (l:=Xs.drop k) (by simp),List.take_add_one,hx]
 simp
theorem K4 {α:Type} {Xs:List α} {k:Nat} {x y:α} (hk:k < Xs.length):(Xs.take k++x :: Xs.drop k).take k++[y]++(Xs.take k++x :: Xs.drop k).drop (k+1)=Xs.take k++y :: Xs.drop k:=by
 have h1:(Xs.take k).length=k:=by simp;omega
 rw [List.take_left' h1,show k+1=(Xs.take k).length+1 by omega,List.drop_append]
 simp
end Go.Eng
