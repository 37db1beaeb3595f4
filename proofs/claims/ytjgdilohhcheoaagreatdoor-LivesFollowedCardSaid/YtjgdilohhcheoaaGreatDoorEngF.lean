/- The engine: abstract values, the symbolic heap, one rule for each operation. No program in sight. -/
import Derived.Test.YtjgdilohhcheoaaGreatDoorEngE
import Derived.Shelf.SlSortCmp.NoneTotal
import Derived.Lib.Case
import Derived.Lib.Overlaps
import Derived.Lib.AppendZeros
set_option linter.unusedVariables false
set_option linter.unusedSectionVars false
namespace Go.Eng
open Go
variable [bt]
section rules
variable {P:Program} {all:Array Oper} {n:Nat} {B:Heap} {tk:List Tok} {dy:List Nat} {i:Nat} {rest:List Oper} {tm:List (Nat×AV)} {acc:(Nat→Bk)→List (Nat×AV)} {Q:(Nat→Bk)→List (Nat×AV)→Prop} {d:Nat} {ty:TypeId} {pos:String} {af:Array Edge} {op:Op}
end rules
end Go.Eng
namespace Go.Eng
open Go Go.Proofs Go.Shelf Go.Lib
variable {P:Program} [bt]
end Go.Eng
namespace Go.Eng
open Go
variable [bt]
section rules
variable {P:Program} {all:Array Oper} {rest:List Oper} {n:Nat} {tm:List (Nat×AV)} {hp:Heap} {Q:List (Nat×AV)→Prop} {d1 d2 j s x:Nat} {t1 t2:TypeId} {p1 p2:String} {a1 a2:Array Edge} {a b:Bool}
end rules
section rules
variable {P:Program} {all:Array Oper} {rest:List Oper} {n:Nat} {tm:List (Nat×AV)} {hp:Heap} {Q:St→Prop} {d:Nat} {ty:TypeId} {pos:String} {af:Array Edge}
end rules
section rules
variable {P:Program} {all:Array Oper} {rest:List Oper} {n:Nat} {tm:List (Nat×AV)} {hp:Heap} {Q:St→Prop} {d:Nat} {ty:TypeId} {pos:String} {af:Array Edge}
end rules
section rules
variable {P:Program} {all:Array Oper} {rest:List Oper} {n:Nat} {tm:List (Nat×AV)} {hp:Heap} {Q:St→Prop} {d:Nat} {ty:TypeId} {pos:String} {af:Array Edge}
end rules
def S3:AV→Bool
 | .int _ _=>true
 | .bool _=>true
 | .str _=>true
 | _=>false
theorem OF {w:World} {S:Nat→Prop} {a:AV} {v u:Value} (h:S3 a=true) (hv:At w S a v) (hu:At w S a u):v=u∧∀ n,Instr.sameBits n v v=true:=by
 cases a<;>simp only [S3,Bool.false_eq_true] at h
 ·rw [hv.ca,hu.ca];exact ⟨rfl,fun n=>by cases n<;>simp [Instr.sameBits]⟩
 ·rw [hv.iJ,hu.iJ];exact ⟨rfl,fun n=>by cases n<;>simp [Instr.sameBits]⟩
 ·rw [hv.cI,hu.cI]
  refine ⟨rfl,fun n=>?_⟩
  cases n<;>(simp only [Instr.sameBits];exact (FK _ _).2 rfl)
theorem xe {α:Type} (p:α×α→Bool):∀ (l:List α),(∀ x∈l,p (x,x)=true)→(l.zip l).all p=true
 | [],_=>rfl
 | x :: r,h=>by
   rw [List.zip_cons_cons,List.all_cons,h x List.mem_cons_self,xe p r (fun y hy=>h y (List.mem_cons_of_mem _ hy))];rfl
theorem Mf {w:World} {S:Nat→Prop} {cs:List AV} {v u:Value} (h:∀ c∈cs,S3 c=true) (hv:At w S (.agg cs) v) (hu:At w S (.agg cs) u):Instr.sameBits 10000 v u=true:=by
 obtain ⟨vs,rfl,hl,ha⟩:=hv.iU
 obtain ⟨us,rfl,si,ux⟩:=hu.iU
 have key:∀ (i:Nat) (h1:i < vs.size) (h2:i < us.size),vs[i]=us[i]∧∀ n,Instr.sameBits n vs[i] vs[i]=true:=fun i h1 h2=>by
  have hc:cs[i]? =some (cs[i]'(by omega)):=by simp [show i < cs.length by omega]
  exact OF (h _ (List.getElem_mem _)) (ha i _ _ hc (by simp [h1])) (ux i _ _ hc (by simp [h2]))
 have heq:vs=us:=Array.ext (by omega) (fun i h1 h2=>(key i h1 h2).1)
 subst heq
 have g:∀ n:Nat,Instr.sameBits (n+1) (.agg vs) (.agg vs)=true:=fun n=>by
  simp only [Instr.sameBits,beq_self_eq_true,Bool.true_and]
  refine xe _ _ (fun x hx=>?_)
  obtain ⟨i,hi,rfl⟩:=List.getElem_of_mem hx
  simpa using (key i (by simpa using hi) (by simpa using hi)).2 n
 exact g 9999
def PI (D:TypeDesc):Bool:=match D with
 | .int _=>true
 | .bool=>true
 | .string=>true
 | _=>false
theorem Rx {P:Program} {t:TypeId} {D:TypeDesc} (hu:P.underlying t=some D) (hD:PI D=true) (b:Bool) (n:Nat) (v:Value) (w:World):(Instr.checkKey b (n+1) t v).run P w=.ok () w:=by
 cases D<;>simp only [PI,Bool.false_eq_true] at hD<;>simp [Instr.checkKey,run_underlying hu]
theorem Mg {P:Program} {t:TypeId} {D:TypeDesc} (hu:P.underlying t=some D) (hD:PI D=true) {cs:Array Value} {off:Nat} {v:Value} (h:cs[off]? =some v) (w:World):(part t cs off).run P w=.ok v w:=by
 unfold part isAgg
 simp only [Sem.run_bind,run_underlying hu,Result.andThen_ok]
 cases D<;>simp_all [PI]
theorem Ce {P:Program} (b:Bool) (n:Nat) (vs:Array Value) (w:World):∀ (fs:List Field),(∀ f∈fs,∃ D,P.underlying f.type=some D∧PI D=true∧f.offset < vs.size)→(forIn fs PUnit.unit (fun f (_:PUnit)=>(if f.name≠"_" then do
 let x ← part f.type vs f.offset
 Instr.checkKey b (n+1) f.type x
 pure (ForInStep.yield PUnit.unit)
 else pure (ForInStep.yield PUnit.unit):Sem (ForInStep PUnit)))).run P w=.ok PUnit.unit w
 | [],_=>by simp
 | f :: fs,h=>by
   obtain ⟨D,h1,h2,h3⟩:=h f List.mem_cons_self
   have hp:∀ w1,(part f.type vs f.offset).run P w1=.ok vs[f.offset] w1:=Mg h1 h2 (by simp [h3])
   have ih:=Ce b n vs w fs (fun g hg=>h g (List.mem_cons_of_mem _ hg))
   simp only [List.forIn_cons,Sem.run_bind]
   by_cases hn:f.name="_"
   ·simp only [hn,ne_eq,not_true_eq_false,if_false,Sem.run_pure,Result.andThen_ok]
    exact ih
   ·simp only [hn,ne_eq,not_false_eq_true,if_true,Sem.run_bind,hp,Result.andThen_ok,Rx h1 h2,Sem.run_pure]
    exact ih
theorem NK {P:Program} {t:TypeId} {v:Value} {K:Type} [DecidableEq K] {k:K} {q:K→Value→Prop} (hq:∀ k' u,q k' u→∀ w,(Op.equal t v u).run P w=.ok (decide (k'=k)) w):∀ (es:List MapEntry) (ks:List K) (i:Nat) (w:World),ks.length=es.length→(∀ (i:Nat) k' e,ks[i]? =some k'→es[i]? =some e→q k' e.key)→(Instr.findAsking t v es i).run P w=.ok (uo k ks es i) w
 | [],[],i,w,_,_=>by simp [Instr.findAsking,uo]
 | [],k' :: ks,i,w,hl,_=>by simp at hl
 | e :: es,[],i,w,hl,_=>by simp at hl
 | e :: es,k' :: ks,i,w,hl,h=>by
   unfold Instr.findAsking uo
   rw [Sem.run_bind,hq k' e.key (h 0 k' e rfl rfl)]
   by_cases hk:k'=k
   ·simp [hk]
   ·simp only [hk,decide_false,Result.andThen_ok,Bool.false_eq_true,if_false]
    exact NK hq es ks (i+1) w (by simpa using hl) (fun i k' e h1 h2=>h (i+1) k' e (by simpa using h1) (by simpa using h2))
theorem il.struct {P:Program} {t:TypeId} {K:Type} [DecidableEq K] {g:K→AV} {dd:Nat} {fs:List Field} {n:Nat} [kN P t dd g] (hk:Nat.ble dd 10000=true) (hu:P.underlying t=some (.struct fs.toArray))
 (hf:∀ f∈fs,∃ D,P.underlying f.type=some D∧PI D=true∧f.offset < n) (hg:∀ x,∃ cs,g x=.agg cs∧cs.length=n∧∀ c∈cs,S3 c=true) (inj:∀ a b,g a=g b→a=b):il P t g where
 inj:=inj
 check:=fun {w S k v} hv b w1=>by
  obtain ⟨cs,e,hl,hs⟩:=hg k
  rw [e] at hv
  obtain ⟨vs,rfl,si,ha⟩:=hv.iU
  have key:∀ m:Nat,(Instr.checkKey b (m+1+1) t (.agg vs)).run P w1=.ok () w1:=fun m=>by
   have h1:=Ce (P:=P) b m vs w1 fs (fun f hm=>by obtain ⟨D,h1,h2,h3⟩:=hf f hm;exact ⟨D,h1,h2,by omega⟩)
   rw [Instr.checkKey]
   simp only [Sem.run_bind,run_underlying hu,Result.andThen_ok]
   rw [← Array.forIn_toList]
   simp only [h1,Result.andThen_ok,Sem.run_pure]
  exact key 9998
 find:=fun {w S k v} hv es ks hl SG w1=>by
  obtain ⟨cs,e,hn,hs⟩:=hg k
  have SS:=hv
  rw [e] at SS
  obtain ⟨vs,rfl,si,ha⟩:=SS.iU
  have hq:=NK (P:=P) (t:=t) (v:=.agg vs) (k:=k) (q:=fun k' u=>At w S (g k') u) (fun k' u hu w2=>by
   have:=kN.h (P:=P) (t:=t) (g:=g) k k' w S _ _ hv hu (10000 - dd) w2
   rw [Nat.sub_add_cancel (Nat.le_of_ble_eq_true hk)] at this
   rw [show decide (k'=k)=decide (k=k') by rw [Bool.eq_iff_iff];simp;exact eq_comm]
   exact this) es ks 0 w1 hl (fun i k' e h1 h2=>SG i k' e h1 h2)
  unfold Instr.findKey
  rw [Sem.run_bind,run_underlying hu]
  simp only [Result.andThen_ok]
  cases es with
  | nil=>
    cases ks with
    | nil=>simp [Instr.findNow,uo]
    | cons _ _=>simp at hl
  | cons m es=>
    have:Instr.findNow (.struct fs.toArray) (.agg vs) (m :: es) 0=none:=by
     unfold Instr.findNow;simp [Instr.sameNow]
    rw [this];exact hq
 bits:=fun {w S k v u} h1 h2=>by
  obtain ⟨cs,e,hn,hs⟩:=hg k
  rw [e] at h1 h2
  exact Mf hs h1 h2
section rules
variable {P:Program} {all:Array Oper} {rest:List Oper} {n:Nat} {tm:List (Nat×AV)} {hp:Heap} {Q:List (Nat×AV)→Prop} {d:Nat} {ty:TypeId} {pos:String} {af:Array Edge} {op:Op}
theorem AM.CW {f:FuncId} {x:Operand} {args:List Operand} {ts:Array TypeId} {rn l l':List AV} {R:AV} [ba P f] (hx:bY (zt (looks all ⟨some d,.call {callee:=.value x,args:=args.toArray,argTypes:=ts},ty,pos,af,none⟩) tm) x=some (.func (.func f) rn)) (hl:wN (zt (looks all ⟨some d,.call {callee:=.value x,args:=args.toArray,argTypes:=ts},ty,pos,af,none⟩) tm) args=some l) (c:Pu P f l' R) (co:wb hp (l++rn) l') (hn:Nat.blt d n=true)
 (k:AM P all n hp rest ((d,R) :: tm) Q):AM P all n hp (⟨some d,.call {callee:=.value x,args:=args.toArray,argTypes:=ts},ty,pos,af,none⟩ :: rest) tm Q:=by
 refine AM.mv (fun w S a h1 h2 h3 h4 K Q' hK=>?_) hn k
 have r:=oP h1 h2 h3 h4
 obtain ⟨cv,e1,e2,e3⟩:=(aN r hx).zM
 show Oper.upon P _ a K Q' _
 rw [ue a _ e1]
 obtain ⟨g1,g2⟩:=qH r hl
 obtain ⟨g3,g4⟩:=wb.at r.hp co (vs:=args.map a.eval++cv.toList) (by simp [g1,e2]) (so g1 g2 (by simpa using e3))
 refine (c w S _ (ss h3.slt h3.gq) (by simpa using g3) g4).mono ?_
 rintro e w' ⟨v,rr,h',S',rfl,rfl,k3,k4,k5⟩
 exact hK v w' S' ⟨k5.DP,fun m hm=>(k5.iX m hm).1,fun m hm hs=>(k5.other m hm (fun ⟨x,hx,_⟩=>by simp at hx)).2 hs,k4.slt⟩ k3
end rules
section values
variable {P:Program} {n:Nat} {tm:List (Nat×AV)} {hp:Heap} {d:Nat} {ty:TypeId} {pos:String} {af:Array Edge}
end values
section rules
variable {P:Program} {n:Nat} {tm:List (Nat×AV)} {hp:Heap} {d:Nat} {ty:TypeId} {pos:String} {af:Array Edge}
end rules
section
variable {K E:Type}
end
section rules
variable {P:Program} {all:Array Oper} {rest:List Oper} {n:Nat} {tm:List (Nat×AV)} {hp:Heap} {Q:St→Prop} {d:Nat} {ty:TypeId} {pos:String} {af:Array Edge}
end rules
section
variable {P:Program} {R:St→Prop} {k:List It} {σ:St}
end
theorem J {α:Sort _} {a:α}:a=a:=rfl
section rules
variable {P:Program} {all:Array Oper} {n:Nat} {B:Heap} {tk:List Tok} {dy:List Nat} {i:Nat} {rest:List Oper} {tm:List (Nat×AV)} {acc:(Nat→Bk)→List (Nat×AV)} {Q:(Nat→Bk)→List (Nat×AV)→Prop} {d:Nat} {ty:TypeId} {pos:String} {af:Array Edge} {op:Op}
end rules
section
variable {P:Program} {o:Oper} {σ:St}
end
section rules
variable {P:Program} {all:Array Oper} {n:Nat} {B:Heap} {tk:List Tok} {dy:List Nat} {i:Nat} {rest:List Oper} {tm:List (Nat×AV)} {acc:(Nat→Bk)→List (Nat×AV)} {Q:(Nat→Bk)→List (Nat×AV)→Prop} {d:Nat} {ty:TypeId} {pos:String} {af:Array Edge} {op:Op}
end rules
end Go.Eng
set_option linter.unusedSimpArgs false
namespace Go.Eng
open Go
variable [bt]
section rules
variable {P:Program} {all:Array Oper} {rest:List Oper} {n:Nat} {tm:List (Nat×AV)} {hp:Heap} {Q:St→Prop} {d:Nat} {ty:TypeId} {pos:String} {af:Array Edge}
end rules
theorem iw.WR {h h':Heap} {b b':Bk} {o o':Ob} (u:iw h b o b' o' h') (b2:Bk) (o2:Ob):∃ h2,iw h b o b2 o2 h2∧iw h2 b2 o2 b' o' h':=by
 induction u with
 | here=>exact ⟨_,.here,.here⟩
 | next _ ih=>obtain ⟨h2,a,b⟩:=ih;exact ⟨_,.next a,.next b⟩
 | skip _ ih=>obtain ⟨h2,a,b⟩:=ih;exact ⟨_,.skip a,.skip b⟩
theorem Cf {w:World} {S:Nat→Prop} {hp bZ:Heap} {bp:Bk} {es uw:List (Bk×PO)} (r:ck w S hp) (u:iw hp bp (.bS es) bp (.bS uw) bZ) (h:es.Perm uw):ck w S bZ∧ic w S hp w S bZ:=by
 obtain ⟨p,q,rfl,rfl⟩:=u.split
 obtain ⟨Bn,gB⟩:bp.cy=none∧∀ e∈es,nM w S e.1 e.2:=r.holds (bp,.bS es) (bg.2 (.inl rfl))
 have Ak:∀ n,n∈eb (bp,.bS uw)↔n∈eb (bp,.bS es):=by
  intro n
  rw [vf,vf]
  constructor
  ·rintro (k | ⟨e,he,hn⟩)
   ·exact .inl k
   ·exact .inr ⟨e,h.mem_iff.2 he,hn⟩
  ·rintro (k | ⟨e,he,hn⟩)
   ·exact .inl k
   ·exact .inr ⟨e,h.mem_iff.1 he,hn⟩
 have e1:(eb (bp,.bS es)).Perm (eb (bp,.bS uw)):=by
  simp only [eb,Ob.more]
  exact List.Perm.append_left _ (h.filterMap _)
 have JK:∀ n,Has (p++(bp,.bS uw) :: q) n→Has (p++(bp,.bS es) :: q) n:=by
  rintro n ⟨e,he,hn⟩
  rcases bg.1 he with rfl | he
  ·exact ⟨_,bg.2 (.inl rfl),(Ak n).1 hn⟩
  ·exact ⟨e,bg.2 (.inr he),hn⟩
 refine ⟨⟨?_,?_,?_,r.slt,r.gq⟩,⟨rfl,rfl,rfl,Nat.le_refl _,fun n hn=>⟨hn,rfl⟩,fun n _ _=>⟨rfl,id⟩,fun n hn=>.inl (JK n hn),fun _=>Nat.le_refl _⟩⟩
 ·have:=r.nodup
  rw [List.flatMap_append,List.flatMap_cons] at this ⊢
  exact ((List.Perm.append_left _ (List.Perm.append_right _ e1)).nodup_iff).1 this
 ·intro e he
  rcases bg.1 he with rfl | he
  ·exact ⟨Bn,fun e he=>gB e (h.mem_iff.2 he)⟩
  ·exact r.holds e (bg.2 (.inr he))
 ·intro e he n hn
  rcases bg.1 he with rfl | he
  ·have:=r.sep (bp,.bS es) (bg.2 (.inl rfl)) n ((Ak n).1 hn)
   exact ⟨fun h=>(this.1 h).elim,fun h=>h.elim⟩
  ·exact r.sep e (bg.2 (.inr he)) n hn
theorem ck.same {w:World} {S:Nat→Prop} {h h':Heap} (r:ck w S h) (hp:h.Perm h'):ck w S h'∧ic w S h w S h':=
 ⟨r.perm hp,rfl,rfl,rfl,Nat.le_refl _,fun n hn=>⟨hn,rfl⟩,fun n _ _=>⟨rfl,id⟩,fun n ⟨e,he,hn⟩=>.inl ⟨e,hp.mem_iff.2 he,hn⟩,fun _=>Nat.le_refl _⟩
def FO (xs:List (Bk×PO)):Heap:=xs.map fun e=>(e.1,e.2.ob)
theorem wq {w:World} {S:Nat→Prop} {bp:Bk} {uw:List (Bk×PO)}:∀ (xs es:List (Bk×PO)) {hp bZ:Heap},ck w S hp→iw hp bp (.bS es) bp (.bS uw) bZ→es.Perm (xs++uw)→ck w S (FO xs++bZ)∧ic w S hp w S (FO xs++bZ)
 | [],es,hp,bZ,r,u,h=>Cf r u h
 | x :: xs,es,hp,bZ,r,u,h=>by
   obtain ⟨h2,u1,u2⟩:=u.WR bp (.bS (xs++uw))
   obtain ⟨r1,e1⟩:=HO r u1 h
   obtain ⟨r2,e2⟩:=wq xs (xs++uw) r1 (.next u2) (List.Perm.refl _)
   obtain ⟨r3,e3⟩:=r2.same (h':=FO (x :: xs)++bZ) List.perm_middle
   exact ⟨r3,(e1.trans e2).trans e3⟩
theorem vg {w:World} {S:Nat→Prop} {bp:Bk} {es:List (Bk×PO)}:∀ (xs uw:List (Bk×PO)) {pj bZ:Heap},ck w S (FO xs++pj)→iw pj bp (.bS es) bp (.bS uw) bZ→uw.Perm (xs++es)→ck w S bZ∧ic w S (FO xs++pj) w S bZ
 | [],uw,pj,bZ,r,u,h=>Cf r u h.symm
 | x :: xs,uw,pj,bZ,r,u,h=>by
   obtain ⟨h2,u1,u2⟩:=u.WR bp (.bS (xs++es))
   obtain ⟨r0,e0⟩:=r.same (h':=FO xs++(x.1,x.2.ob) :: pj) List.perm_middle.symm
   obtain ⟨r1,e1⟩:=vg xs (xs++es) r0 (.next u1) (List.Perm.refl _)
   obtain ⟨r2,e2⟩:=JL r1 .here u2 h
   exact ⟨r2,(e0.trans e1).trans e2⟩
section ara
variable {V:Type}
def qM (kb:Bk→(Nat→Bk)→V→List (Bk×PO)) (bo:Nat→Bk) (bs:Nat→Nat→Bk):Nat→List (Option V)→List (Bk×PO)
 | _,[]=>[]
 | i,some v :: r=>kb (bo i) (bs i) v++qM kb bo bs (i+1) r
 | i,none :: r=>qM kb bo bs (i+1) r
def fI (kb:Bk→(Nat→Bk)→V→List (Bk×PO)) (bo:Nat→Bk) (bs:Nat→Nat→Bk) (M:List V):List (Bk×PO):=qM kb bo bs 0 (M.map some)
def ya (kb:Bk→(Nat→Bk)→V→List (Bk×PO)) (bo:Nat→Bk) (bs:Nat→Nat→Bk) (M:List V) (i:Int):List (Bk×PO):=qM kb bo bs 0 ((M.map some).set i.toNat none)
variable {kb:Bk→(Nat→Bk)→V→List (Bk×PO)} {bo uy:Nat→Bk} {bs tU:Nat→Nat→Bk}
theorem tf:∀ (l:List (Option V)) (i:Nat),(∀ j v,l[j]? =some (some v)→bo (i+j)=uy (i+j)∧bs (i+j)=tU (i+j))→qM kb bo bs i l=qM kb uy tU i l
 | [],_,_=>rfl
 | some v :: r,i,h=>by
   obtain ⟨h1,h2⟩:=h 0 v rfl
   show kb (bo i) (bs i) v++qM kb bo bs (i+1) r=kb (uy i) (tU i) v++qM kb uy tU (i+1) r
   rw [show bo i=uy i from h1,show bs i=tU i from h2,tf r (i+1) (fun j v hj=>by
    have:=h (j+1) v (by simpa using hj)
    rw [show i+1+j=i+(j+1) by omega];exact this)]
 | none :: r,i,h=>tf r (i+1) (fun j v hj=>by
  have:=h (j+1) v (by simpa using hj)
  rw [show i+1+j=i+(j+1) by omega];exact this)
theorem An:∀ (l:List (Option V)) (i j:Nat) (v:V),l[j]? =some none→(qM kb bo bs i (l.set j (some v))).Perm (kb (bo (i+j)) (bs (i+j)) v++qM kb bo bs i l)
 | [],_,_,_,h=>by simp at h
 | o :: r,i,0,v,h=>by
   obtain rfl:o=none:=by simpa using h
   exact List.Perm.refl _
 | some u :: r,i,j+1,v,h=>by
   have:=An r (i+1) j v (by simpa using h)
   rw [show i+1+j=i+(j+1) by omega] at this
   show (kb (bo i) (bs i) u++qM kb bo bs (i+1) (r.set j (some v))).Perm _
   refine (List.Perm.append_left _ this).trans ?_
   show (kb (bo i) (bs i) u++(kb (bo (i+(j+1))) (bs (i+(j+1))) v++qM kb bo bs (i+1) r)).Perm (kb (bo (i+(j+1))) (bs (i+(j+1))) v++(kb (bo i) (bs i) u++qM kb bo bs (i+1) r))
   rw [← List.append_assoc,← List.append_assoc]
   exact List.Perm.append_right _ List.perm_append_comm
 | none :: r,i,j+1,v,h=>by
   have:=An r (i+1) j v (by simpa using h)
   rw [show i+1+j=i+(j+1) by omega] at this
   exact this
theorem Ao:∀ (l m:List (Option V)) (i:Nat),qM kb bo bs i (l++m)=qM kb bo bs i l++qM kb bo bs (i+l.length) m
 | [],m,i=>rfl
 | some v :: r,m,i=>by
   show kb (bo i) (bs i) v++qM kb bo bs (i+1) (r++m)=(kb (bo i) (bs i) v++qM kb bo bs (i+1) r)++qM kb bo bs (i+(r.length+1)) m
   rw [Ao r m (i+1),List.append_assoc,show i+1+r.length=i+(r.length+1) by omega]
 | none :: r,m,i=>by
   show qM kb bo bs (i+1) (r++m)=qM kb bo bs (i+1) r++qM kb bo bs (i+(r.length+1)) m
   rw [Ao r m (i+1),show i+1+r.length=i+(r.length+1) by omega]
theorem Cg {M M':List V} {i:Int} {v v':V} {s:Nat→Bk} (h:idx M i=some v) (hM:M'=M.set i.toNat v') (hs:tU=fun j=>if j=i.toNat then s else bs j):(fI kb bo tU M').Perm (kb (bo i.toNat) s v'++ya kb bo bs M i):=by
 obtain ⟨h0,h1,h2⟩:=ep h
 unfold fI ya
 have hl:(M.map some)[i.toNat]? =some (some v):=by rw [List.getElem?_map,h2];rfl
 have iv:i.toNat < (M.map some).length:=(List.getElem?_eq_some_iff.1 hl).1
 have hn:((M.map some).set i.toNat none)[i.toNat]? =some none:=by rw [List.getElem?_set_self iv]
 have e1:M'.map some=((M.map some).set i.toNat none).set i.toNat (some v'):=by rw [hM,List.map_set,List.set_set]
 rw [e1]
 have:=An (kb:=kb) (bo:=bo) (bs:=tU) ((M.map some).set i.toNat none) 0 i.toNat v' hn
 rw [Nat.zero_add] at this
 refine this.trans ?_
 rw [show tU i.toNat=s by rw [hs];simp]
 refine List.Perm.append_left _ ?_
 rw [tf (uy:=bo) (tU:=bs) ((M.map some).set i.toNat none) 0 (fun j u hj=>by
  rw [Nat.zero_add]
  refine ⟨rfl,?_⟩
  have:j≠i.toNat:=fun e=>by rw [e,hn] at hj;simp at hj
  rw [hs];simp [this])]
theorem yb {M:List V} {i:Int} {v:V} (h:idx M i=some v):(fI kb bo bs M).Perm (kb (bo i.toNat) (bs i.toNat) v++ya kb bo bs M i):=
 Cg h (Ag (ep h).2.2).symm (by funext j;split<;>simp_all)
theorem JP {M:List V} {b:Bk} {s:Nat→Bk} {v:V} (h1:∀ j,j < M.length→uy j=bo j) (h2:uy M.length=b) (h3:∀ j,j < M.length→tU j=bs j) (h4:tU M.length=s):(fI kb uy tU (M++[v])).Perm (kb b s v++fI kb bo bs M):=by
 unfold fI
 rw [List.map_append,Ao,List.length_map,Nat.zero_add]
 have e1:qM kb uy tU M.length ([v].map some)=kb b s v:=by
  show kb (uy M.length) (tU M.length) v++[]=_
  rw [h2,h4,List.append_nil]
 rw [e1,tf (uy:=bo) (tU:=bs) (M.map some) 0 (fun j u hj=>by
  have:j < M.length:=by
   have:=(List.getElem?_eq_some_iff.1 hj).1
   simpa using this
  rw [Nat.zero_add]
  exact ⟨h1 j this,h3 j this⟩)]
 exact List.perm_append_comm
end ara
theorem aj.GZ {n:Nat} {tm:List (Nat×AV)} {hp:Heap} {T:St→Prop} {V:Type} {kb:Bk→(Nat→Bk)→V→List (Bk×PO)} (k:∀ (bp:Bk) (bo:Nat→Bk) (bs:Nat→Nat→Bk),aj ⟨n,tm,(bp,.bS (fI kb bo bs [])) :: hp⟩ T):aj ⟨n,tm,hp⟩ T:=by
 refine aj.step (zr:=⟨n,tm,(⟨none,0⟩,.bS (fI kb (fun _=>⟨none,0⟩) (fun _ _=>⟨none,0⟩) [])) :: hp⟩) (fun w S a r=>?_) (k _ _ _)
 obtain ⟨g1,g2,g3⟩:=o4 (b:=⟨none,0⟩) (o:=.bS []) r.hp (Ext.refl w) id ⟨rfl,by simp⟩ (.inl rfl)
 exact ⟨_,S,rfl,r.heap g3 g1,g2⟩
theorem aj.Mh {n:Nat} {tm:List (Nat×AV)} {hp bZ:Heap} {T:St→Prop} {V:Type} {kb:Bk→(Nat→Bk)→V→List (Bk×PO)} {bo:Nat→Bk} {bs:Nat→Nat→Bk} {M:List V} {i:Int} {v:V} {bp:Bk} (h:idx M i=some v) (u:iw hp bp (.bS (fI kb bo bs M)) bp (.bS (ya kb bo bs M i)) bZ)
 (k:aj ⟨n,tm,FO (kb (bo i.toNat) (bs i.toNat) v)++bZ⟩ T):aj ⟨n,tm,hp⟩ T:=by
 refine aj.step (fun w S a r=>?_) k
 obtain ⟨g1,g2⟩:=wq _ _ r.hp u (yb h)
 exact ⟨_,S,rfl,r.heap (fun m hm=>⟨hm,rfl⟩) g1,g2⟩
theorem aj.OG {n:Nat} {tm:List (Nat×AV)} {hp pj h0:Heap} {bZ:(Nat→Nat→Bk)→Heap} {T:St→Prop} {V:Type} {kb:Bk→(Nat→Bk)→V→List (Bk×PO)} {bo:Nat→Bk} {bs:Nat→Nat→Bk} {M M':List V} {i:Int} {v v':V} {b0 bp:Bk} {s:Nat→Bk} (h:idx M i=some v) (hb:b0=bo i.toNat) (hM:M'=M.set i.toNat v') (hs:zu hp h0 pj) (ho:h0=FO (kb b0 s v')) (u:∀ tU,iw pj bp (.bS (ya kb bo bs M i)) bp (.bS (fI kb bo tU M')) (bZ tU))
 (k:∀ tU,aj ⟨n,tm,bZ tU⟩ T):aj ⟨n,tm,hp⟩ T:=by
 refine aj.step (zr:=⟨n,tm,bZ (fun j=>if j=i.toNat then s else bs j)⟩) (fun w S a r=>?_) (k _)
 obtain ⟨g0,e0⟩:=r.hp.same hs.perm
 rw [ho] at g0 e0
 obtain ⟨g1,g2⟩:=vg _ _ g0 (u (fun j=>if j=i.toNat then s else bs j)) (by rw [hb];exact Cg h hM rfl)
 exact ⟨_,S,rfl,r.heap (fun m hm=>⟨hm,rfl⟩) g1,e0.trans g2⟩
theorem aj.OH {n:Nat} {tm:List (Nat×AV)} {hp pj h0:Heap} {bZ:(Nat→Bk)→(Nat→Nat→Bk)→Heap} {T:St→Prop} {V:Type} {kb:Bk→(Nat→Bk)→V→List (Bk×PO)} {bo:Nat→Bk} {bs:Nat→Nat→Bk} {M:List V} {v:V} {b bp:Bk} {s:Nat→Bk} (hs:zu hp h0 pj) (ho:h0=FO (kb b s v)) (u:∀ uy tU,iw pj bp (.bS (fI kb bo bs M)) bp (.bS (fI kb uy tU (M++[v]))) (bZ uy tU))
 (k:∀ uy tU,(∀ j,j < M.length→uy j=bo j)→uy M.length=b→aj ⟨n,tm,bZ uy tU⟩ T):aj ⟨n,tm,hp⟩ T:=by
 have c1:∀ j,j < M.length→(fun j=>if j=M.length then b else bo j) j=bo j:=fun j hj=>if_neg (by omega)
 have c2:(fun j=>if j=M.length then b else bo j) M.length=b:=if_pos rfl
 refine aj.step (zr:=⟨n,tm,bZ (fun j=>if j=M.length then b else bo j) (fun j=>if j=M.length then s else bs j)⟩) (fun w S a r=>?_) (k _ _ c1 c2)
 obtain ⟨g0,e0⟩:=r.hp.same hs.perm
 rw [ho] at g0 e0
 obtain ⟨g1,g2⟩:=vg _ _ g0 (u (fun j=>if j=M.length then b else bo j) (fun j=>if j=M.length then s else bs j)) (JP c1 c2 (fun j hj=>if_neg (by omega)) (if_pos rfl))
 exact ⟨_,S,rfl,r.heap (fun m hm=>⟨hm,rfl⟩) g1,e0.trans g2⟩
theorem aj.OI {n:Nat} {tm:List (Nat×AV)} {hp bZ:Heap} {T:St→Prop} {b:Bk} {o o':Ob} (he:o=o') (u:iw hp b o b o' bZ) (k:aj ⟨n,tm,bZ⟩ T):aj ⟨n,tm,hp⟩ T:=by
 subst he
 rw [BY u] at k
 exact k
def NL (n:Nat) (l:List Int):Option Unit:=if ∀ x∈l,0≤x∧x < n then some () else none
theorem JQ {n:Nat} {l:List Int} {u:Unit} (h:NL n l=some u):∀ x∈l,0≤x∧x < n:=by
 unfold NL at h
 split at h
 ·assumption
 ·cases h
def pA (bo:Nat→Bk) (i:Int):AV:=.ptr (bo i.toNat) 0
theorem Ry {bo uy:Nat→Bk} {N:Nat} (h:∀ j,j < N→uy j=bo j) {i:Int} (hi:0≤i∧i < N):pA bo i=pA uy i:=by
 unfold pA;rw [h i.toNat (by omega)]
theorem OJ {K:Type} {gk:K→AV} {bo uy:Nat→Bk} {N:Nat} (h:∀ j,j < N→uy j=bo j) {M:List (K×Int)} {u:Unit} (hg:NL N (M.map Prod.snd)=some u):(M.map fun e=>(gk e.1,pA bo e.2))=M.map fun e=>(gk e.1,pA uy e.2):=
 List.map_congr_left fun e he=>by rw [Ry h (JQ hg e.2 (List.mem_map.2 ⟨e,he,rfl⟩))]
theorem OK {bo:Nat→Bk} {N:Nat} {b:Bk} (h:bo N=b) (o:Nat):AV.ptr (bo (N:Int).toNat) o=AV.ptr b o:=by
 rw [Int.toNat_natCast,h]
section rules
variable {P:Program} {all:Array Oper} {rest:List Oper} {n:Nat} {tm:List (Nat×AV)} {hp:Heap} {Q:St→Prop} {d:Nat} {ty:TypeId} {pos:String} {af:Array Edge}
theorem qN {K:Type} [DecidableEq K] {gk:K→AV} {gv:Int→AV} {M:List (K×Int)} {key:K} {t kt vt:TypeId} {i:TypeInfo} {x y:Operand} {b:Bk} [ay P t (.map kt vt)] [aP P vt i] [il P kt gk] (hx:bY tm x=some (.cd b)) (hy:bY tm y=some (gk key)) (f:lj hp b (.mp (M.map fun e=>(gk e.1,gv e.2)))) (hz:i.zero=some (.pointer none)) (h:bI M key=none):
 QV P ⟨some d,.lookup t x y false,ty,pos,af,none⟩ ⟨n,tm,hp⟩ (.raw (.pointer none)):=by
 intro w S a r
 have kx:=aN (σ:=⟨n,tm,hp⟩) r hx
 have ky:=aN (σ:=⟨n,tm,hp⟩) r hy
 obtain ⟨nb,hb,ex⟩:=kx.mT
 obtain ⟨L,c,M',Be,ee,p1,p2,p3,p4,p5,p6,p7,p8⟩:=tc (il.inj P kt) r.hp f
 obtain rfl:Be=nb:=by rw [p4] at hb;exact Option.some.inj hb
 rw [← qx p1 p8] at h
 have qL:=il.find (P:=P) (t:=kt) (g:=gk) ky ee.toList (M'.map Prod.fst) (by simpa using p6.symm) (fun j k' e h1 h2=>by
  rw [List.getElem?_map] at h1
  cases hm:M'[j]? with
  | none=>rw [hm] at h1;cases h1
  | some q=>rw [hm] at h1;rw [← Option.some.inj h1];exact (p7 j q e hm h2).1)
 rcases td (gv:=gv) (w:=w) (S:=S) (k:=key) M' ee.toList 0 p6.symm (fun j e m h1 h2=>(p7 j e m h1 h2).2) with ⟨q1,q2⟩ | ⟨v',j,val,q1,q2,q3,_⟩
 ·refine ⟨.pointer none,fun w1 e1=>?_,.raw _⟩
  simp [execOp,Instr.lookup,ex,run_underlying (ay.h (P:=P) (t:=t)),fl (e1.heap p5),il.check (P:=P) (t:=kt) ky,qL,q2,zeroValue,typeInfo,aP.h (P:=P) (t:=vt),hz]
 ·rw [q1] at h;cases h
theorem qO {K:Type} [DecidableEq K] {gk:K→AV} {gv:Int→AV} {M:List (K×Int)} {key:K} {v:Int} {t kt vt:TypeId} {i:TypeInfo} {x y:Operand} {b:Bk} [ay P t (.map kt vt)] [aP P vt i] [il P kt gk] (hx:bY tm x=some (.cd b)) (hy:bY tm y=some (gk key)) (f:lj hp b (.mp (M.map fun e=>(gk e.1,gv e.2)))) (h:bI M key=some v):
 QV P ⟨some d,.lookup t x y false,ty,pos,af,none⟩ ⟨n,tm,hp⟩ (gv v):=by
 intro w S a r
 have kx:=aN (σ:=⟨n,tm,hp⟩) r hx
 have ky:=aN (σ:=⟨n,tm,hp⟩) r hy
 obtain ⟨nb,hb,ex⟩:=kx.mT
 obtain ⟨L,c,M',Be,ee,p1,p2,p3,p4,p5,p6,p7,p8⟩:=tc (il.inj P kt) r.hp f
 obtain rfl:Be=nb:=by rw [p4] at hb;exact Option.some.inj hb
 rw [← qx p1 p8] at h
 have qL:=il.find (P:=P) (t:=kt) (g:=gk) ky ee.toList (M'.map Prod.fst) (by simpa using p6.symm) (fun j k' e h1 h2=>by
  rw [List.getElem?_map] at h1
  cases hm:M'[j]? with
  | none=>rw [hm] at h1;cases h1
  | some q=>rw [hm] at h1;rw [← Option.some.inj h1];exact (p7 j q e hm h2).1)
 rcases td (gv:=gv) (w:=w) (S:=S) (k:=key) M' ee.toList 0 p6.symm (fun j e m h1 h2=>(p7 j e m h1 h2).2) with ⟨q1,q2⟩ | ⟨v',j,val,q1,q2,q3,_⟩
 ·rw [q1] at h;cases h
 ·rw [q1] at h
  obtain rfl:=Option.some.inj h
  refine ⟨val,fun w1 e1=>?_,q3⟩
  simp [execOp,Instr.lookup,ex,run_underlying (ay.h (P:=P) (t:=t)),fl (e1.heap p5),il.check (P:=P) (t:=kt) ky,qL,q2]
end rules
section todo
variable {P:Program} {R:St→Prop} {k:List It} {σ:St}
theorem cD {α:Type} {c:Operand} {x y:Code} {p:Prop} [Decidable p] {a b z:α} (h:(if p then a else b)=z) (hc:bY σ.tm c=some (.bool (decide p))) (h1:a=z→aa P R (.code x :: k) σ) (h2:b=z→aa P R (.code y :: k) σ):aa P R (.code (.cond c x y) :: k) σ:=
 aa.zR hc (fun hp=>h1 (kM hp h)) (fun hp=>h2 (uj hp h))
theorem cB {α:Type} {c:Operand} {x y:Code} {p:Bool} {a b z:α} (h:(if p=true then a else b)=z) (hc:bY σ.tm c=some (.bool p)) (h1:a=z→aa P R (.code x :: k) σ) (h2:b=z→aa P R (.code y :: k) σ):aa P R (.code (.cond c x y) :: k) σ:=
 aa.cond hc (fun hp=>h1 (kM hp h)) (fun hp=>h2 (mR hp h))
end todo
section rules
variable {P:Program} {all:Array Oper} {rest:List Oper} {n:Nat} {tm:List (Nat×AV)} {hp:Heap} {Q:St→Prop} {d:Nat} {ty:TypeId} {pos:String} {af:Array Edge} {op:Op} {s:Nat} {j:Nat}
theorem gT {α:Type} {p:Prop} [Decidable p] {a b z:α} (h:(if p then a else b)=z) (hj:(all[j]?).bind (·.dst)=some s) (hs:lk tm s=some (.bool (decide p))) (hn:Nat.blt d n=true) (h1:a=z→ae P all (⟨some d,op,ty,pos,af,none⟩ :: rest) ⟨n,(s,.bool true) :: tm,hp⟩ Q)
 (h2:b=z→ae P all rest ⟨n,(d,.raw undef) :: (s,.bool false) :: tm,hp⟩ Q):ae P all (⟨some d,op,ty,pos,af,some (j,true)⟩ :: rest) ⟨n,tm,hp⟩ Q:=
 ae.bV hj hs hn (fun hp=>h1 (kM hp h)) (fun hp=>h2 (uj hp h))
theorem gF {α:Type} {p:Prop} [Decidable p] {a b z:α} (h:(if p then a else b)=z) (hj:(all[j]?).bind (·.dst)=some s) (hs:lk tm s=some (.bool (decide p))) (hn:Nat.blt d n=true) (h1:b=z→ae P all (⟨some d,op,ty,pos,af,none⟩ :: rest) ⟨n,(s,.bool false) :: tm,hp⟩ Q)
 (h2:a=z→ae P all rest ⟨n,(d,.raw undef) :: (s,.bool true) :: tm,hp⟩ Q):ae P all (⟨some d,op,ty,pos,af,some (j,false)⟩ :: rest) ⟨n,tm,hp⟩ Q:=
 ae.iK hj hs hn (fun hp=>h1 (uj hp h)) (fun hp=>h2 (kM hp h))
end rules
theorem hP {P:Program} {σ:St} {s:Nat} {av:AV} {Q:List AV→St→Prop} (h1:lk σ.tm s=some av) (h2:Q [av] σ):aj σ (fun aK=>∃ rs,Rs P aK [.tmp s] rs∧Q rs aK):=aj.here ⟨[av],.cons (.tmp _ _ h1) .nil,h2⟩
theorem cR {hp:Heap} {l:List AV}:wb hp l l:=wb.refl _
theorem hH {P:Program} {σ:St} {s:Nat} {av:AV} {Q:List AV→Heap→Prop} {bZ:Heap} (h1:lk σ.tm s=some av) (is:List Nat) (hs:Ai σ.hp is=some bZ) (h2:Q [av] bZ):aj σ (fun aK=>∃ rs,Rs P aK [.tmp s] rs∧(∃ h',HS aK.hp h'∧Q rs h')):=aj.here ⟨[av],.cons (.tmp _ _ h1) .nil,bZ,xb hs,h2⟩
theorem hQ {P:Program} {σ:St} {s t:Nat} {av aw:AV} {Q:List AV→St→Prop} (h1:lk σ.tm s=some av) (Dy:lk σ.tm t=some aw) (h2:Q [av,aw] σ):aj σ (fun aK=>∃ rs,Rs P aK [.tmp s,.tmp t] rs∧Q rs aK):=aj.here ⟨[av,aw],.cons (.tmp _ _ h1) (.cons (.tmp _ _ Dy) .nil),h2⟩
theorem hI {P:Program} {σ:St} {s t:Nat} {av aw:AV} {Q:List AV→Heap→Prop} {bZ:Heap} (h1:lk σ.tm s=some av) (Dy:lk σ.tm t=some aw) (is:List Nat) (hs:Ai σ.hp is=some bZ) (h2:Q [av,aw] bZ):aj σ (fun aK=>∃ rs,Rs P aK [.tmp s,.tmp t] rs∧(∃ h',HS aK.hp h'∧Q rs h')):=aj.here ⟨[av,aw],.cons (.tmp _ _ h1) (.cons (.tmp _ _ Dy) .nil),bZ,xb hs,h2⟩
end Go.Eng
namespace Go.Eng
open Go
section
variable {K V:Type} [DecidableEq K] [yK K]
end
end Go.Eng
namespace Go.Eng
open Go
variable [bt]
def pN:Nat→Nat→Nat
 | 0,b=>2 * b+1
 | a+1,b=>2 * pN a b
theorem CX:∀ (a b a' b':Nat),pN a b=pN a' b'→a=a'∧b=b'
 | 0,b,0,b',h=>by unfold pN at h;exact ⟨rfl,by omega⟩
 | 0,b,a'+1,b',h=>by unfold pN at h;omega
 | a+1,b,0,b',h=>by unfold pN at h;omega
 | a+1,b,a'+1,b',h=>by
   unfold pN at h
   obtain ⟨h1,h2⟩:=CX a b a' b' (by omega)
   exact ⟨by rw [h1],h2⟩
def pO:Option Nat→Nat
 | none=>0
 | some n=>n+1
theorem UA:pO none=0:=rfl
theorem UB (n:Nat):pO (some n)=n+1:=rfl
theorem JR {a b:Option Nat} (h:pO a=pO b):a=b:=by
 cases a<;>cases b<;>simp only [UA,UB] at h
 ·rfl
 ·omega
 ·omega
 ·rename_i n m
  rw [show n=m by omega]
def JS (a b:Bk):Bk:=⟨some (pN (pN (pO a.cy) a.cap) (pN (pO b.cy) b.cap)),0⟩
theorem G0 {a b a' b':Bk} (h:JS a b=JS a' b'):a=a'∧b=b':=by
 have h1:=Option.some.inj (Bk.mk.inj h).1
 obtain ⟨h2,h3⟩:=CX _ _ _ _ h1
 obtain ⟨h4,h5⟩:=CX _ _ _ _ h2
 obtain ⟨h6,h7⟩:=CX _ _ _ _ h3
 cases a;cases b;cases a';cases b'
 simp only at h4 h5 h6 h7
 rw [JR h4,h5,JR h6,h7]
 exact ⟨rfl,rfl⟩
open Classical in
noncomputable def Ld (x:Bk):Bk:=if h:∃ a b,JS a b=x then h.choose else x
open Classical in
noncomputable def IQ (x:Bk):Bk:=if h:∃ a b,JS a b=x then h.choose_spec.choose else x
theorem JT (a b:Bk):Ld (JS a b)=a:=by
 have h:∃ a' b',JS a' b'=JS a b:=⟨a,b,rfl⟩
 unfold Ld
 rw [dif_pos h]
 exact (G0 h.choose_spec.choose_spec).1
theorem JU (a b:Bk):IQ (JS a b)=b:=by
 have h:∃ a' b',JS a' b'=JS a b:=⟨a,b,rfl⟩
 unfold IQ
 rw [dif_pos h]
 exact (G0 h.choose_spec.choose_spec).2
section rules
variable {P:Program} {all:Array Oper} {n:Nat} {B:Heap} {tk:List Tok} {dy:List Nat} {i:Nat} {rest:List Oper} {tm ln:List (Nat×AV)} {acc:(Nat→Bk)→List (Nat×AV)} {Q:(Nat→Bk)→List (Nat×AV)→Prop} {d:Nat} {ty:TypeId} {pos:String} {af:Array Edge} {op:Op}
theorem AT.Rz {V:Bk→Bk→AV} {Ti H1:(Nat→Bk)→Heap} {Pi H2:Bk→Bk→Heap} (Fz:∀ β,sW tk i β=[[]]) (Js:∀ β,r7 tk i β=Ti β) (Jt:∀ β b,jk tk i (nx β i b)=Pi (Ld b) (IQ b)) (h1:∀ β,ou (Ti β) B=some (H1 β)) (h2:∀ x y,ou (Pi x y) B=some (H2 x y)) (hn:Nat.blt d n=true) (hr:OB d tm=ln) (LQ:dy.contains i=true)
 (qG:∀ β,ae P all [⟨some d,op,ty,pos,af,none⟩] ⟨n,zt (looks all ⟨some d,op,ty,pos,af,none⟩) (tm++acc β),H1 β⟩ (fun aK=>∃ x y wk,aK=⟨n,wk,H2 x y⟩∧lk wk d=some (V x y)))
 (k:AT P all n B tk dy (i+1) rest ln (fun β=>(d,V (Ld (β i)) (IQ (β i))) :: acc β) Q):AT P all n B tk dy i (⟨some d,op,ty,pos,af,none⟩ :: rest) tm acc Q:=by
 refine AT.Rq (V:=fun b=>V (Ld b) (IQ b)) (Pi:=fun b=>Pi (Ld b) (IQ b)) (H2:=fun b=>H2 (Ld b) (IQ b)) Fz Js Jt h1 (fun b=>h2 _ _) hn hr LQ (fun β=>?_) k
 refine fun w S a r=>fF ?_ _ _ _ (qG β w S a r)
 rintro e a' w' ⟨he,aK,S',⟨x,y,wk,q1,q2⟩,hh⟩
 exact ⟨he,aK,S',⟨JS x y,wk,by rw [JT,JU];exact q1,by rw [JT,JU];exact q2⟩,hh⟩
end rules
section
variable {P:Program} {R:St→Prop} {k:List It} {σ:St}
end
inductive CD:Type 1 where
 | v (a:AV)
 | l {α:Type} (sz:Nat) (g:α→AV) (xs:List α)
def JV (s:Nat→Bk):Nat→List CD→List AV
 | _,[]=>[]
 | k,.v a :: r=>a :: JV s k r
 | k,.l sz _ xs :: r=>.sl sz (s k) 0 xs.length :: JV s (k+1) r
def OL (s:Nat→Bk):Nat→List CD→List (Bk×PO)
 | _,[]=>[]
 | k,.v _ :: r=>OL s k r
 | k,.l sz g xs :: r=>(s k,.arr sz (xs.map g)) :: OL s (k+1) r
def Mi:List CD→List AV
 | []=>[]
 | .v a :: r=>a :: Mi r
 | .l sz g xs :: r=>.list sz (xs.map g) :: Mi r
theorem FP (s:Nat→Bk):∀ (k:Nat) (D:List CD),(JV s k D).length=(Mi D).length
 | _,[]=>rfl
 | k,.v a :: r=>congrArg (· +1) (FP s k r)
 | k,.l sz g xs :: r=>congrArg (· +1) (FP s (k+1) r)
structure KB {V:Type} (kb:Bk→(Nat→Bk)→V→List (Bk×PO)) (fs:V→List AV):Prop where
 ok:∃ D:V→List CD,(∀ b s v,kb b s v=(b,.cells (JV s 0 (D v))) :: OL s 0 (D v))∧∀ v,fs v=Mi (D v)
theorem wu {b:Bk} {o:Ob}:∀ {h:Heap},(b,o)∈h→lj h b o
 | [],h=>by simp at h
 | e :: r,h=>by
   rcases List.mem_cons.1 h with rfl | h
   ·exact .here
   ·exact .next (wu h)
theorem FQ {s:Nat→Bk} {hp:Heap}:∀ (D:List CD) (k:Nat),(∀ e∈OL s k D,lj hp e.1 e.2.ob)→∀ (i:Nat) c c',(JV s k D)[i]? =some c→(Mi D)[i]? =some c'→qd hp c c'
 | [],_,_,i,c,c',h,_=>by simp [JV] at h
 | .v a :: r,k,hf,i,c,c',h,h'=>by
   match i with
   | 0=>
     simp only [JV,Mi,List.getElem?_cons_zero,Option.some.injEq] at h h'
     subst h;subst h';exact .co (.refl _)
   | i+1=>exact FQ r k (fun e he=>hf e (by simpa [OL] using he)) i c c' (by simpa [JV] using h) (by simpa [Mi] using h')
 | .l sz g xs :: r,k,hf,i,c,c',h,h'=>by
   match i with
   | 0=>
     simp only [JV,Mi,List.getElem?_cons_zero,Option.some.injEq] at h h'
     subst h;subst h'
     exact .arr sz (s k) _ _ (hf (s k,.arr sz (xs.map g)) (by simp [OL])) (by simp)
   | i+1=>exact FQ r (k+1) (fun e he=>hf e (by simp only [OL,List.mem_cons];exact .inr he)) i c c' (by simpa [JV] using h) (by simpa [Mi] using h')
theorem Mj {e:Bk×PO} {l:List (Bk×PO)} (h:e∈l):(e.1,e.2.ob)∈FO l:=List.mem_map.2 ⟨e,h,rfl⟩
theorem KB.cob {V:Type} {kb:Bk→(Nat→Bk)→V→List (Bk×PO)} {fs:V→List AV} (K:KB kb fs) (b:Bk) (s:Nat→Bk) (v:V) (bZ:Heap):qd (FO (kb b s v)++bZ) (.ptr b 0) (.ji (fs v)):=by
 obtain ⟨D,h1,h2⟩:=K.ok
 rw [h2]
 refine .box b (JV s 0 (D v)) _ (wu (List.mem_append_left _ ?_)) (FP s 0 (D v)).symm (FQ (D v) 0 fun e he=>wu (List.mem_append_left _ (Mj ?_)))
 ·rw [h1];exact List.mem_cons_self ..
 ·rw [h1];exact List.mem_cons_of_mem _ he
def Ap:List (Bk×PO)→Heap→Option Heap
 | [],r=>some r
 | (b,.cells cs) :: l,r=>match Ap l r with
   | some m=>some ((b,.cells cs) :: m)
   | none=>none
 | (b,.arr sz xs) :: l,r=>match Ap l r with
   | some m=>some ((b,.arr sz xs) :: m)
   | none=>none
theorem xf:∀ {l:List (Bk×PO)} {r m:Heap},Ap l r=some m→FO l++r=m
 | [],r,m,h=>Option.some.inj h
 | (b,.cells cs) :: l,r,m,h=>by
   unfold Ap at h
   split at h
   ·rename_i m' hm
    obtain rfl:=Option.some.inj h
    rw [← xf hm];rfl
   ·cases h
 | (b,.arr sz xs) :: l,r,m,h=>by
   unfold Ap at h
   split at h
   ·rename_i m' hm
    obtain rfl:=Option.some.inj h
    rw [← xf hm];rfl
   ·cases h
theorem Aq {l:List (Bk×PO)} {m:Heap} (h:Ap l []=some m):m=FO l:=by rw [← xf h,List.append_nil]
section view
variable {V:Type} {kb:Bk→(Nat→Bk)→V→List (Bk×PO)} {fs:V→List AV} {bo:Nat→Bk} {bs:Nat→Nat→Bk} {M:List V} {i:Int} {v:V} {hp bZ II:Heap} {b bp:Bk}
theorem Eo {w:World} {S:Nat→Prop} (r:ck w S hp) (h:idx M i=some v) (u:iw hp bp (.bS (fI kb bo bs M)) bp (.bS (ya kb bo bs M i)) bZ):ck w S (FO (kb (bo i.toNat) (bs i.toNat) v)++bZ)∧∀ n,Has (FO (kb (bo i.toNat) (bs i.toNat) v)++bZ) n→Has hp n:=by
 obtain ⟨r1,e1⟩:=wq _ _ r u (yb h)
 refine ⟨r1,fun n hn=>?_⟩
 rcases e1.new n hn with h | h
 ·exact h
 ·have:=r1.lt hn;omega
theorem QV.ara {P:Program} {o:Oper} {n:Nat} {tm:List (Nat×AV)} {av:AV} (h:idx M i=some v) (u:iw hp bp (.bS (fI kb bo bs M)) bp (.bS (ya kb bo bs M i)) bZ) (e:Ap (kb (bo i.toNat) (bs i.toNat) v) bZ=some II) (q:QV P o ⟨n,tm,II⟩ av):QV P o ⟨n,tm,hp⟩ av:=by
 intro w S a r
 have:=xf e
 subst this
 exact q w S a ⟨r.size,r.defers,r.tm,(Eo r.hp h u).1⟩
theorem Mk {o:Ob} {hp:Heap} (f:lj hp b o) (o':Ob):∃ bZ,iw hp b o b o' bZ:=by
 induction f with
 | here=>exact ⟨_,.here⟩
 | next _ ih=>obtain ⟨h,u⟩:=ih;exact ⟨_,.next u⟩
 | skip _ ih=>obtain ⟨h,u⟩:=ih;exact ⟨_,.skip u⟩
theorem qd.UC (K:KB kb fs) (h:idx M i=some v) (f:lj hp bp (.bS (fI kb bo bs M))):qd hp (pA bo i) (.ji (fs v)):=by
 obtain ⟨bZ,u⟩:=Mk f (.bS (ya kb bo bs M i))
 refine .Ll fun w S x r at_=>?_
 obtain ⟨r1,r2⟩:=Eo r h u
 exact ((K.cob (bo i.toNat) (bs i.toNat) v bZ).at r1 at_).mono fun m hm=>⟨hm.imp id (r2 m),rfl⟩
def idxs (M:List V):List Int→Option (List V)
 | []=>some []
 | i :: r=>(idx M i).bind fun v=>(idxs M r).bind fun l=>some (v :: l)
theorem Ch {M:List V} {i:Int} {r:List Int} {vs:List V} (h:idxs M (i :: r)=some vs):∃ v l,idx M i=some v∧idxs M r=some l∧vs=v :: l:=by
 unfold idxs at h
 cases h1:idx M i with
 | none=>rw [h1] at h;cases h
 | some v=>
   rw [h1] at h
   cases h2:idxs M r with
   | none=>rw [h2] at h;cases h
   | some l=>rw [h2] at h;exact ⟨v,l,rfl,rfl,(Option.some.inj h).symm⟩
theorem Ep {M:List V}:∀ {l:List Int} {vs:List V},idxs M l=some vs→vs.length=l.length
 | [],vs,h=>by obtain rfl:=Option.some.inj h;rfl
 | i :: r,vs,h=>by obtain ⟨v,l,_,h2,rfl⟩:=Ch h;simp [Ep h2]
theorem Er {M:List V}:∀ {l:List Int} {vs:List V},idxs M l=some vs→∀ (j:Nat) i,l[j]? =some i→∃ v,vs[j]? =some v∧idx M i=some v
 | [],vs,_,j,i,h=>by simp at h
 | i0 :: r,vs,h,j,i,hj=>by
   obtain ⟨v,l,h1,h2,rfl⟩:=Ch h
   match j with
   | 0=>simp at hj;subst hj;exact ⟨v,rfl,h1⟩
   | j+1=>exact Er h2 j i (by simpa using hj)
end view
theorem aj.lG {n:Nat} {tm:List (Nat×AV)} {hp pj h0 bZ:Heap} {T:St→Prop} {V:Type} {kb:Bk→(Nat→Bk)→V→List (Bk×PO)} {bo:Nat→Bk} {bs:Nat→Nat→Bk} {M:List V} {i:Int} {v:V} {bp:Bk} (h:idx M i=some v) (hs:zu hp h0 pj) (ho:Ap (kb (bo i.toNat) (bs i.toNat) v) []=some h0) (u:iw pj bp (.bS (ya kb bo bs M i)) bp (.bS (fI kb bo bs M)) bZ)
 (k:aj ⟨n,tm,bZ⟩ T):aj ⟨n,tm,hp⟩ T:=by
 refine aj.step (zr:=⟨n,tm,bZ⟩) (fun w S a r=>?_) k
 obtain ⟨g0,e0⟩:=r.hp.same hs.perm
 rw [Aq ho] at g0 e0
 obtain ⟨g1,g2⟩:=vg _ _ g0 u (yb h)
 exact ⟨_,S,rfl,r.heap (fun m hm=>⟨hm,rfl⟩) g1,e0.trans g2⟩
theorem aj.du {n:Nat} {tm:List (Nat×AV)} {hp bZ II:Heap} {T:St→Prop} {V:Type} {kb:Bk→(Nat→Bk)→V→List (Bk×PO)} {bo:Nat→Bk} {bs:Nat→Nat→Bk} {M:List V} {i:Int} {v:V} {bp:Bk} (h:idx M i=some v) (u:iw hp bp (.bS (fI kb bo bs M)) bp (.bS (ya kb bo bs M i)) bZ) (e:Ap (kb (bo i.toNat) (bs i.toNat) v) bZ=some II)
 (k:aj ⟨n,tm,II⟩ T):aj ⟨n,tm,hp⟩ T:=aj.Mh h u (by rw [xf e];exact k)
theorem aj.kA {n:Nat} {tm:List (Nat×AV)} {hp pj h0:Heap} {bZ:(Nat→Nat→Bk)→Heap} {T:St→Prop} {V:Type} {kb:Bk→(Nat→Bk)→V→List (Bk×PO)} {bo:Nat→Bk} {bs:Nat→Nat→Bk} {M:List V} {i:Int} {v v':V} {bp:Bk} {s:Nat→Bk} (h:idx M i=some v) (hs:zu hp h0 pj) (ho:Ap (kb (bo i.toNat) s v') []=some h0) (u:∀ tU,iw pj bp (.bS (ya kb bo bs M i)) bp (.bS (fI kb bo tU (M.set i.toNat v'))) (bZ tU))
 (k:∀ tU,aj ⟨n,tm,bZ tU⟩ T):aj ⟨n,tm,hp⟩ T:=aj.OG h rfl rfl hs (Aq ho) u k
theorem aj.G1 {n:Nat} {tm:List (Nat×AV)} {hp pj h0:Heap} {bZ:(Nat→Bk)→(Nat→Nat→Bk)→Heap} {T:St→Prop} {V:Type} {kb:Bk→(Nat→Bk)→V→List (Bk×PO)} {bo:Nat→Bk} {bs:Nat→Nat→Bk} {M:List V} {v:V} {b bp:Bk} {s:Nat→Bk} (hs:zu hp h0 pj) (ho:Ap (kb b s v) []=some h0) (u:∀ uy tU,iw pj bp (.bS (fI kb bo bs M)) bp (.bS (fI kb uy tU (M++[v]))) (bZ uy tU))
 (k:∀ uy tU,(∀ j,j < M.length→uy j=bo j)→uy M.length=b→aj ⟨n,tm,bZ uy tU⟩ T):aj ⟨n,tm,hp⟩ T:=aj.OH hs (Aq ho) u k
theorem Ml {α:Type} (M:List α) (v:α):idx (M++[v]) (M.length:Int)=some v:=by
 unfold idx
 rw [if_pos (Int.natCast_nonneg _),Int.toNat_natCast,List.getElem?_append_right (Nat.le_refl _),Nat.sub_self];rfl
theorem Mm {α:Type} {M:List α} {i:Int} {x:α} (h:idx M i=some x) (v:α):idx (M++[v]) i=some x:=by
 obtain ⟨h0,h1,h2⟩:=ep h
 unfold idx
 rw [if_pos h0,List.getElem?_append_left (by omega),h2]
theorem JW {bo:Nat→Bk} {N:Nat} {b:Bk} (h:bo N=b) (o:Nat):AV.ptr (bo ((N:Nat):Int).toNat) o=AV.ptr b o:=OK h o
theorem NM {K:Type} {gk:K→AV} {bo uy:Nat→Bk} {N:Nat} (h:∀ j,j < N→uy j=bo j) {M:List (K×Int)} {u:Unit} (hg:NL N (M.map Prod.snd)=some u):Ob.mp (M.map fun e=>(gk e.1,pA bo e.2))=Ob.mp (M.map fun e=>(gk e.1,pA uy e.2)):=congrArg Ob.mp (OJ h hg)
def Es (l:List Bk) (k:Nat):Bk:=l.getD k ⟨none,0⟩
end Go.Eng
namespace Go.Eng
open Go Go.Sort Go.Proofs
variable [bt]
end Go.Eng
namespace Go.Eng
open Go
variable [bt]
section rules
variable {P:Program} {all:Array Oper} {rest:List Oper} {n:Nat} {tm:List (Nat×AV)} {hp:Heap} {Q:St→Prop} {d:Nat} {ty:TypeId} {pos:String} {af:Array Edge}
theorem Bv {t e:TypeId} {i:TypeInfo} {z:Value} {len sz:Nat} {parts:List (Nat×Operand)} {xs:List AV} [ay P t (.slice e)] [aP P e i] [j7 P e sz] (hz:i.zero=some z) (hl:Hw tm parts 0=some xs) (hlen:Nat.beq parts.length len=true) (tF:ub sz xs=true)
 (Gv:Nat.ble (len * i.size) 16777216=true) (hn:Nat.blt d n=true) (kk:∀ m:Nat,ae P all rest ⟨n,(d,.sl sz ⟨some m,len⟩ 0 len) :: tm,(⟨some m,len⟩,.arr sz xs) :: hp⟩ Q):ae P all (⟨some d,.buildSlice t len parts.toArray,ty,pos,af,none⟩ :: rest) ⟨n,tm,hp⟩ Q:=by
 obtain ⟨i',CL,DU⟩:=j7.h (P:=P) (t:=e)
 obtain rfl:i'=i:=by rw [aP.h (P:=P) (t:=e)] at CL;exact (Option.some.inj CL).symm
 subst DU
 refine ae.Dz rfl fun w S a r=>?_
 obtain rfl:parts.length=len:=Nat.eq_of_beq_eq_true hlen
 have Gv:=Nat.le_of_ble_eq_true Gv
 obtain ⟨zz,DA⟩:∃ zz:Array Value,zz=if parts.length * i'.size=0 then #[] else z.cells:=⟨_,rfl⟩
 obtain ⟨vs,g1,g2,g3,g4⟩:=wP (σ:=⟨n,tm,hp⟩) r i'.size parts 0 xs ((Array.range (parts.length * i'.size)).map (zz[· % zz.size]!)) hl (jy tF) (by simp)
 simp only [Nat.zero_mul,List.take_zero,List.nil_append] at g1
 have e0:=Ext.alloc w (.cells vs.toArray e)
 have hh:Holds (w.alloc (.cells vs.toArray e)) S ⟨some w.heap.size,parts.length⟩ (.arr i'.size xs):=by
  refine ⟨jy tF,by simp [g3],.inr ⟨w.heap.size,vs.toArray,e,rfl,?_,by simp [g2,g3],g4.mono fun m hm=>⟨hm,e0.same m (r.hp.slt m hm)⟩⟩⟩
  show (w.heap.push _)[w.heap.size]? =_
  simp
 obtain ⟨k1,k2,k3⟩:=o4 r.hp e0 id hh (.inr ⟨_,rfl,Nat.le_refl _⟩)
 refine ⟨.slice (some ⟨w.heap.size,0,none⟩) parts.length parts.length,w.alloc (.cells vs.toArray e),S,_,?_,(r.heap k3 k1).put hn ?_,k2,kk w.heap.size⟩
 ·have hm:((parts.toArray.map fun p=>(p.1,a.eval p.2))).toList=parts.map fun p=>(p.1,a.eval p.2):=by simp
  simp only [execOp,Instr.buildSlice,Sem.run_bind,run_underlying (ay.h (P:=P) (t:=t)),Result.andThen_ok,sizeOf,typeInfo,run_program,aP.h (P:=P) (t:=e),Sem.run_pure]
  rw [if_neg (by omega)]
  by_cases h0:parts.length * i'.size=0
  ·rw [if_pos h0] at DA ⊢
   subst DA
   simp only [Sem.run_bind,Result.andThen_ok,Sem.run_pure,hm,g1,oN]
  ·rw [if_neg h0] at DA ⊢
   subst DA
   simp only [Sem.run_bind,Result.andThen_ok,Sem.run_pure,zeroValue,typeInfo,run_program,aP.h (P:=P) (t:=e),hz,hm,g1,oN]
 ·have:=At.sl (w:=w.alloc (.cells vs.toArray e)) (S:=S) i'.size ⟨some w.heap.size,parts.length⟩ 0 parts.length w.heap.size parts.length rfl (Nat.le_refl _) (by simp)
  simpa using this
theorem yM {t e:TypeId} {i:TypeInfo} {x y:Operand} {k:IntKind} {j:Int} {q o sz len:Nat} {b:Bk} [ay P t (.slice e)] [aP P e i] (hx:bY tm x=some (.sl sz b 0 len)) (eN:Nat.beq i.size sz=true) (hy:bY tm y=some (.int k j))
 (hj:j=(q:Int)) (hq:Nat.blt q len=true) (ho:Nat.beq (q * sz) o=true):QV P ⟨some d,.indexAddr t x y,ty,pos,af,none⟩ ⟨n,tm,hp⟩ (.ptr b o):=
 (fun w S a r=>by
  obtain rfl:i.size=sz:=Nat.eq_of_beq_eq_true eN
  have hq:q < len:=by
   have:=Nat.le_of_ble_eq_true (show Nat.ble (q+1) len=true from hq);omega
  have ho:=Nat.eq_of_beq_eq_true ho
  obtain ⟨oa,cap,e1,e2⟩:=(aN (σ:=⟨n,tm,hp⟩) r hx).nv
  rcases e2 with ⟨_,_,hl,_⟩ | ⟨m,hb,rfl,h1,h2⟩ | ⟨m,ad,hb,_,hl,_⟩
  ·omega
  ·refine ⟨.pointer (some ⟨m,o,none⟩),fun w1 _=>?_,.ptr _ _ m hb⟩
   have:=ua (P:=P) (ay.h (P:=P) (t:=t)) (aP.h (P:=P) (t:=e)) ⟨m,0 * i.size,none⟩ len cap k j (by omega) (by omega) w1
   have hjq:j.toNat=q:=by omega
   rw [jw,← Nat.add_mul,hjq,Nat.zero_add,ho] at this
   simp only [Nat.zero_mul] at this
   simp [execOp,e1,(aN (σ:=⟨n,tm,hp⟩) r hy).ca,this]
  ·omega)
end rules
theorem aj.JX {n m k sz:Nat} {tm:List (Nat×AV)} {hp bZ:Heap} {T:St→Prop} {xs cs:List AV} (u:iw hp ⟨some m,k⟩ (.arr sz xs) ⟨some m,k⟩ (.cells cs) bZ) (hk:Nat.beq xs.length k=true) (hc:flat xs=cs) (kk:aj ⟨n,tm,bZ⟩ T):aj ⟨n,tm,hp⟩ T:=fun w S a r=>by
 obtain ⟨h1,h2,h3⟩:=r.hp.holds _ u.lN.mem
 have hk:=Nat.eq_of_beq_eq_true hk
 subst hc
 have hlen:∀ xs:List AV,(∀ x∈xs,El sz x)→(flat xs).length=xs.length * sz:=by
  intro xs
  induction xs with
  | nil=>intro _;simp [flat]
  | cons x r ih=>
    intro h
    have:=ih fun y hy=>h y (List.mem_cons_of_mem _ hy)
    have hx:=(h x (List.mem_cons_self ..)).1
    show (x.cells++flat r).length=_
    rw [List.length_append,this,hx,List.length_cons,Nat.add_mul,Nat.one_mul,Nat.add_comm]
 have hH:Holds w S ⟨some m,k⟩ (.cells (flat xs)):=by
  refine ⟨fun c hc=>?_,?_⟩
  ·obtain ⟨x,hx,QK⟩:=List.mem_flatMap.1 hc
   exact (h1 x hx).2 c QK
  ·rcases h3 with ⟨hb,_⟩ | ⟨n',vs,E,g1,g2,g3,g4⟩
   ·cases hb
   ·exact ⟨n',vs,E,g1,g2,by rw [g3,hlen xs h1,hk],g4⟩
 obtain ⟨r1,e1,_⟩:=kj r.hp u (ve w (some m)) id id hH (.inl rfl)
 obtain ⟨aK,S',t1,t2,t3⟩:=kk w S a (r.heap (fun m hm=>⟨hm,rfl⟩) r1)
 exact ⟨aK,S',t1,t2,e1.trans t3⟩
theorem aj.lO {n m k sz:Nat} {tm:List (Nat×AV)} {hp bZ:Heap} {T:St→Prop} {b:Bk} {xs cs:List AV} (hb:(⟨some m,k⟩:Bk)=b) (u:iw hp b (.cells cs) b (.arr sz xs) bZ) (hk:Nat.beq xs.length k=true) (hc:flat xs=cs) (tF:ub sz xs=true) (kk:aj ⟨n,tm,bZ⟩ T):aj ⟨n,tm,hp⟩ T:=fun w S a r=>by
 obtain ⟨h1,n',vs,E,g1,g2,g3,g4⟩:=r.hp.holds _ u.lN.mem
 have hk:=Nat.eq_of_beq_eq_true hk
 have tF:=jy tF
 subst hc
 subst hb
 have hlen:∀ xs:List AV,(∀ x∈xs,El sz x)→(flat xs).length=xs.length * sz:=by
  intro xs
  induction xs with
  | nil=>intro _;simp [flat]
  | cons x r ih=>
    intro h
    have:=ih fun y hy=>h y (List.mem_cons_of_mem _ hy)
    have hx:=(h x (List.mem_cons_self ..)).1
    show (x.cells++flat r).length=_
    rw [List.length_append,this,hx,List.length_cons,Nat.add_mul,Nat.one_mul,Nat.add_comm]
 have hH:Holds w S ⟨some m,k⟩ (.arr sz xs):=⟨tF,by show xs.length≤k;omega,.inr ⟨n',vs,E,g1,g2,by rw [g3,hlen xs tF,hk],g4⟩⟩
 obtain ⟨r1,e1,_⟩:=kj r.hp u (ve w (some m)) id id hH (.inl rfl)
 obtain ⟨aK,S',t1,t2,t3⟩:=kk w S a (r.heap (fun m hm=>⟨hm,rfl⟩) r1)
 exact ⟨aK,S',t1,t2,e1.trans t3⟩
def xg (s:List UInt8):Option (List UInt8):=if s.length≤140737488355328∧s.all (fun b=>decide (b.toNat < 128))=true then some (Lib.toUpperA s) else none
section rules
variable {P:Program} {all:Array Oper} {rest:List Oper} {n:Nat} {tm:List (Nat×AV)} {hp:Heap} {Q:St→Prop} {d:Nat} {ty:TypeId} {pos:String} {af:Array Edge}
end rules
section rules
variable {P:Program} {all:Array Oper} {rest:List Oper} {n:Nat} {tm:List (Nat×AV)} {hp:Heap} {Q:St→Prop} {d:Nat} {ty:TypeId} {pos:String} {af:Array Edge}
end rules
end Go.Eng
namespace Go.Eng
open Go Go.Proofs
variable [bt]
section rules
variable {P:Program} {all:Array Oper} {rest:List Oper} {n:Nat} {tm:List (Nat×AV)} {hp:Heap} {Q:St→Prop} {d:Nat} {ty:TypeId} {pos:String} {af:Array Edge}
end rules
end Go.Eng
namespace Go.Eng
open Go Go.Sort Go.Proofs
variable [bt]
section rules
variable {P:Program} {all:Array Oper} {rest:List Oper} {n:Nat} {tm:List (Nat×AV)} {hp:Heap} {Q:St→Prop} {d:Nat} {ty:TypeId} {pos:String} {af:Array Edge}
end rules
end Go.Eng
namespace Go.Eng
open Go Go.Proofs
variable [bt]
section rules
variable {P:Program} {all:Array Oper} {rest:List Oper} {n:Nat} {tm:List (Nat×AV)} {hp:Heap} {Q:St→Prop} {d:Nat} {ty:TypeId} {pos:String} {af:Array Edge}
end rules
section order
variable {P:Program} {all:Array Oper} {n m:Nat}
def vL (P:Program) (all:Array Oper) (n m:Nat) (I:Array Bool→Act→World→(Nat→Prop)→Prop) (i:Nat) (o:Oper) (e:Env) (av:Option AV):Prop:=
 (∀ d,o.dst=some d→d < n)∧∀ (listed:Array Bool) (w:World) (S:Nat→Prop) (a:Act),GC all m listed→i < listed.size→listed.getD i false=false→(∀ j,qI all i j→listed.getD j false=true)→a.tmps.size=n→a.defers=[]→(∀ n,S n→n < w.heap.size)→I listed a w S→xY w S (looks all o) e a→
  ((Region.wanted o (yielded all a.tmps)=true∧∀ (K:Act→World→Prop) (Q:Exit→Act→World→Prop),(∀ v w' S',(∀ k,S k→S' k∧w'.heap[k]? =w.heap[k]?)→(∀ n,S' n→n < w'.heap.size)→I (listed.setIfInBounds i true) (a.put o.dst v) w' S'→(∀ x,av=some x→At w' S' x v)→K (a.put o.dst v) w')→o.wp P a w K Q)∨
   (Region.wanted o (yielded all a.tmps)=false∧I (listed.setIfInBounds i true) (a.put o.dst undef) w S∧∀ x,av=some x→x=.raw undef))
variable {ie:Nat→Option AV} {en:Nat→Env} {e:Env} {I:Array Bool→Act→World→(Nat→Prop)→Prop}
theorem HV (hB:rI all m) (hm:m≤all.size) {Q:Exit→Act→World→Prop} (h0:en 0=e) (hs:∀ i o,i < m→all[i]? =some o→vL P all n m I i o (en i) (ie i)∧en (i+1)=gl (en i) o.dst (ie i))
 (fin:∀ listed a w S,(∀ i,i < m→listed.getD i false=true)→a.tmps.size=n→a.defers=[]→(∀ n,S n→n < w.heap.size)→I listed a w S→uh w S (en m) a→wpList P all Q (all.toList.drop m) a w):
 ∀ (fuel:Nat) (listed:Array Bool) (a:Act) (w:World) (S:Nat→Prop),GC all m listed→(listed.toList.count true)+fuel=all.size→a.tmps.size=n→a.defers=[]→(∀ n,S n→n < w.heap.size)→I listed a w S→uh w S (oQ all ie e listed all.size) a→
   wpAny P .any all Q fuel listed a w:=by
 have GD:∀ i o,i < m→all[i]? =some o→en (i+1)=gl (en i) o.dst (ie i):=fun i o h1 h2=>(hs i o h1 h2).2
 have done:∀ (fuel:Nat) (listed:Array Bool) (a:Act) (w:World) (S:Nat→Prop),GC all m listed→(listed.toList.count true)+fuel=all.size→a.tmps.size=n→a.defers=[]→(∀ n,S n→n < w.heap.size)→I listed a w S→uh w S (oQ all ie e listed all.size) a→
  (∀ i,i < m→listed.getD i false=true)→wpAny P .any all Q fuel listed a w:=by
  intro fuel listed a w S L hc eN va hr hg rq gB
  have GF:∀ i,m≤i→listed.getD i false=false:=fun i hi=>by
   cases hv:listed.getD i false with
   | false=>rfl
   | true=>have:=L.head i hv;omega
  have Jc:listed.toList.count true=m:=by
   have:listed.toList=List.replicate m true++List.replicate (all.size - m) false:=by
    apply List.ext_getElem?
    intro i
    rcases Nat.lt_or_ge i m with hi | hi
    ·have jj:i < listed.size:=by rw [L.size];omega
     rw [List.getElem?_append_left (by simpa using hi)]
     have:=gB i hi
     simp [jj] at this
     simp [jj,hi,this]
    ·rw [List.getElem?_append_right (by simpa using hi)]
     rcases Nat.lt_or_ge i listed.size with jj | jj
     ·have:=GF i hi
      simp [jj] at this
      have h2:i - m < all.size - m:=by rw [L.size] at jj;omega
      simp [jj,h2,this]
     ·have h2:¬ i - m < all.size - m:=by rw [L.size] at jj;omega
      simp [List.getElem?_eq_none (l:=listed.toList) (by simpa using jj),h2]
   rw [this,List.count_append,List.count_replicate,List.count_replicate]
   simp
  have Jd:oQ all ie e listed all.size=en m:=by
   have key:∀ k,k≤all.size→oQ all ie e listed k=en (min k m):=by
    intro k
    induction k with
    | zero=>intro _;simp [oQ,h0]
    | succ k ih=>
      intro hk
      have rJ:all[k]? =some all[k]:=by simp [show k < all.size by omega]
      simp only [oQ,rJ,Option.bind_some,ih (by omega)]
      rcases Nat.lt_or_ge k m with h | h
      ·rw [if_pos (gB k h),Nat.min_eq_left (by omega),Nat.min_eq_left (by omega),GD k _ h rJ]
      ·rw [if_neg (by rw [GF k h];simp),Nat.min_eq_right (by omega),Nat.min_eq_right (by omega)]
   rw [key all.size (Nat.le_refl _),Nat.min_eq_right hm]
  rw [Jd] at rq
  exact zW hB fuel m listed a w (Nat.le_refl _) (by omega) L.size gB GF (fin listed a w S gB eN va hr hg rq)
 intro fuel
 induction fuel with
 | zero=>
   intro listed a w S L hc eN va hr hg rq
   refine done 0 listed a w S L hc eN va hr hg rq (fun i hi=>?_)
   have xZ:listed.toList.count true=listed.toList.length:=by rw [Array.length_toList,L.size];omega
   have gB:=List.count_eq_length.1 xZ
   have jj:i < listed.size:=by rw [L.size];omega
   have:=gB listed[i] (by simp)
   simp [jj];exact this.symm
 | succ fuel ih=>
   intro listed a w S L hc eN va hr hg rq
   by_cases gB:∀ i,i < m→listed.getD i false=true
   ·exact done _ listed a w S L hc eN va hr hg rq gB
   ·refine ⟨fun Fz=>(gB fun i hi=>uY hB L.size Fz i (by omega)).elim,fun i hi=>?_⟩
    obtain ⟨CL,DU⟩:=su hi
    have qs:=wR DU
    have uZ:all[i]? =some all[i]:=by simp [CL]
    have Bb:i < m:=by
     rcases Nat.lt_or_ge i m with h | h
     ·exact h
     ·refine (gB fun j hj=>?_).elim
      have IK:all[j]? =some all[j]:=by simp [show j < all.size by omega]
      exact ij.ready L.closed ((iL hB uZ IK (by omega)).2 h) hi
    have jj:i < listed.size:=by rw [L.size];exact CL
    obtain ⟨⟨IH,yH⟩,_⟩:=hs i _ Bb uZ
    have nJ:xY w S (looks all all[i]) (en i) a:=by
     intro s IM av ll
     have hc:=B0 (ie:=ie) (en:=en) (e:=e) hB L h0 GD hm uZ Bb qs (fun j hj=>ij.ready L.closed hj hi) IM all.size (Nat.le_refl _)
     rw [Nat.min_eq_right (by omega)] at hc
     exact rq s av (by rw [hc];exact ll)
    have L':GC all m (listed.setIfInBounds i true):=by
     refine ⟨by simpa using L.size,fun k hk=>?_,fun k j o hk rJ hw=>?_⟩
     ·rw [cU jj] at hk
      split at hk
      ·omega
      ·exact L.head k hk
     ·rw [cU jj] at hk
      rw [cU jj]
      split
      ·rfl
      ·split at hk
       ·rename_i Q4
        subst Q4
        obtain rfl:all[k]=o:=by rw [uZ] at rJ;exact Option.some.inj rJ
        exact ph uZ hi hw
       ·exact L.closed k j o hk rJ hw
    have xZ:(listed.setIfInBounds i true).toList.count true+fuel=all.size:=by
     have DV:listed[i]=false:=by simpa [jj] using qs
     have:(listed.setIfInBounds i true).toList=listed.toList.set i true:=by simp
     rw [this,List.count_set (by simpa using jj)]
     have K7:listed.toList[i]'(by simpa using jj)=false:=by simpa using DV
     rw [K7]
     have e1:(if (false==true)=true then 1 else 0)=0:=rfl
     have e2:(if (true==true)=true then 1 else 0)=1:=rfl
     rw [e1,e2]
     omega
    have LC:∀ (v:Value) (w':World) (S':Nat→Prop),(∀ k,S k→S' k∧w'.heap[k]? =w.heap[k]?)→(∀ x,ie i=some x→At w' S' x v)→uh w' S' (oQ all ie e (listed.setIfInBounds i true) all.size) (a.put (all[i]).dst v):=by
     intro v w' S' UD mO s av ll
     rw [D3 (ie:=ie) (e:=e) hB L uZ Bb qs s all.size (Nat.le_refl _),if_pos (by omega)] at ll
     by_cases hd:(all[i]).dst=some s
     ·rw [hd,jL] at ll
      have LD:=IH s hd
      exact ⟨v,by rw [hd];simp [Act.put,eN,LD],mO _ ll⟩
     ·rw [gL hd] at ll
      obtain ⟨u,h1,h2⟩:=rq s av ll
      refine ⟨u,?_,h2.mono UD⟩
      cases LF:(all[i]).dst with
      | none=>simpa [Act.put] using h1
      | some d'=>
        have tE:d'≠s:=fun e=>hd (by rw [LF,e])
        simp [Act.put,tE,h1]
    have Oj:∀ v,(a.put (all[i]).dst v).tmps.size=n:=fun v=>by cases (all[i]).dst<;>simp [Act.put,eN]
    have Ol:∀ v,(a.put (all[i]).dst v).defers=[]:=fun v=>by cases (all[i]).dst<;>simp [Act.put,va]
    simp only [wpOp,uZ]
    rcases yH listed w S a L jj qs (fun j hj=>ij.ready L.closed hj hi) eN va hr hg nJ with ⟨hw,La⟩ | ⟨hw,hI,ll⟩
    ·rw [if_pos hw]
     exact .inl (La _ _ (fun v w' S' UD iv hI mO=>ih _ _ _ S' L' xZ (Oj v) (Ol v) iv hI (LC v w' S' UD mO)))
    ·rw [if_neg (by rw [hw];simp)]
     refine ih _ _ _ S L' xZ (Oj _) (Ol _) hr hI (LC _ w S (fun k hk=>⟨hk,rfl⟩) (fun x hx=>?_))
     rw [ll x hx];exact .raw _
end order
theorem Mn {w:World} {S:Nat→Prop} {hp:Heap} {b:Bk} {es uw:List (AV×AV)} (r:ck w S ((b,.mp es) :: hp)) (h:es.Perm uw):ck w S ((b,.mp uw) :: hp)∧ic w S ((b,.mp es) :: hp) w S ((b,.mp uw) :: hp):=by
 obtain ⟨L,c,hL,hH⟩:=r.holds _ (List.mem_cons_self ..)
 obtain ⟨r1,e1,_⟩:=kj r (o':=.mp uw) .here (ve w b.cy) id id ⟨L,c,hL.trans h,hH⟩ (.inl rfl)
 exact ⟨r1,e1⟩
section lit
variable {K V:Type} [DecidableEq K] [yK K]
def ov (lit:List (Nat×K×V)) (c:Nat→Bool):List (K×V):=(lit.filter (fun x=>c x.1)).map (·.2)
def yc (gk:K→AV) (gv:V→AV) (M:List (K×V)):List (AV×AV):=M.map fun e=>(gk e.1,gv e.2)
theorem tg {lit:List (Nat×K×V)} {c c':Nat→Bool} (h:∀ x∈lit,c x.1=c' x.1):ov lit c=ov lit c':=by
 unfold ov;rw [List.filter_congr h]
theorem Et {lit:List (Nat×K×V)} {c:Nat→Bool} (h:∀ x∈lit,c x.1=true):ov lit c=lit.map (·.2):=by
 unfold ov;rw [List.filter_eq_self.2 h]
theorem HW {lit:List (Nat×K×V)} {c:Nat→Bool} (h:∀ x∈lit,c x.1=false):ov lit c=[]:=by
 unfold ov;rw [List.filter_eq_nil_iff.2 (fun x hx=>by rw [h x hx];simp)];rfl
theorem yN {M:List (K×V)} {k:K} (h:∀ e∈M,e.1≠k):qg M k=M:=by
 unfold qg
 exact List.filter_eq_self.2 fun e he=>by simpa using h e he
theorem JY:∀ {lit:List (Nat×K×V)} {c:Nat→Bool} {i:Nat} {k:K} {v:V},(lit.map (·.1)).Nodup→(lit.map (·.2.1)).Nodup→(i,k,v)∈lit→c i=false→(ny (ov lit c) k v).Perm (ov lit (fun j=>if j=i then true else c j)):=by
 intro lit c i k v hn hk hx hc
 have OM:∀ e∈ov lit c,e.1≠k:=by
  intro e he ON
  obtain ⟨x,UE,rfl⟩:=List.mem_map.1 he
  obtain ⟨S4,RA⟩:=List.mem_filter.1 UE
  have:x=(i,k,v):=by
   obtain ⟨a,b,zv⟩:=List.append_of_mem hx
   subst zv
   rw [List.map_append,List.map_cons,List.nodup_append] at hk
   obtain ⟨k1,k2,k3⟩:=hk
   rcases List.mem_append.1 S4 with h | h
   ·exact (k3 _ (List.mem_map.2 ⟨x,h,rfl⟩) k (by simp) ON).elim
   ·rcases List.mem_cons.1 h with h | h
    ·exact h
    ·exact ((List.nodup_cons.1 k2).1 (List.mem_map.2 ⟨x,h,ON⟩)).elim
  subst this
  rw [hc] at RA;cases RA
 refine (Cc _ _ _).trans ?_
 rw [yN OM]
 obtain ⟨a,b,zv⟩:=List.append_of_mem hx
 subst zv
 rw [List.map_append,List.map_cons,List.nodup_append] at hn
 obtain ⟨n1,n2,n3⟩:=hn
 have ha:∀ x∈a,(if x.1=i then true else c x.1)=c x.1:=fun x hx=>if_neg (n3 _ (List.mem_map.2 ⟨x,hx,rfl⟩) i (by simp))
 have hb:∀ x∈b,(if x.1=i then true else c x.1)=c x.1:=fun x hx=>if_neg (fun e=>(List.nodup_cons.1 n2).1 (List.mem_map.2 ⟨x,hx,e⟩))
 unfold ov
 rw [List.filter_append,List.filter_append,List.filter_cons,List.filter_cons,List.filter_congr ha,List.filter_congr hb]
 simp only [hc,if_true,Bool.false_eq_true,if_false,List.map_append,List.map_cons]
 exact List.perm_middle.symm
def IL (w0:World) (S0:Nat→Prop) (hp:Heap) (p:Nat) (al:List (Nat×Nat)) (gk:K→AV) (gv:V→AV) (lit:List (Nat×K×V)) (listed:Array Bool) (a:Act) (w:World) (S:Nat→Prop):Prop:=
 if listed.getD p false=true then ∃ b v,(∀ x∈al,listed.getD x.1 false=true→a.tmps[x.2]? =some v)∧At w S (.cd b) v∧ck w S ((b,.mp (yc gk gv (ov lit (listed.getD · false)))) :: hp)∧ic w0 S0 hp w S ((b,.mp (yc gk gv (ov lit (listed.getD · false)))) :: hp)
 else ck w S hp∧ic w0 S0 hp w S hp
variable {P:Program} {all:Array Oper} {n m:Nat} {hp:Heap} {p:Nat} {al:List (Nat×Nat)} {gk:K→AV} {gv:V→AV} {lit:List (Nat×K×V)}
def refs (us:List (Nat×Nat)) (b:Bk):List (Nat×AV):=us.map fun x=>(x.2,.cd b)
inductive Eu (P:Program) (all:Array Oper) (n:Nat) (hp:Heap) (p:Nat) (al:List (Nat×Nat)) (gk:K→AV) (gv:V→AV) (lit:List (Nat×K×V)):Nat→List Oper→Env→Env→Prop
 | nil (i:Nat) (e:Env):Eu P all n hp p al gk gv lit i [] e e
 | am {i:Nat} {o:Oper} {l:List Oper} {e e':Env} {av:AV} (hi:i≠p) (hl:∀ x∈lit,x.1≠i) (ha:∀ x∈al,x.1≠i) (hd:∀ x∈al,o.dst≠some x.2) (h:BU P all n hp o e av) (k:Eu P all n hp p al gk gv lit (i+1) l (gl e o.dst (some av)) e'):Eu P all n hp p al gk gv lit i (o :: l) e e'
 | mk {o:Oper} {l:List Oper} {e e':Env} {dp:Nat} (hl:∀ x∈lit,x.1≠p) (hd:o.dst=some dp) (hu:∀ x∈al,x.1=p→x.2=dp) (HX:∀ x∈al,x.1≠p→qI all x.1 p) (ha:∀ x∈lit,qI all x.1 p) (h:nC P all n hp o e [] (fun b=>.cd b) (fun b=>[(b,.mp [])])) (k:Eu P all n hp p al gk gv lit (p+1) l (gl e o.dst none) e'):Eu P all n hp p al gk gv lit p (o :: l) e e'
 | mv {i:Nat} {o:Oper} {l:List Oper} {e e':Env} {s:Nat} {us:List (Nat×Nat)} (hi:i≠p) (hl:∀ x∈lit,x.1≠i) (hd:o.dst=some s) (hu:∀ x∈al,x.1=i→x.2=s) (hs:∀ x∈al,x.1≠i→x.2≠s) (ha:qI all i p) (CY:∀ x∈us,x∈al∧qI all i x.1) (hg:o.guard=none) (hn:s < n) (h:∀ b,MV P all n o (x5 (lk (refs us b)) e) hp (.cd b)) (k:Eu P all n hp p al gk gv lit (i+1) l (gl e o.dst none) e'):Eu P all n hp p al gk gv lit i (o :: l) e e'
 | ins {i:Nat} {o:Oper} {l:List Oper} {e e':Env} {key:K} {v:V} {us:List (Nat×Nat)} (hx:(i,key,v)∈lit) (hi:i≠p) (Ev:∀ x∈al,x.1≠i) (hd:o.dst=none) (ha:qI all i p) (CY:∀ x∈us,x∈al∧qI all i x.1) (h:∀ b M,nC P all n hp o (x5 (lk (refs us b)) e) [(b,.mp (yc gk gv M))] (fun _=>.raw undef) (fun _=>[(b,.mp (yc gk gv (ny M key v)))])) (k:Eu P all n hp p al gk gv lit (i+1) l e e'):Eu P all n hp p al gk gv lit i (o :: l) e e'
 | look {i:Nat} {o:Oper} {l:List Oper} {e e':Env} {av:AV} {us:List (Nat×Nat)} (hi:i≠p) (hl:∀ x∈lit,x.1≠i) (Ev:∀ x∈al,x.1≠i) (hd:∀ x∈al,o.dst≠some x.2) (ha:qI all i p) (HX:∀ x∈lit,qI all i x.1) (CY:∀ x∈us,x∈al∧qI all i x.1) (h:∀ b,BU P all n ((b,.mp (yc gk gv (lit.map (·.2)))) :: hp) o (x5 (lk (refs us b)) e) av) (k:Eu P all n hp p al gk gv lit (i+1) l (gl e o.dst (some av)) e'):Eu P all n hp p al gk gv lit i (o :: l) e e'
theorem yd {a:Act} {d:Option Nat} {v u:Value} {s:Nat} (h:d≠some s) (hv:a.tmps[s]? =some u):(a.put d v).tmps[s]? =some u:=by
 cases d with
 | none=>simpa [Act.put] using hv
 | some d'=>
   have tE:d'≠s:=fun e=>h (by rw [e])
   simp [Act.put,tE,hv]
theorem JZ {w0:World} {S0:Nat→Prop} {i:Nat} {o:Oper} {e:Env} {av:AV} (hi:i≠p) (hl:∀ x∈lit,x.1≠i) (Ev:∀ x∈al,x.1≠i) (hd:∀ x∈al,o.dst≠some x.2) (h:BU P all n hp o e av):vL P all n m (IL w0 S0 hp p al gk gv lit) i o e (some av):=by
 refine ⟨h.1,fun listed w S a L jj qs r8 eN va iv hI nJ=>?_⟩
 have oR:∀ k,k≠i→(listed.setIfInBounds i true).getD k false=listed.getD k false:=fun k hk=>by rw [cU jj,if_neg hk]
 have J0:ov lit ((listed.setIfInBounds i true).getD · false)=ov lit (listed.getD · false):=tg fun x hx=>oR _ (hl x hx)
 have IN:(listed.setIfInBounds i true).getD p false=listed.getD p false:=oR p (Ne.symm hi)
 rcases h.2 with ⟨hw,La⟩ | ⟨hw,ll⟩
 ·refine .inl ⟨jK hw nJ,fun K Q hK=>?_⟩
  unfold IL at hI hK
  rw [IN,J0] at hK
  split at hI
  ·rename_i hl
   obtain ⟨b,u,h1,h2,h3,h4⟩:=hI
   refine La w S a eN va (h3.sub (List.sublist_cons_self _ _)) nJ K Q (fun v w' S' g mO=>hK v w' S' (g.iX iv) g.slt ?_ (fun x hx=>by rw [← Option.some.inj hx];exact mO))
   rw [if_pos hl]
   exact ⟨b,u,fun x hx G2=>yd (hd x hx) (h1 x hx (by rw [← oR _ (Ev x hx)];exact G2)),h2.mono (g.iX iv),h3.grow g,h4.trans (g.PC iv _)⟩
  ·rename_i hl
   refine La w S a eN va hI.1 nJ K Q (fun v w' S' g mO=>hK v w' S' (g.iX iv) g.slt ?_ (fun x hx=>by rw [← Option.some.inj hx];exact mO))
   rw [if_neg hl]
   exact ⟨hI.1.grow g,hI.2.trans (g.PC iv _)⟩
 ·refine .inr ⟨jK hw nJ,?_,fun x hx=>by rw [← Option.some.inj hx];exact ll⟩
  unfold IL at hI ⊢
  rw [IN,J0]
  split at hI
  ·rename_i hl
   obtain ⟨b,u,h1,h2⟩:=hI
   rw [if_pos hl]
   exact ⟨b,u,fun x hx G2=>yd (hd x hx) (h1 x hx (by rw [← oR _ (Ev x hx)];exact G2)),h2⟩
  ·rename_i hl
   rw [if_neg hl];exact hI
theorem J6 {w0:World} {S0:Nat→Prop} {o:Oper} {e:Env} {dp:Nat} (hl:∀ x∈lit,x.1≠p) (hd:o.dst=some dp) (hu:∀ x∈al,x.1=p→x.2=dp) (HX:∀ x∈al,x.1≠p→qI all x.1 p) (ha:∀ x∈lit,qI all x.1 p) (h:nC P all n hp o e [] (fun b=>.cd b) (fun b=>[(b,.mp [])])):vL P all n m (IL w0 S0 hp p al gk gv lit) p o e none:=by
 refine ⟨h.1,fun listed w S a L jj qs r8 eN va iv hI nJ=>?_⟩
 have G3:∀ x∈lit,listed.getD x.1 false=false:=fun x hx=>by
  cases hv:listed.getD x.1 false with
  | false=>rfl
  | true=>have:=ij.I9 L.closed (ha x hx) hv;rw [qs] at this;cases this
 have J0:ov lit ((listed.setIfInBounds p true).getD · false)=([]:List (K×V)):=HW fun x hx=>by rw [cU jj,if_neg (hl x hx)];exact G3 x hx
 unfold IL at hI
 rw [if_neg (by rw [qs];simp)] at hI
 rcases h.2 with ⟨hw,UF⟩ | ⟨hw,ll⟩
 ·refine .inl ⟨jK hw nJ,fun K Q hK=>?_⟩
  refine UF w S a eN va (by simpa using hI.1) nJ K Q (fun b v w' S' ev hr mO=>hK v w' S' ev.iX hr.slt ?_ (fun x hx=>by cases hx))
  unfold IL
  rw [cU jj,if_pos rfl,if_pos rfl,J0]
  refine ⟨b,v,fun x hx G2=>?_,mO,hr,hI.2.trans ev⟩
  have IH:=h.1 dp hd
  by_cases UG:x.1=p
  ·rw [hu x hx UG,hd];simp [Act.put,eN,IH]
  ·rw [cU jj,if_neg UG] at G2
   have:=ij.I9 L.closed (HX x hx UG) G2
   rw [qs] at this;cases this
 ·have:=(ll ⟨none,0⟩).2
  cases this
theorem CZ:∀ {us:List (Nat×Nat)} {b:Bk} {s:Nat} {av:AV},lk (refs us b) s=some av→av=.cd b∧∃ x∈us,x.2=s
 | [],b,s,av,h=>by simp [refs,lk] at h
 | y :: us,b,s,av,h=>by
   by_cases hs:y.2=s
   ·subst hs
    have:lk (refs (y :: us) b) y.2=some (.cd b):=by simp [refs,lk]
    rw [this] at h
    exact ⟨(Option.some.inj h).symm,y,by simp,rfl⟩
   ·have:lk (refs (y :: us) b) s=lk (refs us b) s:=by simp [refs,lk,ng hs]
    rw [this] at h
    obtain ⟨h1,x,h2,h3⟩:=CZ h
    exact ⟨h1,x,List.mem_cons_of_mem _ h2,h3⟩
theorem FR {w:World} {S:Nat→Prop} {ls:List Nat} {e:Env} {a:Act} {b:Bk} {v:Value} {us:List (Nat×Nat)} (h:xY w S ls e a) (hv:∀ x∈us,a.tmps[x.2]? =some v) (mO:At w S (.cd b) v):xY w S ls (x5 (lk (refs us b)) e) a:=by
 intro s hs av ll
 unfold x5 at ll
 cases hl:lk (refs us b) s with
 | some dD=>
   rw [hl] at ll
   obtain rfl:=Option.some.inj ll
   obtain ⟨rfl,x,hx,rfl⟩:=CZ hl
   exact ⟨v,hv x hx,mO⟩
 | none=>
   rw [hl] at ll
   exact h s hs av ll
theorem J7 {w0:World} {S0:Nat→Prop} {i:Nat} {o:Oper} {e:Env} {s:Nat} {us:List (Nat×Nat)} (hi:i≠p) (hl:∀ x∈lit,x.1≠i) (hd:o.dst=some s) (hu:∀ x∈al,x.1=i→x.2=s) (hs:∀ x∈al,x.1≠i→x.2≠s) (ha:qI all i p) (CY:∀ x∈us,x∈al∧qI all i x.1) (hg:o.guard=none) (hn:s < n) (h:∀ b,MV P all n o (x5 (lk (refs us b)) e) hp (.cd b)):vL P all n m (IL w0 S0 hp p al gk gv lit) i o e none:=by
 refine ⟨fun d vu=>by rw [hd] at vu;obtain rfl:=Option.some.inj vu;exact hn,fun listed w S a L jj qs r8 eN va iv hI nJ=>?_⟩
 have pj:=r8 p ha
 have oR:∀ k,k≠i→(listed.setIfInBounds i true).getD k false=listed.getD k false:=fun k hk=>by rw [cU jj,if_neg hk]
 have J0:ov lit ((listed.setIfInBounds i true).getD · false)=ov lit (listed.getD · false):=tg fun x hx=>oR _ (hl x hx)
 unfold IL at hI
 rw [if_pos pj] at hI
 obtain ⟨b,u,h1,h2,h3,h4⟩:=hI
 have xh:=FR nJ (us:=us) (fun x hx=>h1 x (CY x hx).1 (r8 _ (CY x hx).2)) h2
 refine .inl ⟨by simp [Region.wanted,hg],fun K Q hK=>?_⟩
 refine h b w S a eN va (h3.sub (List.sublist_cons_self _ _)) xh K Q (fun v w' S' g mO=>hK v w' S' (g.iX iv) g.slt ?_ (fun x hx=>by cases hx))
 obtain ⟨nb,hb,hv⟩:=mO.mT
 obtain ⟨Be,yB,TU⟩:=h2.mT
 have hvu:v=u:=by rw [hb] at yB;obtain rfl:=Option.some.inj yB;rw [hv,TU]
 subst hvu
 unfold IL
 rw [oR p (Ne.symm hi),if_pos pj,J0]
 refine ⟨b,v,fun x hx G2=>?_,mO,h3.grow g,h4.trans (g.PC iv _)⟩
 by_cases UH:x.1=i
 ·rw [hu x hx UH,hd];simp [Act.put,eN,hn]
 ·exact yd (by rw [hd];exact fun e=>hs x hx UH (Option.some.inj e).symm) (h1 x hx (by rw [← oR _ UH];exact G2))
theorem HY {w0:World} {S0:Nat→Prop} {i:Nat} {o:Oper} {e:Env} {key:K} {v:V} (RB:(lit.map (·.1)).Nodup) (NN:(lit.map (·.2.1)).Nodup) {us:List (Nat×Nat)} (hx:(i,key,v)∈lit) (hi:i≠p) (Ev:∀ x∈al,x.1≠i) (hd:o.dst=none) (ha:qI all i p) (CY:∀ x∈us,x∈al∧qI all i x.1) (h:∀ b M,nC P all n hp o (x5 (lk (refs us b)) e) [(b,.mp (yc gk gv M))] (fun _=>.raw undef) (fun _=>[(b,.mp (yc gk gv (ny M key v)))])):vL P all n m (IL w0 S0 hp p al gk gv lit) i o e (some (.raw undef)):=by
 refine ⟨(h ⟨none,0⟩ []).1,fun listed w S a L jj qs r8 eN va iv hI nJ=>?_⟩
 have pj:=r8 p ha
 unfold IL at hI
 rw [if_pos pj] at hI
 obtain ⟨b,u,h1,h2,h3,h4⟩:=hI
 have xh:=FR nJ (us:=us) (fun x hx=>h1 x (CY x hx).1 (r8 _ (CY x hx).2)) h2
 have oR:∀ k,k≠i→(listed.setIfInBounds i true).getD k false=listed.getD k false:=fun k hk=>by rw [cU jj,if_neg hk]
 have J0:ov lit ((listed.setIfInBounds i true).getD · false)=ov lit (fun j=>if j=i then true else listed.getD j false):=tg fun x _=>cU jj
 have kO:=JY (c:=(listed.getD · false)) RB NN hx qs
 rw [← J0] at kO
 rcases (h b (ov lit (listed.getD · false))).2 with ⟨hw,UF⟩ | ⟨hw,ll⟩
 ·refine .inl ⟨jK hw xh,fun K Q hK=>?_⟩
  refine UF w S a eN va h3 xh K Q (fun b' v' w' S' ev hr mO=>hK v' w' S' ev.iX hr.slt ?_ (fun x hx=>by rw [← Option.some.inj hx];exact mO))
  obtain ⟨r2,e2⟩:=Mn hr (kO.map _:(yc gk gv _).Perm (yc gk gv _))
  unfold IL
  rw [cU jj,if_neg (Ne.symm hi),if_pos pj]
  exact ⟨b,u,fun x hx G2=>yd (by rw [hd];simp) (h1 x hx (by rw [← oR _ (Ev x hx)];exact G2)),h2.mono ev.iX,r2,(h4.trans ev).trans e2⟩
 ·have h5:=(ll ⟨none,0⟩).1
  refine .inr ⟨jK hw xh,?_,fun x hx=>(Option.some.inj hx).symm⟩
  have h6:yc gk gv (ny (ov lit (listed.getD · false)) key v)=yc gk gv (ov lit (listed.getD · false)):=by
   have:=List.cons.inj h5
   have:=(Prod.mk.inj this.1).2
   exact Ob.mp.inj this
  have h7:=congrArg List.length h6
  have h8:=(Cc (ov lit (listed.getD · false)) key v).length_eq
  have OM:∀ e∈ov lit (listed.getD · false),e.1≠key:=by
   intro e he ON
   obtain ⟨x,UE,rfl⟩:=List.mem_map.1 he
   obtain ⟨S4,RA⟩:=List.mem_filter.1 UE
   have:x=(i,key,v):=by
    obtain ⟨a',b',zv⟩:=List.append_of_mem hx
    rw [zv] at NN S4
    rw [List.map_append,List.map_cons,List.nodup_append] at NN
    obtain ⟨k1,k2,k3⟩:=NN
    rcases List.mem_append.1 S4 with h | h
    ·exact (k3 _ (List.mem_map.2 ⟨x,h,rfl⟩) key (by simp) ON).elim
    ·rcases List.mem_cons.1 h with h | h
     ·exact h
     ·exact ((List.nodup_cons.1 k2).1 (List.mem_map.2 ⟨x,h,ON⟩)).elim
   subst this
   simp only [qs] at RA;cases RA
  rw [yN OM] at h8
  simp only [yc,List.length_map,List.length_cons] at h7 h8
  omega
theorem FT {w0:World} {S0:Nat→Prop} {i:Nat} {o:Oper} {e:Env} {av:AV} (hi:i≠p) {us:List (Nat×Nat)} (hl:∀ x∈lit,x.1≠i) (Ev:∀ x∈al,x.1≠i) (hd:∀ x∈al,o.dst≠some x.2) (ha:qI all i p) (HX:∀ x∈lit,qI all i x.1) (CY:∀ x∈us,x∈al∧qI all i x.1) (h:∀ b,BU P all n ((b,.mp (yc gk gv (lit.map (·.2)))) :: hp) o (x5 (lk (refs us b)) e) av):vL P all n m (IL w0 S0 hp p al gk gv lit) i o e (some av):=by
 refine ⟨(h ⟨none,0⟩).1,fun listed w S a L jj qs r8 eN va iv hI nJ=>?_⟩
 have pj:=r8 p ha
 have oR:∀ k,k≠i→(listed.setIfInBounds i true).getD k false=listed.getD k false:=fun k hk=>by rw [cU jj,if_neg hk]
 have J0:ov lit ((listed.setIfInBounds i true).getD · false)=ov lit (listed.getD · false):=tg fun x hx=>oR _ (hl x hx)
 have gB:ov lit (listed.getD · false)=lit.map (·.2):=Et fun x hx=>r8 _ (HX x hx)
 have IN:(listed.setIfInBounds i true).getD p false=true:=by rw [oR p (Ne.symm hi)];exact pj
 unfold IL at hI
 rw [if_pos pj,gB] at hI
 obtain ⟨b,u,h1,h2,h3,h4⟩:=hI
 have xh:=FR nJ (us:=us) (fun x hx=>h1 x (CY x hx).1 (r8 _ (CY x hx).2)) h2
 rcases (h b).2 with ⟨hw,La⟩ | ⟨hw,ll⟩
 ·refine .inl ⟨jK hw xh,fun K Q hK=>?_⟩
  refine La w S a eN va h3 xh K Q (fun v w' S' g mO=>hK v w' S' (g.iX iv) g.slt ?_ (fun x hx=>by rw [← Option.some.inj hx];exact mO))
  unfold IL
  rw [if_pos IN,J0,gB]
  exact ⟨b,u,fun x hx G2=>yd (hd x hx) (h1 x hx (by rw [← oR _ (Ev x hx)];exact G2)),h2.mono (g.iX iv),h3.grow g,h4.trans (g.PC iv _)⟩
 ·refine .inr ⟨jK hw xh,?_,fun x hx=>by rw [← Option.some.inj hx];exact ll⟩
  unfold IL
  rw [if_pos IN,J0,gB]
  exact ⟨b,u,fun x hx G2=>yd (hd x hx) (h1 x hx (by rw [← oR _ (Ev x hx)];exact G2)),h2,h3,h4⟩
theorem Eu.zU {w0:World} {S0:Nat→Prop} (RB:(lit.map (·.1)).Nodup) (NN:(lit.map (·.2.1)).Nodup) {i0:Nat} {l:List Oper} {e e':Env} (h:Eu P all n hp p al gk gv lit i0 l e e'):
 ∃ (ie:Nat→Option AV) (en:Nat→Env),en 0=e∧en l.length=e'∧∀ j o,l[j]? =some o→vL P all n m (IL w0 S0 hp p al gk gv lit) (i0+j) o (en j) (ie j)∧en (j+1)=gl (en j) o.dst (ie j):=by
 have key:∀ {i0:Nat} {o:Oper} {l:List Oper} {e e1 e':Env} {x:Option AV},vL P all n m (IL w0 S0 hp p al gk gv lit) i0 o e x→e1=gl e o.dst x→(∃ (ie:Nat→Option AV) (en:Nat→Env),en 0=e1∧en l.length=e'∧∀ j o,l[j]? =some o→vL P all n m (IL w0 S0 hp p al gk gv lit) (i0+1+j) o (en j) (ie j)∧en (j+1)=gl (en j) o.dst (ie j))→
  ∃ (ie:Nat→Option AV) (en:Nat→Env),en 0=e∧en (o :: l).length=e'∧∀ j o',(o :: l)[j]? =some o'→vL P all n m (IL w0 S0 hp p al gk gv lit) (i0+j) o' (en j) (ie j)∧en (j+1)=gl (en j) o'.dst (ie j):=by
  intro i0 o l e e1 e' x yC he ⟨ie,en,h0,h1,h2⟩
  refine ⟨fun i=>match i with | 0=>x | i+1=>ie i,fun i=>match i with | 0=>e | i+1=>en i,rfl,h1,fun j o' ho=>?_⟩
  match j with
  | 0=>simp at ho;subst ho;exact ⟨yC,by rw [← he];exact h0⟩
  | j+1=>
    have:=h2 j o' (by simpa using ho)
    rw [show i0+(j+1)=i0+1+j by omega]
    exact this
 induction h with
 | nil i e=>exact ⟨fun _=>none,fun _=>e,rfl,rfl,fun i o h=>by simp at h⟩
 | am hi hl Ev hd h k ih=>exact key (JZ hi hl Ev hd h) rfl ih
 | mk hl hd hu HX ha h k ih=>exact key (J6 hl hd hu HX ha h) rfl ih
 | mv hi hl hd hu hs ha CY hg hn h k ih=>exact key (J7 hi hl hd hu hs ha CY hg hn h) rfl ih
 | ins hx hi Ev hd ha CY h k ih=>exact key (HY RB NN hx hi Ev hd ha CY h) (by rw [hd];rfl) ih
 | look hi hl Ev hd ha HX CY h k ih=>exact key (FT hi hl Ev hd ha HX CY h) rfl ih
end lit
section rules
variable {K V:Type} [DecidableEq K] [yK K] {P:Program} {all:Array Oper} {n:Nat} {hp:Heap} {p:Nat} {al:List (Nat×Nat)} {gk:K→AV} {gv:V→AV} {lit:List (Nat×K×V)} {A:List Nat}
def AL (P:Program) (all:Array Oper) (n:Nat) (hp:Heap) (p:Nat) (al:List (Nat×Nat)) (gk:K→AV) (gv:V→AV) (lit:List (Nat×K×V)) (A:List Nat) (i:Nat) (l:List Oper) (tm:List (Nat×AV)) (Q:List (Nat×AV)→Prop):Prop:=
 Bq all=A→∃ ln,Eu P all n hp p al gk gv lit i l (lk tm) (lk ln)∧Q ln
variable {i:Nat} {l l1 l2 rest:List Oper} {tm:List (Nat×AV)} {Q:List (Nat×AV)→Prop} {d:Nat} {ty:TypeId} {pos:String} {af:Array Edge} {op:Op}
theorem AL.nil (h:Q tm):AL P all n hp p al gk gv lit A i [] tm Q:=fun _=>⟨tm,.nil _ _,h⟩
def Ar (al:List (Nat×Nat)) (p:Nat) (ks:List Nat) (i:Nat) (l:List Oper):Bool:=(l.all fun o=>match o.dst with | some d=>al.all fun x=>!Nat.beq d x.2 | none=>true)&&(Nat.blt p i||Nat.ble (i+l.length) p)&&((ks.all fun k=>Nat.blt k i||Nat.ble (i+l.length) k)&&al.all fun x=>Nat.blt x.1 i||Nat.ble (i+l.length) x.1)
theorem RC:∀ {l1:List Oper} {e e':Env} {i:Nat} (h:K9 P all n hp l1 e e') (hn:Ar al p (lit.map (·.1)) i l1=true) {l2:List Oper} {e2:Env},Eu P all n hp p al gk gv lit (i+l1.length) l2 e' e2→Eu P all n hp p al gk gv lit i (l1++l2) e e2:=by
 intro l1 e e' i h
 have yH:∀ {i:Nat} {o:Oper} {l:List Oper},Ar al p (lit.map (·.1)) i (o :: l)=true→i≠p∧(∀ x∈lit,x.1≠i)∧(∀ x∈al,x.1≠i)∧(∀ x∈al,o.dst≠some x.2)∧Ar al p (lit.map (·.1)) (i+1) l=true:=by
  intro i o l hn
  unfold Ar at hn ⊢
  simp only [Bool.and_eq_true,List.all_eq_true,List.length_cons,Bool.or_eq_true] at hn ⊢
  obtain ⟨⟨h1,h2⟩,h3,h4⟩:=hn
  refine ⟨fun e=>?_,fun x hx e=>?_,fun x hx e=>?_,fun x hx e=>?_,⟨fun o' Q2=>h1 o' (List.mem_cons_of_mem _ Q2),?_⟩,fun k hk=>?_,fun x hx=>?_⟩
  ·simp at h2;omega
  ·have:=h3 x.1 (List.mem_map.2 ⟨x,hx,rfl⟩);simp at this;omega
  ·have:=h4 x hx;simp at this;omega
  ·have:=h1 o (List.mem_cons_self ..);rw [e] at this;have:=List.all_eq_true.1 this x hx;simp at this
  ·simp at h2 ⊢;omega
  ·have:=h3 k hk;simp at this ⊢;omega
  ·have:=h4 x hx;simp at this ⊢;omega
 induction h generalizing i with
 | nil e=>intro hn l2 e2 k;simpa using k
 | @run o l e e' av hg hm hd k ih=>
   intro hn l2 e2 kk
   obtain ⟨a1,a2,a3,a4,a5⟩:=yH hn
   refine .am a1 a2 a3 a4 ⟨hd,.inl ⟨hg,hm⟩⟩ ?_
   rw [sY]
   exact ih a5 (by rw [show i+1+l.length=i+(o :: l).length by simp;omega];exact kk)
 | @pass o l e e' hg hd k ih=>
   intro hn l2 e2 kk
   obtain ⟨a1,a2,a3,a4,a5⟩:=yH hn
   refine .am a1 a2 a3 a4 ⟨hd,.inr ⟨hg,rfl⟩⟩ ?_
   rw [sY]
   exact ih a5 (by rw [show i+1+l.length=i+(o :: l).length by simp;omega];exact kk)
theorem AL.am (m:Nat) (hs:Br m l=some (l1,l2)) (hn:Ar al p (lit.map (·.1)) i l1=true) (h:AM P all n hp l1 tm (fun ln=>AL P all n hp p al gk gv lit A (i+m) l2 ln Q)):AL P all n hp p al gk gv lit A i l tm Q:=by
 intro hA
 obtain ⟨rfl,rfl⟩:=qt hs
 obtain ⟨wk,h1,h2⟩:=h
 obtain ⟨ln,h3,h4⟩:=h2 hA
 exact ⟨ln,RC h1 hn h3,h4⟩
def NO (A:List Nat) (i:Nat) (ks:List Nat):Bool:=ks.all fun k=>(A.getD i 0).testBit k
theorem J8 {ks:List Nat} (hA:Bq all=A) (h:NO A i ks=true) {k:Nat} (hk:k∈ks):qI all i k:=by
 have:=List.all_eq_true.1 h k hk
 subst hA;exact je this
def WS (A:List Nat) (i:Nat) (al us:List (Nat×Nat)):Bool:=us.all fun x=>al.contains x&&(A.getD i 0).testBit x.1
theorem Mo {us:List (Nat×Nat)} (hA:Bq all=A) (h:WS A i al us=true):∀ x∈us,x∈al∧qI all i x.1:=by
 intro x hx
 have:=List.all_eq_true.1 h x hx
 rw [Bool.and_eq_true] at this
 exact ⟨by simpa using this.1,by subst hA;exact je this.2⟩
theorem HZ (hd:lk tm d=none):gl (lk tm) (some d) none=lk tm:=by
 funext s
 simp only [gl]
 split
 ·rename_i e;subst e;exact hd.symm
 ·rfl
theorem AL.mk {dp:Nat} {t:TypeId} (ps:List Nat) (Ou:lit.map (·.1)=ps) (hn:Nat.blt dp n=true) (hd:lk tm dp=none) (hl:(ps.all fun x=>(A.getD x 0).testBit i&&!Nat.beq x i)=true) (HX:(al.all fun x=>bif Nat.beq x.1 i then Nat.beq x.2 dp else (A.getD x.1 0).testBit i)=true) (k:AL P all n hp i al gk gv lit A (i+1) rest tm Q):AL P all n hp i al gk gv lit A i (⟨some dp,.makeMap t none,ty,pos,af,none⟩ :: rest) tm Q:=by
 intro hA
 obtain ⟨ln,h1,h2⟩:=k hA
 have si:∀ x∈lit,((A.getD x.1 0).testBit i&&!Nat.beq x.1 i)=true:=fun x hx=>List.all_eq_true.1 hl x.1 (by rw [← Ou];exact List.mem_map.2 ⟨x,hx,rfl⟩)
 have RD:=List.all_eq_true.1 HX
 refine ⟨ln,.mk (dp:=dp) (fun x hx e=>?_) rfl (fun x hx e=>?_) (fun x hx e=>?_) (fun x hx=>?_) ?_ ?_,h2⟩
 ·have:=si x hx;rw [e] at this;simp at this
 ·have:=RD x hx;rw [e] at this;simpa using this
 ·have:=RD x hx
  rw [ng e] at this
  subst hA;exact je this
 ·have:=si x hx
  rw [Bool.and_eq_true] at this
  subst hA;exact je this.1
 ·refine qu rfl (fun d' vu=>by obtain rfl:=Option.some.inj vu;simpa using hn) rfl (fun _=>rfl) ?_ (fun e=>by cases e)
  exact nD hn (fun b=>ae.nil ⟨b,_,rfl,fun d' vu=>by obtain rfl:=Option.some.inj vu;simp [lk]⟩)
 ·show Eu P all n hp i al gk gv lit (i+1) rest (gl (lk tm) (some dp) none) (lk ln)
  rw [HZ hd];exact h1
theorem G4 (us:List (Nat×Nat)) (b:Bk):x5 (lk (refs us b)) (lk tm)=lk (refs us b++tm):=(B4 _ _).symm
theorem AL.ins {t kt vt:TypeId} {key:K} {v:V} {x y z:Operand} {av:AV} (us:List (Nat×Nat)) [ay P t (.map kt vt)] [il P kt gk] (hf:lit.find? (fun x=>Nat.beq x.1 i)=some (i,key,v)) (hb:NO A i [p]=true) (hip:Nat.beq i p=false) (Ev:(al.all fun x=>!Nat.beq x.1 i)=true) (CY:WS A i al us=true) (hx:∀ b,bY (zt (looks all ⟨none,.insert t x y z,ty,pos,af,none⟩) (refs us b++tm)) x=some (.cd b)) (hy:∀ b,bY (zt (looks all ⟨none,.insert t x y z,ty,pos,af,none⟩) (refs us b++tm)) y=some (gk key)) (hz:∀ b,bY (zt (looks all ⟨none,.insert t x y z,ty,pos,af,none⟩) (refs us b++tm)) z=some av) (ll:av=gv v) (k:AL P all n hp p al gk gv lit A (i+1) rest tm Q):
 AL P all n hp p al gk gv lit A i (⟨none,.insert t x y z,ty,pos,af,none⟩ :: rest) tm Q:=by
 intro hA
 obtain ⟨ln,h1,h2⟩:=k hA
 refine ⟨ln,.ins (us:=us) (List.mem_of_find?_eq_some hf) (fun e=>by subst e;simp at hip) (fun x hx e=>?_) rfl (J8 hA hb (by simp)) (Mo hA CY) (fun b M=>?_) h1,h2⟩
 ·have:=List.all_eq_true.1 Ev x hx;rw [e] at this;simp at this
 rw [G4]
 refine qu rfl (fun d' vu=>by cases vu) rfl (fun _=>rfl) ?_ (fun _ _=>rfl)
 exact JE (gk:=gk) (gv:=gv) (M:=M) (key:=key) (v:=v) (hx b) (hy b) (hz b) ll .here (ae.nil ⟨⟨none,0⟩,_,rfl,fun d' vu=>by cases vu⟩)
def J9 {α:Type} [DecidableEq α]:List α→Bool
 | []=>true
 | a :: l=>l.all (fun b=>!decide (a=b))&&J9 l
theorem ye {α:Type} [DecidableEq α]:∀ {l:List α},J9 l=true→l.Nodup
 | [],_=>List.nodup_nil
 | a :: l,h=>by
   simp only [J9,Bool.and_eq_true,List.all_eq_true] at h
   refine List.nodup_cons.2 ⟨fun hm=>?_,ye h.2⟩
   have:=h.1 a hm
   simp at this
theorem aa.Mp {R:St→Prop} {k:List It} {id:Nat} {tm:List (Nat×AV)} {l hd tl:List Oper} (m:Nat) (hm:P.follows .mixedOrders=true) (hs:Br m l=some (hd,tl)) (hA:Bq l.toArray=A) (Q5:BV l.toArray m A=true) (p:Nat) (al:List (Nat×Nat)) (gk:K→AV) (gv:V→AV) (lit:List (Nat×K×V)) (RB:J9 (lit.map (·.1))=true) (NN:J9 (lit.map (·.2.1))=true) (PJ:(Nat.blt p m&&(lit.all (fun x=>Nat.blt x.1 m)&&al.all (fun x=>Nat.blt x.1 m)))=true)
 (h:AL P l.toArray n hp p al gk gv lit A 0 hd tm (fun ln=>∀ b,ae P l.toArray tl ⟨n,refs al b++ln,(b,.mp ((lit.map (·.2)).map fun e=>(gk e.1,gv e.2))) :: hp⟩ (aa P R k))):aa P R (.code (.region id l.toArray true) :: k) ⟨n,tm,hp⟩:=by
 have hB:rI l.toArray m:=⟨A,hA,Q5⟩
 intro w S a r
 obtain ⟨hl,HA⟩:=qt hs
 obtain ⟨ln,Uk,qG⟩:=h hA
 obtain ⟨ie,en,e0,e1,e2⟩:=Uk.zU (m:=m) (w0:=w) (S0:=S) (ye RB) (ye NN)
 have eN:m≤l.toArray.size:=by simp [hl,HA]
 rw [Bool.and_eq_true,Bool.and_eq_true] at PJ
 refine wp_region_any hm ?_
 have ui:Ext w {w with drawn:=w.drawn+1}:=Ext.BO w _ (Nat.le_succ _)
 have hf:∀ k,(Array.replicate l.toArray.size false).getD k false=false:=by
  intro k
  rcases Nat.lt_or_ge k l.toArray.size with h | h
  ·simp at h;simp [h]
  ·simp at h;simp [Nat.not_lt.2 h]
 have LH:∀ k,oQ l.toArray ie (lk tm) (Array.replicate l.toArray.size false) k=lk tm:=by
  intro k
  induction k with
  | zero=>rfl
  | succ k ih=>simp only [oQ,ih];rw [if_neg (by rw [hf k];simp)]
 refine HV (P:=P) (all:=l.toArray) (n:=n) (m:=m) (ie:=ie) (en:=en) (e:=lk tm) (I:=IL w S hp p al gk gv lit) hB eN e0 (fun i o hi ho=>?_) (fun listed a' w' S' gB h1 h2 h3 h4 h5=>?_) l.toArray.size (Array.replicate l.toArray.size false) a _ S
  ⟨by simp,(fun k hk=>by rw [hf k] at hk;cases hk),(fun k i o hk=>by rw [hf k] at hk;cases hk)⟩ (by simp [List.count_replicate]) r.size r.defers (fun n hn=>r.hp.slt n hn) ?_ (by rw [LH];exact (r.ext ui).tm)
 ·have:l[i]? =some o:=by simpa using ho
  rw [hl,List.getElem?_append_left (by omega)] at this
  have:=e2 i o this
  rw [Nat.zero_add] at this
  exact this
 ·have Nx:l.toArray.toList.drop m=tl:=by
   simp only [hl,← HA]
   exact List.drop_left
  rw [Nx]
  have T9:en m=lk ln:=by rw [← HA];exact e1
  rw [T9] at h5
  unfold IL at h4
  rw [if_pos (gB p (by simpa using PJ.1)),Et (fun x hx=>gB x.1 (by have:=List.all_eq_true.1 PJ.2.1 x hx;simpa using this))] at h4
  obtain ⟨b,v,k1,k2,k3,k4⟩:=h4
  refine fF ?_ _ _ _ ((qG b).go (h:=hp) (w:=w) (S:=S) ⟨h1,h2,fun s av GL=>?_,k3⟩ k4)
  ·rintro ex a2 w2 ⟨rfl,Fo,S2,q1,q2,q3⟩
   exact ⟨Fo,S2,q1,q2,q3⟩
  ·have Ka:x5 (lk (refs al b)) (lk ln) s=some av:=by rw [G4];exact GL
   unfold x5 at Ka
   cases hr:lk (refs al b) s with
   | some dD=>
     rw [hr] at Ka
     obtain rfl:=Option.some.inj Ka
     obtain ⟨rfl,x,hx,rfl⟩:=CZ hr
     exact ⟨v,k1 x hx (gB x.1 (by have:=List.all_eq_true.1 PJ.2.2 x hx;simpa using this)),k2⟩
   | none=>
     rw [hr] at Ka
     exact h5 s av Ka
 ·unfold IL
  rw [if_neg (by rw [hf p];simp)]
  exact ⟨r.hp.ext ui,ic.ext (h:=hp) r.hp.slt ui⟩
end rules
end Go.Eng
namespace Go.Eng
open Go
variable [bt]
section rules
variable {P:Program} {all:Array Oper} {rest:List Oper} {n:Nat} {tm:List (Nat×AV)} {hp:Heap} {Q:St→Prop} {d:Nat} {ty:TypeId} {pos:String} {af:Array Edge}
end rules
section
variable {P:Program} {n:Nat} {tm:List (Nat×AV)} {hp:Heap} {d:Nat} {ty:TypeId} {pos:String} {af:Array Edge}
theorem OO {x y z:Operand} {ts:Array TypeId} {k:IntKind} {i j l:Int} (hx:bY tm x=some (.int k i)) (hy:bY tm y=some (.int k j)) (hz:bY tm z=some (.int k l)):QV P ⟨some d,.call {callee:=.builtin .max,args:=#[x,y,z],argTypes:=ts},ty,pos,af,none⟩ ⟨n,tm,hp⟩ (.int k (max (max i j) l)):=
 (fun w S a r=>⟨.int k (max (max i j) l),fun w1 _=>by
  have e:∀ i j:Int,(if i < j then j else i)=max i j:=by intro i j;rw [Int.max_def];split<;>split<;>omega
  simp [execOp,(aN (σ:=⟨n,tm,hp⟩) r hx).ca,(aN (σ:=⟨n,tm,hp⟩) r hy).ca,(aN (σ:=⟨n,tm,hp⟩) r hz).ca,resolve,invoke,builtin,Builtin.max_,Builtin.max2,e],.int _ _⟩)
end
section rules
variable {P:Program} {all:Array Oper} {rest:List Oper} {n:Nat} {tm:List (Nat×AV)} {hp:Heap} {Q:St→Prop} {d:Nat} {ty:TypeId} {pos:String} {af:Array Edge}
theorem Ew {sw vI:Type} {f:FuncId} {args:List Operand} {ts:Array TypeId} {l l':List AV} {h0 hr:Heap} {H H':sw→vI→Heap} {V:sw→vI→AV} [ba P f] (hl:wN tm args=some l) (c:aG P f l' h0 (T2 H V)) (hs:zu hp h0 hr) (co:r6 hr l l') (ha:∀ b c,ou (H b c) hr=some (H' b c)) (hV:∀ b c,(V b c).PF=true) (hH:∀ b c,D9 (H b c)) (hn:Nat.blt d n=true)
 (kk:∀ b c,ae P all rest ⟨n,(d,V b c) :: tm,H' b c⟩ Q):ae P all (⟨some d,.call {callee:=.value (.func f),args:=args.toArray,argTypes:=ts},ty,pos,af,none⟩ :: rest) ⟨n,tm,hp⟩ Q:=
 GQ hl c co hs.perm hn (fun r h' ⟨b,b2,e1,e2⟩=>by subst e1;subst e2;rw [kp (ha b b2)];exact ⟨hV b b2,hH b b2,kk b b2⟩)
end rules
theorem Ex {P:Program} {t t2 e E ty:TypeId} {i:TypeInfo} {w:World} (ht:P.underlying t=some (.slice e)) (hi:P.info? e=some i) (g off RE UI:Nat) (cur:Array Value) (hg:w.heap[g]? =some (.cells cur E (0,0)))
 (a:Addr) (mP sS k:Nat) (news:List Value) (hk:Nat.min mP RE=k) (hl:news.length=k * i.size) (I2:∀ (j:Nat) u,news[j]? =some u→w.cell? (a.add j)=some u) (h1:∀ u∈news,u.oneCell'=true)
 (DL:off+news.length≤cur.size):
 (Builtin.copy_ #[t,t2] ty #[.slice (some ⟨g,off,none⟩) RE UI,.slice (some a) mP sS]).run P w=
  .ok (goInt k) (w.setRow g (cur.toList.take off++news++cur.toList.drop (off+news.length)).toArray):=by
 have hf:=run_firstCells_some (P:=P) w i.size k a mP sS news hl I2
 have yC:=run_storeCells_at P g off E news 0 cur w hg (by simpa using DL) h1
 simp only [Nat.add_zero] at yC
 simp [Builtin.copy_,run_underlying ht,sizeOf,typeInfo,hi,Builtin.lenOf,hk,hf,yC]
section rules
variable {P:Program} {all:Array Oper} {rest:List Oper} {n:Nat} {tm:List (Nat×AV)} {hp:Heap} {Q:St→Prop} {d:Nat} {ty:TypeId} {pos:String} {af:Array Edge}
def vx (hp:Heap) (sz k N:Nat) (src:AV) (ys:List AV):Prop:=ys.length=k∧∀ (w:World) (S:Nat→Prop) (v:Value),ck w S hp→At w S src v→
 (∀ y∈ys,El sz y)∧∃ (a:Option Addr) (c len:Nat) (jc:List Value),v=.slice a len c∧Nat.min len N=k∧jc.length=k * sz∧gC w S (flat ys) jc.toArray∧∀ (i:Nat) u,jc[i]? =some u→∃ ad,a=some ad∧w.cell? (ad.add i)=some u
theorem vx.of {hp:Heap} {sz k N:Nat} {src:AV} {ys:List AV} (hs:Src hp sz src ys) (hk:Nat.min ys.length N=k):vx hp sz k N src (ys.take k):=by
 have WT:k≤ys.length:=by rw [← hk];exact Nat.min_le_left _ _
 refine ⟨by simp;omega,fun w S v r h=>?_⟩
 obtain ⟨k0,ad,c,jc,e2,k1,k2,k3⟩:=hs.at r h
 have hyl:k * sz≤ys.length * sz:=Nat.mul_le_mul_right _ WT
 refine ⟨fun y hy=>k0 y (List.mem_of_mem_take hy),ad,c,ys.length,jc.take (k * sz),e2,hk,by rw [List.length_take,k1];omega,?_,?_⟩
 ·rw [oO ys k k0]
  intro j c' u hc hu
  simp only [List.getElem?_toArray] at hu
  rw [List.getElem?_take] at hc hu
  split at hc
  ·rename_i hj
   rw [if_pos hj] at hu
   exact k2 j c' u hc (by simpa using hu)
  ·cases hc
 ·intro j u hu
  rw [List.getElem?_take] at hu
  split at hu
  ·exact k3 j u hu
  ·cases hu
theorem vx.over {hp:Heap} {sz k N off len:Nat} {b:Bk} {xs:List AV} (f:lj hp b (.arr sz xs)) (hk:Nat.min len N=k) (ho:off+k≤xs.length):vx hp sz k N (.sl sz b off len) ((xs.drop off).take k):=by
 have WT:k≤len:=by rw [← hk];exact Nat.min_le_left _ _
 refine ⟨by simp;omega,fun w S v r h=>?_⟩
 obtain ⟨oa,cap,rfl,e3⟩:=h.nv
 have mO:At w S (.sl sz b off k) (.slice oa k cap):=by
  rcases e3 with ⟨hb,Q2,hl,ha,hc⟩ | ⟨m,hb,ha,q1,q2⟩ | ⟨m,ad,hb,ha,hl,hc⟩
  ·obtain rfl:k=0:=by omega
   subst Q2 ha hc
   exact .zI sz b hb
  ·subst ha
   exact .sl sz b off k m cap hb (by omega) q2
  ·obtain rfl:k=0:=by omega
   subst ha hc
   exact .IG sz b off m ad hb
 obtain ⟨k0,ad,c,jc,e2,k1,k2,k3⟩:=xW r (.inl f) ho mO
 have hlen:((xs.drop off).take k).length=k:=by simp;omega
 rw [hlen] at e2 k1
 injection e2 with e4 e5 e6
 subst e4 e6
 exact ⟨k0,oa,cap,len,jc,rfl,hk,k1,k2,k3⟩
theorem Mq {t t2 e:TypeId} {i:TypeInfo} {x y:Operand} {src:AV} {b:Bk} {L N k sz:Nat} {xs ys:List AV} {bZ:Heap} [ay P t (.slice e)] [aP P e i] (hx:bY tm x=some (.sl sz b L N)) (hy:bY tm y=some src) (eN:Nat.beq i.size sz=true) (h0:Nat.blt 0 sz=true) (hn:Nat.blt d n=true)
 (hs:vx hp sz k N src ys) (Jy:0 < k) (WU:k≤N) (hL:L≤xs.length) (u:iw hp b (.arr sz xs) b (.arr sz (xs.take L++ys++xs.drop (L+k))) bZ)
 (kk:ae P all rest ⟨n,(d,.int .i64 (k:Nat)) :: tm,bZ⟩ Q):ae P all (⟨some d,.call {callee:=.builtin .copy,args:=#[x,y],argTypes:=#[t,t2]},ty,pos,af,none⟩ :: rest) ⟨n,tm,hp⟩ Q:=by
 refine ae.Dz rfl fun w S a r=>?_
 obtain rfl:i.size=sz:=Nat.eq_of_beq_eq_true eN
 have h0:0 < i.size:=by simpa using h0
 obtain ⟨WV,hs⟩:=hs
 obtain ⟨k0,ad,c,len,jc,e2,hmn,k1,k2,k3⟩:=hs w S _ r.hp (aN (σ:=⟨n,tm,hp⟩) r hy)
 obtain ⟨oa,cap,e1,e3⟩:=(aN (σ:=⟨n,tm,hp⟩) r hx).nv
 rcases e3 with ⟨_,_,hl,_,_⟩ | ⟨m,tz,rfl,q1,q2⟩ | ⟨_,_,_,_,hl,_⟩
 ·omega
 ·obtain ⟨g0,g1,⟨g2,_⟩ | ⟨m',vs,E,g2,g3,g4,g5⟩⟩:=jd r.hp (.inl u.lN)
  ·rw [g2] at tz;cases tz
  obtain rfl:m'=m:=by rw [g2] at tz;exact Option.some.inj tz
  have Gw:0 < jc.length:=by rw [k1];exact Nat.mul_pos (by omega) h0
  obtain ⟨Ls,rfl,_⟩:=k3 0 jc[0] (by simp [Gw])
  have vY:∀ u∈jc,u.oneCell'=true:=sn (cs:=flat ys) (vs:=jc.toArray) (by simp [k1,bA k0,WV]) k2 (zJ k0)
  have Nu:∀ (j:Nat) u,jc[j]? =some u→w.cell? (Ls.add j)=some u:=fun j u hu=>by
   obtain ⟨ad2,h1,h2⟩:=k3 j u hu
   obtain rfl:=Option.some.inj h1
   exact h2
  have yJ:(L+k) * i.size≤b.cap * i.size:=Nat.mul_le_mul_right _ (by omega)
  rw [Nat.add_mul] at yJ
  have hr:=Ex (P:=P) (t2:=t2) (ty:=ty) (ay.h (P:=P) (t:=t)) (aP.h (P:=P) (t:=e)) m' (L * i.size) N cap vs g3 Ls len c k jc hmn k1 Nu vY (by rw [k1,g4];exact yJ)
  have elz:∀ x∈xs.take L++ys++xs.drop (L+k),El i.size x:=fun x hx=>by
   rcases List.mem_append.1 hx with h | h
   ·rcases List.mem_append.1 h with h | h
    ·exact g0 x (List.mem_of_mem_take h)
    ·exact k0 x h
   ·exact g0 x (List.mem_of_mem_drop h)
  have hfx:=bA g0
  have zZ:(vs.toList.take (L * i.size)++jc++vs.toList.drop (L * i.size+jc.length)).toArray.size=b.cap * i.size:=by
   simp [k1];omega
  have Kb:∀ (j:Nat) (c':AV) (u:Value),(flat (xs.take L++ys++xs.drop (L+k)))[j]? =some c'→(vs.toList.take (L * i.size)++jc++vs.toList.drop (L * i.size+jc.length)).toArray[j]? =some u→At w S c' u:=by
   intro j c' u hc hu
   rw [j8,j8,oO xs L g0,sq xs (L+k) g0] at hc
   simp only [List.getElem?_toArray] at hu
   rw [k1] at hu
   have hA:((flat xs).take (L * i.size)).length=L * i.size:=by
    rw [List.length_take,hfx]
    have:=Nat.mul_le_mul_right i.size hL
    omega
   have hB:(flat ys).length=k * i.size:=by rw [bA k0,WV]
   have WW:(vs.toList.take (L * i.size)).length=L * i.size:=by simp;omega
   rcases Nat.lt_or_ge j (L * i.size) with h | h
   ·rw [List.append_assoc,List.getElem?_append_left (by omega),List.getElem?_take,if_pos h] at hc
    rw [List.append_assoc,List.getElem?_append_left (by omega),List.getElem?_take,if_pos h] at hu
    exact g5 j c' u hc (by simpa using hu)
   ·rcases Nat.lt_or_ge j (L * i.size+k * i.size) with h' | h'
    ·rw [List.getElem?_append_left (by rw [List.length_append];omega),List.getElem?_append_right (by omega),hA] at hc
     rw [List.getElem?_append_left (by rw [List.length_append,k1];omega),List.getElem?_append_right (by omega),WW] at hu
     exact k2 _ c' u hc (by simpa using hu)
    ·rw [List.getElem?_append_right (by rw [List.length_append];omega),List.length_append,hA,hB,List.getElem?_drop,Nat.add_mul] at hc
     rw [List.getElem?_append_right (by rw [List.length_append,k1];omega),List.length_append,WW,k1,List.getElem?_drop] at hu
     exact g5 _ c' u hc (by simpa using hu)
  generalize (vs.toList.take (L * i.size)++jc++vs.toList.drop (L * i.size+jc.length)).toArray=vZ at hr zZ Kb
  have nS:¬ S m':=fun hs=>(r.hp.sep _ u.lN.mem m' (kJ tz)).1 hs
  have ex:∀ k,S k→S k∧(w.setRow m' vZ).heap[k]? =w.heap[k]?:=fun k hk=>⟨hk,setRow_other w m' k _ (fun e=>nS (e▸hk))⟩
  have gb:GB w (w.setRow m' vZ) b.cy:=⟨⟨rfl,rfl,rfl,by simp,fun k _ hk=>setRow_other w m' k _ (fun e=>hk (by rw [tz,e]))⟩,fun _=>Nat.le_refl _⟩
  have UJ:(xs.take L++ys++xs.drop (L+k)).length≤b.cap:=by simp;omega
  obtain ⟨j1,j2,j3⟩:=kj r.hp u gb id id ⟨elz,UJ,.inr ⟨m',vZ,E,tz,setRow_heap w m' vs _ E _ g3,zZ,fun j c' v hc hv=>(Kb j c' v hc hv).mono ex⟩⟩ (.inl rfl)
  refine ⟨goInt k,w.setRow m' vZ,S,_,?_,(r.heap j3 j1).put hn (.int _ _),j2,kk⟩
  simp [execOp,resolve,invoke,builtin,e1,e2,hr]
 ·omega
theorem H3 {x:Operand} {t e:TypeId} {m len cap:Nat} [ay P t (.slice e)] (hx:bY tm x=some (Fq m len cap)):QV P ⟨some d,.call {callee:=.builtin .cap,args:=#[x],argTypes:=#[t]},ty,pos,af,none⟩ ⟨n,tm,hp⟩ (.int .i64 (cap:Nat)):=
 (fun w S a r=>⟨.int .i64 (cap:Nat),fun w1 _=>by
  have h1:=(aN (σ:=⟨n,tm,hp⟩) r hx).ki
  simp [execOp,h1,resolve,invoke,builtin,Builtin.cap_,run_underlying (ay.h (P:=P) (t:=t)),goInt],.int _ _⟩)
end rules
theorem OP {w:World} {S:Nat→Prop} {b b2:Bk} {sz WX:Nat} {xs ys:List AV} {rest:Heap} (r:ck w S ((b,.arr sz xs) :: (b2,.arr WX ys) :: rest)) {m:Nat} (h1:b.cy=some m) (h2:b2.cy=some m):False:=by
 have:=r.nodup
 simp [eb,Ob.more,h1,h2] at this
section rules
variable {P:Program} {all:Array Oper} {rest:List Oper} {n:Nat} {tm:List (Nat×AV)} {hp:Heap} {Q:St→Prop} {d:Nat} {ty:TypeId} {pos:String} {af:Array Edge}
theorem FU {t tb e:TypeId} {i:TypeInfo} {f:FuncId} {x y:Operand} {ts:Array TypeId} {b b2:Bk} {L N M sz:Nat} {xs ys:List AV} {zt:Heap} [ay P t (.slice e)] [aP P e i]
 (UK:∀ (args:Array Value) (w:World),(callFunc f args).run P w=((Extern.SlicesOverlaps.overlaps #[t,t] #[tb] args).run P w).andThen fun v w'=>.ok (.value v) w')
 (hx:bY tm x=some (.sl sz b2 0 M)) (hy:bY tm y=some (.sl sz b L N)) (hM:0 < M) (hN:0 < N) (eN:Nat.beq i.size sz=true) (h0:Nat.blt 0 sz=true) (hn:Nat.blt d n=true) (UL:hp=(b,.arr sz xs) :: (b2,.arr sz ys) :: zt)
 (kk:ae P all rest ⟨n,(d,.bool false) :: tm,hp⟩ Q):ae P all (⟨some d,.call {callee:=.value (.func f),args:=#[x,y],argTypes:=ts},ty,pos,af,none⟩ :: rest) ⟨n,tm,hp⟩ Q:=by
 refine ae.Dz rfl fun w S a r=>?_
 obtain rfl:i.size=sz:=Nat.eq_of_beq_eq_true eN
 have h0:0 < i.size:=by simpa using h0
 obtain ⟨oa,cap,e1,e3⟩:=(aN (σ:=⟨n,tm,hp⟩) r hx).nv
 obtain ⟨oa2,UM,e2,e4⟩:=(aN (σ:=⟨n,tm,hp⟩) r hy).nv
 have fb:lj hp b (.arr i.size xs):=by subst UL;exact (iw.here (b':=b) (o':=.arr i.size xs)).lN
 have fb2:lj hp b2 (.arr i.size ys):=by subst UL;exact (iw.next (iw.here (b':=b2) (o':=.arr i.size ys))).lN
 rcases e3 with ⟨_,_,hl,_,_⟩ | ⟨m2,Kc,rfl,q1,q2⟩ | ⟨_,_,_,_,hl,_⟩
 ·omega
 ·rcases e4 with ⟨_,_,hl,_,_⟩ | ⟨m,tz,rfl,q3,q4⟩ | ⟨_,_,_,_,hl,_⟩
  ·omega
  ·obtain ⟨g0,g1,⟨g2,_⟩ | ⟨m',vs,E,g2,g3,g4,g5⟩⟩:=jd r.hp (.inl fb)
   ·rw [g2] at tz;cases tz
   obtain rfl:m'=m:=by rw [g2] at tz;exact Option.some.inj tz
   obtain ⟨j0,j1,⟨j2,_⟩ | ⟨UN,vs2,E2,j2,j3,j4,j5⟩⟩:=jd r.hp (.inl fb2)
   ·rw [j2] at Kc;cases Kc
   obtain rfl:UN=m2:=by rw [j2] at Kc;exact Option.some.inj Kc
   have tE:UN≠m':=by
    intro h
    subst h
    have rr:=r.hp
    subst UL
    exact OP rr tz Kc
   have DR:0 < b.cap * i.size:=Nat.mul_pos (by omega) h0
   have WY:=Lib.run_overlaps_apart (P:=P) w t tb e (ay.h (P:=P) (t:=t)) i.size (fun w=>by simp [sizeOf,typeInfo,aP.h (P:=P) (t:=e)]) ⟨UN,0 * i.size,none⟩ ⟨m',L * i.size,none⟩ M cap N UM tE E2 E vs2.size vs.size (by simp [World.shape?,j3]) (by simp [World.shape?,g3]) (by rw [g4];omega) (by simp [World.frozen?,j3]) (by simp [World.frozen?,j3])
   refine ⟨.bool false,w,S,_,?_,r.put hn (.bool _),ic.refl _ _ _,kk⟩
   simp only [Nat.zero_mul] at WY
   have ef:a.eval (Operand.func f)=Value.func (.func f) #[] #[]:=rfl
   simp [execOp,resolve,Deferred.ofValue,ef,invoke,e1,e2,UK,WY,Result.andThen]
  ·omega
 ·omega
end rules
theorem yf {P:Program} {w:World} (t tn ty e:TypeId) (i:TypeInfo) (z:Value) (k kn:IntKind) (ht:P.underlying t=some (.slice e)) (htn:P.underlying tn=some (.int kn)) (hi:P.info? e=some i) (hz:i.zero=some z)
 (b:Addr) (mP sS:Nat) (ud:List Value) (hlo:ud.length=mP * i.size) (holds:∀ (j:Nat) v,ud[j]? =some v→w.cell? (b.add j)=some v)
 (n:Nat) (h0:0 < n) (hs:0 < i.size) (hg:sS < mP+n) (QU:((mP+n:Nat):Int)≤9223372036854775807) (hb:(mP+n) * i.bytes≤140737488355328):
 (Builtin.append_ #[t,tn] ty #[.slice (some b) mP sS,.int k n]).run P w=
  .ok (.slice (some ⟨w.heap.size,0,none⟩) (mP+n) (grownCap w (mP+n) sS e))
   (w.drew.alloc (.cells (ud.toArray++Builtin.zeroCells z.cells n++Builtin.zeroCells z.cells (grownCap w (mP+n) sS e - (mP+n))) e)):=by
 have WZ:n≠0:=by omega
 have hw:IntKind.i64.wrap (n:Int)=n:=by rw [IntKind.wrap_i64];omega
 have hn:¬ (mP+n≤sS):=by omega
 have UO:¬ (9223372036854775807 < ((mP:Int)+(n:Int))):=by omega
 have DL:=growslice_fits (need:=mP+n) (old:=sS) (bytes:=i.bytes) hg hb
 have UP:¬ (281474976710656 < Builtin.nextslicecap (mP+n) sS * i.bytes):=by omega
 have hnb:n * i.bytes≤(mP+n) * i.bytes:=Nat.mul_le_mul_right _ (by omega)
 have UQ:¬ (281474976710656 < (n:Int) * (i.bytes:Int)):=by
  rw [← Int.natCast_mul]
  omega
 have UR:¬ ((n:Int) < 0):=by omega
 have hns:¬ (n * i.size=0):=Nat.mul_ne_zero WZ (by omega)
 have hfo:=run_firstCells_some (P:=P) w.drew i.size mP b mP sS ud hlo (by simpa using holds)
 simp [Builtin.append_,run_underlying ht,run_underlying htn,sizeOf,typeInfo,zeroValue,hi,hz,asInt,asIntOf,hw,hn,WZ,UR,hns,UO,UP,UQ,Question.forced,hfo,newRow,grownCap]
section rules
variable {P:Program} {all:Array Oper} {rest:List Oper} {n:Nat} {tm:List (Nat×AV)} {hp:Heap} {Q:St→Prop} {d:Nat} {ty:TypeId} {pos:String} {af:Array Edge}
theorem FV {α:Type} {g:α→AV} {Z:α} {Xs:List α} {t tn e:TypeId} {i:TypeInfo} {z:Value} {x y:Operand} {k kn:IntKind} {K:Int} {sz m len cap:Nat} {b:Bk} [ay P t (.slice e)] [ay P tn (.int kn)] [aP P e i]
 (hx:bY tm x=some (Fq m len cap)) (hy:bY tm y=some (.int k K)) (hz:i.zero=some z) (hg:zO z=g Z) (hs:i.size=sz) (tF:PA sz (g Z)=true) (wO:Nat.blt 0 sz=true) (hb:Nat.ble i.bytes 65536=true) (hn:Nat.blt d n=true)
 (tz:b.cy=some m) (f:lj hp b (.arr sz (Xs.map g))) (hlen:len≤Xs.length) (hK:0 < K) (DR:cap < len+K.toNat) (aa4:(len:Int)+K≤1000000000)
 (kk:∀ b':Bk,ae P all rest ⟨n,(d,.sl sz b' 0 (len+K.toNat)) :: tm,(b',.arr sz ((Xs.take len++List.replicate K.toNat Z).map g)) :: hp⟩ Q):ae P all (⟨some d,.call {callee:=.builtin .append,args:=#[x,y],argTypes:=#[t,tn]},ty,pos,af,none⟩ :: rest) ⟨n,tm,hp⟩ Q:=by
 subst hs
 have wO:0 < i.size:=Nat.lt_of_lt_of_le (Nat.lt_of_succ_le (Nat.le_of_ble_eq_true wO)) (Nat.le_refl _)
 have hb:=Nat.le_of_ble_eq_true hb
 refine ae.Dz rfl fun w S a r=>?_
 have e1:=(aN (σ:=⟨n,tm,hp⟩) r hx).ki
 have e2:=(aN (σ:=⟨n,tm,hp⟩) r hy).ca
 have hE:=zQ tF
 obtain ⟨hl,mO⟩:=nO w S z (by rw [hg];exact hE.2)
 rw [hg] at hl mO
 have xR:z.cells.size=i.size:=by rw [← hl];exact hE.1
 obtain ⟨g0,g1,⟨g2,_⟩ | ⟨m',vs,E,g2,g3,g4,g5⟩⟩:=jd r.hp (.inl f)
 ·rw [g2] at tz;cases tz
 obtain rfl:m'=m:=by rw [g2] at tz;exact Option.some.inj tz
 obtain ⟨K',rfl⟩:∃ K':Nat,K=K':=⟨K.toNat,by omega⟩
 simp only [Int.toNat_natCast] at *
 have Q6:len≤b.cap:=by rw [List.length_map] at g1;omega
 have hmul:=Nat.mul_le_mul_right i.size Q6
 have PK:(vs.toList.take (len * i.size)).length=len * i.size:=by simp;omega
 have hbb:(len+K') * i.bytes≤1000000000 * 65536:=Nat.mul_le_mul (by omega) hb
 have hr:=yf (P:=P) (w:=w) t tn ty e i z k kn (ay.h (P:=P) (t:=t)) (ay.h (P:=P) (t:=tn)) (aP.h (P:=P) (t:=e)) hz ⟨m',0,none⟩ len cap (vs.toList.take (len * i.size)) PK (fun j u hu=>by
  rw [jw,Nat.zero_add,nk g3]
  rw [List.getElem?_take] at hu
  split at hu
  ·simpa using hu
  ·cases hu) K' (by omega) wO DR (by omega) (by omega)
 have Of:=grownCap_ge w (len+K') cap e
 have ex:Ext w (w.drew.alloc (.cells ((vs.toList.take (len * i.size)).toArray++Builtin.zeroCells z.cells K'++Builtin.zeroCells z.cells (grownCap w (len+K') cap e - (len+K'))) e)):=(Ext.BO w _ (Nat.le_succ _)).trans (Ext.alloc w.drew _)
 generalize grownCap w (len+K') cap e=cp at *
 have US:(Xs.take len++List.replicate K' Z).map g=(Xs.map g).take len++List.replicate K' (g Z):=by simp
 have Gt:(Builtin.zeroCells z.cells K').size=K' * i.size:=by rw [size_zeroCells,xR]
 have Bt:∀ (j:Nat) (v:Value),(Builtin.zeroCells z.cells K')[j]? =some v→z.cells[j % i.size]? =some v:=by
  intro j v hv
  unfold Builtin.zeroCells at hv
  simp only [Array.getElem?_map,Option.map_eq_some_iff] at hv
  obtain ⟨q,hq,rfl⟩:=hv
  have:q=j:=by
   rw [Array.getElem?_eq_some_iff] at hq
   obtain ⟨h1,h2⟩:=hq
   simpa using h2.symm
  subst this
  rw [xR]
  have iv:q % i.size < z.cells.size:=by rw [xR];exact Nat.mod_lt _ wO
  simp [iv]
 have PE:∀ x∈(Xs.map g).take len++List.replicate K' (g Z),El i.size x:=fun x hx=>by
  rcases List.mem_append.1 hx with h | h
  ·exact g0 x (List.mem_of_mem_take h)
  ·rw [List.eq_of_mem_replicate h];exact hE
 have hh:Holds (w.drew.alloc (.cells ((vs.toList.take (len * i.size)).toArray++Builtin.zeroCells z.cells K'++Builtin.zeroCells z.cells (cp - (len+K'))) e)) S ⟨some w.heap.size,cp⟩ (.arr i.size ((Xs.take len++List.replicate K' Z).map g)):=by
  rw [US]
  refine ⟨PE,by simp;omega,.inr ⟨w.heap.size,(vs.toList.take (len * i.size)).toArray++Builtin.zeroCells z.cells K'++Builtin.zeroCells z.cells (cp - (len+K')),e,rfl,?_,?_,fun j cc v HI hv=>?_⟩⟩
  ·show (w.heap.push _)[w.heap.size]? =_
   simp
  ·simp only [Array.size_append,List.size_toArray,size_zeroCells,xR,PK]
   rw [← Nat.add_mul,← Nat.add_mul]
   congr 1
   omega
  ·have DH:=(List.getElem?_eq_some_iff.1 HI).1
   rw [bA PE] at DH
   have Nx:((Xs.map g).take len).length=len:=by rw [List.length_take,List.length_map];omega
   rw [List.length_append,Nx,List.length_replicate] at DH
   rw [j8,oO _ len g0] at HI
   have hA:((flat (Xs.map g)).take (len * i.size)).length=len * i.size:=by
    rw [List.length_take,bA g0,List.length_map]
    have:=Nat.mul_le_mul_right i.size hlen
    omega
   rw [Nat.add_mul] at DH
   rw [Array.getElem?_append_left (by simp only [Array.size_append,List.size_toArray,Gt,PK];omega)] at hv
   rcases Nat.lt_or_ge j (len * i.size) with h | h
   ·rw [List.getElem?_append_left (by omega),List.getElem?_take,if_pos h] at HI
    rw [Array.getElem?_append_left (by simp only [List.size_toArray,PK];omega),List.getElem?_toArray,List.getElem?_take,if_pos h] at hv
    exact (g5 j cc v HI (by simpa using hv)).mono fun m hm=>⟨hm,ex.same m (r.hp.slt m hm)⟩
   ·rw [List.getElem?_append_right (by omega),hA,Aa hE.1 _ _ (by omega)] at HI
    rw [Array.getElem?_append_right (by simp only [List.size_toArray,PK];omega)] at hv
    simp only [List.size_toArray,PK] at hv
    exact (mO _ _ _ HI (Bt _ v hv)).mono fun m hm=>⟨hm,ex.same m (r.hp.slt m hm)⟩
 obtain ⟨k1,k2,k3⟩:=o4 r.hp ex id hh (.inr ⟨_,rfl,Nat.le_refl _⟩)
 refine ⟨.slice (some ⟨w.heap.size,0,none⟩) (len+K') cp,_,S,_,?_,(r.heap k3 k1).put hn ?_,k2,kk ⟨some w.heap.size,cp⟩⟩
 ·simp [execOp,resolve,invoke,builtin,e1,e2,hr]
 ·have:=At.sl (w:=w.drew.alloc (.cells ((vs.toList.take (len * i.size)).toArray++Builtin.zeroCells z.cells K'++Builtin.zeroCells z.cells (cp - (len+K'))) e)) (S:=S) i.size ⟨some w.heap.size,cp⟩ 0 (len+K') w.heap.size cp rfl Of (by simp)
  simpa using this
end rules
def Mr {α:Type} (xs:List α) (i:Int) (ys:List α):Option (List α):=match ys with
 | [y]=>if 0≤i∧i≤xs.length∧(xs.length:Int) < 1000000 then some (xs.take i.toNat++y :: xs.drop i.toNat) else none
 | _=>none
theorem H4 {α:Type} {xs ys r:List α} {i:Int} (h:Mr xs i ys=some r):∃ (y:α) (k:Nat),ys=[y]∧i=k∧k≤xs.length∧xs.length < 1000000∧r=xs.take k++y :: xs.drop k:=by
 unfold Mr at h
 split at h
 ·rename_i y
  split at h
  ·rename_i hc
   exact ⟨y,i.toNat,rfl,by omega,by omega,by omega,(Option.some.inj h).symm⟩
  ·cases h
 ·cases h
theorem vx.whole {α:Type} {g:α→AV} {hp:Heap} {sz N:Nat} {b:Bk} {Ys:List α} (f:lj hp b (.arr sz (Ys.map g))) (hN:Ys.length≤N):vx hp sz Ys.length N (.sl sz b 0 Ys.length) (Ys.map g):=by
 have:=vx.of (k:=Ys.length) (N:=N) (Src.whole (hp:=hp) (sz:=sz) b Ys.length (Ys.map g) (.inl f) (by simp)) (by rw [List.length_map];exact Nat.min_eq_left hN)
 rwa [List.take_of_length_le (by simp)] at this
theorem vx.NP {α:Type} {g:α→AV} {hp:Heap} {sz k N off len:Nat} {b:Bk} {Xs:List α} (f:lj hp b (.arr sz (Xs.map g))) (hk:Nat.min len N=k) (ho:off+k≤Xs.length):vx hp sz k N (.sl sz b off len) (((Xs.drop off).take k).map g):=by
 have:=vx.over f hk (by simpa using ho)
 rwa [← List.map_drop,← List.map_take] at this
section rules
variable {P:Program} {all:Array Oper} {rest:List Oper} {n:Nat} {tm:List (Nat×AV)} {hp:Heap} {Q:St→Prop} {d:Nat} {ty:TypeId} {pos:String} {af:Array Edge}
theorem C0 {α:Type} {g:α→AV} {Xs Ys Zs:List α} {t t2 e:TypeId} {i:TypeInfo} {x y:Operand} {src:AV} {b:Bk} {L N k sz:Nat} {bZ:Heap} [ay P t (.slice e)] [aP P e i] (hx:bY tm x=some (.sl sz b L N)) (hy:bY tm y=some src) (eN:Nat.beq i.size sz=true) (h0:Nat.blt 0 sz=true) (hn:Nat.blt d n=true)
 (hs:vx hp sz k N src (Ys.map g)) (Jy:0 < k) (WU:k≤N) (hL:L≤Xs.length) (hz:Xs.take L++Ys++Xs.drop (L+k)=Zs) (u:iw hp b (.arr sz (Xs.map g)) b (.arr sz (Zs.map g)) bZ)
 (kk:ae P all rest ⟨n,(d,.int .i64 (k:Nat)) :: tm,bZ⟩ Q):ae P all (⟨some d,.call {callee:=.builtin .copy,args:=#[x,y],argTypes:=#[t,t2]},ty,pos,af,none⟩ :: rest) ⟨n,tm,hp⟩ Q:=by
 subst hz
 refine Mq (xs:=Xs.map g) (ys:=Ys.map g) hx hy eN h0 hn hs Jy WU (by simpa using hL) (by rw [List.map_append,List.map_append,List.map_take,List.map_drop] at u;exact u) kk
end rules
theorem Ms {α:Type} {Xs:List α} {k:Nat} {y Z:α} (hk:k < Xs.length):(Xs.take k++List.replicate (Xs.length+1 - k) Z).take k++[y]++(Xs.take k++List.replicate (Xs.length+1 - k) Z).drop (k+1)=Xs.take k++y :: List.replicate (Xs.length - k) Z:=by
 have h1:(Xs.take k).length=k:=by simp;omega
 rw [List.take_left' h1,show Xs.length+1 - k=(Xs.length - k)+1 by omega,List.replicate_succ]
 rw [show k+1=(Xs.take k).length+1 by omega,List.drop_append]
 simp
theorem Mt {α:Type} {Xs:List α} {k:Nat} {y Z:α} (hk:k < Xs.length):(Xs.take k++y :: List.replicate (Xs.length - k) Z).take (k+1)++(Xs.drop k).take (Xs.length - k)++(Xs.take k++y :: List.replicate (Xs.length - k) Z).drop (k+1+(Xs.length - k))=Xs.take k++y :: Xs.drop k:=by
 have h1:(Xs.take k).length=k:=by simp;omega
 have h2:(Xs.take k++y :: List.replicate (Xs.length - k) Z).drop (k+1+(Xs.length - k))=[]:=List.drop_eq_nil_of_le (by simp;omega)
 rw [h2,List.append_nil,List.take_of_length_le (l:=Xs.drop k) (by simp)]
 have:(Xs.take k++y :: List.replicate (Xs.length - k) Z).take (k+1)=Xs.take k++[y]:=by
  rw [show Xs.take k++y :: List.replicate (Xs.length - k) Z=(Xs.take k++[y])++List.replicate (Xs.length - k) Z by simp]
  exact List.take_left' (by simp;omega)
 rw [this]
 simp
theorem H5 {α:Type} {Xs:List α} {k:Nat} {x:α} (hk:k < Xs.length) (hx:Xs[k]? =some x):Xs.take (k+1)++(Xs.drop k).take (Xs.length - k)++Xs.drop (k+1+(Xs.length - k))=Xs.take k++x :: Xs.drop k:=by
 have h2:Xs.drop (k+1+(Xs.length - k))=[]:=List.drop_eq_nil_of_le (by omega)
 rw [h2,List.append_nil,List.take_of_length_le (l:=Xs.drop k) (by simp),List.take_add_one,hx]
 simp
theorem Mu {α:Type} {Xs:List α} {k:Nat} {x y:α} (hk:k < Xs.length):(Xs.take k++x :: Xs.drop k).take k++[y]++(Xs.take k++x :: Xs.drop k).drop (k+1)=Xs.take k++y :: Xs.drop k:=by
 have h1:(Xs.take k).length=k:=by simp;omega
 rw [List.take_left' h1,show k+1=(Xs.take k).length+1 by omega,List.drop_append]
 simp
theorem FW {K V:Type} {w:World} {S:Nat→Prop} {hp pj:Heap} {bm:Bk} {gk:K→AV} {v1 v2:V→AV} {M:List (K×V)} (L4:∀ a b,gk a=gk b→a=b) (r:ck w S hp) (u:iw hp bm (.mp (M.map fun e=>(gk e.1,v1 e.2))) bm (.mp (M.map fun e=>(gk e.1,v2 e.2))) pj)
 (hc:∀ e∈M,∀ x,At w S (v1 e.2) x→At w S (v2 e.2) x):ck w S pj∧ic w S hp w S pj:=by
 have f:=u.lN
 obtain ⟨L,c,M2,n,ee,p1,p2,p3,p4,p5,p6,p7,p8⟩:=tc (gv:=v1) L4 r f
 obtain ⟨n',RF,g1,g2,g3,g4,g5,g6,g7⟩:=p3
 have hM2:∀ x∈M2,x∈M:=fun x hx=>p1.mem_iff.1 hx
 let cv:lM×(K×V)→lM:=fun z=>⟨z.1.k,v2 z.2.2,z.1.born⟩
 have hlen:L.length=M2.length:=by have:=congrArg List.length p2;simpa using this
 have S5:(L.zip M2).map (fun z=>z.1)=L:=List.map_fst_zip (by omega)
 have W0:(L.zip M2).map (fun z=>z.2)=M2:=List.map_snd_zip (by omega)
 have SY:∀ z∈L.zip M2,z.1.k=gk z.2.1∧z.1.v=v1 z.2.2:=fun z hz=>by
  obtain ⟨i,hi,PL⟩:=List.getElem_of_mem hz
  have CL:i < L.length:=by simp at hi;omega
  have DU:i < M2.length:=by omega
  have DA:z=(L[i],M2[i]):=by rw [← PL,List.getElem_zip]
  have h1:(L.map lM.kv)[i]? =(M2.map fun e=>(gk e.1,v1 e.2))[i]?:=by rw [p2]
  rw [List.getElem?_map,List.getElem?_map,List.getElem?_eq_getElem CL,List.getElem?_eq_getElem DU] at h1
  have h2:=Prod.mk.inj (Option.some.inj h1)
  rw [DA];exact h2
 have hH:Holds w S bm (.mp (M.map fun e=>(gk e.1,v2 e.2))):=by
  refine ⟨(L.zip M2).map cv,c,?_,n',RF,g1,g2,by rw [g3];simp;omega,fun i e m he hm=>?_,fun e he=>?_,?_,?_⟩
  ·have e1:((L.zip M2).map cv).map lM.kv=M2.map (fun x=>(gk x.1,v2 x.2)):=by
    conv=>rhs;rw [← W0]
    rw [List.map_map,List.map_map]
    refine List.map_congr_left fun z hz=>?_
    show (z.1.k,v2 z.2.2)=(gk (z.2).1,v2 (z.2).2)
    rw [(SY z hz).1]
   rw [e1]
   exact p1.map _
  ·rw [List.getElem?_map] at he
   cases PL:(L.zip M2)[i]? with
   | none=>rw [PL] at he;cases he
   | some z=>
     rw [PL] at he
     obtain rfl:=Option.some.inj he
     have hz:z∈L.zip M2:=List.mem_of_getElem? PL
     have SX:L[i]? =some z.1:=by
      have:((L.zip M2).map (fun z=>z.1))[i]? =some z.1:=by rw [List.getElem?_map,PL];rfl
      rw [S5] at this;exact this
     obtain ⟨a1,a2,a3⟩:=g4 i z.1 m SX hm
     refine ⟨a1,a2,?_⟩
     have hx:=hM2 z.2 (by rw [← W0];exact List.mem_map.2 ⟨z,hz,rfl⟩)
     rw [(SY z hz).2] at a3
     exact hc z.2 hx _ a3
  ·obtain ⟨z,hz,rfl⟩:=List.mem_map.1 he
   exact g5 z.1 (by rw [← S5];exact List.mem_map.2 ⟨z,hz,rfl⟩)
  ·rw [List.map_map]
   have:(L.zip M2).map ((fun e:lM=>e.born)∘cv)=L.map (·.born):=by
    conv=>rhs;rw [← S5,List.map_map]
    rfl
   rw [this];exact g6
  ·rw [List.map_map]
   have:(L.zip M2).map ((fun e:lM=>e.k)∘cv)=L.map (·.k):=by
    conv=>rhs;rw [← S5,List.map_map]
    rfl
   rw [this];exact g7
 obtain ⟨r1,e1,_⟩:=kj r u (ve w bm.cy) id id hH (.inl rfl)
 exact ⟨r1,e1⟩
def Ey {K V:Type} (L:List V) (M:List (K×Int)):Option (List (K×V)):=(idxs L (M.map Prod.snd)).bind fun vs=>some ((M.map Prod.fst).zip vs)
theorem aj.RG {n:Nat} {tm:List (Nat×AV)} {hp pj II:Heap} {T:St→Prop} {K V:Type} {kb:Bk→(Nat→Bk)→V→List (Bk×PO)} {fs:V→List AV} {gk:K→AV} {bo:Nat→Bk} {bs:Nat→Nat→Bk} {L:List V} {M:List (K×Int)} {M':List (K×V)} {bm bp:Bk} (KK:KB kb fs) (L4:∀ a b,gk a=gk b→a=b)
 (hv:Ey L M=some M') (UT:zu hp [(bp,.bS (fI kb bo bs L))] pj) (u:iw pj bm (.mp (M.map fun e=>(gk e.1,pA bo e.2))) bm (.mp (M'.map fun e=>(gk e.1,.ji (fs e.2)))) II) (k:aj ⟨n,tm,II⟩ T):aj ⟨n,tm,hp⟩ T:=by
 obtain ⟨vs,SO,hM'⟩:∃ vs,idxs L (M.map Prod.snd)=some vs∧M'=(M.map Prod.fst).zip vs:=by
  unfold Ey at hv
  cases h:idxs L (M.map Prod.snd) with
  | none=>rw [h] at hv;cases hv
  | some vs=>rw [h] at hv;exact ⟨vs,rfl,(Option.some.inj hv).symm⟩
 have hlen:vs.length=M.length:=by rw [Ep SO,List.length_map]
 obtain ⟨Z,hZ⟩:∃ Z:List (K×(Int×V)),Z=(M.zip vs).map fun z=>(z.1.1,(z.1.2,z.2)):=⟨_,rfl⟩
 have UU:Z.map (fun e=>(gk e.1,pA bo e.2.1))=M.map fun e=>(gk e.1,pA bo e.2):=by
  rw [hZ,List.map_map]
  have:(M.zip vs).map (fun z=>z.1)=M:=List.map_fst_zip (by omega)
  conv=>rhs;rw [← this]
  rw [List.map_map];rfl
 have hZ2:Z.map (fun e=>(gk e.1,AV.ji (fs e.2.2)))=M'.map fun e=>(gk e.1,AV.ji (fs e.2)):=by
  rw [hZ,hM',List.map_map,List.zip_map_left,List.map_map];rfl
 have hZ3:∀ e∈Z,idx L e.2.1=some e.2.2:=by
  intro e he
  rw [hZ] at he
  obtain ⟨z,hz,rfl⟩:=List.mem_map.1 he
  obtain ⟨j,hj,hzj⟩:=List.getElem_of_mem hz
  have PM:j < M.length:=by simp at hj;omega
  have W1:j < vs.length:=by omega
  have DA:z=(M[j],vs[j]):=by rw [← hzj,List.getElem_zip]
  obtain ⟨y,hy,S6⟩:=Er SO j (M[j].2) (by simp [PM])
  rw [List.getElem?_eq_getElem W1,Option.some.injEq] at hy
  rw [DA]
  show idx L M[j].2=some vs[j]
  rw [hy];exact S6
 refine aj.step (zr:=⟨n,tm,II⟩) (fun w S a r=>?_) k
 obtain ⟨g0,e0⟩:=r.hp.same UT.perm
 let h0:Heap:=[(bp,.bS (fI kb bo bs L))]
 let S':Nat→Prop:=SB S h0
 have mono:∀ m,S m→S' m∧w.heap[m]? =w.heap[m]?:=fun m hm=>⟨.inl hm,rfl⟩
 have Bo:=g0.nodup
 have FM:pj.Sublist (h0++pj):=List.sublist_append_right _ _
 have Kd:h0.Sublist (h0++pj):=List.sublist_append_left _ _
 have nJ:ck w S' pj:=by
  refine ⟨Bo.sublist (yz FM),fun e he=>(g0.holds e (FM.subset he)).mono mono (fun _ _=>rfl),fun e he m hm=>?_,fun m hm=>?_,fun g o ho=>⟨.inl (r.hp.gq g o ho).1,(r.hp.gq g o ho).2⟩⟩
  ·rw [← g0.sep e (FM.subset he) m hm]
   refine ⟨fun hs=>hs.elim id fun ⟨x,hx,Bd⟩=>?_,.inl⟩
   exfalso
   rw [List.flatMap_append,List.nodup_append] at Bo
   exact Bo.2.2 m (List.mem_flatMap.2 ⟨x,hx,Bd⟩) m (List.mem_flatMap.2 ⟨e,he,hm⟩) rfl
  ·rcases hm with h | ⟨x,hx,Bd⟩
   ·exact r.hp.slt m h
   ·exact g0.lt ⟨x,Kd.subset hx,Bd⟩
 obtain ⟨q1,q2⟩:=FW (K:=K) (V:=Int×V) (v1:=fun z=>pA bo z.1) (v2:=fun z=>.ji (fs z.2)) (M:=Z) L4 nJ (by rw [UU,hZ2];exact u) (fun e he x hx=>by
  have ux:At w S (pA bo e.2.1) x:=by
   unfold pA at hx ⊢
   cases hx with
   | ptr _ _ n hb=>exact .ptr _ _ n hb
  exact (qd.UC KK (hZ3 e he) .here).at (g0.sub Kd) ux)
 have hr:=r.heap mono nJ
 have Jp:ic w S hp w S' pj:=⟨rfl,rfl,rfl,Nat.le_refl _,mono,fun m hm hh=>⟨rfl,fun hs=>hs.elim id fun ⟨x,hx,Bd⟩=>(hh ⟨x,UT.perm.mem_iff.2 (Kd.subset hx),Bd⟩).elim⟩,fun m hm=>.inl (by
  obtain ⟨e,he,hb⟩:=hm
  exact ⟨e,UT.perm.mem_iff.2 (FM.subset he),hb⟩),fun _=>Nat.le_refl _⟩
 exact ⟨_,S',rfl,hr.heap (fun m hm=>⟨hm,rfl⟩) q1,Jp.trans q2⟩
end Go.Eng
