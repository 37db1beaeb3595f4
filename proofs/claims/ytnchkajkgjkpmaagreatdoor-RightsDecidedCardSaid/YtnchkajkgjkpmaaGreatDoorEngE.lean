/- The engine: abstract values, the symbolic heap, one rule for each operation. No program in sight. -/
import Derived.Test.YtnchkajkgjkpmaaGreatDoorEngD
import Derived.Laws.Runes
import Derived.Laws.Concat
import Derived.Lib.LaidU8
import Derived.Lib.LaidTab
import Derived.HandedShaped
import Derived.Lib.ConvBytes
import Derived.Shelf.Strings.BuilderF
set_option linter.unusedVariables false
set_option linter.unusedSimpArgs false
set_option linter.unusedSectionVars false
namespace Go.Eng
open Go
variable [bc]
def j5 {X A:Type} (o:Option X) (a:A) (f:X→A):A:=match o with
 | none=>a
 | some x=>f x
theorem Ld {X A:Type} {o:Option X} {a r:A} {f:X→A} {C:Prop} (h:j5 o a f=r) (kn:o=none→a=r→C) (ks:∀ x,o=some x→f x=r→C):C:=by
 cases o with
 | none=>exact kn rfl h
 | some x=>exact ks x rfl h
@[reducible] def TM {X:Type} (o:Option X) (A:AV→Heap→Prop) (B:X→AV→Heap→Prop):AV→Heap→Prop:=match o with
  | none=>A
  | some x=>B x
theorem xp {P:Program} {f:FuncId} {args:List AV} {h0:Heap} {X:Type} {o:Option X} {A:AV→Heap→Prop} {B:X→AV→Heap→Prop} (e:o=none) (c:ACall P f args h0 (TM o A B)):ACall P f args h0 A:=by
 subst e;exact c
theorem xq {P:Program} {f:FuncId} {args:List AV} {h0:Heap} {X:Type} {o:Option X} {x:X} {A:AV→Heap→Prop} {B:X→AV→Heap→Prop} (e:o=some x) (c:ACall P f args h0 (TM o A B)):ACall P f args h0 (B x):=by
 subst e;exact c
def T4 {Gr PH PI PJ:Type} (H:Gr→PH→PI→PJ→Heap) (V:Gr→PH→PI→PJ→AV):AV→Heap→Prop:=fun v h=>∃ b0 b1 b2 b3,h=H b0 b1 b2 b3∧v=V b0 b1 b2 b3
def T6 {Gr PH PI PJ X1 X2:Type} (H:Gr→PH→PI→PJ→X1→X2→Heap) (V:Gr→PH→PI→PJ→X1→X2→AV):AV→Heap→Prop:=fun v h=>∃ b0 b1 b2 b3 b4 b5,h=H b0 b1 b2 b3 b4 b5∧v=V b0 b1 b2 b3 b4 b5
section rules
variable {P:Program} {all:Array Oper} {rest:List Oper} {n:Nat} {tm:List (Nat×AV)} {hp:Heap} {Q:St→Prop} {d:Nat} {ty:TypeId} {pos:String} {af:Array Edge}
theorem Sh {Gr PH PI PJ:Type} {f:FuncId} {args:List Operand} {ts:Array TypeId} {l l':List AV} {h0 hr:Heap} {H H':Gr→PH→PI→PJ→Heap} {V:Gr→PH→PI→PJ→AV} [aZ P f] (hl:B6 tm args=some l) (c:ACall P f l' h0 (T4 H V)) (co:Aw hp l l') (hs:KK hp h0 hr) (ha:∀ b0 b1 b2 b3,vJ (H b0 b1 b2 b3) hr=some (H' b0 b1 b2 b3)) (hn:Nat.blt d n=true)
 (kk:∀ b0 b1 b2 b3,ARun P all rest ⟨n,(d,V b0 b1 b2 b3) :: tm,H' b0 b1 b2 b3⟩ Q):ARun P all (⟨some d,.call {callee:=.value (.func f),args:=args.toArray,argTypes:=ts},ty,pos,af,none⟩ :: rest) ⟨n,tm,hp⟩ Q:=
 Hy hl c co hs hn (fun r h' ⟨b0,b1,b2,b3,e1,e2⟩=>by subst e1;subst e2;rw [rj (ha b0 b1 b2 b3)];exact kk b0 b1 b2 b3)
theorem xu {Gr PH PI PJ X1 X2:Type} {f:FuncId} {args:List Operand} {ts:Array TypeId} {l l':List AV} {h0 hr:Heap} {H H':Gr→PH→PI→PJ→X1→X2→Heap} {V:Gr→PH→PI→PJ→X1→X2→AV} [aZ P f] (hl:B6 tm args=some l) (c:ACall P f l' h0 (T6 H V)) (co:Aw hp l l') (hs:KK hp h0 hr) (ha:∀ b0 b1 b2 b3 b4 b5,vJ (H b0 b1 b2 b3 b4 b5) hr=some (H' b0 b1 b2 b3 b4 b5)) (hn:Nat.blt d n=true)
 (kk:∀ b0 b1 b2 b3 b4 b5,ARun P all rest ⟨n,(d,V b0 b1 b2 b3 b4 b5) :: tm,H' b0 b1 b2 b3 b4 b5⟩ Q):ARun P all (⟨some d,.call {callee:=.value (.func f),args:=args.toArray,argTypes:=ts},ty,pos,af,none⟩ :: rest) ⟨n,tm,hp⟩ Q:=
 Hy hl c co hs hn (fun r h' ⟨b0,b1,b2,b3,b4,b5,e1,e2⟩=>by subst e1;subst e2;rw [rj (ha b0 b1 b2 b3 b4 b5)];exact kk b0 b1 b2 b3 b4 b5)
theorem X3 {t e:TypeId} [ay P t (.pointer e)] (x:Addr) (w:World):(Op.equal t (.pointer (some x)) (.pointer none)).run P w=.ok false w:=by
 show (Op.equalIn (9999+1) t _ _).run P w=_
 rw [Op.equalIn]
 simp [run_underlying (ay.h (P:=P) (t:=t))]
theorem X4 {t e:TypeId} [ay P t (.pointer e)] (w:World):(Op.equal t (.pointer none) (.pointer none)).run P w=.ok true w:=by
 show (Op.equalIn (9999+1) t _ _).run P w=_
 rw [Op.equalIn]
 simp [run_underlying (ay.h (P:=P) (t:=t))]
theorem Mv {t e yt:TypeId} {x y:Operand} {b:Bk} {o:Nat} [ay P t (.pointer e)] (hx:dh tm x=some (.ptr b o)) (hy:dh tm y=some (.raw (.pointer none))):QV P ⟨some d,.binOp .neq t x y yt,ty,pos,af,none⟩ ⟨n,tm,hp⟩ (.bool true):=by
 intro w S a r
 obtain ⟨m,_,hv⟩:=(bg (σ:=⟨n,tm,hp⟩) r hx).uC
 have hu:=(bg (σ:=⟨n,tm,hp⟩) r hy).DM
 refine ⟨.bool true,fun w' _=>?_,.bool _⟩
 have h1:=X3 (P:=P) (t:=t) (e:=e) ⟨m,o,none⟩ w'
 simp [execOp,hv,hu,eqGuard,binOp,h1]
theorem Ji {t e yt:TypeId} {x y:Operand} [ay P t (.pointer e)] (hx:dh tm x=some (.raw (.pointer none))) (hy:dh tm y=some (.raw (.pointer none))):QV P ⟨some d,.binOp .neq t x y yt,ty,pos,af,none⟩ ⟨n,tm,hp⟩ (.bool false):=by
 intro w S a r
 have hv:=(bg (σ:=⟨n,tm,hp⟩) r hx).DM
 have hu:=(bg (σ:=⟨n,tm,hp⟩) r hy).DM
 refine ⟨.bool false,fun w' _=>?_,.bool _⟩
 have h1:=X4 (P:=P) (t:=t) (e:=e) w'
 simp [execOp,hv,hu,eqGuard,binOp,h1]
end rules
def Wr (d:Nat):List (Nat×AV)→List (Nat×AV)
 | []=>[]
 | (k,v) :: r=>match Nat.beq k d with
   | true=>Wr d r
   | false=>(k,v) :: Wr d r
theorem PK (d:Nat):∀ tm:List (Nat×AV),lk (Wr d tm)=oB (lk tm) (some d) none
 | []=>by
   funext s
   show lk [] s=oB (lk []) (some d) none s
   simp [lk,oB]
 | (k,v) :: r=>by
   funext s
   have ih:=congrFun (PK d r) s
   simp only [Wr]
   cases hk:Nat.beq k d with
   | true=>
     obtain rfl:=Nat.eq_of_beq_eq_true hk
     simp only [ih,oB,lk]
     by_cases hs:k=s
     ·rw [if_pos hs,if_pos hs]
     ·have:Nat.beq k s=false:=by
       cases hb:Nat.beq k s with
       | true=>exact absurd (Nat.eq_of_beq_eq_true hb) hs
       | false=>rfl
      rw [if_neg hs,if_neg hs,this]
   | false=>
     simp only [lk,oB] at ih ⊢
     rw [ih]
     by_cases hs:d=s
     ·subst hs
      rw [if_pos rfl,if_pos rfl,hk]
     ·rw [if_neg hs,if_neg hs]
section rules
variable {P:Program} {all:Array Oper} {n:Nat} {B:Heap} {tk:List Tok} {dy:List Nat} {i:Nat} {rest:List Oper} {tm sZ:List (Nat×AV)} {acc:(Nat→Bk)→List (Nat×AV)} {Q:(Nat→Bk)→List (Nat×AV)→Prop} {d:Nat} {ty:TypeId} {pos:String} {af:Array Edge} {op:Op}
theorem AT.aaH {o:Oper} {d:Nat} {V:Bk→AV} (hd:o.dst=some d) (hr:Wr d tm=sZ) (US:dy.contains i=true) (h:∀ β,∀ X∈yw tk i β,uZ P all n (X++B) o (KL (lk tm) (lk (acc β))) (xm tk i β) V (fun b=>mG tk i (rl β i b))) (k:AT P all n B tk dy (i+1) rest sZ (fun β=>(d,V (β i)) :: acc β) Q):AT P all n B tk dy i (o :: rest) tm acc Q:=by
 obtain ⟨D,Dk,k1,k2⟩:=k
 refine ⟨(none,V) :: D,Dk,.cons h (fun pz e b=>by cases e) (fun _=>US) ?_,fun β=>?_⟩
 ·rw [hd,← PK,hr]
  have e2:Nw none (fun β=>lk (acc β)) (some d) V i=fun β=>lk ((d,V (β i)) :: acc β):=by
   funext β
   simp only [Nw]
   rw [zg];rfl
  rw [e2];exact k1
 ·have:=k2 β
  simp only [Bg,hd]
  exact this
theorem AT.aaI {V:Bk→AV} {Ti H1:(Nat→Bk)→Heap} {Pi H2:Bk→Heap} (O9:∀ β,yw tk i β=[[]]) (TX:∀ β,xm tk i β=Ti β) (UT:∀ β b,mG tk i (rl β i b)=Pi b) (h1:∀ β,vJ (Ti β) B=some (H1 β)) (h2:∀ b,vJ (Pi b) B=some (H2 b)) (hn:Nat.blt d n=true) (hr:Wr d tm=sZ) (US:dy.contains i=true)
 (wj:∀ β,ARun P all [⟨some d,op,ty,pos,af,none⟩] ⟨n,Hw (looks all ⟨some d,op,ty,pos,af,none⟩) (tm++acc β),H1 β⟩ (fun aB=>∃ b Dk,aB=⟨n,Dk,H2 b⟩∧lk Dk d=some (V b)))
 (k:AT P all n B tk dy (i+1) rest sZ (fun β=>(d,V (β i)) :: acc β) Q):AT P all n B tk dy i (⟨some d,op,ty,pos,af,none⟩ :: rest) tm acc Q:=by
 refine AT.aaH rfl hr US (fun β X hX=>?_) k
 rw [O9 β] at hX
 obtain rfl:=List.mem_singleton.1 hX
 rw [List.nil_append,TX β,show (fun b=>mG tk i (rl β i b))=Pi from funext (UT β),← Nx]
 refine zj rfl (fun d' CS=>by obtain rfl:=Option.some.inj CS;simpa using hn) (h1 β) h2 ?_ (fun e=>by cases e)
 refine fun w S a r=>jG ?_ _ _ _ (wj β w S a r)
 rintro e a' w' ⟨he,aB,S',⟨b,Dk,q1,q2⟩,hh⟩
 exact ⟨he,aB,S',⟨b,Dk,q1,fun d' CS=>by obtain rfl:=Option.some.inj CS;exact q2⟩,hh⟩
end rules
end Go.Eng
set_option linter.unusedVariables false
set_option linter.unusedSimpArgs false
set_option linter.unusedSectionVars false
namespace Go.Eng
open Go
variable [bc]
theorem DP (b:Bk) (es:List (Bk×PO)) (n:Nat):n∈eb (b,.gx es)↔b.bU=some n∨∃ e∈es,e.1.bU=some n:=by
 simp [eb,Ob.more,List.mem_filterMap]
theorem DQ (e:Bk×PO):eb (e.1,e.2.ob)=e.1.bU.toList:=by
 obtain ⟨b,o⟩:=e
 cases o<;>simp [eb,Ob.more,PO.ob]
theorem NF {w:World} {S:Nat→Prop} {hp eV:Heap} {bp:Bk} {es Mw:List (Bk×PO)} {x:Bk×PO} (r:dw w S hp) (u:qW hp bp (.gx es) bp (.gx Mw) eV) (pE:es.Perm (x :: Mw)):
 dw w S ((x.1,x.2.ob) :: eV)∧lB w S hp w S ((x.1,x.2.ob) :: eV):=by
 obtain ⟨p,q,rfl,rfl⟩:=u.split
 obtain ⟨Gb,qM⟩:bp.bU=none∧∀ e∈es,qm w S e.1 e.2:=r.holds (bp,.gx es) (bC.2 (.inl rfl))
 have Ey:∀ e∈Mw,e∈es:=fun e he=>pE.mem_iff.2 (List.mem_cons_of_mem _ he)
 have hx:x∈es:=pE.mem_iff.2 (by simp)
 have PL:x.2.ob.CK↔False:=by cases x.2<;>exact Iff.rfl
 have Jj:∀ n,n∈eb (bp,.gx es)↔n∈eb (x.1,x.2.ob)∨n∈eb (bp,.gx Mw):=by
  intro n
  rw [DP,DP,DQ,Gb]
  constructor
  ·rintro (h | ⟨e,he,hn⟩)
   ·cases h
   ·rcases List.mem_cons.1 (pE.mem_iff.1 he) with rfl | he
    ·exact .inl (by simp [hn])
    ·exact .inr (.inr ⟨e,he,hn⟩)
  ·rintro (h | h | ⟨e,he,hn⟩)
   ·exact .inr ⟨x,hx,by simpa using h⟩
   ·cases h
   ·exact .inr ⟨e,Ey e he,hn⟩
 have U7:∀ n,Has ((x.1,x.2.ob) :: (p++(bp,.gx Mw) :: q)) n↔Has (p++(bp,.gx es) :: q) n:=by
  intro n
  constructor
  ·rintro ⟨e,he,hn⟩
   rcases List.mem_cons.1 he with rfl | he
   ·exact ⟨_,bC.2 (.inl rfl),(Jj n).2 (.inl hn)⟩
   ·rcases bC.1 he with rfl | he
    ·exact ⟨_,bC.2 (.inl rfl),(Jj n).2 (.inr hn)⟩
    ·exact ⟨e,bC.2 (.inr he),hn⟩
  ·rintro ⟨e,he,hn⟩
   rcases bC.1 he with rfl | he
   ·rcases (Jj n).1 hn with h | h
    ·exact ⟨_,List.mem_cons_self,h⟩
    ·exact ⟨_,List.mem_cons_of_mem _ (bC.2 (.inl rfl)),h⟩
   ·exact ⟨e,List.mem_cons_of_mem _ (bC.2 (.inr he)),hn⟩
 have hpn:(((x.1,x.2.ob) :: (p++(bp,.gx Mw) :: q)).flatMap eb).Perm ((p++(bp,.gx es) :: q).flatMap eb):=by
  have e1:(eb (bp,.gx es)).Perm (eb (x.1,x.2.ob)++eb (bp,.gx Mw)):=by
   rw [DQ]
   simp only [eb,Ob.more,Gb,Option.toList_none,List.nil_append]
   refine (pE.filterMap _).trans ?_
   rw [List.filterMap_cons]
   cases x.1.bU<;>simp
  rw [List.flatMap_cons,List.flatMap_append,List.flatMap_append,List.flatMap_cons,List.flatMap_cons]
  refine List.Perm.trans ?_ ((e1.symm.append_right _).append_left _)
  rw [← List.append_assoc,← List.append_assoc,← List.append_assoc,← List.append_assoc]
  refine (List.Perm.append_right _ ?_)
  exact (List.perm_append_comm.append_right _)
 refine ⟨⟨(hpn.nodup_iff).2 r.nodup,?_,?_,r.slt,r.ib⟩,⟨rfl,rfl,rfl,Nat.le_refl _,fun n hn=>⟨hn,rfl⟩,fun n _ _=>⟨rfl,id⟩,fun n hn=>.inl ((U7 n).1 hn),fun _=>Nat.le_refl _⟩⟩
 ·intro e he
  rcases List.mem_cons.1 he with rfl | he
  ·exact qm.ob.1 (qM x hx)
  ·rcases bC.1 he with rfl | he
   ·exact ⟨Gb,fun e he=>qM e (Ey e he)⟩
   ·exact r.holds e (bC.2 (.inr he))
 ·intro e he n hn
  rcases List.mem_cons.1 he with rfl | he
  ·have:=r.sep (bp,.gx es) (bC.2 (.inl rfl)) n ((Jj n).2 (.inl hn))
   exact ⟨fun h=>(this.1 h).elim,fun h=>(PL.1 h).elim⟩
  ·rcases bC.1 he with rfl | he
   ·have:=r.sep (bp,.gx es) (bC.2 (.inl rfl)) n ((Jj n).2 (.inr hn))
    exact ⟨fun h=>(this.1 h).elim,fun h=>h.elim⟩
   ·exact r.sep e (bC.2 (.inr he)) n hn
theorem PM {w:World} {S:Nat→Prop} {hp Jk eV:Heap} {bp:Bk} {es Mw:List (Bk×PO)} {x:Bk×PO} (r:dw w S hp) (dl:zB hp x.1 x.2.ob Jk) (u:qW Jk bp (.gx es) bp (.gx Mw) eV) (pE:Mw.Perm (x :: es)):
 dw w S eV∧lB w S hp w S eV:=by
 obtain ⟨p0,q0,rfl,rfl⟩:=dl.split
 have r1:dw w S ((x.1,x.2.ob) :: (p0++q0)):=by
  refine ⟨?_,fun e he=>r.holds e (bC.2 (by simpa using he)),fun e he=>r.sep e (bC.2 (by simpa using he)),r.slt,r.ib⟩
  refine ((List.Perm.flatMap_right eb ?_).nodup_iff).1 r.nodup
  exact List.perm_middle
 generalize hq:p0++q0=h1 at u r1
 obtain ⟨p,q,rfl,rfl⟩:=u.split
 obtain ⟨Gb,qM⟩:bp.bU=none∧∀ e∈es,qm w S e.1 e.2:=r1.holds (bp,.gx es) (List.mem_cons_of_mem _ (bC.2 (.inl rfl)))
 have hxh:qm w S x.1 x.2:=qm.ob.2 (r1.holds (x.1,x.2.ob) (by simp))
 have PL:x.2.ob.CK↔False:=by cases x.2<;>exact Iff.rfl
 have Jj:∀ n,n∈eb (bp,.gx Mw)↔n∈eb (x.1,x.2.ob)∨n∈eb (bp,.gx es):=by
  intro n
  rw [DP,DP,DQ,Gb]
  constructor
  ·rintro (h | ⟨e,he,hn⟩)
   ·cases h
   ·rcases List.mem_cons.1 (pE.mem_iff.1 he) with rfl | he
    ·exact .inl (by simp [hn])
    ·exact .inr (.inr ⟨e,he,hn⟩)
  ·rintro (h | h | ⟨e,he,hn⟩)
   ·exact .inr ⟨x,pE.mem_iff.2 (by simp),by simpa using h⟩
   ·cases h
   ·exact .inr ⟨e,pE.mem_iff.2 (List.mem_cons_of_mem _ he),hn⟩
 have e1:(eb (bp,.gx Mw)).Perm (eb (x.1,x.2.ob)++eb (bp,.gx es)):=by
  rw [DQ]
  simp only [eb,Ob.more,Gb,Option.toList_none,List.nil_append]
  refine (pE.filterMap _).trans ?_
  rw [List.filterMap_cons]
  cases x.1.bU<;>simp
 have hpn:(((x.1,x.2.ob) :: (p++(bp,.gx es) :: q)).flatMap eb).Perm ((p++(bp,.gx Mw) :: q).flatMap eb):=by
  rw [List.flatMap_cons,List.flatMap_append,List.flatMap_append,List.flatMap_cons,List.flatMap_cons]
  refine List.Perm.trans ?_ ((e1.symm.append_right _).append_left _)
  rw [← List.append_assoc,← List.append_assoc,← List.append_assoc,← List.append_assoc]
  refine (List.Perm.append_right _ ?_)
  exact (List.perm_append_comm.append_right _)
 have U7:∀ n,Has (p++(bp,.gx Mw) :: q) n→Has ((x.1,x.2.ob) :: (p++(bp,.gx es) :: q)) n:=by
  rintro n ⟨e,he,hn⟩
  rcases bC.1 he with rfl | he
  ·rcases (Jj n).1 hn with h | h
   ·exact ⟨_,List.mem_cons_self,h⟩
   ·exact ⟨_,List.mem_cons_of_mem _ (bC.2 (.inl rfl)),h⟩
  ·exact ⟨e,List.mem_cons_of_mem _ (bC.2 (.inr he)),hn⟩
 have X5:∀ n,Has ((x.1,x.2.ob) :: (p++(bp,.gx es) :: q)) n→Has (p0++(x.1,x.2.ob) :: q0) n:=fun n hn=>by
  obtain ⟨e,he,xS⟩:=hn
  refine ⟨e,bC.2 ?_,xS⟩
  rw [hq]
  simpa using he
 refine ⟨⟨(hpn.nodup_iff).1 r1.nodup,?_,?_,r.slt,r.ib⟩,⟨rfl,rfl,rfl,Nat.le_refl _,fun n hn=>⟨hn,rfl⟩,fun n _ _=>⟨rfl,id⟩,fun n hn=>.inl (X5 n (U7 n hn)),fun _=>Nat.le_refl _⟩⟩
 ·intro e he
  rcases bC.1 he with rfl | he
  ·refine ⟨Gb,fun e he=>?_⟩
   rcases List.mem_cons.1 (pE.mem_iff.1 he) with rfl | he
   ·exact hxh
   ·exact qM e he
  ·exact r1.holds e (List.mem_cons_of_mem _ (bC.2 (.inr he)))
 ·intro e he n hn
  rcases bC.1 he with rfl | he
  ·refine ⟨fun hs=>?_,fun h=>h.elim⟩
   rcases (Jj n).1 hn with h | h
   ·exact PL.1 ((r1.sep _ (by simp) n h).1 hs)
   ·exact (r1.sep (bp,.gx es) (List.mem_cons_of_mem _ (bC.2 (.inl rfl))) n h).1 hs
  ·exact r1.sep e (List.mem_cons_of_mem _ (bC.2 (.inr he))) n hn
end Go.Eng
set_option linter.unusedVariables false
set_option linter.unusedSimpArgs false
set_option linter.unusedSectionVars false
namespace Go.Eng
open Go
variable [bc]
structure Kept (V:Type) where
 val:Bk→V→AV
 po:V→PO
def fx {E:Type} (sz:Nat) (g:E→AV):Kept (List E):=⟨fun b v=>.sl sz b 0 v.length,fun v=>.arr sz (v.map g)⟩
section plain
variable {K V:Type}
def xv (gk:K→AV) (kp:Kept V) (β:K→Bk) (M:List (K×V)):List (AV×AV):=M.map fun e=>(gk e.1,kp.val (β e.1) e.2)
def iQ (kp:Kept V) (β:K→Bk) (M:List (K×V)):List (Bk×PO):=M.map fun e=>(β e.1,kp.po e.2)
def pF (β:K→Bk) (M:List (K×V)):List (K×(Bk×V)):=M.map fun e=>(e.1,(β e.1,e.2))
theorem u6 (gk:K→AV) (kp:Kept V) (β:K→Bk) (M:List (K×V)):xv gk kp β M=(pF β M).map fun e=>(gk e.1,kp.val e.2.1 e.2.2):=by
 unfold xv pF;rw [List.map_map];rfl
variable [DecidableEq K]
def Cn (β:K→Bk) (k:K) (b:Bk):K→Bk:=fun k'=>if k'=k then b else β k'
theorem NG (β:K→Bk) (M:List (K×V)) (k:K):cM (pF β M) k=(cM M k).map fun v=>(β k,v):=by
 induction M with
 | nil=>rfl
 | cons e r ih=>
   show (if e.1=k then some (β e.1,e.2) else cM (pF β r) k)=(if e.1=k then some e.2 else cM r k).map _
   rw [ih]
   split
   ·rename_i h;rw [h];rfl
   ·rfl
theorem Le {M:List (K×V)} {k:K} {v:V} (hn:(M.map Prod.fst).Nodup) (h:cM M k=some v):M.Perm ((k,v) :: tJ M k):=by
 induction M with
 | nil=>cases h
 | cons e r ih=>
   rw [List.map_cons,List.nodup_cons] at hn
   unfold cM at h
   unfold tJ
   rw [List.filter_cons]
   split at h
   ·rename_i hk
    obtain rfl:=Option.some.inj h
    rw [if_neg (by simp [hk])]
    have:r.filter (fun e=>decide (e.1≠k))=r:=List.filter_eq_self.2 fun x hx=>by
     simp only [ne_eq,decide_not,Bool.not_eq_true',decide_eq_false_iff_not]
     intro hxk
     exact hn.1 (List.mem_map.2 ⟨x,hx,by rw [hxk,hk]⟩)
    rw [this,← hk]
   ·rename_i hk
    rw [if_pos (by simp [hk])]
    exact (List.Perm.cons e (ih hn.2 h)).trans (List.Perm.swap _ _ _)
theorem Jl (M:List (K×V)) (k:K):∀ e∈tJ M k,e.1≠k:=fun e he=>by
 have:=(List.mem_filter.1 he).2
 simpa using this
theorem NH (kp:Kept V) (β:K→Bk) (k:K) (b:Bk) {M:List (K×V)} (h:∀ e∈M,e.1≠k):iQ kp (Cn β k b) M=iQ kp β M:=by
 unfold iQ
 exact List.map_congr_left fun e he=>by unfold Cn;rw [if_neg (h e he)]
variable [CT K]
theorem NI (M:List (K×V)) (k:K) (v:V):(ji M k v).Perm ((k,v) :: tJ M k):=wO k v _
theorem NJ (kp:Kept V) (β:K→Bk) (k:K) (b:Bk) (M:List (K×V)) (v:V):(iQ kp (Cn β k b) (ji M k v)).Perm ((b,kp.po v) :: iQ kp β (tJ M k)):=by
 refine ((NI M k v).map _).trans ?_
 rw [List.map_cons]
 have e1:(tJ M k).map (fun e=>(Cn β k b e.1,kp.po e.2))=iQ kp β (tJ M k):=NH kp β k b (Jl M k)
 rw [e1]
 have:Cn β k b k=b:=by unfold Cn;rw [if_pos rfl]
 rw [this]
end plain
theorem Lf {K V:Type} {gk:K→AV} {kp:Kept V} {β:K→Bk} {w:World} {S:Nat→Prop} {hp:Heap} {b:Bk} {M:List (K×V)} (NB:∀ a b,gk a=gk b→a=b) (r:dw w S hp) (f:ox hp b (.mp (xv gk kp β M))):(M.map Prod.fst).Nodup:=by
 rw [u6] at f
 obtain ⟨L,c,M',n,ow,p1,_,_,_,_,_,_,p8⟩:=vS (gv:=fun p:Bk×V=>kp.val p.1 p.2) NB r f
 have:=(p1.map Prod.fst).nodup_iff.1 p8
 unfold pF at this
 rw [List.map_map] at this
 exact this
theorem PN {hp eV:Heap} {b:Bk} {o o':Ob} (u:qW hp b o b o' eV) (h:o=o'):hp=eV:=by
 obtain ⟨p,q,rfl,rfl⟩:=u.split
 rw [h]
section rules
variable {P:Program} {all:Array Oper} {rest:List Oper} {n:Nat} {tm:List (Nat×AV)} {hp:Heap} {Q:St→Prop} {d:Nat} {ty:TypeId} {pos:String} {af:Array Edge}
theorem NK {K E:Type} [DecidableEq K] {gk:K→AV} {sz:Nat} {g:E→AV} {β:K→Bk} {M:List (K×List E)} {key:K} {xs:List E} {t kt vt:TypeId} {i:TypeInfo} {x y:Operand} {bm bp:Bk} {eV:Heap} [ay P t (.map kt vt)] [aO P vt i] [iX P kt gk] (hx:dh tm x=some (.bZ bm)) (hy:dh tm y=some (gk key)) (f:ox hp bm (.mp (xv gk (fx sz g) β M))) (u:qW hp bp (.gx (iQ (fx sz g) β M)) bp (.gx (iQ (fx sz g) β (tJ M key))) eV) (hz:i.zero=some (.slice none 0 0)) (h:u4 M key []=some xs) (hn:Nat.blt d n=true)
 (kk:∀ b,(∀ v,cM M key=some v→b=β key∧v=xs)→ARun P all rest ⟨n,(d,.sl sz b 0 xs.length) :: tm,(b,.arr sz (xs.map g)) :: eV⟩ Q):ARun P all (⟨some d,.lookup t x y false,ty,pos,af,none⟩ :: rest) ⟨n,tm,hp⟩ Q:=by
 refine ARun.OA rfl fun w S a r=>?_
 have Ar:=Lf (iX.inj P kt) r.hp f
 have kx:=bg (σ:=⟨n,tm,hp⟩) r hx
 have ky:=bg (σ:=⟨n,tm,hp⟩) r hy
 obtain ⟨nb,hb,ex⟩:=kx.u5
 have f':=f
 rw [u6] at f'
 obtain ⟨L,c,M',Mu,ow,p1,p2,p3,p4,p5,p6,p7,p8⟩:=vS (gv:=fun p:Bk×List E=>(fx sz g).val p.1 p.2) (iX.inj P kt) r.hp f'
 obtain rfl:Mu=nb:=by rw [p4] at hb;exact Option.some.inj hb
 have tL:=iX.find (P:=P) (t:=kt) (g:=gk) ky ow.toList (M'.map Prod.fst) (by simpa using p6.symm) (fun j k' e h1 h2=>by
  rw [List.getElem?_map] at h1
  cases hm:M'[j]? with
  | none=>rw [hm] at h1;cases h1
  | some q=>rw [hm] at h1;rw [← Option.some.inj h1];exact (p7 j q e hm h2).1)
 have Si:=uO p1 p8 key
 rw [NG] at Si
 have hv:=Option.some.inj h
 rcases xo (gv:=fun p:Bk×List E=>(fx sz g).val p.1 p.2) (w:=w) (S:=S) (k:=key) M' ow.toList 0 p6.symm (fun j e m h1 h2=>(p7 j e m h1 h2).2) with ⟨q1,q2⟩ | ⟨v',j,val,q1,q2,q3,_⟩
 ·
  rw [q1] at Si
  have I4:cM M key=none:=by
   cases hc:cM M key with
   | none=>rfl
   | some v=>rw [hc] at Si;cases Si
  rw [I4,Option.getD_none] at hv
  subst hv
  have Ms:=PN u (by rw [Cl I4])
  obtain ⟨g1,g2,g3⟩:=qX (b:=⟨none,0⟩) (o:=.arr sz (([]:List E).map g)) r.hp (Ext.refl w) id ⟨by simp,by simp,.inl ⟨rfl,rfl⟩⟩ (.inl rfl)
  refine ⟨.slice none 0 0,w,S,⟨n,(d,.sl sz ⟨none,0⟩ 0 0) :: tm,(⟨none,0⟩,.arr sz (([]:List E).map g)) :: eV⟩,?_,?_,?_,kk ⟨none,0⟩ (fun v hv=>by rw [I4] at hv;cases hv)⟩
  ·simp [execOp,Instr.lookup,ex,run_underlying (ay.h (P:=P) (t:=t)),il p5,iX.check (P:=P) (t:=kt) ky,tL,q2,zeroValue,typeInfo,aO.h (P:=P) (t:=vt),hz]
  ·rw [← Ms]
   exact (r.heap g3 g1).put hn (.Cd sz _ rfl)
  ·rw [← Ms];exact g2
 ·rw [q1] at Si
  obtain ⟨v,Rq⟩:∃ v,cM M key=some v:=by
   cases hc:cM M key with
   | none=>rw [hc] at Si;cases Si
   | some v=>exact ⟨v,rfl⟩
  rw [Rq,Option.getD_some] at hv
  subst hv
  rw [Rq] at Si
  have Wo:v'=(β key,v):=Option.some.inj Si
  subst Wo
  have hpm:(iQ (fx sz g) β M).Perm ((β key,.arr sz (v.map g)) :: iQ (fx sz g) β (tJ M key)):=((Le Ar Rq).map _)
  obtain ⟨g1,g2⟩:=NF r.hp u hpm
  refine ⟨val,w,S,⟨n,(d,.sl sz (β key) 0 v.length) :: tm,(β key,.arr sz (v.map g)) :: eV⟩,?_,(r.heap (fun m hm=>⟨hm,rfl⟩) g1).put hn q3,g2,kk (β key) (fun v2 Zb=>⟨rfl,by rw [Rq] at Zb;exact (Option.some.inj Zb).symm⟩)⟩
  simp [execOp,Instr.lookup,ex,run_underlying (ay.h (P:=P) (t:=t)),il p5,iX.check (P:=P) (t:=kt) ky,tL,q2]
end rules
theorem Lg {K V:Type} [DecidableEq K] (β:K→Bk) (M:List (K×V)) (k:K):tJ (pF β M) k=pF β (tJ M k):=by
 unfold tJ pF
 rw [List.filter_map]
 rfl
theorem Ez {K V:Type} [CT K] (β:K→Bk) (k:K) (b:Bk) (v:V) (hk:β k=b):∀ M:List (K×V),Bm k (b,v) (pF β M)=pF β (Bm k v M)
 | []=>by simp [Bm,pF,hk]
 | e :: r=>by
   show Bm k (b,v) ((e.1,(β e.1,e.2)) :: pF β r)=pF β (Bm k v (e :: r))
   unfold Bm
   by_cases h:CT.lt e.1 k=true
   ·rw [if_pos h,if_pos h,Ez β k b v hk r];rfl
   ·rw [if_neg h,if_neg h];simp [pF,hk]
theorem NL {K V:Type} [DecidableEq K] (β:K→Bk) (k:K) (b:Bk) {M:List (K×V)} (h:∀ e∈M,e.1≠k):pF (Cn β k b) M=pF β M:=by
 unfold pF
 exact List.map_congr_left fun e he=>by unfold Cn;rw [if_neg (h e he)]
theorem Lh {K V:Type} [DecidableEq K] [CT K] (β:K→Bk) (M:List (K×V)) (k:K) (b:Bk) (v:V):ji (pF β M) k (b,v)=pF (Cn β k b) (ji M k v):=by
 unfold ji
 rw [Lg,← NL β k b (Jl M k),Ez _ _ _ _ (by unfold Cn;rw [if_pos rfl])]
section rules
variable {P:Program} {all:Array Oper} {rest:List Oper} {n:Nat} {tm:List (Nat×AV)} {hp:Heap} {Q:St→Prop} {d:Nat} {ty:TypeId} {pos:String} {af:Array Edge}
theorem HE {K V:Type} [DecidableEq K] [CT K] {gk:K→AV} {kp:Kept V} {β:K→Bk} {M:List (K×V)} {key:K} {v:V} {t kt vt:TypeId} {x y z:Operand} {b bm:Bk} {eV:Heap} {av:AV} [ay P t (.map kt vt)] [iX P kt gk] (hx:dh tm x=some (.bZ bm)) (hy:dh tm y=some (gk key)) (hz:dh tm z=some av) (so:av=kp.val b v) (u:qW hp bm (.mp (xv gk kp β M)) bm (.mp (xv gk kp (Cn β key b) (ji M key v))) eV)
 (kk:ARun P all rest ⟨n,tm,eV⟩ Q):ARun P all (⟨none,.mapUpdate t x y z,ty,pos,af,none⟩ :: rest) ⟨n,tm,hp⟩ Q:=by
 rw [u6,u6,← Lh] at u
 exact tM (gk:=gk) (gv:=fun p:Bk×V=>kp.val p.1 p.2) (M:=pF β M) (key:=key) (v:=(b,v)) hx hy hz so u kk
end rules
theorem ImpX.Sj {n:Nat} {tm:List (Nat×AV)} {hp Jk eV:Heap} {T:St→Prop} {K V:Type} [DecidableEq K] [CT K] {kp:Kept V} {β:K→Bk} {M:List (K×V)} {key:K} {v:V} {b bp:Bk} {o:Ob} (ho:o=(kp.po v).ob) (dl:zB hp b o Jk) (u:qW Jk bp (.gx (iQ kp β (tJ M key))) bp (.gx (iQ kp (Cn β key b) (ji M key v))) eV) (k:ImpX ⟨n,tm,eV⟩ T):ImpX ⟨n,tm,hp⟩ T:=by
 refine ImpX.step (Ge:=⟨n,tm,eV⟩) (fun w S a r=>?_) k
 subst ho
 obtain ⟨g1,g2⟩:=PM (x:=(b,kp.po v)) r.hp dl u (NJ kp β key b M v)
 exact ⟨_,S,rfl,r.heap (fun m hm=>⟨hm,rfl⟩) g1,g2⟩
section rules
variable {P:Program} {all:Array Oper} {rest:List Oper} {n:Nat} {tm:List (Nat×AV)} {hp:Heap} {Q:St→Prop} {d:Nat} {ty:TypeId} {pos:String} {af:Array Edge}
theorem Li {K V:Type} {gk:K→AV} {kp:Kept V} {β:K→Bk} {t:TypeId} (hn:Nat.blt d n=true) (kk:∀ b bp:Bk,ARun P all rest ⟨n,(d,.bZ b) :: tm,(b,.mp (xv gk kp β [])) :: (bp,.gx (iQ kp β [])) :: hp⟩ Q):ARun P all (⟨some d,.makeMap t none,ty,pos,af,none⟩ :: rest) ⟨n,tm,hp⟩ Q:=by
 have g:ARun P all (⟨some d,.makeMap t none,ty,pos,af,none⟩ :: rest) ⟨n,tm,(⟨none,0⟩,.gx []) :: hp⟩ Q:=uP hn (fun b=>kk b ⟨none,0⟩)
 refine ARun.ghost (ImpX.step (Ge:=⟨n,tm,(⟨none,0⟩,.gx []) :: hp⟩) (fun w S a r=>?_) (ImpX.here g))
 obtain ⟨g1,g2,g3⟩:=qX (b:=⟨none,0⟩) (o:=.gx []) r.hp (Ext.refl w) id ⟨rfl,by simp⟩ (.inl rfl)
 exact ⟨_,S,rfl,r.heap g3 g1,g2⟩
end rules
end Go.Eng
set_option linter.unusedVariables false
set_option linter.unusedSimpArgs false
set_option linter.unusedSectionVars false
namespace Go.Eng
open Go
variable [bc]
def rowOf (o:Option Obj):Option (Array Value):=match o with
 | some (.cells vs _ _)=>some vs
 | _=>none
theorem NM (xs:List (List UInt8)):flat (xs.map AV.str)=xs.map AV.str:=wN (fun _=>rfl) xs
theorem Lj {w:World} {S:Nat→Prop} (r:dw w S []) (xs:List (List UInt8)) (E:TypeId) {vs:Array Value} (hv:vs=(xs.map fun s=>Value.string ⟨s.toArray⟩).toArray):
 At (w.alloc (.cells vs E)) S (.sl 1 ⟨some w.heap.size,xs.length⟩ 0 xs.length) (.slice (some ⟨w.heap.size,0,none⟩) xs.length xs.length)∧
  dw (w.alloc (.cells vs E)) S [(⟨some w.heap.size,xs.length⟩,.arr 1 (xs.map AV.str))]∧lB w S [] (w.alloc (.cells vs E)) S [(⟨some w.heap.size,xs.length⟩,.arr 1 (xs.map AV.str))]:=by
 subst hv
 have e0:=Ext.alloc w (.cells (xs.map fun s=>Value.string ⟨s.toArray⟩).toArray E)
 have hh:Holds (w.alloc (.cells (xs.map fun s=>Value.string ⟨s.toArray⟩).toArray E)) S ⟨some w.heap.size,xs.length⟩ (.arr 1 (xs.map AV.str)):=by
  refine ⟨fun x hx=>?_,by simp,.inr ⟨w.heap.size,(xs.map fun s=>Value.string ⟨s.toArray⟩).toArray,E,rfl,?_,by simp,?_⟩⟩
  ·obtain ⟨s,_,rfl⟩:=List.mem_map.1 hx
   exact ⟨rfl,fun c hc=>by rw [List.mem_singleton.1 hc];rfl⟩
  ·show (w.heap.push _)[w.heap.size]? =_
   simp
  ·rw [NM]
   intro i c v hc hv
   simp only [List.getElem?_map,List.getElem?_toArray,Option.map_eq_some_iff] at hc hv
   obtain ⟨s,h1,rfl⟩:=hc
   obtain ⟨s',h2,rfl⟩:=hv
   rw [h1] at h2
   obtain rfl:=Option.some.inj h2
   exact .str s
 obtain ⟨k1,k2,k3⟩:=qX r e0 id hh (.inr ⟨_,rfl,Nat.le_refl _⟩)
 refine ⟨?_,k1,k2⟩
 have:=At.sl (w:=w.alloc (.cells (xs.map fun s=>Value.string ⟨s.toArray⟩).toArray E)) (S:=S) 1 ⟨some w.heap.size,xs.length⟩ 0 xs.length w.heap.size xs.length rfl (Nat.le_refl _) (by simp)
 simpa using this
def PQ (k:IntKind) (o:Option Obj):Prop:=∃ vs m,rowOf o=some vs∧vs[0]? =some (.int k m)
theorem EA (w:World) (g i:Nat) {vs:Array Value} (h:rowOf (w.heap[g]?)=some vs):w.cell? ⟨g,i,none⟩=vs[i]?:=by
 unfold World.cell?
 unfold rowOf at h
 split at h
 ·rename_i FE e f ho
  obtain rfl:=Option.some.inj h
  simp [ho]
 ·cases h
def Mx:List (Nat×(Option Obj→Prop))→Nat→Option (Option Obj→Prop)
 | [],_=>none
 | (k,o) :: r,g=>if g=k then some o else Mx r g
theorem GG:∀ {l:List (Nat×(Option Obj→Prop))} {g:Nat} {o:Option Obj→Prop},Mx l g=some o→(g,o)∈l
 | [],_,_,h=>by cases h
 | (k,o') :: r,g,o,h=>by
   unfold Mx at h
   split at h
   ·rename_i hg
    rw [hg,Option.some.inj h];simp
   ·exact List.mem_cons_of_mem _ (GG h)
theorem U8 {w:World} {g:Nat} {vs:Array Value} (h:rowOf (w.heap[g]?)=some vs):g < w.heap.size:=by
 rcases Nat.lt_or_ge g w.heap.size with h' | h'
 ·exact h'
 ·rw [Array.getElem?_eq_none h'] at h;cases h
end Go.Eng
namespace Go.Eng
open Go
section errs
variable [bc] {P:Program} {all:Array Oper} {rest:List Oper} {n:Nat} {tm:List (Nat×AV)} {hp:Heap} {Q:St→Prop} {d:Nat} {ty:TypeId} {pos:String} {af:Array Edge}
def Jm (a b:List UInt8):Option (List UInt8):=if a.length+b.length≤9223372036854775807 then some (a++b) else none
theorem Lk {xt yt:TypeId} {x y:Operand} {s t r:List UInt8} (h:Jm s t=some r) (hx:dh tm x=some (.str s)) (hy:dh tm y=some (.str t)):QV P ⟨some d,.binOp .add xt x y yt,ty,pos,af,none⟩ ⟨n,tm,hp⟩ (.str r):=by
 unfold Jm at h
 split at h
 ·rename_i hs
  obtain rfl:=Option.some.inj h
  refine fun w S a r=>⟨.string (⟨s.toArray⟩++⟨t.toArray⟩),fun w1 _=>?_,?_⟩
  ·have h1:=run_string_add_sum (P:=P) (w:=w1) (⟨s.toArray⟩:ByteArray) (⟨t.toArray⟩:ByteArray) (by simpa [ByteArray.size] using hs)
   simp [execOp,(bg (σ:=⟨n,tm,hp⟩) r hx).dz,(bg (σ:=⟨n,tm,hp⟩) r hy).dz,eqGuard,binOp,h1]
  ·have:((⟨s.toArray⟩:ByteArray)++⟨t.toArray⟩)=⟨(s++t).toArray⟩:=by apply ByteArray.ext;simp
   rw [this]
   exact .str _
 ·cases h
end errs
end Go.Eng
set_option linter.unusedVariables false
set_option linter.unusedSimpArgs false
set_option linter.unusedSectionVars false
namespace Go.Eng
open Go
variable [bc]
section rules
variable {P:Program} {all:Array Oper} {rest:List Oper} {n:Nat} {tm:List (Nat×AV)} {hp:Heap} {Q:St→Prop} {d:Nat} {ty:TypeId} {pos:String} {af:Array Edge}
end rules
end Go.Eng
set_option linter.unusedVariables false
set_option linter.unusedSimpArgs false
namespace Go.Eng
open Go Go.Lib
variable [bc]
set_option linter.unusedSectionVars false
theorem Jn {w:World} {g:Nat} {v:Value} (h:w.cell? ⟨g,0,none⟩=some v):∃ vs,rowOf (w.heap[g]?)=some vs∧vs[0]? =some v:=by
 unfold World.cell? at h
 cases ho:w.heap[g]? with
 | none=>simp [ho] at h
 | some o=>
   cases o with
   | cells vs e f=>exact ⟨vs,rfl,by simpa [ho] using h⟩
   | _=>simp [ho] at h
theorem Sk {w:World} {g:Nat} {k:IntKind} {m:Int} (h:w.cell? ⟨g,0,none⟩=some (.int k m)):g < w.heap.size∧PQ k (w.heap[g]?):=by
 obtain ⟨vs,h1,h2⟩:=Jn h
 exact ⟨U8 h1,vs,m,h1,h2⟩
end Go.Eng
set_option linter.unusedVariables false
namespace Go.Eng
open Go
variable {H:Type} {enc:TypeId×Value→H}
theorem Jo {a:Assume} {C:Checked} {os:Os} {f:FuncId} {fn:Func} {s:ChangeSpec} {conds:List PathCond} {apart fresh handsOn again:Bool} {X:World→Array Value→Prop}
 (hX:∀ (w w':World) (args:Array Value),w.heap=w'.heap→X w args→X w' args)
 (own:ownKnob C.prog.godebug=none) (started:os.Started) (U9:C.prog.inits.idxOf? f=none) (XR:C.prog.funcs[f]? =some fn)
 (witness:∃ (w:World) (tape:Tape) (i:Input),w.os=os∧(w.forCall tape i).Shaped C.prog∧i.vars=[]∧Input.okWide C.prog (w.forCall tape i) .any w.heap.size f i∧
  ((s.pre enc C.prog fn conds apart (w.forCall tape i).memory i.args∧X (w.forCall tape i).memory i.args)∧sizedMet enc C.prog fn (OpenSpec.ofChange s) apart (w.forCall tape i).memory i.args)∧a.holds C.prog (lone (Frame.enter C.prog f i.args .normal) [] (w.forCall tape i)))
 (walk:∀ (W:World) (base:Nat) (args:Array Value) (ds gs:List (DataW H)) (before:List MemPlace),
  (∀ (j:Nat) t v,fn.params[j]? =some t→args[j]? =some v→Value.okWide C.prog W .any base t v)→
  DataW.Whole enc C.prog fn.params.toList s.vars apart W args.toList ds gs before→
  conds.all (PathCond.test C.prog ⟨fn.params.toList,ds,s.plain.varTypes C.prog,gs⟩)=true→
  (DataW.weightsEach C.prog (fn.params.toList++s.plain.varTypes C.prog) (ds++gs)).all (· ≤reachBytes)=true→X W args∧W.ShapedOpen C.prog→
  a.holds C.prog (lone (Frame.enter C.prog f args .normal) [] W)→
  Calls C.prog f args W fun e W'=>∃ v,e=.returned v∧s.post enc C.prog fn apart fresh handsOn again W args v W'):
 ReturnsInHanded a C os f .any (fun w args=>(s.pre enc C.prog fn conds apart w args∧X w args)∧sizedMet enc C.prog fn (OpenSpec.ofChange s) apart w args) (s.post enc C.prog fn apart fresh handsOn again):=by
 refine returnsInHanded_of_calls own started U9 witness ?_
 intro w tape i _ shaped _ ok pre held
 obtain ⟨_,_,_,fn',there,_,_,_,_,aaJ⟩:=ok
 cases Option.some.inj (there.symm.trans XR)
 obtain ⟨⟨⟨ds,gs,before,whole,X6⟩,x⟩,sized⟩:=pre
 have K:=walk (w.forCall tape i) w.heap.size i.args ds gs before aaJ (DataW.Whole.of_heap (w':=w.forCall tape i) (by rfl) whole) X6 (sized.weights whole) ⟨hX _ _ _ (by rfl) x,shaped⟩ held
 exact K.mono fun e W' ⟨v,he,hp⟩=>by
  subst he
  exact ChangeSpec.post_blind hp
end Go.Eng
set_option linter.unusedVariables false
set_option linter.unusedSimpArgs false
set_option linter.unusedSectionVars false
namespace Go.Eng
open Go
variable [bc]
section rules
variable {P:Program} {all:Array Oper} {rest:List Oper} {n:Nat} {tm:List (Nat×AV)} {hp:Heap} {Q:St→Prop} {d:Nat} {ty:TypeId} {pos:String} {af:Array Edge}
end rules
end Go.Eng
set_option linter.unusedVariables false
set_option linter.unusedSimpArgs false
set_option linter.unusedSectionVars false
namespace Go.Eng
open Go
variable [bc]
def mJ (s:List UInt8):List Int:=s.map fun c=>(c.toNat:Int)
theorem NN (w:World) (e:TypeId) (s:ByteArray):Ext w (Lib.bytesWorld w e s):=by
 refine ⟨rfl,rfl,rfl,by rw [Lib.bytesWorld_size];omega,fun n hn=>Lib.bytesWorld_at_old w e s n hn,fun _=>?_⟩
 show w.drawn≤w.drawn+1
 omega
theorem dw.one {w w':World} {S:Nat→Prop} {h:Heap} (r:dw w S h) (e:Ext w w') (hs:w.heap.size < w'.heap.size):dw w' (fun n=>S n∨n=w.heap.size) h∧lB w S h w' (fun n=>S n∨n=w.heap.size) h:=by
 have nD:∀ x∈h,∀ n,n∈eb x→n < w.heap.size:=fun x hx n hn=>r.lt ⟨x,hx,hn⟩
 have hk:∀ n,S n→(S n∨n=w.heap.size)∧w'.heap[n]? =w.heap[n]?:=fun n hn=>⟨.inl hn,e.same n (r.slt n hn)⟩
 refine ⟨⟨r.nodup,fun x hx=>(r.holds x hx).mono hk (fun n hn=>e.same n (nD x hx n hn)),fun x hx n hn=>⟨fun Pt=>?_,fun hf=>.inl ((r.sep x hx n hn).2 hf)⟩,fun n hn=>?_,fun g o ho=>⟨.inl (r.ib g o ho).1,D2 (e.same g (r.slt g (r.ib g o ho).1)) (r.ib g o ho).2⟩⟩,
  ⟨e.os,e.tape,e.output,e.size,hk,fun n hn _=>⟨e.same n hn,fun Pt=>?_⟩,fun n hn=>.inl hn,e.drawn⟩⟩
 ·rcases Pt with h' | h'
  ·exact (r.sep x hx n hn).1 h'
  ·have:=nD x hx n hn;omega
 ·rcases hn with h' | h'
  ·exact Nat.lt_of_lt_of_le (r.slt n h') e.size
  ·omega
 ·rcases Pt with h' | h'
  ·exact h'
  ·omega
section rules
variable {P:Program} {all:Array Oper} {rest:List Oper} {n:Nat} {tm:List (Nat×AV)} {hp:Heap} {Q:St→Prop} {d:Nat} {ty:TypeId} {pos:String} {af:Array Edge}
theorem EB (k:IntKind) (xs:List Int):flat (xs.map (AV.int k))=xs.map (AV.int k):=wN (fun _=>rfl) xs
theorem NO {src dst e:TypeId} {D:TypeDesc} {x:Operand} {s:List UInt8} [ay P src D] [ay P dst (.slice e)] [ay P e (.int .u8)] (hx:dh tm x=some (.str s)) (hn:Nat.blt d n=true)
 (kk:ARun P all rest ⟨n,(d,.list 1 ((mJ s).map (AV.int .u8))) :: tm,hp⟩ Q):ARun P all (⟨some d,.convert src dst x,ty,pos,af,none⟩ :: rest) ⟨n,tm,hp⟩ Q:=by
 refine ARun.OA rfl fun w S a r=>?_
 have e1:=(bg (σ:=⟨n,tm,hp⟩) r hx).dz
 have wj:=Lib.run_convert_string_bytes (P:=P) w src dst e ⟨s.toArray⟩ (ay.h (P:=P) (t:=src)) (ay.h (P:=P) (t:=dst)) (ay.h (P:=P) (t:=e))
 have hE:=NN w e ⟨s.toArray⟩
 obtain ⟨g1,g2⟩:=r.hp.one hE (by rw [Lib.bytesWorld_size];omega)
 have jX:(⟨s.toArray⟩:ByteArray).size=s.length:=by simp [ByteArray.size]
 have vF:At (Lib.bytesWorld w e ⟨s.toArray⟩) (fun n=>S n∨n=w.heap.size) (.list 1 ((mJ s).map (AV.int .u8))) (.slice (some ⟨w.heap.size,0,none⟩) (⟨s.toArray⟩:ByteArray).size (grownCap w (⟨s.toArray⟩:ByteArray).size 0 e)):=by
  have hl:((mJ s).map (AV.int .u8)).length=(⟨s.toArray⟩:ByteArray).size:=by rw [jX];simp [mJ]
  rw [← hl]
  refine .list 1 _ _ _ ((mJ s).map fun z=>Value.int .u8 z) (fun y hy=>?_) ?_ (fun i c v hc hv=>?_) (fun i v hv=>?_) ?_
  ·obtain ⟨z,_,rfl⟩:=List.mem_map.1 hy
   exact ⟨rfl,fun c hc=>by rw [List.mem_singleton.1 hc];rfl⟩
  ·rw [EB];simp
  ·rw [EB] at hc
   simp only [List.getElem?_map,Option.map_eq_some_iff] at hc hv
   obtain ⟨z,h1,rfl⟩:=hc
   obtain ⟨z',h2,rfl⟩:=hv
   rw [h1] at h2;obtain rfl:=Option.some.inj h2
   exact .int _ _
  ·have hi:i < s.length:=by
    have:=(List.getElem?_eq_some_iff.1 hv).1
    simpa [mJ] using this
   refine ⟨_,rfl,rfl,.inr rfl,?_⟩
   rw [Nat.zero_add,Lib.bytesWorld_cell w e ⟨s.toArray⟩ i (by rw [jX];exact hi)]
   simp only [List.getElem?_map,mJ,Option.map_eq_some_iff] at hv
   obtain ⟨z,⟨c,h1,rfl⟩,rfl⟩:=hv
   simp [List.getD,h1]
  ·rw [hl];exact grownCap_ge w _ 0 e
 refine ⟨_,Lib.bytesWorld w e ⟨s.toArray⟩,_,_,?_,(r.heap g2.mW g1).put hn vF,g2,kk⟩
 simp only [execOp,e1,Sem.run_bind,wj,Result.andThen_ok]
 rfl
end rules
end Go.Eng
set_option linter.unusedVariables false
set_option linter.unusedSectionVars false
namespace Go.Eng
open Go
variable [bc]
section
variable {P:Program} {all:Array Oper} {rest:List Oper} {n:Nat} {tm:List (Nat×AV)} {hp:Heap} {Q:St→Prop} {d:Nat} {ty:TypeId} {pos:String} {af:Array Edge}
end
end Go.Eng
set_option linter.unusedVariables false
set_option linter.unusedSectionVars false
namespace Go.Eng
open Go Go.Proofs Go.Shelf Go.RowKit Go.Lib
section
variable {P:Program} (w:World)
end
variable {P:Program} {ρ:Ren}
end Go.Eng
set_option linter.unusedVariables false
set_option linter.unusedSectionVars false
namespace Go.Eng
open Go Go.Proofs Go.Shelf Go.Lib
variable {P:Program} {ρ:Ren} [bc]
end Go.Eng
