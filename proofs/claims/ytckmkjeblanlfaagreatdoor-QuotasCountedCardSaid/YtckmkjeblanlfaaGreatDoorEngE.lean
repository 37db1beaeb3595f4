/- The engine: abstract values, the symbolic heap, one rule for each operation. No program in sight. -/
import Derived.Test.YtckmkjeblanlfaaGreatDoorEngD
import Derived.Laws.Runes
import Derived.Laws.Concat
import Derived.Lib.LaidU8
import Derived.Lib.LaidTab
import Derived.HandedShaped
import Derived.Lib.ConvBytes
import Derived.Shelf.Strings.BuilderF
set_option linter.unusedVariables false
set_option linter.unusedSimpArgs false
set_option linter.unusedSectionVars false
namespace Go.Eng
open Go
variable [bx]
def fc {X A:Type} (o:Option X) (a:A) (f:X→A):A:=match o with
 | none=>a
 | some x=>f x
theorem B6 {X A:Type} {o:Option X} {a r:A} {f:X→A} {C:Prop} (h:fc o a f=r) (kn:o=none→a=r→C) (ks:∀ x,o=some x→f x=r→C):C:=by
 cases o with
 | none=>exact kn rfl h
 | some x=>exact ks x rfl h
@[reducible] def TM {X:Type} (o:Option X) (A:AV→Heap→Prop) (B:X→AV→Heap→Prop):AV→Heap→Prop:=match o with
  | none=>A
  | some x=>B x
theorem pS {P:Program} {f:FuncId} {args:List AV} {h0:Heap} {X:Type} {o:Option X} {A:AV→Heap→Prop} {B:X→AV→Heap→Prop} (e:o=none) (c:aB P f args h0 (TM o A B)):aB P f args h0 A:=by
 subst e;exact c
theorem pT {P:Program} {f:FuncId} {args:List AV} {h0:Heap} {X:Type} {o:Option X} {x:X} {A:AV→Heap→Prop} {B:X→AV→Heap→Prop} (e:o=some x) (c:aB P f args h0 (TM o A B)):aB P f args h0 (B x):=by
 subst e;exact c
def T4 {DZ LK LL LM:Type} (H:DZ→LK→LL→LM→Heap) (V:DZ→LK→LL→LM→AV):AV→Heap→Prop:=fun v h=>∃ b0 b1 b2 b3,h=H b0 b1 b2 b3∧v=V b0 b1 b2 b3
def T6 {DZ LK LL LM Tc Td:Type} (H:DZ→LK→LL→LM→Tc→Td→Heap) (V:DZ→LK→LL→LM→Tc→Td→AV):AV→Heap→Prop:=fun v h=>∃ b0 b1 b2 b3 b4 b5,h=H b0 b1 b2 b3 b4 b5∧v=V b0 b1 b2 b3 b4 b5
section rules
variable {P:Program} {all:Array Oper} {rest:List Oper} {n:Nat} {tm:List (Nat×AV)} {hp:Heap} {Q:St→Prop} {d:Nat} {ty:TypeId} {pos:String} {af:Array Edge}
theorem IN {DZ LK LL LM:Type} {f:FuncId} {args:List Operand} {ts:Array TypeId} {l l':List AV} {h0 hr:Heap} {H H':DZ→LK→LL→LM→Heap} {V:DZ→LK→LL→LM→AV} [bb P f] (hl:Au tm args=some l) (c:aB P f l' h0 (T4 H V)) (co:yP hp l l') (hs:Hc hp h0 hr) (ha:∀ b0 b1 b2 b3,sc (H b0 b1 b2 b3) hr=some (H' b0 b1 b2 b3)) (hn:Nat.blt d n=true)
 (kk:∀ b0 b1 b2 b3,ae P all rest ⟨n,(d,V b0 b1 b2 b3) :: tm,H' b0 b1 b2 b3⟩ Q):ae P all (⟨some d,.call {callee:=.value (.func f),args:=args.toArray,argTypes:=ts},ty,pos,af,none⟩ :: rest) ⟨n,tm,hp⟩ Q:=
 ET hl c co hs hn (fun r h' ⟨b0,b1,b2,b3,e1,e2⟩=>by subst e1;subst e2;rw [nK (ha b0 b1 b2 b3)];exact kk b0 b1 b2 b3)
theorem sU {DZ LK LL LM Tc Td:Type} {f:FuncId} {args:List Operand} {ts:Array TypeId} {l l':List AV} {h0 hr:Heap} {H H':DZ→LK→LL→LM→Tc→Td→Heap} {V:DZ→LK→LL→LM→Tc→Td→AV} [bb P f] (hl:Au tm args=some l) (c:aB P f l' h0 (T6 H V)) (co:yP hp l l') (hs:Hc hp h0 hr) (ha:∀ b0 b1 b2 b3 b4 b5,sc (H b0 b1 b2 b3 b4 b5) hr=some (H' b0 b1 b2 b3 b4 b5)) (hn:Nat.blt d n=true)
 (kk:∀ b0 b1 b2 b3 b4 b5,ae P all rest ⟨n,(d,V b0 b1 b2 b3 b4 b5) :: tm,H' b0 b1 b2 b3 b4 b5⟩ Q):ae P all (⟨some d,.call {callee:=.value (.func f),args:=args.toArray,argTypes:=ts},ty,pos,af,none⟩ :: rest) ⟨n,tm,hp⟩ Q:=
 ET hl c co hs hn (fun r h' ⟨b0,b1,b2,b3,b4,b5,e1,e2⟩=>by subst e1;subst e2;rw [nK (ha b0 b1 b2 b3 b4 b5)];exact kk b0 b1 b2 b3 b4 b5)
theorem Te {t e:TypeId} [aA P t (.pointer e)] (x:Addr) (w:World):(Op.equal t (.pointer (some x)) (.pointer none)).run P w=.ok false w:=by
 show (Op.equalIn (9999+1) t _ _).run P w=_
 rw [Op.equalIn]
 simp [run_underlying (aA.h (P:=P) (t:=t))]
theorem Tf {t e:TypeId} [aA P t (.pointer e)] (w:World):(Op.equal t (.pointer none) (.pointer none)).run P w=.ok true w:=by
 show (Op.equalIn (9999+1) t _ _).run P w=_
 rw [Op.equalIn]
 simp [run_underlying (aA.h (P:=P) (t:=t))]
theorem NZ {t e yt:TypeId} {x y:Operand} {b:Bk} {o:Nat} [aA P t (.pointer e)] (hx:dk tm x=some (.ptr b o)) (hy:dk tm y=some (.raw (.pointer none))):QV P ⟨some d,.binOp .neq t x y yt,ty,pos,af,none⟩ ⟨n,tm,hp⟩ (.bool true):=by
 intro w S a r
 obtain ⟨m,_,hv⟩:=(aV (σ:=⟨n,tm,hp⟩) r hx).pF
 have hu:=(aV (σ:=⟨n,tm,hp⟩) r hy).Bw
 refine ⟨.bool true,fun w' _=>?_,.bool _⟩
 have h1:=Te (P:=P) (t:=t) (e:=e) ⟨m,o,none⟩ w'
 simp [execOp,hv,hu,eqGuard,binOp,h1]
theorem LN {t e yt:TypeId} {x y:Operand} [aA P t (.pointer e)] (hx:dk tm x=some (.raw (.pointer none))) (hy:dk tm y=some (.raw (.pointer none))):QV P ⟨some d,.binOp .neq t x y yt,ty,pos,af,none⟩ ⟨n,tm,hp⟩ (.bool false):=by
 intro w S a r
 have hv:=(aV (σ:=⟨n,tm,hp⟩) r hx).Bw
 have hu:=(aV (σ:=⟨n,tm,hp⟩) r hy).Bw
 refine ⟨.bool false,fun w' _=>?_,.bool _⟩
 have h1:=Tf (P:=P) (t:=t) (e:=e) w'
 simp [execOp,hv,hu,eqGuard,binOp,h1]
end rules
def Qn (d:Nat):List (Nat×AV)→List (Nat×AV)
 | []=>[]
 | (k,v) :: r=>match Nat.beq k d with
   | true=>Qn d r
   | false=>(k,v) :: Qn d r
theorem LO (d:Nat):∀ tm:List (Nat×AV),lk (Qn d tm)=mX (lk tm) (some d) none
 | []=>by
   funext s
   show lk [] s=mX (lk []) (some d) none s
   simp [lk,mX]
 | (k,v) :: r=>by
   funext s
   have ih:=congrFun (LO d r) s
   simp only [Qn]
   cases hk:Nat.beq k d with
   | true=>
     obtain rfl:=Nat.eq_of_beq_eq_true hk
     simp only [ih,mX,lk]
     by_cases hs:k=s
     ·rw [if_pos hs,if_pos hs]
     ·have:Nat.beq k s=false:=by
       cases hb:Nat.beq k s with
       | true=>exact absurd (Nat.eq_of_beq_eq_true hb) hs
       | false=>rfl
      rw [if_neg hs,if_neg hs,this]
   | false=>
     simp only [lk,mX] at ih ⊢
     rw [ih]
     by_cases hs:d=s
     ·subst hs
      rw [if_pos rfl,if_pos rfl,hk]
     ·rw [if_neg hs,if_neg hs]
section rules
variable {P:Program} {all:Array Oper} {n:Nat} {B:Heap} {tk:List Tok} {dy:List Nat} {i:Nat} {rest:List Oper} {tm qP:List (Nat×AV)} {acc:(Nat→Bk)→List (Nat×AV)} {Q:(Nat→Bk)→List (Nat×AV)→Prop} {d:Nat} {ty:TypeId} {pos:String} {af:Array Edge} {op:Op}
theorem AT.Wd {o:Oper} {d:Nat} {V:Bk→AV} (hd:o.dst=some d) (hr:Qn d tm=qP) (NM:dy.contains i=true) (h:∀ β,∀ X∈vz tk i β,sd P all n (X++B) o (Hd (lk tm) (lk (acc β))) (uM tk i β) V (fun b=>jL tk i (pd β i b))) (k:AT P all n B tk dy (i+1) rest qP (fun β=>(d,V (β i)) :: acc β) Q):AT P all n B tk dy i (o :: rest) tm acc Q:=by
 obtain ⟨D,yE,k1,k2⟩:=k
 refine ⟨(none,V) :: D,yE,.cons h (fun r7 e b=>by cases e) (fun _=>NM) ?_,fun β=>?_⟩
 ·rw [hd,← LO,hr]
  have e2:JD none (fun β=>lk (acc β)) (some d) V i=fun β=>lk ((d,V (β i)) :: acc β):=by
   funext β
   simp only [JD]
   rw [xq];rfl
  rw [e2];exact k1
 ·have:=k2 β
  simp only [yS,hd]
  exact this
theorem AT.Tg {V:Bk→AV} {Ti H1:(Nat→Bk)→Heap} {Pi H2:Bk→Heap} (Jr:∀ β,vz tk i β=[[]]) (Lu:∀ β,uM tk i β=Ti β) (Lv:∀ β b,jL tk i (pd β i b)=Pi b) (h1:∀ β,sc (Ti β) B=some (H1 β)) (h2:∀ b,sc (Pi b) B=some (H2 b)) (hn:Nat.blt d n=true) (hr:Qn d tm=qP) (NM:dy.contains i=true)
 (uK:∀ β,ae P all [⟨some d,op,ty,pos,af,none⟩] ⟨n,Dd (looks all ⟨some d,op,ty,pos,af,none⟩) (tm++acc β),H1 β⟩ (fun aE=>∃ b yE,aE=⟨n,yE,H2 b⟩∧lk yE d=some (V b)))
 (k:AT P all n B tk dy (i+1) rest qP (fun β=>(d,V (β i)) :: acc β) Q):AT P all n B tk dy i (⟨some d,op,ty,pos,af,none⟩ :: rest) tm acc Q:=by
 refine AT.Wd rfl hr NM (fun β X hX=>?_) k
 rw [Jr β] at hX
 obtain rfl:=List.mem_singleton.1 hX
 rw [List.nil_append,Lu β,show (fun b=>jL tk i (pd β i b))=Pi from funext (Lv β),← JE]
 refine xu rfl (fun d' Bb=>by obtain rfl:=Option.some.inj Bb;simpa using hn) (h1 β) h2 ?_ (fun e=>by cases e)
 refine fun w S a r=>il ?_ _ _ _ (uK β w S a r)
 rintro e a' w' ⟨he,aE,S',⟨b,yE,q1,q2⟩,hh⟩
 exact ⟨he,aE,S',⟨b,yE,q1,fun d' Bb=>by obtain rfl:=Option.some.inj Bb;exact q2⟩,hh⟩
end rules
theorem BB (b:Bk) (es:List (Bk×PO)) (n:Nat):n∈eb (b,.gm es)↔b.cF=some n∨∃ e∈es,e.1.cF=some n:=by
 simp [eb,Ob.more,List.mem_filterMap]
theorem BC (e:Bk×PO):eb (e.1,e.2.ob)=e.1.cF.toList:=by
 obtain ⟨b,o⟩:=e
 cases o<;>simp [eb,Ob.more,PO.ob]
theorem JI {w:World} {S:Nat→Prop} {hp dR:Heap} {bp:Bk} {es IP:List (Bk×PO)} {x:Bk×PO} (r:dv w S hp) (u:oW hp bp (.gm es) bp (.gm IP) dR) (mB:es.Perm (x :: IP)):
 dv w S ((x.1,x.2.ob) :: dR)∧kP w S hp w S ((x.1,x.2.ob) :: dR):=by
 obtain ⟨p,q,rfl,rfl⟩:=u.split
 obtain ⟨DO,od⟩:bp.cF=none∧∀ e∈es,pb w S e.1 e.2:=r.holds (bp,.gm es) (bB.2 (.inl rfl))
 have B7:∀ e∈IP,e∈es:=fun e he=>mB.mem_iff.2 (List.mem_cons_of_mem _ he)
 have hx:x∈es:=mB.mem_iff.2 (by simp)
 have LP:x.2.ob.As↔False:=by cases x.2<;>exact Iff.rfl
 have Gf:∀ n,n∈eb (bp,.gm es)↔n∈eb (x.1,x.2.ob)∨n∈eb (bp,.gm IP):=by
  intro n
  rw [BB,BB,BC,DO]
  constructor
  ·rintro (h | ⟨e,he,hn⟩)
   ·cases h
   ·rcases List.mem_cons.1 (mB.mem_iff.1 he) with rfl | he
    ·exact .inl (by simp [hn])
    ·exact .inr (.inr ⟨e,he,hn⟩)
  ·rintro (h | h | ⟨e,he,hn⟩)
   ·exact .inr ⟨x,hx,by simpa using h⟩
   ·cases h
   ·exact .inr ⟨e,B7 e he,hn⟩
 have LQ:∀ n,Has ((x.1,x.2.ob) :: (p++(bp,.gm IP) :: q)) n↔Has (p++(bp,.gm es) :: q) n:=by
  intro n
  constructor
  ·rintro ⟨e,he,hn⟩
   rcases List.mem_cons.1 he with rfl | he
   ·exact ⟨_,bB.2 (.inl rfl),(Gf n).2 (.inl hn)⟩
   ·rcases bB.1 he with rfl | he
    ·exact ⟨_,bB.2 (.inl rfl),(Gf n).2 (.inr hn)⟩
    ·exact ⟨e,bB.2 (.inr he),hn⟩
  ·rintro ⟨e,he,hn⟩
   rcases bB.1 he with rfl | he
   ·rcases (Gf n).1 hn with h | h
    ·exact ⟨_,List.mem_cons_self,h⟩
    ·exact ⟨_,List.mem_cons_of_mem _ (bB.2 (.inl rfl)),h⟩
   ·exact ⟨e,List.mem_cons_of_mem _ (bB.2 (.inr he)),hn⟩
 have We:(((x.1,x.2.ob) :: (p++(bp,.gm IP) :: q)).flatMap eb).Perm ((p++(bp,.gm es) :: q).flatMap eb):=by
  have e1:(eb (bp,.gm es)).Perm (eb (x.1,x.2.ob)++eb (bp,.gm IP)):=by
   rw [BC]
   simp only [eb,Ob.more,DO,Option.toList_none,List.nil_append]
   refine (mB.filterMap _).trans ?_
   rw [List.filterMap_cons]
   cases x.1.cF<;>simp
  rw [List.flatMap_cons,List.flatMap_append,List.flatMap_append,List.flatMap_cons,List.flatMap_cons]
  refine List.Perm.trans ?_ ((e1.symm.append_right _).append_left _)
  rw [← List.append_assoc,← List.append_assoc,← List.append_assoc,← List.append_assoc]
  refine (List.Perm.append_right _ ?_)
  exact (List.perm_append_comm.append_right _)
 refine ⟨⟨(We.nodup_iff).2 r.nodup,?_,?_,r.slt,r.kN⟩,⟨rfl,rfl,rfl,Nat.le_refl _,fun n hn=>⟨hn,rfl⟩,fun n _ _=>⟨rfl,id⟩,fun n hn=>.inl ((LQ n).1 hn),fun _=>Nat.le_refl _⟩⟩
 ·intro e he
  rcases List.mem_cons.1 he with rfl | he
  ·exact pb.ob.1 (od x hx)
  ·rcases bB.1 he with rfl | he
   ·exact ⟨DO,fun e he=>od e (B7 e he)⟩
   ·exact r.holds e (bB.2 (.inr he))
 ·intro e he n hn
  rcases List.mem_cons.1 he with rfl | he
  ·have:=r.sep (bp,.gm es) (bB.2 (.inl rfl)) n ((Gf n).2 (.inl hn))
   exact ⟨fun h=>(this.1 h).elim,fun h=>(LP.1 h).elim⟩
  ·rcases bB.1 he with rfl | he
   ·have:=r.sep (bp,.gm es) (bB.2 (.inl rfl)) n ((Gf n).2 (.inr hn))
    exact ⟨fun h=>(this.1 h).elim,fun h=>h.elim⟩
   ·exact r.sep e (bB.2 (.inr he)) n hn
theorem LR {w:World} {S:Nat→Prop} {hp Gg dR:Heap} {bp:Bk} {es IP:List (Bk×PO)} {x:Bk×PO} (r:dv w S hp) (dl:xK hp x.1 x.2.ob Gg) (u:oW Gg bp (.gm es) bp (.gm IP) dR) (mB:IP.Perm (x :: es)):
 dv w S dR∧kP w S hp w S dR:=by
 obtain ⟨p0,q0,rfl,rfl⟩:=dl.split
 have r1:dv w S ((x.1,x.2.ob) :: (p0++q0)):=by
  refine ⟨?_,fun e he=>r.holds e (bB.2 (by simpa using he)),fun e he=>r.sep e (bB.2 (by simpa using he)),r.slt,r.kN⟩
  refine ((List.Perm.flatMap_right eb ?_).nodup_iff).1 r.nodup
  exact List.perm_middle
 generalize hq:p0++q0=h1 at u r1
 obtain ⟨p,q,rfl,rfl⟩:=u.split
 obtain ⟨DO,od⟩:bp.cF=none∧∀ e∈es,pb w S e.1 e.2:=r1.holds (bp,.gm es) (List.mem_cons_of_mem _ (bB.2 (.inl rfl)))
 have hxh:pb w S x.1 x.2:=pb.ob.2 (r1.holds (x.1,x.2.ob) (by simp))
 have LP:x.2.ob.As↔False:=by cases x.2<;>exact Iff.rfl
 have Gf:∀ n,n∈eb (bp,.gm IP)↔n∈eb (x.1,x.2.ob)∨n∈eb (bp,.gm es):=by
  intro n
  rw [BB,BB,BC,DO]
  constructor
  ·rintro (h | ⟨e,he,hn⟩)
   ·cases h
   ·rcases List.mem_cons.1 (mB.mem_iff.1 he) with rfl | he
    ·exact .inl (by simp [hn])
    ·exact .inr (.inr ⟨e,he,hn⟩)
  ·rintro (h | h | ⟨e,he,hn⟩)
   ·exact .inr ⟨x,mB.mem_iff.2 (by simp),by simpa using h⟩
   ·cases h
   ·exact .inr ⟨e,mB.mem_iff.2 (List.mem_cons_of_mem _ he),hn⟩
 have e1:(eb (bp,.gm IP)).Perm (eb (x.1,x.2.ob)++eb (bp,.gm es)):=by
  rw [BC]
  simp only [eb,Ob.more,DO,Option.toList_none,List.nil_append]
  refine (mB.filterMap _).trans ?_
  rw [List.filterMap_cons]
  cases x.1.cF<;>simp
 have We:(((x.1,x.2.ob) :: (p++(bp,.gm es) :: q)).flatMap eb).Perm ((p++(bp,.gm IP) :: q).flatMap eb):=by
  rw [List.flatMap_cons,List.flatMap_append,List.flatMap_append,List.flatMap_cons,List.flatMap_cons]
  refine List.Perm.trans ?_ ((e1.symm.append_right _).append_left _)
  rw [← List.append_assoc,← List.append_assoc,← List.append_assoc,← List.append_assoc]
  refine (List.Perm.append_right _ ?_)
  exact (List.perm_append_comm.append_right _)
 have LQ:∀ n,Has (p++(bp,.gm IP) :: q) n→Has ((x.1,x.2.ob) :: (p++(bp,.gm es) :: q)) n:=by
  rintro n ⟨e,he,hn⟩
  rcases bB.1 he with rfl | he
  ·rcases (Gf n).1 hn with h | h
   ·exact ⟨_,List.mem_cons_self,h⟩
   ·exact ⟨_,List.mem_cons_of_mem _ (bB.2 (.inl rfl)),h⟩
  ·exact ⟨e,List.mem_cons_of_mem _ (bB.2 (.inr he)),hn⟩
 have Th:∀ n,Has ((x.1,x.2.ob) :: (p++(bp,.gm es) :: q)) n→Has (p0++(x.1,x.2.ob) :: q0) n:=fun n hn=>by
  obtain ⟨e,he,xn⟩:=hn
  refine ⟨e,bB.2 ?_,xn⟩
  rw [hq]
  simpa using he
 refine ⟨⟨(We.nodup_iff).1 r1.nodup,?_,?_,r.slt,r.kN⟩,⟨rfl,rfl,rfl,Nat.le_refl _,fun n hn=>⟨hn,rfl⟩,fun n _ _=>⟨rfl,id⟩,fun n hn=>.inl (Th n (LQ n hn)),fun _=>Nat.le_refl _⟩⟩
 ·intro e he
  rcases bB.1 he with rfl | he
  ·refine ⟨DO,fun e he=>?_⟩
   rcases List.mem_cons.1 (mB.mem_iff.1 he) with rfl | he
   ·exact hxh
   ·exact od e he
  ·exact r1.holds e (List.mem_cons_of_mem _ (bB.2 (.inr he)))
 ·intro e he n hn
  rcases bB.1 he with rfl | he
  ·refine ⟨fun hs=>?_,fun h=>h.elim⟩
   rcases (Gf n).1 hn with h | h
   ·exact LP.1 ((r1.sep _ (by simp) n h).1 hs)
   ·exact (r1.sep (bp,.gm es) (List.mem_cons_of_mem _ (bB.2 (.inl rfl))) n h).1 hs
  ·exact r1.sep e (List.mem_cons_of_mem _ (bB.2 (.inr he))) n hn
structure Kept (V:Type) where
 val:Bk→V→AV
 po:V→PO
def fa {E:Type} (sz:Nat) (g:E→AV):Kept (List E):=⟨fun b v=>.sl sz b 0 v.length,fun v=>.arr sz (v.map g)⟩
section plain
variable {K V:Type}
def vC (gk:K→AV) (kp:Kept V) (β:K→Bk) (M:List (K×V)):List (AV×AV):=M.map fun e=>(gk e.1,kp.val (β e.1) e.2)
def im (kp:Kept V) (β:K→Bk) (M:List (K×V)):List (Bk×PO):=M.map fun e=>(β e.1,kp.po e.2)
def ox (β:K→Bk) (M:List (K×V)):List (K×(Bk×V)):=M.map fun e=>(e.1,(β e.1,e.2))
theorem tB (gk:K→AV) (kp:Kept V) (β:K→Bk) (M:List (K×V)):vC gk kp β M=(ox β M).map fun e=>(gk e.1,kp.val e.2.1 e.2.2):=by
 unfold vC ox;rw [List.map_map];rfl
variable [DecidableEq K]
def zM (β:K→Bk) (k:K) (b:Bk):K→Bk:=fun k'=>if k'=k then b else β k'
theorem JJ (β:K→Bk) (M:List (K×V)) (k:K):bM (ox β M) k=(bM M k).map fun v=>(β k,v):=by
 induction M with
 | nil=>rfl
 | cons e r ih=>
   show (if e.1=k then some (β e.1,e.2) else bM (ox β r) k)=(if e.1=k then some e.2 else bM r k).map _
   rw [ih]
   split
   ·rename_i h;rw [h];rfl
   ·rfl
theorem HB {M:List (K×V)} {k:K} {v:V} (hn:(M.map Prod.fst).Nodup) (h:bM M k=some v):M.Perm ((k,v) :: mQ M k):=by
 induction M with
 | nil=>cases h
 | cons e r ih=>
   rw [List.map_cons,List.nodup_cons] at hn
   unfold bM at h
   unfold mQ
   rw [List.filter_cons]
   split at h
   ·rename_i hk
    obtain rfl:=Option.some.inj h
    rw [if_neg (by simp [hk])]
    have:r.filter (fun e=>decide (e.1≠k))=r:=List.filter_eq_self.2 fun x hx=>by
     simp only [ne_eq,decide_not,Bool.not_eq_true',decide_eq_false_iff_not]
     intro hxk
     exact hn.1 (List.mem_map.2 ⟨x,hx,by rw [hxk,hk]⟩)
    rw [this,← hk]
   ·rename_i hk
    rw [if_pos (by simp [hk])]
    exact (List.Perm.cons e (ih hn.2 h)).trans (List.Perm.swap _ _ _)
theorem B8 (M:List (K×V)) (k:K):∀ e∈mQ M k,e.1≠k:=fun e he=>by
 have:=(List.mem_filter.1 he).2
 simpa using this
theorem JK (kp:Kept V) (β:K→Bk) (k:K) (b:Bk) {M:List (K×V)} (h:∀ e∈M,e.1≠k):im kp (zM β k b) M=im kp β M:=by
 unfold im
 exact List.map_congr_left fun e he=>by unfold zM;rw [if_neg (h e he)]
variable [vV K]
theorem tf (M:List (K×V)) (k:K) (v:V):(kO M k v).Perm ((k,v) :: mQ M k):=rb k v _
theorem JL (kp:Kept V) (β:K→Bk) (k:K) (b:Bk) (M:List (K×V)) (v:V):(im kp (zM β k b) (kO M k v)).Perm ((b,kp.po v) :: im kp β (mQ M k)):=by
 refine ((tf M k v).map _).trans ?_
 rw [List.map_cons]
 have e1:(mQ M k).map (fun e=>(zM β k b e.1,kp.po e.2))=im kp β (mQ M k):=JK kp β k b (B8 M k)
 rw [e1]
 have:zM β k b k=b:=by unfold zM;rw [if_pos rfl]
 rw [this]
end plain
theorem HC {K V:Type} {gk:K→AV} {kp:Kept V} {β:K→Bk} {w:World} {S:Nat→Prop} {hp:Heap} {b:Bk} {M:List (K×V)} (HA:∀ a b,gk a=gk b→a=b) (r:dv w S hp) (f:mf hp b (.mp (vC gk kp β M))):(M.map Prod.fst).Nodup:=by
 rw [tB] at f
 obtain ⟨L,c,M',n,dJ,p1,_,_,_,_,_,_,p8⟩:=vB (gv:=fun p:Bk×V=>kp.val p.1 p.2) HA r f
 have:=(p1.map Prod.fst).nodup_iff.1 p8
 unfold ox at this
 rw [List.map_map] at this
 exact this
theorem LS {hp dR:Heap} {b:Bk} {o o':Ob} (u:oW hp b o b o' dR) (h:o=o'):hp=dR:=by
 obtain ⟨p,q,rfl,rfl⟩:=u.split
 rw [h]
section rules
variable {P:Program} {all:Array Oper} {rest:List Oper} {n:Nat} {tm:List (Nat×AV)} {hp:Heap} {Q:St→Prop} {d:Nat} {ty:TypeId} {pos:String} {af:Array Edge}
theorem JM {K E:Type} [DecidableEq K] {gk:K→AV} {sz:Nat} {g:E→AV} {β:K→Bk} {M:List (K×List E)} {key:K} {xs:List E} {t kt vt:TypeId} {i:TypeInfo} {x y:Operand} {bm bp:Bk} {dR:Heap} [aA P t (.map kt vt)] [aN P vt i] [gn P kt gk] (hx:dk tm x=some (.gl bm)) (hy:dk tm y=some (gk key)) (f:mf hp bm (.mp (vC gk (fa sz g) β M))) (u:oW hp bp (.gm (im (fa sz g) β M)) bp (.gm (im (fa sz g) β (mQ M key))) dR) (hz:i.zero=some (.slice none 0 0)) (h:kK M key []=some xs) (hn:Nat.blt d n=true)
 (kk:∀ b,(∀ v,bM M key=some v→b=β key∧v=xs)→ae P all rest ⟨n,(d,.sl sz b 0 xs.length) :: tm,(b,.arr sz (xs.map g)) :: dR⟩ Q):ae P all (⟨some d,.lookup t x y false,ty,pos,af,none⟩ :: rest) ⟨n,tm,hp⟩ Q:=by
 refine ae.Iq rfl fun w S a r=>?_
 have xZ:=HC (gn.inj P kt) r.hp f
 have kx:=aV (σ:=⟨n,tm,hp⟩) r hx
 have ky:=aV (σ:=⟨n,tm,hp⟩) r hy
 obtain ⟨nb,hb,ex⟩:=kx.ov
 have f':=f
 rw [tB] at f'
 obtain ⟨L,c,M',AH,dJ,p1,p2,p3,p4,p5,p6,p7,p8⟩:=vB (gv:=fun p:Bk×List E=>(fa sz g).val p.1 p.2) (gn.inj P kt) r.hp f'
 obtain rfl:AH=nb:=by rw [p4] at hb;exact Option.some.inj hb
 have pv:=gn.find (P:=P) (t:=kt) (g:=gk) ky dJ.toList (M'.map Prod.fst) (by simpa using p6.symm) (fun j k' e h1 h2=>by
  rw [List.getElem?_map] at h1
  cases hm:M'[j]? with
  | none=>rw [hm] at h1;cases h1
  | some q=>rw [hm] at h1;rw [← Option.some.inj h1];exact (p7 j q e hm h2).1)
 have N0:=pt p1 p8 key
 rw [JJ] at N0
 have hv:=Option.some.inj h
 rcases um (gv:=fun p:Bk×List E=>(fa sz g).val p.1 p.2) (w:=w) (S:=S) (k:=key) M' dJ.toList 0 p6.symm (fun j e m h1 h2=>(p7 j e m h1 h2).2) with ⟨q1,q2⟩ | ⟨v',j,val,q1,q2,q3,_⟩
 ·
  rw [q1] at N0
  have Dc:bM M key=none:=by
   cases hc:bM M key with
   | none=>rfl
   | some v=>rw [hc] at N0;cases N0
  rw [Dc,Option.getD_none] at hv
  subst hv
  have IL:=LS u (by rw [u9 Dc])
  obtain ⟨g1,g2,g3⟩:=oX (b:=⟨none,0⟩) (o:=.arr sz (([]:List E).map g)) r.hp (Ext.refl w) id ⟨by simp,by simp,.inl ⟨rfl,rfl⟩⟩ (.inl rfl)
  refine ⟨.slice none 0 0,w,S,⟨n,(d,.sl sz ⟨none,0⟩ 0 0) :: tm,(⟨none,0⟩,.arr sz (([]:List E).map g)) :: dR⟩,?_,?_,?_,kk ⟨none,0⟩ (fun v hv=>by rw [Dc] at hv;cases hv)⟩
  ·simp [execOp,Instr.lookup,ex,run_underlying (aA.h (P:=P) (t:=t)),dO p5,gn.check (P:=P) (t:=kt) ky,pv,q2,zeroValue,typeInfo,aN.h (P:=P) (t:=vt),hz]
  ·rw [← IL]
   exact (r.heap g3 g1).put hn (.zw sz _ rfl)
  ·rw [← IL];exact g2
 ·rw [q1] at N0
  obtain ⟨v,M9⟩:∃ v,bM M key=some v:=by
   cases hc:bM M key with
   | none=>rw [hc] at N0;cases N0
   | some v=>exact ⟨v,rfl⟩
  rw [M9,Option.getD_some] at hv
  subst hv
  rw [M9] at N0
  have Uv:v'=(β key,v):=Option.some.inj N0
  subst Uv
  have hpm:(im (fa sz g) β M).Perm ((β key,.arr sz (v.map g)) :: im (fa sz g) β (mQ M key)):=((HB xZ M9).map _)
  obtain ⟨g1,g2⟩:=JI r.hp u hpm
  refine ⟨val,w,S,⟨n,(d,.sl sz (β key) 0 v.length) :: tm,(β key,.arr sz (v.map g)) :: dR⟩,?_,(r.heap (fun m hm=>⟨hm,rfl⟩) g1).put hn q3,g2,kk (β key) (fun v2 Ui=>⟨rfl,by rw [M9] at Ui;exact (Option.some.inj Ui).symm⟩)⟩
  simp [execOp,Instr.lookup,ex,run_underlying (aA.h (P:=P) (t:=t)),dO p5,gn.check (P:=P) (t:=kt) ky,pv,q2]
end rules
theorem HD {K V:Type} [DecidableEq K] (β:K→Bk) (M:List (K×V)) (k:K):mQ (ox β M) k=ox β (mQ M k):=by
 unfold mQ ox
 rw [List.filter_map]
 rfl
theorem B9 {K V:Type} [vV K] (β:K→Bk) (k:K) (b:Bk) (v:V) (hk:β k=b):∀ M:List (K×V),u7 k (b,v) (ox β M)=ox β (u7 k v M)
 | []=>by simp [u7,ox,hk]
 | e :: r=>by
   show u7 k (b,v) ((e.1,(β e.1,e.2)) :: ox β r)=ox β (u7 k v (e :: r))
   unfold u7
   by_cases h:vV.lt e.1 k=true
   ·rw [if_pos h,if_pos h,B9 β k b v hk r];rfl
   ·rw [if_neg h,if_neg h];simp [ox,hk]
theorem JN {K V:Type} [DecidableEq K] (β:K→Bk) (k:K) (b:Bk) {M:List (K×V)} (h:∀ e∈M,e.1≠k):ox (zM β k b) M=ox β M:=by
 unfold ox
 exact List.map_congr_left fun e he=>by unfold zM;rw [if_neg (h e he)]
theorem HE {K V:Type} [DecidableEq K] [vV K] (β:K→Bk) (M:List (K×V)) (k:K) (b:Bk) (v:V):kO (ox β M) k (b,v)=ox (zM β k b) (kO M k v):=by
 unfold kO
 rw [HD,← JN β k b (B8 M k),B9 _ _ _ _ (by unfold zM;rw [if_pos rfl])]
section rules
variable {P:Program} {all:Array Oper} {rest:List Oper} {n:Nat} {tm:List (Nat×AV)} {hp:Heap} {Q:St→Prop} {d:Nat} {ty:TypeId} {pos:String} {af:Array Edge}
theorem E0 {K V:Type} [DecidableEq K] [vV K] {gk:K→AV} {kp:Kept V} {β:K→Bk} {M:List (K×V)} {key:K} {v:V} {t kt vt:TypeId} {x y z:Operand} {b bm:Bk} {dR:Heap} {av:AV} [aA P t (.map kt vt)] [gn P kt gk] (hx:dk tm x=some (.gl bm)) (hy:dk tm y=some (gk key)) (hz:dk tm z=some av) (qN:av=kp.val b v) (u:oW hp bm (.mp (vC gk kp β M)) bm (.mp (vC gk kp (zM β key b) (kO M key v))) dR)
 (kk:ae P all rest ⟨n,tm,dR⟩ Q):ae P all (⟨none,.mapUpdate t x y z,ty,pos,af,none⟩ :: rest) ⟨n,tm,hp⟩ Q:=by
 rw [tB,tB,← HE] at u
 exact wM (gk:=gk) (gv:=fun p:Bk×V=>kp.val p.1 p.2) (M:=ox β M) (key:=key) (v:=(b,v)) hx hy hz qN u kk
end rules
theorem ai.N1 {n:Nat} {tm:List (Nat×AV)} {hp Gg dR:Heap} {T:St→Prop} {K V:Type} [DecidableEq K] [vV K] {kp:Kept V} {β:K→Bk} {M:List (K×V)} {key:K} {v:V} {b bp:Bk} {o:Ob} (ho:o=(kp.po v).ob) (dl:xK hp b o Gg) (u:oW Gg bp (.gm (im kp β (mQ M key))) bp (.gm (im kp (zM β key b) (kO M key v))) dR) (k:ai ⟨n,tm,dR⟩ T):ai ⟨n,tm,hp⟩ T:=by
 refine ai.step (yI:=⟨n,tm,dR⟩) (fun w S a r=>?_) k
 subst ho
 obtain ⟨g1,g2⟩:=LR (x:=(b,kp.po v)) r.hp dl u (JL kp β key b M v)
 exact ⟨_,S,rfl,r.heap (fun m hm=>⟨hm,rfl⟩) g1,g2⟩
section rules
variable {P:Program} {all:Array Oper} {rest:List Oper} {n:Nat} {tm:List (Nat×AV)} {hp:Heap} {Q:St→Prop} {d:Nat} {ty:TypeId} {pos:String} {af:Array Edge}
theorem HF {K V:Type} {gk:K→AV} {kp:Kept V} {β:K→Bk} {t:TypeId} (hn:Nat.blt d n=true) (kk:∀ b bp:Bk,ae P all rest ⟨n,(d,.gl b) :: tm,(b,.mp (vC gk kp β [])) :: (bp,.gm (im kp β [])) :: hp⟩ Q):ae P all (⟨some d,.makeMap t none,ty,pos,af,none⟩ :: rest) ⟨n,tm,hp⟩ Q:=by
 have g:ae P all (⟨some d,.makeMap t none,ty,pos,af,none⟩ :: rest) ⟨n,tm,(⟨none,0⟩,.gm []) :: hp⟩ Q:=re hn (fun b=>kk b ⟨none,0⟩)
 refine ae.ghost (ai.step (yI:=⟨n,tm,(⟨none,0⟩,.gm []) :: hp⟩) (fun w S a r=>?_) (ai.here g))
 obtain ⟨g1,g2,g3⟩:=oX (b:=⟨none,0⟩) (o:=.gm []) r.hp (Ext.refl w) id ⟨rfl,by simp⟩ (.inl rfl)
 exact ⟨_,S,rfl,r.heap g3 g1,g2⟩
end rules
def rowOf (o:Option Obj):Option (Array Value):=match o with
 | some (.cells vs _ _)=>some vs
 | _=>none
theorem JO (xs:List (List UInt8)):flat (xs.map AV.str)=xs.map AV.str:=D7 (fun _=>rfl) xs
theorem HG {w:World} {S:Nat→Prop} (r:dv w S []) (xs:List (List UInt8)) (E:TypeId) {vs:Array Value} (hv:vs=(xs.map fun s=>Value.string ⟨s.toArray⟩).toArray):
 At (w.alloc (.cells vs E)) S (.sl 1 ⟨some w.heap.size,xs.length⟩ 0 xs.length) (.slice (some ⟨w.heap.size,0,none⟩) xs.length xs.length)∧
  dv (w.alloc (.cells vs E)) S [(⟨some w.heap.size,xs.length⟩,.arr 1 (xs.map AV.str))]∧kP w S [] (w.alloc (.cells vs E)) S [(⟨some w.heap.size,xs.length⟩,.arr 1 (xs.map AV.str))]:=by
 subst hv
 have e0:=Ext.alloc w (.cells (xs.map fun s=>Value.string ⟨s.toArray⟩).toArray E)
 have hh:Holds (w.alloc (.cells (xs.map fun s=>Value.string ⟨s.toArray⟩).toArray E)) S ⟨some w.heap.size,xs.length⟩ (.arr 1 (xs.map AV.str)):=by
  refine ⟨fun x hx=>?_,by simp,.inr ⟨w.heap.size,(xs.map fun s=>Value.string ⟨s.toArray⟩).toArray,E,rfl,?_,by simp,?_⟩⟩
  ·obtain ⟨s,_,rfl⟩:=List.mem_map.1 hx
   exact ⟨rfl,fun c hc=>by rw [List.mem_singleton.1 hc];rfl⟩
  ·show (w.heap.push _)[w.heap.size]? =_
   simp
  ·rw [JO]
   intro i c v hc hv
   simp only [List.getElem?_map,List.getElem?_toArray,Option.map_eq_some_iff] at hc hv
   obtain ⟨s,h1,rfl⟩:=hc
   obtain ⟨s',h2,rfl⟩:=hv
   rw [h1] at h2
   obtain rfl:=Option.some.inj h2
   exact .str s
 obtain ⟨k1,k2,k3⟩:=oX r e0 id hh (.inr ⟨_,rfl,Nat.le_refl _⟩)
 refine ⟨?_,k1,k2⟩
 have:=At.sl (w:=w.alloc (.cells (xs.map fun s=>Value.string ⟨s.toArray⟩).toArray E)) (S:=S) 1 ⟨some w.heap.size,xs.length⟩ 0 xs.length w.heap.size xs.length rfl (Nat.le_refl _) (by simp)
 simpa using this
def N2 (k:IntKind) (o:Option Obj):Prop:=∃ vs m,rowOf o=some vs∧vs[0]? =some (.int k m)
theorem Gh (w:World) (g i:Nat) {vs:Array Value} (h:rowOf (w.heap[g]?)=some vs):w.cell? ⟨g,i,none⟩=vs[i]?:=by
 unfold World.cell?
 unfold rowOf at h
 split at h
 ·rename_i C7 e f ho
  obtain rfl:=Option.some.inj h
  simp [ho]
 ·cases h
def IQ:List (Nat×(Option Obj→Prop))→Nat→Option (Option Obj→Prop)
 | [],_=>none
 | (k,o) :: r,g=>if g=k then some o else IQ r g
theorem Eb:∀ {l:List (Nat×(Option Obj→Prop))} {g:Nat} {o:Option Obj→Prop},IQ l g=some o→(g,o)∈l
 | [],_,_,h=>by cases h
 | (k,o') :: r,g,o,h=>by
   unfold IQ at h
   split at h
   ·rename_i hg
    rw [hg,Option.some.inj h];simp
   ·exact List.mem_cons_of_mem _ (Eb h)
theorem Qo {w:World} {g:Nat} {vs:Array Value} (h:rowOf (w.heap[g]?)=some vs):g < w.heap.size:=by
 rcases Nat.lt_or_ge g w.heap.size with h' | h'
 ·exact h'
 ·rw [Array.getElem?_eq_none h'] at h;cases h
end Go.Eng
namespace Go.Eng
open Go
section errs
variable [bx] {P:Program} {all:Array Oper} {rest:List Oper} {n:Nat} {tm:List (Nat×AV)} {hp:Heap} {Q:St→Prop} {d:Nat} {ty:TypeId} {pos:String} {af:Array Edge}
end errs
end Go.Eng
namespace Go.Eng
open Go
variable [bx]
section rules
variable {P:Program} {all:Array Oper} {rest:List Oper} {n:Nat} {tm:List (Nat×AV)} {hp:Heap} {Q:St→Prop} {d:Nat} {ty:TypeId} {pos:String} {af:Array Edge}
end rules
end Go.Eng
namespace Go.Eng
open Go Go.Lib
variable [bx]
theorem Gi {w:World} {g:Nat} {v:Value} (h:w.cell? ⟨g,0,none⟩=some v):∃ vs,rowOf (w.heap[g]?)=some vs∧vs[0]? =some v:=by
 unfold World.cell? at h
 cases ho:w.heap[g]? with
 | none=>simp [ho] at h
 | some o=>
   cases o with
   | cells vs e f=>exact ⟨vs,rfl,by simpa [ho] using h⟩
   | _=>simp [ho] at h
theorem N3 {w:World} {g:Nat} {k:IntKind} {m:Int} (h:w.cell? ⟨g,0,none⟩=some (.int k m)):g < w.heap.size∧N2 k (w.heap[g]?):=by
 obtain ⟨vs,h1,h2⟩:=Gi h
 exact ⟨Qo h1,vs,m,h1,h2⟩
end Go.Eng
namespace Go.Eng
open Go
variable {H:Type} {enc:TypeId×Value→H}
theorem Gj {a:Assume} {C:Checked} {os:Os} {f:FuncId} {fn:Func} {s:ChangeSpec} {conds:List PathCond} {apart fresh handsOn again:Bool} {X:World→Array Value→Prop}
 (hX:∀ (w w':World) (args:Array Value),w.heap=w'.heap→X w args→X w' args)
 (own:ownKnob C.prog.godebug=none) (started:os.Started) (Qp:C.prog.inits.idxOf? f=none) (Wf:C.prog.funcs[f]? =some fn)
 (witness:∃ (w:World) (tape:Tape) (i:Input),w.os=os∧(w.forCall tape i).Shaped C.prog∧i.vars=[]∧Input.okWide C.prog (w.forCall tape i) .any w.heap.size f i∧
  ((s.pre enc C.prog fn conds apart (w.forCall tape i).memory i.args∧X (w.forCall tape i).memory i.args)∧sizedMet enc C.prog fn (OpenSpec.ofChange s) apart (w.forCall tape i).memory i.args)∧a.holds C.prog (lone (Frame.enter C.prog f i.args .normal) [] (w.forCall tape i)))
 (walk:∀ (W:World) (base:Nat) (args:Array Value) (ds gs:List (DataW H)) (before:List MemPlace),
  (∀ (j:Nat) t v,fn.params[j]? =some t→args[j]? =some v→Value.okWide C.prog W .any base t v)→
  DataW.Whole enc C.prog fn.params.toList s.vars apart W args.toList ds gs before→
  conds.all (PathCond.test C.prog ⟨fn.params.toList,ds,s.plain.varTypes C.prog,gs⟩)=true→
  (DataW.weightsEach C.prog (fn.params.toList++s.plain.varTypes C.prog) (ds++gs)).all (· ≤reachBytes)=true→X W args∧W.ShapedOpen C.prog→
  a.holds C.prog (lone (Frame.enter C.prog f args .normal) [] W)→
  Calls C.prog f args W fun e W'=>∃ v,e=.returned v∧s.post enc C.prog fn apart fresh handsOn again W args v W'):
 ReturnsInHanded a C os f .any (fun w args=>(s.pre enc C.prog fn conds apart w args∧X w args)∧sizedMet enc C.prog fn (OpenSpec.ofChange s) apart w args) (s.post enc C.prog fn apart fresh handsOn again):=by
 refine returnsInHanded_of_calls own started Qp witness ?_
 intro w tape i _ shaped _ ok pre held
 obtain ⟨_,_,_,fn',there,_,_,_,_,Wg⟩:=ok
 cases Option.some.inj (there.symm.trans Wf)
 obtain ⟨⟨⟨ds,gs,before,whole,Tj⟩,x⟩,sized⟩:=pre
 have K:=walk (w.forCall tape i) w.heap.size i.args ds gs before Wg (DataW.Whole.of_heap (w':=w.forCall tape i) (by rfl) whole) Tj (sized.weights whole) ⟨hX _ _ _ (by rfl) x,shaped⟩ held
 exact K.mono fun e W' ⟨v,he,hp⟩=>by
  subst he
  exact ChangeSpec.post_blind hp
end Go.Eng
namespace Go.Eng
open Go
variable [bx]
section rules
variable {P:Program} {all:Array Oper} {rest:List Oper} {n:Nat} {tm:List (Nat×AV)} {hp:Heap} {Q:St→Prop} {d:Nat} {ty:TypeId} {pos:String} {af:Array Edge}
end rules
section rules
variable {P:Program} {all:Array Oper} {rest:List Oper} {n:Nat} {tm:List (Nat×AV)} {hp:Heap} {Q:St→Prop} {d:Nat} {ty:TypeId} {pos:String} {af:Array Edge}
end rules
section
variable {P:Program} {all:Array Oper} {rest:List Oper} {n:Nat} {tm:List (Nat×AV)} {hp:Heap} {Q:St→Prop} {d:Nat} {ty:TypeId} {pos:String} {af:Array Edge}
end
end Go.Eng
namespace Go.Eng
open Go Go.Proofs Go.Shelf Go.RowKit Go.Lib
section
variable {P:Program} (w:World)
end
variable {P:Program} {ρ:Ren}
end Go.Eng
namespace Go.Eng
open Go Go.Proofs Go.Shelf Go.Lib
variable {P:Program} {ρ:Ren} [bx]
end Go.Eng
