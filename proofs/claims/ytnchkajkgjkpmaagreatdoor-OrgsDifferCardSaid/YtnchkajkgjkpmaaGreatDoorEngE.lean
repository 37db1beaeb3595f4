/- The engine: abstract values, the symbolic heap, one rule for each operation. No program in sight. -/
import Derived.Test.YtnchkajkgjkpmaaGreatDoorEngD
import Derived.Laws.Runes
import Derived.Laws.Concat
import Derived.Lib.LaidU8
import Derived.Lib.LaidTab
import Derived.HandedShaped
import Derived.Lib.ConvBytes
import Derived.Shelf.Strings.BuilderF
set_option linter.unusedVariables false
set_option linter.unusedSimpArgs false
set_option linter.unusedSectionVars false
namespace Go.Eng
open Go
variable [bD]
def vw {X A:Type} (o:Option X) (a:A) (f:X→A):A:=match o with
 | none=>a
 | some x=>f x
theorem Ro {X A:Type} {o:Option X} {a r:A} {f:X→A} {C:Prop} (h:vw o a f=r) (kn:o=none→a=r→C) (ks:∀ x,o=some x→f x=r→C):C:=by
 cases o with
 | none=>exact kn rfl h
 | some x=>exact ks x rfl h
@[reducible] def TM {X:Type} (o:Option X) (A:AV→Heap→Prop) (B:X→AV→Heap→Prop):AV→Heap→Prop:=match o with
  | none=>A
  | some x=>B x
theorem BX {P:Program} {f:FuncId} {args:List AV} {h0:Heap} {X:Type} {o:Option X} {A:AV→Heap→Prop} {B:X→AV→Heap→Prop} (e:o=none) (c:aI P f args h0 (TM o A B)):aI P f args h0 A:=by
 subst e;exact c
theorem BY {P:Program} {f:FuncId} {args:List AV} {h0:Heap} {X:Type} {o:Option X} {x:X} {A:AV→Heap→Prop} {B:X→AV→Heap→Prop} (e:o=some x) (c:aI P f args h0 (TM o A B)):aI P f args h0 (B x):=by
 subst e;exact c
def T4 {DB Kq Rp Rq:Type} (H:DB→Kq→Rp→Rq→Heap) (V:DB→Kq→Rp→Rq→AV):AV→Heap→Prop:=fun v h=>∃ b0 b1 b2 b3,h=H b0 b1 b2 b3∧v=V b0 b1 b2 b3
def T6 {DB Kq Rp Rq α4 α5:Type} (H:DB→Kq→Rp→Rq→α4→α5→Heap) (V:DB→Kq→Rp→Rq→α4→α5→AV):AV→Heap→Prop:=fun v h=>∃ b0 b1 b2 b3 b4 b5,h=H b0 b1 b2 b3 b4 b5∧v=V b0 b1 b2 b3 b4 b5
section rules
variable {P:Program} {all:Array Oper} {rest:List Oper} {n:Nat} {tm:List (Nat×AV)} {hp:Heap} {Q:St→Prop} {d:Nat} {ty:TypeId} {pos:String} {af:Array Edge}
theorem Ux {DB Kq Rp Rq:Type} {f:FuncId} {args:List Operand} {ts:Array TypeId} {l l':List AV} {h0 hr:Heap} {H H':DB→Kq→Rp→Rq→Heap} {V:DB→Kq→Rp→Rq→AV} [bh P f] (hl:BI tm args=some l) (c:aI P f l' h0 (T4 H V)) (co:AB hp l l') (hs:Kp hp h0 hr) (ha:∀ b0 b1 b2 b3,vq (H b0 b1 b2 b3) hr=some (H' b0 b1 b2 b3)) (hn:Nat.blt d n=true)
 (kk:∀ b0 b1 b2 b3,ae P all rest ⟨n,(d,V b0 b1 b2 b3) :: tm,H' b0 b1 b2 b3⟩ Q):ae P all (⟨some d,.call {callee:=.value (.func f),args:=args.toArray,argTypes:=ts},ty,pos,af,none⟩ :: rest) ⟨n,tm,hp⟩ Q:=
 Fb hl c co hs hn (fun r h' ⟨b0,b1,b2,b3,e1,e2⟩=>by subst e1;subst e2;rw [qz (ha b0 b1 b2 b3)];exact kk b0 b1 b2 b3)
theorem BZ {DB Kq Rp Rq α4 α5:Type} {f:FuncId} {args:List Operand} {ts:Array TypeId} {l l':List AV} {h0 hr:Heap} {H H':DB→Kq→Rp→Rq→α4→α5→Heap} {V:DB→Kq→Rp→Rq→α4→α5→AV} [bh P f] (hl:BI tm args=some l) (c:aI P f l' h0 (T6 H V)) (co:AB hp l l') (hs:Kp hp h0 hr) (ha:∀ b0 b1 b2 b3 b4 b5,vq (H b0 b1 b2 b3 b4 b5) hr=some (H' b0 b1 b2 b3 b4 b5)) (hn:Nat.blt d n=true)
 (kk:∀ b0 b1 b2 b3 b4 b5,ae P all rest ⟨n,(d,V b0 b1 b2 b3 b4 b5) :: tm,H' b0 b1 b2 b3 b4 b5⟩ Q):ae P all (⟨some d,.call {callee:=.value (.func f),args:=args.toArray,argTypes:=ts},ty,pos,af,none⟩ :: rest) ⟨n,tm,hp⟩ Q:=
 Fb hl c co hs hn (fun r h' ⟨b0,b1,b2,b3,b4,b5,e1,e2⟩=>by subst e1;subst e2;rw [qz (ha b0 b1 b2 b3 b4 b5)];exact kk b0 b1 b2 b3 b4 b5)
end rules
def YL (d:Nat):List (Nat×AV)→List (Nat×AV)
 | []=>[]
 | (k,v) :: r=>match Nat.beq k d with
   | true=>YL d r
   | false=>(k,v) :: YL d r
theorem Rr (d:Nat):∀ tm:List (Nat×AV),lk (YL d tm)=oL (lk tm) (some d) none
 | []=>by
   funext s
   show lk [] s=oL (lk []) (some d) none s
   simp [lk,oL]
 | (k,v) :: r=>by
   funext s
   have ih:=congrFun (Rr d r) s
   simp only [YL]
   cases hk:Nat.beq k d with
   | true=>
     obtain rfl:=Nat.eq_of_beq_eq_true hk
     simp only [ih,oL,lk]
     by_cases hs:k=s
     ·rw [if_pos hs,if_pos hs]
     ·have:Nat.beq k s=false:=by
       cases hb:Nat.beq k s with
       | true=>exact absurd (Nat.eq_of_beq_eq_true hb) hs
       | false=>rfl
      rw [if_neg hs,if_neg hs,this]
   | false=>
     simp only [lk,oL] at ih ⊢
     rw [ih]
     by_cases hs:d=s
     ·subst hs
      rw [if_pos rfl,if_pos rfl,hk]
     ·rw [if_neg hs,if_neg hs]
section rules
variable {P:Program} {all:Array Oper} {n:Nat} {B:Heap} {tk:List Tok} {dy:List Nat} {i:Nat} {rest:List Oper} {tm tD:List (Nat×AV)} {acc:(Nat→Bk)→List (Nat×AV)} {Q:(Nat→Bk)→List (Nat×AV)→Prop} {d:Nat} {ty:TypeId} {pos:String} {af:Array Edge} {op:Op}
theorem AT.ad3 {o:Oper} {d:Nat} {V:Bk→AV} (hd:o.dst=some d) (hr:YL d tm=tD) (WW:dy.contains i=true) (h:∀ β,∀ X∈yY tk i β,vr P all n (X++B) o (L5 (lk tm) (lk (acc β))) (xO tk i β) V (fun b=>mH tk i (rS β i b))) (k:AT P all n B tk dy (i+1) rest tD (fun β=>(d,V (β i)) :: acc β) Q):AT P all n B tk dy i (o :: rest) tm acc Q:=by
 obtain ⟨D,D4,k1,k2⟩:=k
 refine ⟨(none,V) :: D,D4,.cons h (fun rz e b=>by cases e) (fun _=>WW) ?_,fun β=>?_⟩
 ·rw [hd,← Rr,hr]
  have e2:OY none (fun β=>lk (acc β)) (some d) V i=fun β=>lk ((d,V (β i)) :: acc β):=by
   funext β
   simp only [OY]
   rw [zJ];rfl
  rw [e2];exact k1
 ·have:=k2 β
  simp only [BQ,hd]
  exact this
theorem AT.ad4 {V:Bk→AV} {Ti H1:(Nat→Bk)→Heap} {Pi H2:Bk→Heap} (QK:∀ β,yY tk i β=[[]]) (V3:∀ β,xO tk i β=Ti β) (WX:∀ β b,mH tk i (rS β i b)=Pi b) (h1:∀ β,vq (Ti β) B=some (H1 β)) (h2:∀ b,vq (Pi b) B=some (H2 b)) (hn:Nat.blt d n=true) (hr:YL d tm=tD) (WW:dy.contains i=true)
 (wK:∀ β,ae P all [⟨some d,op,ty,pos,af,none⟩] ⟨n,II (looks all ⟨some d,op,ty,pos,af,none⟩) (tm++acc β),H1 β⟩ (fun aE=>∃ b D4,aE=⟨n,D4,H2 b⟩∧lk D4 d=some (V b)))
 (k:AT P all n B tk dy (i+1) rest tD (fun β=>(d,V (β i)) :: acc β) Q):AT P all n B tk dy i (⟨some d,op,ty,pos,af,none⟩ :: rest) tm acc Q:=by
 refine AT.ad3 rfl hr WW (fun β X hX=>?_) k
 rw [QK β] at hX
 obtain rfl:=List.mem_singleton.1 hX
 rw [List.nil_append,V3 β,show (fun b=>mH tk i (rS β i b))=Pi from funext (WX β),← OZ]
 refine zM rfl (fun d' DC=>by obtain rfl:=Option.some.inj DC;simpa using hn) (h1 β) h2 ?_ (fun e=>by cases e)
 refine fun w S a r=>jJ ?_ _ _ _ (wK β w S a r)
 rintro e a' w' ⟨he,aE,S',⟨b,D4,q1,q2⟩,hh⟩
 exact ⟨he,aE,S',⟨b,D4,q1,fun d' DC=>by obtain rfl:=Option.some.inj DC;exact q2⟩,hh⟩
end rules
theorem ED (b:Bk) (es:List (Bk×PO)) (n:Nat):n∈eb (b,.gy es)↔b.bX=some n∨∃ e∈es,e.1.bX=some n:=by
 simp [eb,Ob.more,List.mem_filterMap]
theorem EE (e:Bk×PO):eb (e.1,e.2.ob)=e.1.bX.toList:=by
 obtain ⟨b,o⟩:=e
 cases o<;>simp [eb,Ob.more,PO.ob]
theorem O6 {w:World} {S:Nat→Prop} {hp fj:Heap} {bp:Bk} {es NR:List (Bk×PO)} {x:Bk×PO} (r:dO w S hp) (u:sL hp bp (.gy es) bp (.gy NR) fj) (pW:es.Perm (x :: NR)):
 dO w S ((x.1,x.2.ob) :: fj)∧lD w S hp w S ((x.1,x.2.ob) :: fj):=by
 obtain ⟨p,q,rfl,rfl⟩:=u.split
 obtain ⟨Hm,rj⟩:bp.bX=none∧∀ e∈es,qO w S e.1 e.2:=r.holds (bp,.gy es) (bG.2 (.inl rfl))
 have Fu:∀ e∈NR,e∈es:=fun e he=>pW.mem_iff.2 (List.mem_cons_of_mem _ he)
 have hx:x∈es:=pW.mem_iff.2 (by simp)
 have Rt:x.2.ob.Dt↔False:=by cases x.2<;>exact Iff.rfl
 have KC:∀ n,n∈eb (bp,.gy es)↔n∈eb (x.1,x.2.ob)∨n∈eb (bp,.gy NR):=by
  intro n
  rw [ED,ED,EE,Hm]
  constructor
  ·rintro (h | ⟨e,he,hn⟩)
   ·cases h
   ·rcases List.mem_cons.1 (pW.mem_iff.1 he) with rfl | he
    ·exact .inl (by simp [hn])
    ·exact .inr (.inr ⟨e,he,hn⟩)
  ·rintro (h | h | ⟨e,he,hn⟩)
   ·exact .inr ⟨x,hx,by simpa using h⟩
   ·cases h
   ·exact .inr ⟨e,Fu e he,hn⟩
 have W8:∀ n,Has ((x.1,x.2.ob) :: (p++(bp,.gy NR) :: q)) n↔Has (p++(bp,.gy es) :: q) n:=by
  intro n
  constructor
  ·rintro ⟨e,he,hn⟩
   rcases List.mem_cons.1 he with rfl | he
   ·exact ⟨_,bG.2 (.inl rfl),(KC n).2 (.inl hn)⟩
   ·rcases bG.1 he with rfl | he
    ·exact ⟨_,bG.2 (.inl rfl),(KC n).2 (.inr hn)⟩
    ·exact ⟨e,bG.2 (.inr he),hn⟩
  ·rintro ⟨e,he,hn⟩
   rcases bG.1 he with rfl | he
   ·rcases (KC n).1 hn with h | h
    ·exact ⟨_,List.mem_cons_self,h⟩
    ·exact ⟨_,List.mem_cons_of_mem _ (bG.2 (.inl rfl)),h⟩
   ·exact ⟨e,List.mem_cons_of_mem _ (bG.2 (.inr he)),hn⟩
 have hpn:(((x.1,x.2.ob) :: (p++(bp,.gy NR) :: q)).flatMap eb).Perm ((p++(bp,.gy es) :: q).flatMap eb):=by
  have e1:(eb (bp,.gy es)).Perm (eb (x.1,x.2.ob)++eb (bp,.gy NR)):=by
   rw [EE]
   simp only [eb,Ob.more,Hm,Option.toList_none,List.nil_append]
   refine (pW.filterMap _).trans ?_
   rw [List.filterMap_cons]
   cases x.1.bX<;>simp
  rw [List.flatMap_cons,List.flatMap_append,List.flatMap_append,List.flatMap_cons,List.flatMap_cons]
  refine List.Perm.trans ?_ ((e1.symm.append_right _).append_left _)
  rw [← List.append_assoc,← List.append_assoc,← List.append_assoc,← List.append_assoc]
  refine (List.Perm.append_right _ ?_)
  exact (List.perm_append_comm.append_right _)
 refine ⟨⟨(hpn.nodup_iff).2 r.nodup,?_,?_,r.slt,r.hJ⟩,⟨rfl,rfl,rfl,Nat.le_refl _,fun n hn=>⟨hn,rfl⟩,fun n _ _=>⟨rfl,id⟩,fun n hn=>.inl ((W8 n).1 hn),fun _=>Nat.le_refl _⟩⟩
 ·intro e he
  rcases List.mem_cons.1 he with rfl | he
  ·exact qO.ob.1 (rj x hx)
  ·rcases bG.1 he with rfl | he
   ·exact ⟨Hm,fun e he=>rj e (Fu e he)⟩
   ·exact r.holds e (bG.2 (.inr he))
 ·intro e he n hn
  rcases List.mem_cons.1 he with rfl | he
  ·have:=r.sep (bp,.gy es) (bG.2 (.inl rfl)) n ((KC n).2 (.inl hn))
   exact ⟨fun h=>(this.1 h).elim,fun h=>(Rt.1 h).elim⟩
  ·rcases bG.1 he with rfl | he
   ·have:=r.sep (bp,.gy es) (bG.2 (.inl rfl)) n ((KC n).2 (.inr hn))
    exact ⟨fun h=>(this.1 h).elim,fun h=>h.elim⟩
   ·exact r.sep e (bG.2 (.inr he)) n hn
theorem Ru {w:World} {S:Nat→Prop} {hp KD fj:Heap} {bp:Bk} {es NR:List (Bk×PO)} {x:Bk×PO} (r:dO w S hp) (dl:Ae hp x.1 x.2.ob KD) (u:sL KD bp (.gy es) bp (.gy NR) fj) (pW:NR.Perm (x :: es)):
 dO w S fj∧lD w S hp w S fj:=by
 obtain ⟨p0,q0,rfl,rfl⟩:=dl.split
 have r1:dO w S ((x.1,x.2.ob) :: (p0++q0)):=by
  refine ⟨?_,fun e he=>r.holds e (bG.2 (by simpa using he)),fun e he=>r.sep e (bG.2 (by simpa using he)),r.slt,r.hJ⟩
  refine ((List.Perm.flatMap_right eb ?_).nodup_iff).1 r.nodup
  exact List.perm_middle
 generalize hq:p0++q0=h1 at u r1
 obtain ⟨p,q,rfl,rfl⟩:=u.split
 obtain ⟨Hm,rj⟩:bp.bX=none∧∀ e∈es,qO w S e.1 e.2:=r1.holds (bp,.gy es) (List.mem_cons_of_mem _ (bG.2 (.inl rfl)))
 have hxh:qO w S x.1 x.2:=qO.ob.2 (r1.holds (x.1,x.2.ob) (by simp))
 have Rt:x.2.ob.Dt↔False:=by cases x.2<;>exact Iff.rfl
 have KC:∀ n,n∈eb (bp,.gy NR)↔n∈eb (x.1,x.2.ob)∨n∈eb (bp,.gy es):=by
  intro n
  rw [ED,ED,EE,Hm]
  constructor
  ·rintro (h | ⟨e,he,hn⟩)
   ·cases h
   ·rcases List.mem_cons.1 (pW.mem_iff.1 he) with rfl | he
    ·exact .inl (by simp [hn])
    ·exact .inr (.inr ⟨e,he,hn⟩)
  ·rintro (h | h | ⟨e,he,hn⟩)
   ·exact .inr ⟨x,pW.mem_iff.2 (by simp),by simpa using h⟩
   ·cases h
   ·exact .inr ⟨e,pW.mem_iff.2 (List.mem_cons_of_mem _ he),hn⟩
 have e1:(eb (bp,.gy NR)).Perm (eb (x.1,x.2.ob)++eb (bp,.gy es)):=by
  rw [EE]
  simp only [eb,Ob.more,Hm,Option.toList_none,List.nil_append]
  refine (pW.filterMap _).trans ?_
  rw [List.filterMap_cons]
  cases x.1.bX<;>simp
 have hpn:(((x.1,x.2.ob) :: (p++(bp,.gy es) :: q)).flatMap eb).Perm ((p++(bp,.gy NR) :: q).flatMap eb):=by
  rw [List.flatMap_cons,List.flatMap_append,List.flatMap_append,List.flatMap_cons,List.flatMap_cons]
  refine List.Perm.trans ?_ ((e1.symm.append_right _).append_left _)
  rw [← List.append_assoc,← List.append_assoc,← List.append_assoc,← List.append_assoc]
  refine (List.Perm.append_right _ ?_)
  exact (List.perm_append_comm.append_right _)
 have W8:∀ n,Has (p++(bp,.gy NR) :: q) n→Has ((x.1,x.2.ob) :: (p++(bp,.gy es) :: q)) n:=by
  rintro n ⟨e,he,hn⟩
  rcases bG.1 he with rfl | he
  ·rcases (KC n).1 hn with h | h
   ·exact ⟨_,List.mem_cons_self,h⟩
   ·exact ⟨_,List.mem_cons_of_mem _ (bG.2 (.inl rfl)),h⟩
  ·exact ⟨e,List.mem_cons_of_mem _ (bG.2 (.inr he)),hn⟩
 have aaD:∀ n,Has ((x.1,x.2.ob) :: (p++(bp,.gy es) :: q)) n→Has (p0++(x.1,x.2.ob) :: q0) n:=fun n hn=>by
  obtain ⟨e,he,yl⟩:=hn
  refine ⟨e,bG.2 ?_,yl⟩
  rw [hq]
  simpa using he
 refine ⟨⟨(hpn.nodup_iff).1 r1.nodup,?_,?_,r.slt,r.hJ⟩,⟨rfl,rfl,rfl,Nat.le_refl _,fun n hn=>⟨hn,rfl⟩,fun n _ _=>⟨rfl,id⟩,fun n hn=>.inl (aaD n (W8 n hn)),fun _=>Nat.le_refl _⟩⟩
 ·intro e he
  rcases bG.1 he with rfl | he
  ·refine ⟨Hm,fun e he=>?_⟩
   rcases List.mem_cons.1 (pW.mem_iff.1 he) with rfl | he
   ·exact hxh
   ·exact rj e he
  ·exact r1.holds e (List.mem_cons_of_mem _ (bG.2 (.inr he)))
 ·intro e he n hn
  rcases bG.1 he with rfl | he
  ·refine ⟨fun hs=>?_,fun h=>h.elim⟩
   rcases (KC n).1 hn with h | h
   ·exact Rt.1 ((r1.sep _ (by simp) n h).1 hs)
   ·exact (r1.sep (bp,.gy es) (List.mem_cons_of_mem _ (bG.2 (.inl rfl))) n h).1 hs
  ·exact r1.sep e (List.mem_cons_of_mem _ (bG.2 (.inr he))) n hn
structure Kept (V:Type) where
 val:Bk→V→AV
 po:V→PO
def fk {E:Type} (sz:Nat) (g:E→AV):Kept (List E):=⟨fun b v=>.sl sz b 0 v.length,fun v=>.arr sz (v.map g)⟩
section plain
variable {K V:Type}
def xR (gk:K→AV) (kp:Kept V) (β:K→Bk) (M:List (K×V)):List (AV×AV):=M.map fun e=>(gk e.1,kp.val (β e.1) e.2)
def iP (kp:Kept V) (β:K→Bk) (M:List (K×V)):List (Bk×PO):=M.map fun e=>(β e.1,kp.po e.2)
def pY (β:K→Bk) (M:List (K×V)):List (K×(Bk×V)):=M.map fun e=>(e.1,(β e.1,e.2))
theorem vx (gk:K→AV) (kp:Kept V) (β:K→Bk) (M:List (K×V)):xR gk kp β M=(pY β M).map fun e=>(gk e.1,kp.val e.2.1 e.2.2):=by
 unfold xR pY;rw [List.map_map];rfl
variable [DecidableEq K]
def CW (β:K→Bk) (k:K) (b:Bk):K→Bk:=fun k'=>if k'=k then b else β k'
theorem O7 (β:K→Bk) (M:List (K×V)) (k:K):cX (pY β M) k=(cX M k).map fun v=>(β k,v):=by
 induction M with
 | nil=>rfl
 | cons e r ih=>
   show (if e.1=k then some (β e.1,e.2) else cX (pY β r) k)=(if e.1=k then some e.2 else cX r k).map _
   rw [ih]
   split
   ·rename_i h;rw [h];rfl
   ·rfl
theorem Mv {M:List (K×V)} {k:K} {v:V} (hn:(M.map Prod.fst).Nodup) (h:cX M k=some v):M.Perm ((k,v) :: ui M k):=by
 induction M with
 | nil=>cases h
 | cons e r ih=>
   rw [List.map_cons,List.nodup_cons] at hn
   unfold cX at h
   unfold ui
   rw [List.filter_cons]
   split at h
   ·rename_i hk
    obtain rfl:=Option.some.inj h
    rw [if_neg (by simp [hk])]
    have:r.filter (fun e=>decide (e.1≠k))=r:=List.filter_eq_self.2 fun x hx=>by
     simp only [ne_eq,decide_not,Bool.not_eq_true',decide_eq_false_iff_not]
     intro hxk
     exact hn.1 (List.mem_map.2 ⟨x,hx,by rw [hxk,hk]⟩)
    rw [this,← hk]
   ·rename_i hk
    rw [if_pos (by simp [hk])]
    exact (List.Perm.cons e (ih hn.2 h)).trans (List.Perm.swap _ _ _)
theorem KE (M:List (K×V)) (k:K):∀ e∈ui M k,e.1≠k:=fun e he=>by
 have:=(List.mem_filter.1 he).2
 simpa using this
theorem O8 (kp:Kept V) (β:K→Bk) (k:K) (b:Bk) {M:List (K×V)} (h:∀ e∈M,e.1≠k):iP kp (CW β k b) M=iP kp β M:=by
 unfold iP
 exact List.map_congr_left fun e he=>by unfold CW;rw [if_neg (h e he)]
variable [DD K]
theorem O9 (M:List (K×V)) (k:K) (v:V):(jl M k v).Perm ((k,v) :: ui M k):=xh k v _
theorem Pa (kp:Kept V) (β:K→Bk) (k:K) (b:Bk) (M:List (K×V)) (v:V):(iP kp (CW β k b) (jl M k v)).Perm ((b,kp.po v) :: iP kp β (ui M k)):=by
 refine ((O9 M k v).map _).trans ?_
 rw [List.map_cons]
 have e1:(ui M k).map (fun e=>(CW β k b e.1,kp.po e.2))=iP kp β (ui M k):=O8 kp β k b (KE M k)
 rw [e1]
 have:CW β k b k=b:=by unfold CW;rw [if_pos rfl]
 rw [this]
end plain
theorem Mw {K V:Type} {gk:K→AV} {kp:Kept V} {β:K→Bk} {w:World} {S:Nat→Prop} {hp:Heap} {b:Bk} {M:List (K×V)} (O3:∀ a b,gk a=gk b→a=b) (r:dO w S hp) (f:oG hp b (.mp (xR gk kp β M))):(M.map Prod.fst).Nodup:=by
 rw [vx] at f
 obtain ⟨L,c,M',n,oF,p1,_,_,_,_,_,_,p8⟩:=wv (gv:=fun p:Bk×V=>kp.val p.1 p.2) O3 r f
 have:=(p1.map Prod.fst).nodup_iff.1 p8
 unfold pY at this
 rw [List.map_map] at this
 exact this
theorem Rv {hp fj:Heap} {b:Bk} {o o':Ob} (u:sL hp b o b o' fj) (h:o=o'):hp=fj:=by
 obtain ⟨p,q,rfl,rfl⟩:=u.split
 rw [h]
section rules
variable {P:Program} {all:Array Oper} {rest:List Oper} {n:Nat} {tm:List (Nat×AV)} {hp:Heap} {Q:St→Prop} {d:Nat} {ty:TypeId} {pos:String} {af:Array Edge}
theorem Pb {K E:Type} [DecidableEq K] {gk:K→AV} {sz:Nat} {g:E→AV} {β:K→Bk} {M:List (K×List E)} {key:K} {xs:List E} {t kt vt:TypeId} {i:TypeInfo} {x y:Operand} {bm bp:Bk} {fj:Heap} [aC P t (.map kt vt)] [aU P vt i] [iZ P kt gk] (hx:dx tm x=some (.bC bm)) (hy:dx tm y=some (gk key)) (f:oG hp bm (.mp (xR gk (fk sz g) β M))) (u:sL hp bp (.gy (iP (fk sz g) β M)) bp (.gy (iP (fk sz g) β (ui M key))) fj) (hz:i.zero=some (.slice none 0 0)) (h:vu M key []=some xs) (hn:Nat.blt d n=true)
 (kk:∀ b,(∀ v,cX M key=some v→b=β key∧v=xs)→ae P all rest ⟨n,(d,.sl sz b 0 xs.length) :: tm,(b,.arr sz (xs.map g)) :: fj⟩ Q):ae P all (⟨some d,.lookup t x y false,ty,pos,af,none⟩ :: rest) ⟨n,tm,hp⟩ Q:=by
 refine ae.P2 rfl fun w S a r=>?_
 have AZ:=Mw (iZ.inj P kt) r.hp f
 have kx:=bj (σ:=⟨n,tm,hp⟩) r hx
 have ky:=bj (σ:=⟨n,tm,hp⟩) r hy
 obtain ⟨nb,hb,ex⟩:=kx.vv
 have f':=f
 rw [vx] at f'
 obtain ⟨L,c,M',NQ,oF,p1,p2,p3,p4,p5,p6,p7,p8⟩:=wv (gv:=fun p:Bk×List E=>(fk sz g).val p.1 p.2) (iZ.inj P kt) r.hp f'
 obtain rfl:NQ=nb:=by rw [p4] at hb;exact Option.some.inj hb
 have uj:=iZ.find (P:=P) (t:=kt) (g:=gk) ky oF.toList (M'.map Prod.fst) (by simpa using p6.symm) (fun j k' e h1 h2=>by
  rw [List.getElem?_map] at h1
  cases hm:M'[j]? with
  | none=>rw [hm] at h1;cases h1
  | some q=>rw [hm] at h1;rw [← Option.some.inj h1];exact (p7 j q e hm h2).1)
 have Uy:=vf p1 p8 key
 rw [O7] at Uy
 have hv:=Option.some.inj h
 rcases xQ (gv:=fun p:Bk×List E=>(fk sz g).val p.1 p.2) (w:=w) (S:=S) (k:=key) M' oF.toList 0 p6.symm (fun j e m h1 h2=>(p7 j e m h1 h2).2) with ⟨q1,q2⟩ | ⟨v',j,val,q1,q2,q3,_⟩
 ·
  rw [q1] at Uy
  have Kl:cX M key=none:=by
   cases hc:cX M key with
   | none=>rfl
   | some v=>rw [hc] at Uy;cases Uy
  rw [Kl,Option.getD_none] at hv
  subst hv
  have NO:=Rv u (by rw [CU Kl])
  obtain ⟨g1,g2,g3⟩:=rC (b:=⟨none,0⟩) (o:=.arr sz (([]:List E).map g)) r.hp (Ext.refl w) id ⟨by simp,by simp,.inl ⟨rfl,rfl⟩⟩ (.inl rfl)
  refine ⟨.slice none 0 0,w,S,⟨n,(d,.sl sz ⟨none,0⟩ 0 0) :: tm,(⟨none,0⟩,.arr sz (([]:List E).map g)) :: fj⟩,?_,?_,?_,kk ⟨none,0⟩ (fun v hv=>by rw [Kl] at hv;cases hv)⟩
  ·simp [execOp,Instr.lookup,ex,run_underlying (aC.h (P:=P) (t:=t)),iw p5,iZ.check (P:=P) (t:=kt) ky,uj,q2,zeroValue,typeInfo,aU.h (P:=P) (t:=vt),hz]
  ·rw [← NO]
   exact (r.heap g3 g1).put hn (.CP sz _ rfl)
  ·rw [← NO];exact g2
 ·rw [q1] at Uy
  obtain ⟨v,Tr⟩:∃ v,cX M key=some v:=by
   cases hc:cX M key with
   | none=>rw [hc] at Uy;cases Uy
   | some v=>exact ⟨v,rfl⟩
  rw [Tr,Option.getD_some] at hv
  subst hv
  rw [Tr] at Uy
  have YJ:v'=(β key,v):=Option.some.inj Uy
  subst YJ
  have hpm:(iP (fk sz g) β M).Perm ((β key,.arr sz (v.map g)) :: iP (fk sz g) β (ui M key)):=((Mv AZ Tr).map _)
  obtain ⟨g1,g2⟩:=O6 r.hp u hpm
  refine ⟨val,w,S,⟨n,(d,.sl sz (β key) 0 v.length) :: tm,(β key,.arr sz (v.map g)) :: fj⟩,?_,(r.heap (fun m hm=>⟨hm,rfl⟩) g1).put hn q3,g2,kk (β key) (fun v2 hv2=>⟨rfl,by rw [Tr] at hv2;exact (Option.some.inj hv2).symm⟩)⟩
  simp [execOp,Instr.lookup,ex,run_underlying (aC.h (P:=P) (t:=t)),iw p5,iZ.check (P:=P) (t:=kt) ky,uj,q2]
end rules
theorem Mx {K V:Type} [DecidableEq K] (β:K→Bk) (M:List (K×V)) (k:K):ui (pY β M) k=pY β (ui M k):=by
 unfold ui pY
 rw [List.filter_map]
 rfl
theorem Fv {K V:Type} [DD K] (β:K→Bk) (k:K) (b:Bk) (v:V) (hk:β k=b):∀ M:List (K×V),BU k (b,v) (pY β M)=pY β (BU k v M)
 | []=>by simp [BU,pY,hk]
 | e :: r=>by
   show BU k (b,v) ((e.1,(β e.1,e.2)) :: pY β r)=pY β (BU k v (e :: r))
   unfold BU
   by_cases h:DD.lt e.1 k=true
   ·rw [if_pos h,if_pos h,Fv β k b v hk r];rfl
   ·rw [if_neg h,if_neg h];simp [pY,hk]
theorem Pc {K V:Type} [DecidableEq K] (β:K→Bk) (k:K) (b:Bk) {M:List (K×V)} (h:∀ e∈M,e.1≠k):pY (CW β k b) M=pY β M:=by
 unfold pY
 exact List.map_congr_left fun e he=>by unfold CW;rw [if_neg (h e he)]
theorem My {K V:Type} [DecidableEq K] [DD K] (β:K→Bk) (M:List (K×V)) (k:K) (b:Bk) (v:V):jl (pY β M) k (b,v)=pY (CW β k b) (jl M k v):=by
 unfold jl
 rw [Mx,← Pc β k b (KE M k),Fv _ _ _ _ (by unfold CW;rw [if_pos rfl])]
section rules
variable {P:Program} {all:Array Oper} {rest:List Oper} {n:Nat} {tm:List (Nat×AV)} {hp:Heap} {Q:St→Prop} {d:Nat} {ty:TypeId} {pos:String} {af:Array Edge}
theorem IP {K V:Type} [DecidableEq K] [DD K] {gk:K→AV} {kp:Kept V} {β:K→Bk} {M:List (K×V)} {key:K} {v:V} {t kt vt:TypeId} {x y z:Operand} {b bm:Bk} {fj:Heap} {av:AV} [aC P t (.map kt vt)] [iZ P kt gk] (hx:dx tm x=some (.bC bm)) (hy:dx tm y=some (gk key)) (hz:dx tm z=some av) (sJ:av=kp.val b v) (u:sL hp bm (.mp (xR gk kp β M)) bm (.mp (xR gk kp (CW β key b) (jl M key v))) fj)
 (kk:ae P all rest ⟨n,tm,fj⟩ Q):ae P all (⟨none,.mapUpdate t x y z,ty,pos,af,none⟩ :: rest) ⟨n,tm,hp⟩ Q:=by
 rw [vx,vx,← My] at u
 exact uk (gk:=gk) (gv:=fun p:Bk×V=>kp.val p.1 p.2) (M:=pY β M) (key:=key) (v:=(b,v)) hx hy hz sJ u kk
end rules
theorem aj.Uz {n:Nat} {tm:List (Nat×AV)} {hp KD fj:Heap} {T:St→Prop} {K V:Type} [DecidableEq K] [DD K] {kp:Kept V} {β:K→Bk} {M:List (K×V)} {key:K} {v:V} {b bp:Bk} {o:Ob} (ho:o=(kp.po v).ob) (dl:Ae hp b o KD) (u:sL KD bp (.gy (iP kp β (ui M key))) bp (.gy (iP kp (CW β key b) (jl M key v))) fj) (k:aj ⟨n,tm,fj⟩ T):aj ⟨n,tm,hp⟩ T:=by
 refine aj.step (Hp:=⟨n,tm,fj⟩) (fun w S a r=>?_) k
 subst ho
 obtain ⟨g1,g2⟩:=Ru (x:=(b,kp.po v)) r.hp dl u (Pa kp β key b M v)
 exact ⟨_,S,rfl,r.heap (fun m hm=>⟨hm,rfl⟩) g1,g2⟩
section rules
variable {P:Program} {all:Array Oper} {rest:List Oper} {n:Nat} {tm:List (Nat×AV)} {hp:Heap} {Q:St→Prop} {d:Nat} {ty:TypeId} {pos:String} {af:Array Edge}
theorem Mz {K V:Type} {gk:K→AV} {kp:Kept V} {β:K→Bk} {t:TypeId} (hn:Nat.blt d n=true) (kk:∀ b bp:Bk,ae P all rest ⟨n,(d,.bC b) :: tm,(b,.mp (xR gk kp β [])) :: (bp,.gy (iP kp β [])) :: hp⟩ Q):ae P all (⟨some d,.makeMap t none,ty,pos,af,none⟩ :: rest) ⟨n,tm,hp⟩ Q:=by
 have g:ae P all (⟨some d,.makeMap t none,ty,pos,af,none⟩ :: rest) ⟨n,tm,(⟨none,0⟩,.gy []) :: hp⟩ Q:=vg hn (fun b=>kk b ⟨none,0⟩)
 refine ae.ghost (aj.step (Hp:=⟨n,tm,(⟨none,0⟩,.gy []) :: hp⟩) (fun w S a r=>?_) (aj.here g))
 obtain ⟨g1,g2,g3⟩:=rC (b:=⟨none,0⟩) (o:=.gy []) r.hp (Ext.refl w) id ⟨rfl,by simp⟩ (.inl rfl)
 exact ⟨_,S,rfl,r.heap g3 g1,g2⟩
end rules
def rowOf (o:Option Obj):Option (Array Value):=match o with
 | some (.cells vs _ _)=>some vs
 | _=>none
theorem Pd (xs:List (List UInt8)):flat (xs.map AV.str)=xs.map AV.str:=xg (fun _=>rfl) xs
theorem MA {w:World} {S:Nat→Prop} (r:dO w S []) (xs:List (List UInt8)) (E:TypeId) {vs:Array Value} (hv:vs=(xs.map fun s=>Value.string ⟨s.toArray⟩).toArray):
 At (w.alloc (.cells vs E)) S (.sl 1 ⟨some w.heap.size,xs.length⟩ 0 xs.length) (.slice (some ⟨w.heap.size,0,none⟩) xs.length xs.length)∧
  dO (w.alloc (.cells vs E)) S [(⟨some w.heap.size,xs.length⟩,.arr 1 (xs.map AV.str))]∧lD w S [] (w.alloc (.cells vs E)) S [(⟨some w.heap.size,xs.length⟩,.arr 1 (xs.map AV.str))]:=by
 subst hv
 have e0:=Ext.alloc w (.cells (xs.map fun s=>Value.string ⟨s.toArray⟩).toArray E)
 have hh:Holds (w.alloc (.cells (xs.map fun s=>Value.string ⟨s.toArray⟩).toArray E)) S ⟨some w.heap.size,xs.length⟩ (.arr 1 (xs.map AV.str)):=by
  refine ⟨fun x hx=>?_,by simp,.inr ⟨w.heap.size,(xs.map fun s=>Value.string ⟨s.toArray⟩).toArray,E,rfl,?_,by simp,?_⟩⟩
  ·obtain ⟨s,_,rfl⟩:=List.mem_map.1 hx
   exact ⟨rfl,fun c hc=>by rw [List.mem_singleton.1 hc];rfl⟩
  ·show (w.heap.push _)[w.heap.size]? =_
   simp
  ·rw [Pd]
   intro i c v hc hv
   simp only [List.getElem?_map,List.getElem?_toArray,Option.map_eq_some_iff] at hc hv
   obtain ⟨s,h1,rfl⟩:=hc
   obtain ⟨s',h2,rfl⟩:=hv
   rw [h1] at h2
   obtain rfl:=Option.some.inj h2
   exact .str s
 obtain ⟨k1,k2,k3⟩:=rC r e0 id hh (.inr ⟨_,rfl,Nat.le_refl _⟩)
 refine ⟨?_,k1,k2⟩
 have:=At.sl (w:=w.alloc (.cells (xs.map fun s=>Value.string ⟨s.toArray⟩).toArray E)) (S:=S) 1 ⟨some w.heap.size,xs.length⟩ 0 xs.length w.heap.size xs.length rfl (Nat.le_refl _) (by simp)
 simpa using this
def Rw (k:IntKind) (o:Option Obj):Prop:=∃ vs m,rowOf o=some vs∧vs[0]? =some (.int k m)
theorem Fw (w:World) (g i:Nat) {vs:Array Value} (h:rowOf (w.heap[g]?)=some vs):w.cell? ⟨g,i,none⟩=vs[i]?:=by
 unfold World.cell?
 unfold rowOf at h
 split at h
 ·rename_i GM e f ho
  obtain rfl:=Option.some.inj h
  simp [ho]
 ·cases h
def NS:List (Nat×(Option Obj→Prop))→Nat→Option (Option Obj→Prop)
 | [],_=>none
 | (k,o) :: r,g=>if g=k then some o else NS r g
theorem HO:∀ {l:List (Nat×(Option Obj→Prop))} {g:Nat} {o:Option Obj→Prop},NS l g=some o→(g,o)∈l
 | [],_,_,h=>by cases h
 | (k,o') :: r,g,o,h=>by
   unfold NS at h
   split at h
   ·rename_i hg
    rw [hg,Option.some.inj h];simp
   ·exact List.mem_cons_of_mem _ (HO h)
theorem W9 {w:World} {g:Nat} {vs:Array Value} (h:rowOf (w.heap[g]?)=some vs):g < w.heap.size:=by
 rcases Nat.lt_or_ge g w.heap.size with h' | h'
 ·exact h'
 ·rw [Array.getElem?_eq_none h'] at h;cases h
end Go.Eng
namespace Go.Eng
open Go
section errs
variable [bD] {P:Program} {all:Array Oper} {rest:List Oper} {n:Nat} {tm:List (Nat×AV)} {hp:Heap} {Q:St→Prop} {d:Nat} {ty:TypeId} {pos:String} {af:Array Edge}
def KF (a b:List UInt8):Option (List UInt8):=if a.length+b.length≤9223372036854775807 then some (a++b) else none
theorem MB {xt yt:TypeId} {x y:Operand} {s t r:List UInt8} (h:KF s t=some r) (hx:dx tm x=some (.str s)) (hy:dx tm y=some (.str t)):QV P ⟨some d,.binOp .add xt x y yt,ty,pos,af,none⟩ ⟨n,tm,hp⟩ (.str r):=by
 unfold KF at h
 split at h
 ·rename_i hs
  obtain rfl:=Option.some.inj h
  refine fun w S a r=>⟨.string (⟨s.toArray⟩++⟨t.toArray⟩),fun w1 _=>?_,?_⟩
  ·have h1:=run_string_add_sum (P:=P) (w:=w1) (⟨s.toArray⟩:ByteArray) (⟨t.toArray⟩:ByteArray) (by simpa [ByteArray.size] using hs)
   simp [execOp,(bj (σ:=⟨n,tm,hp⟩) r hx).dB,(bj (σ:=⟨n,tm,hp⟩) r hy).dB,eqGuard,binOp,h1]
  ·have:((⟨s.toArray⟩:ByteArray)++⟨t.toArray⟩)=⟨(s++t).toArray⟩:=by apply ByteArray.ext;simp
   rw [this]
   exact .str _
 ·cases h
end errs
end Go.Eng
namespace Go.Eng
open Go
variable [bD]
section rules
variable {P:Program} {all:Array Oper} {rest:List Oper} {n:Nat} {tm:List (Nat×AV)} {hp:Heap} {Q:St→Prop} {d:Nat} {ty:TypeId} {pos:String} {af:Array Edge}
end rules
end Go.Eng
namespace Go.Eng
open Go Go.Lib
variable [bD]
theorem KG {w:World} {g:Nat} {v:Value} (h:w.cell? ⟨g,0,none⟩=some v):∃ vs,rowOf (w.heap[g]?)=some vs∧vs[0]? =some v:=by
 unfold World.cell? at h
 cases ho:w.heap[g]? with
 | none=>simp [ho] at h
 | some o=>
   cases o with
   | cells vs e f=>exact ⟨vs,rfl,by simpa [ho] using h⟩
   | _=>simp [ho] at h
theorem UA {w:World} {g:Nat} {k:IntKind} {m:Int} (h:w.cell? ⟨g,0,none⟩=some (.int k m)):g < w.heap.size∧Rw k (w.heap[g]?):=by
 obtain ⟨vs,h1,h2⟩:=KG h
 exact ⟨W9 h1,vs,m,h1,h2⟩
end Go.Eng
namespace Go.Eng
open Go
variable {H:Type} {enc:TypeId×Value→H}
theorem KH {a:Assume} {C:Checked} {os:Os} {f:FuncId} {fn:Func} {s:ChangeSpec} {conds:List PathCond} {apart fresh handsOn again:Bool} {X:World→Array Value→Prop}
 (hX:∀ (w w':World) (args:Array Value),w.heap=w'.heap→X w args→X w' args)
 (own:ownKnob C.prog.godebug=none) (started:os.Started) (Xa:C.prog.inits.idxOf? f=none) (hfn:C.prog.funcs[f]? =some fn)
 (witness:∃ (w:World) (tape:Tape) (i:Input),w.os=os∧(w.forCall tape i).Shaped C.prog∧i.vars=[]∧Input.okWide C.prog (w.forCall tape i) .any w.heap.size f i∧
  ((s.pre enc C.prog fn conds apart (w.forCall tape i).memory i.args∧X (w.forCall tape i).memory i.args)∧sizedMet enc C.prog fn (OpenSpec.ofChange s) apart (w.forCall tape i).memory i.args)∧a.holds C.prog (lone (Frame.enter C.prog f i.args .normal) [] (w.forCall tape i)))
 (walk:∀ (W:World) (base:Nat) (args:Array Value) (ds gs:List (DataW H)) (before:List MemPlace),
  (∀ (j:Nat) t v,fn.params[j]? =some t→args[j]? =some v→Value.okWide C.prog W .any base t v)→
  DataW.Whole enc C.prog fn.params.toList s.vars apart W args.toList ds gs before→
  conds.all (PathCond.test C.prog ⟨fn.params.toList,ds,s.plain.varTypes C.prog,gs⟩)=true→
  (DataW.weightsEach C.prog (fn.params.toList++s.plain.varTypes C.prog) (ds++gs)).all (· ≤reachBytes)=true→X W args∧W.ShapedOpen C.prog→
  a.holds C.prog (lone (Frame.enter C.prog f args .normal) [] W)→
  Calls C.prog f args W fun e W'=>∃ v,e=.returned v∧s.post enc C.prog fn apart fresh handsOn again W args v W'):
 ReturnsInHanded a C os f .any (fun w args=>(s.pre enc C.prog fn conds apart w args∧X w args)∧sizedMet enc C.prog fn (OpenSpec.ofChange s) apart w args) (s.post enc C.prog fn apart fresh handsOn again):=by
 refine returnsInHanded_of_calls own started Xa witness ?_
 intro w tape i _ shaped _ ok pre held
 obtain ⟨_,_,_,fn',there,_,_,_,_,ad5⟩:=ok
 cases Option.some.inj (there.symm.trans hfn)
 obtain ⟨⟨⟨ds,gs,before,whole,aaE⟩,x⟩,sized⟩:=pre
 have K:=walk (w.forCall tape i) w.heap.size i.args ds gs before ad5 (DataW.Whole.of_heap (w':=w.forCall tape i) (by rfl) whole) aaE (sized.weights whole) ⟨hX _ _ _ (by rfl) x,shaped⟩ held
 exact K.mono fun e W' ⟨v,he,hp⟩=>by
  subst he
  exact ChangeSpec.post_blind hp
end Go.Eng
namespace Go.Eng
open Go
variable [bD]
section rules
variable {P:Program} {all:Array Oper} {rest:List Oper} {n:Nat} {tm:List (Nat×AV)} {hp:Heap} {Q:St→Prop} {d:Nat} {ty:TypeId} {pos:String} {af:Array Edge}
end rules
def mM (s:List UInt8):List Int:=s.map fun c=>(c.toNat:Int)
theorem Pe (w:World) (e:TypeId) (s:ByteArray):Ext w (Lib.bytesWorld w e s):=by
 refine ⟨rfl,rfl,rfl,by rw [Lib.bytesWorld_size];omega,fun n hn=>Lib.bytesWorld_at_old w e s n hn,fun _=>?_⟩
 show w.drawn≤w.drawn+1
 omega
theorem dO.one {w w':World} {S:Nat→Prop} {h:Heap} (r:dO w S h) (e:Ext w w') (hs:w.heap.size < w'.heap.size):dO w' (fun n=>S n∨n=w.heap.size) h∧lD w S h w' (fun n=>S n∨n=w.heap.size) h:=by
 have lV:∀ x∈h,∀ n,n∈eb x→n < w.heap.size:=fun x hx n hn=>r.lt ⟨x,hx,hn⟩
 have hk:∀ n,S n→(S n∨n=w.heap.size)∧w'.heap[n]? =w.heap[n]?:=fun n hn=>⟨.inl hn,e.same n (r.slt n hn)⟩
 refine ⟨⟨r.nodup,fun x hx=>(r.holds x hx).mono hk (fun n hn=>e.same n (lV x hx n hn)),fun x hx n hn=>⟨fun Q6=>?_,fun hf=>.inl ((r.sep x hx n hn).2 hf)⟩,fun n hn=>?_,fun g o ho=>⟨.inl (r.hJ g o ho).1,EO (e.same g (r.slt g (r.hJ g o ho).1)) (r.hJ g o ho).2⟩⟩,
  ⟨e.os,e.tape,e.output,e.size,hk,fun n hn _=>⟨e.same n hn,fun Q6=>?_⟩,fun n hn=>.inl hn,e.drawn⟩⟩
 ·rcases Q6 with h' | h'
  ·exact (r.sep x hx n hn).1 h'
  ·have:=lV x hx n hn;omega
 ·rcases hn with h' | h'
  ·exact Nat.lt_of_lt_of_le (r.slt n h') e.size
  ·omega
 ·rcases Q6 with h' | h'
  ·exact h'
  ·omega
section rules
variable {P:Program} {all:Array Oper} {rest:List Oper} {n:Nat} {tm:List (Nat×AV)} {hp:Heap} {Q:St→Prop} {d:Nat} {ty:TypeId} {pos:String} {af:Array Edge}
theorem Fx (k:IntKind) (xs:List Int):flat (xs.map (AV.int k))=xs.map (AV.int k):=xg (fun _=>rfl) xs
theorem Pf {src dst e:TypeId} {D:TypeDesc} {x:Operand} {s:List UInt8} [aC P src D] [aC P dst (.slice e)] [aC P e (.int .u8)] (hx:dx tm x=some (.str s)) (hn:Nat.blt d n=true)
 (kk:ae P all rest ⟨n,(d,.list 1 ((mM s).map (AV.int .u8))) :: tm,hp⟩ Q):ae P all (⟨some d,.convert src dst x,ty,pos,af,none⟩ :: rest) ⟨n,tm,hp⟩ Q:=by
 refine ae.P2 rfl fun w S a r=>?_
 have e1:=(bj (σ:=⟨n,tm,hp⟩) r hx).dB
 have wK:=Lib.run_convert_string_bytes (P:=P) w src dst e ⟨s.toArray⟩ (aC.h (P:=P) (t:=src)) (aC.h (P:=P) (t:=dst)) (aC.h (P:=P) (t:=e))
 have hE:=Pe w e ⟨s.toArray⟩
 obtain ⟨g1,g2⟩:=r.hp.one hE (by rw [Lib.bytesWorld_size];omega)
 have j9:(⟨s.toArray⟩:ByteArray).size=s.length:=by simp [ByteArray.size]
 have vX:At (Lib.bytesWorld w e ⟨s.toArray⟩) (fun n=>S n∨n=w.heap.size) (.list 1 ((mM s).map (AV.int .u8))) (.slice (some ⟨w.heap.size,0,none⟩) (⟨s.toArray⟩:ByteArray).size (grownCap w (⟨s.toArray⟩:ByteArray).size 0 e)):=by
  have hl:((mM s).map (AV.int .u8)).length=(⟨s.toArray⟩:ByteArray).size:=by rw [j9];simp [mM]
  rw [← hl]
  refine .list 1 _ _ _ ((mM s).map fun z=>Value.int .u8 z) (fun y hy=>?_) ?_ (fun i c v hc hv=>?_) (fun i v hv=>?_) ?_
  ·obtain ⟨z,_,rfl⟩:=List.mem_map.1 hy
   exact ⟨rfl,fun c hc=>by rw [List.mem_singleton.1 hc];rfl⟩
  ·rw [Fx];simp
  ·rw [Fx] at hc
   simp only [List.getElem?_map,Option.map_eq_some_iff] at hc hv
   obtain ⟨z,h1,rfl⟩:=hc
   obtain ⟨z',h2,rfl⟩:=hv
   rw [h1] at h2;obtain rfl:=Option.some.inj h2
   exact .int _ _
  ·have hi:i < s.length:=by
    have:=(List.getElem?_eq_some_iff.1 hv).1
    simpa [mM] using this
   refine ⟨_,rfl,rfl,.inr rfl,?_⟩
   rw [Nat.zero_add,Lib.bytesWorld_cell w e ⟨s.toArray⟩ i (by rw [j9];exact hi)]
   simp only [List.getElem?_map,mM,Option.map_eq_some_iff] at hv
   obtain ⟨z,⟨c,h1,rfl⟩,rfl⟩:=hv
   simp [List.getD,h1]
  ·rw [hl];exact grownCap_ge w _ 0 e
 refine ⟨_,Lib.bytesWorld w e ⟨s.toArray⟩,_,_,?_,(r.heap g2.mZ g1).put hn vX,g2,kk⟩
 simp only [execOp,e1,Sem.run_bind,wK,Result.andThen_ok]
 rfl
end rules
section
variable {P:Program} {all:Array Oper} {rest:List Oper} {n:Nat} {tm:List (Nat×AV)} {hp:Heap} {Q:St→Prop} {d:Nat} {ty:TypeId} {pos:String} {af:Array Edge}
end
end Go.Eng
namespace Go.Eng
open Go Go.Proofs Go.Shelf Go.RowKit Go.Lib
section
variable {P:Program} (w:World)
end
variable {P:Program} {ρ:Ren}
end Go.Eng
namespace Go.Eng
open Go Go.Proofs Go.Shelf Go.Lib
variable {P:Program} {ρ:Ren} [bD]
end Go.Eng
