/- The engine: abstract values, the symbolic heap, one rule for each operation. No program in sight. -/
import Derived.Test.YthfphcbipahkmaaGreatDoorEngD
import Derived.Laws.Runes
import Derived.Laws.Concat
import Derived.Lib.LaidU8
import Derived.Lib.LaidTab
import Derived.HandedShaped
import Derived.Lib.ConvBytes
import Derived.Shelf.Strings.BuilderF
open ByteArray renaming size→ci
open List renaming mem_cons_of_mem→ac,append_assoc→ag,flatMap_cons→al,mem_cons→ap,flatMap_append→aw,getElem?_map→a7,Sublist.append→a8,Sublist.refl→be,mem_singleton→bi,nil_append→bk,mem_map→bo,mem_cons_self→bv,filterMap_cons→bx,Perm.trans→bz,Perm.append_right→bY,perm_append_comm→cb,map_map→cc,map_cons→ce,map_congr_left→cf
open Nat renaming blt→ad,le_refl→ai,beq→aI,eq_of_beq_eq_true→bt
open Option renaming some.inj→aa,map_eq_some_iff→bs,toList_none→bw
open Prod renaming fst→a6
set_option linter.unusedVariables false
set_option linter.unusedSimpArgs false
set_option linter.unusedSectionVars false
namespace Go.Eng
open Go
variable [bN]
def Cg {X A:Type} (o:Option X) (a:A) (f:X→A):A:=match o with
 | none=>a
 | some x=>f x
theorem C2 {X A:Type} (a:A) (f:X→A):Cg none a f=a:=rfl
theorem vS {X A:Type} (x:X) (a:A) (f:X→A):Cg (some x) a f=f x:=rfl
theorem VL {X A:Type} {o:Option X} {a r:A} {f:X→A} {C:Prop} (h:Cg o a f=r) (kn:o=none→a=r→C) (ks:∀ x,o=some x→f x=r→C):C:=by
 cases o with
 | none=>exact kn rfl h
 | some x=>exact ks x rfl h
@[reducible] def TM {X:Type} (o:Option X) (A:AV→Heap→Prop) (B:X→AV→Heap→Prop):AV→Heap→Prop:=match o with
  | none=>A
  | some x=>B x
def T4 {CY Jq Jr Js:Type} (H:CY→Jq→Jr→Js→Heap) (V:CY→Jq→Jr→Js→AV):AV→Heap→Prop:=fun v h=>∃ b0 b1 b2 b3,h=H b0 b1 b2 b3∧v=V b0 b1 b2 b3
def T5 {CY Jq Jr Js P7:Type} (H:CY→Jq→Jr→Js→P7→Heap) (V:CY→Jq→Jr→Js→P7→AV):AV→Heap→Prop:=fun v h=>∃ b0 b1 b2 b3 b4,h=H b0 b1 b2 b3 b4∧v=V b0 b1 b2 b3 b4
def T10 {CY Jq Jr Js P7 Yc Yd Ye Yf Yg:Type} (H:CY→Jq→Jr→Js→P7→Yc→Yd→Ye→Yf→Yg→Heap) (V:CY→Jq→Jr→Js→P7→Yc→Yd→Ye→Yf→Yg→AV):AV→Heap→Prop:=fun v h=>∃ b0 b1 b2 b3 b4 b5 b6 b7 b8 b9,h=H b0 b1 b2 b3 b4 b5 b6 b7 b8 b9∧v=V b0 b1 b2 b3 b4 b5 b6 b7 b8 b9
section rules
variable {P:Program} {all:Array Oper} {rest:List Oper} {n:Nat} {tm:List (Nat×AV)} {hp:Heap} {Q:St→Prop} {d:Nat} {ty:TypeId} {pos:String} {af:Array Edge}
theorem HL {CY Jq Jr Js:Type} {f:FuncId} {args:List Operand} {ts:Array TypeId} {l l':List AV} {h0 hr:Heap} {H H':CY→Jq→Jr→Js→Heap} {V:CY→Jq→Jr→Js→AV} [bJ P f] (hl:CO tm args=some l) (c:aP P f l' h0 (T4 H V)) (co:B7 hp l l') (hs:IC hp h0 hr) (ha:∀ b0 b1 b2 b3,uo (H b0 b1 b2 b3) hr=some (H' b0 b1 b2 b3)) (hn:ad d n=true)
 (kk:∀ b0 b1 b2 b3,ae P all rest ⟨n,(d,V b0 b1 b2 b3) :: tm,H' b0 b1 b2 b3⟩ Q):ae P all (⟨some d,.call {callee:=.value (.func f),args:=args.toArray,argTypes:=ts},ty,pos,af,none⟩ :: rest) ⟨n,tm,hp⟩ Q:=
 Ee hl c co hs hn (fun r h' ⟨b0,b1,b2,b3,e1,e2⟩=>by subst e1;subst e2;rw [qQ (ha b0 b1 b2 b3)];exact kk b0 b1 b2 b3)
theorem Mz {CY Jq Jr Js P7:Type} {f:FuncId} {args:List Operand} {ts:Array TypeId} {l l':List AV} {h0 hr:Heap} {H H':CY→Jq→Jr→Js→P7→Heap} {V:CY→Jq→Jr→Js→P7→AV} [bJ P f] (hl:CO tm args=some l) (c:aP P f l' h0 (T5 H V)) (co:B7 hp l l') (hs:IC hp h0 hr) (ha:∀ b0 b1 b2 b3 b4,uo (H b0 b1 b2 b3 b4) hr=some (H' b0 b1 b2 b3 b4)) (hn:ad d n=true)
 (kk:∀ b0 b1 b2 b3 b4,ae P all rest ⟨n,(d,V b0 b1 b2 b3 b4) :: tm,H' b0 b1 b2 b3 b4⟩ Q):ae P all (⟨some d,.call {callee:=.value (.func f),args:=args.toArray,argTypes:=ts},ty,pos,af,none⟩ :: rest) ⟨n,tm,hp⟩ Q:=
 Ee hl c co hs hn (fun r h' ⟨b0,b1,b2,b3,b4,e1,e2⟩=>by subst e1;subst e2;rw [qQ (ha b0 b1 b2 b3 b4)];exact kk b0 b1 b2 b3 b4)
theorem P8 {CY Jq Jr Js P7 Yc Yd Ye Yf Yg:Type} {f:FuncId} {args:List Operand} {ts:Array TypeId} {l l':List AV} {h0 hr:Heap} {H H':CY→Jq→Jr→Js→P7→Yc→Yd→Ye→Yf→Yg→Heap} {V:CY→Jq→Jr→Js→P7→Yc→Yd→Ye→Yf→Yg→AV} [bJ P f] (hl:CO tm args=some l) (c:aP P f l' h0 (T10 H V)) (co:B7 hp l l') (hs:IC hp h0 hr) (ha:∀ b0 b1 b2 b3 b4 b5 b6 b7 b8 b9,uo (H b0 b1 b2 b3 b4 b5 b6 b7 b8 b9) hr=some (H' b0 b1 b2 b3 b4 b5 b6 b7 b8 b9)) (hn:ad d n=true)
 (kk:∀ b0 b1 b2 b3 b4 b5 b6 b7 b8 b9,ae P all rest ⟨n,(d,V b0 b1 b2 b3 b4 b5 b6 b7 b8 b9) :: tm,H' b0 b1 b2 b3 b4 b5 b6 b7 b8 b9⟩ Q):ae P all (⟨some d,.call {callee:=.value (.func f),args:=args.toArray,argTypes:=ts},ty,pos,af,none⟩ :: rest) ⟨n,tm,hp⟩ Q:=
 Ee hl c co hs hn (fun r h' ⟨b0,b1,b2,b3,b4,b5,b6,b7,b8,b9,e1,e2⟩=>by subst e1;subst e2;rw [qQ (ha b0 b1 b2 b3 b4 b5 b6 b7 b8 b9)];exact kk b0 b1 b2 b3 b4 b5 b6 b7 b8 b9)
end rules
def W5 (d:Nat):List (Nat×AV)→List (Nat×AV)
 | []=>[]
 | (k,v) :: r=>match aI k d with
   | true=>W5 d r
   | false=>(k,v) :: W5 d r
theorem P9 (d:Nat):∀ tm:List (Nat×AV),lk (W5 d tm)=pr (lk tm) (some d) none
 | []=>by
   funext s
   show lk [] s=pr (lk []) (some d) none s
   simp [lk,pr]
 | (k,v) :: r=>by
   funext s
   have ih:=congrFun (P9 d r) s
   simp only [W5]
   cases hk:aI k d with
   | true=>
     obtain rfl:=bt hk
     simp only [ih,pr,lk]
     by_cases hs:k=s
     ·rw [if_pos hs,if_pos hs]
     ·have:aI k s=false:=by
       cases hb:aI k s with
       | true=>exact absurd (bt hb) hs
       | false=>rfl
      rw [if_neg hs,if_neg hs,this]
   | false=>
     simp only [lk,pr] at ih ⊢
     rw [ih]
     by_cases hs:d=s
     ·subst hs
      rw [if_pos rfl,if_pos rfl,hk]
     ·rw [if_neg hs,if_neg hs]
section rules
variable {P:Program} {all:Array Oper} {n:Nat} {B:Heap} {tk:List Tok} {dy:List Nat} {i:Nat} {rest:List Oper} {tm sF:List (Nat×AV)} {acc:(Nat→Bk)→List (Nat×AV)} {Q:(Nat→Bk)→List (Nat×AV)→Prop} {d:Nat} {ty:TypeId} {pos:String} {af:Array Edge} {op:Op}
theorem AT.aaM {o:Oper} {d:Nat} {V:Bk→AV} (hd:o.dst=some d) (hr:W5 d tm=sF) (Vv:dy.contains i=true) (h:∀ β,∀ X∈xF tk i β,uC P all n (X++B) o (KO (lk tm) (lk (acc β))) (wA tk i β) V (fun b=>lJ tk i (qp β i b))) (k:AT P all n B tk dy (i+1) rest sF (fun β=>(d,V (β i)) :: acc β) Q):AT P all n B tk dy i (o :: rest) tm acc Q:=by
 obtain ⟨D,Bj,k1,k2⟩:=k
 refine ⟨(none,V) :: D,Bj,.cons h (fun gx e b=>by cases e) (fun _=>Vv) ?_,fun β=>?_⟩
 ·rw [hd,← P9,hr]
  have e2:NQ none (fun β=>lk (acc β)) (some d) V i=fun β=>lk ((d,V (β i)) :: acc β):=by
   funext β
   simp only [NQ]
   rw [xE];rfl
  rw [e2];exact k1
 ·have:=k2 β
  simp only [Bi,hd]
  exact this
theorem AT.VM {V:Bk→AV} {Ti H1:(Nat→Bk)→Heap} {Pi H2:Bk→Heap} (NG:∀ β,xF tk i β=[[]]) (PJ:∀ β,wA tk i β=Ti β) (NR:∀ β b,lJ tk i (qp β i b)=Pi b) (h1:∀ β,uo (Ti β) B=some (H1 β)) (h2:∀ b,uo (Pi b) B=some (H2 b)) (hn:ad d n=true) (hr:W5 d tm=sF) (Vv:dy.contains i=true)
 (wy:∀ β,ae P all [⟨some d,op,ty,pos,af,none⟩] ⟨n,Hu (looks all ⟨some d,op,ty,pos,af,none⟩) (tm++acc β),H1 β⟩ (fun aK=>∃ b Bj,aK=⟨n,Bj,H2 b⟩∧lk Bj d=some (V b)))
 (k:AT P all n B tk dy (i+1) rest sF (fun β=>(d,V (β i)) :: acc β) Q):AT P all n B tk dy i (⟨some d,op,ty,pos,af,none⟩ :: rest) tm acc Q:=by
 refine AT.aaM rfl hr Vv (fun β X hX=>?_) k
 rw [NG β] at hX
 obtain rfl:=bi.1 hX
 rw [bk,PJ β,show (fun b=>lJ tk i (qp β i b))=Pi from funext (NR β),← Gt]
 refine wV rfl (fun d' ya=>by obtain rfl:=aa ya;simpa using hn) (h1 β) h2 ?_ (fun e=>by cases e)
 refine fun w S a r=>jz ?_ _ _ _ (wy β w S a r)
 rintro e a' w' ⟨he,aK,S',⟨b,Bj,q1,q2⟩,hh⟩
 exact ⟨he,aK,S',⟨b,Bj,q1,fun d' ya=>by obtain rfl:=aa ya;exact q2⟩,hh⟩
end rules
theorem xJ (b:Bk) (es:List (Bk×PO)) (n:Nat):n∈eb (b,.ct es)↔b.cw=some n∨∃ e∈es,e.1.cw=some n:=by
 simp [eb,Ob.more,List.mem_filterMap]
theorem DO (e:Bk×PO):eb (e.1,e.2.ob)=e.1.cw.toList:=by
 obtain ⟨b,o⟩:=e
 cases o<;>simp [eb,Ob.more,PO.ob]
theorem GA {w:World} {S:Nat→Prop} {hp cL:Heap} {bp:Bk} {es A7:List (Bk×PO)} {x:Bk×PO} (r:db w S hp) (u:na hp bp (.ct es) bp (.ct A7) cL) (mW:es.Perm (x :: A7)):
 db w S ((x.1,x.2.ob) :: cL)∧kS w S hp w S ((x.1,x.2.ob) :: cL):=by
 obtain ⟨p,q,rfl,rfl⟩:=u.split
 obtain ⟨CN,mc⟩:bp.cw=none∧∀ e∈es,qW w S e.1 e.2:=r.holds (bp,.ct es) (bE.2 (.inl rfl))
 have ow:∀ e∈A7,e∈es:=fun e he=>mW.mem_iff.2 (ac _ he)
 have hx:x∈es:=mW.mem_iff.2 (by simp)
 have Qa:x.2.ob.CL↔False:=by cases x.2<;>exact Iff.rfl
 have Ew:∀ n,n∈eb (bp,.ct es)↔n∈eb (x.1,x.2.ob)∨n∈eb (bp,.ct A7):=by
  intro n
  rw [xJ,xJ,DO,CN]
  constructor
  ·rintro (h | ⟨e,he,hn⟩)
   ·cases h
   ·rcases ap.1 (mW.mem_iff.1 he) with rfl | he
    ·exact .inl (by simp [hn])
    ·exact .inr (.inr ⟨e,he,hn⟩)
  ·rintro (h | h | ⟨e,he,hn⟩)
   ·exact .inr ⟨x,hx,by simpa using h⟩
   ·cases h
   ·exact .inr ⟨e,ow e he,hn⟩
 have Lm:∀ n,Has ((x.1,x.2.ob) :: (p++(bp,.ct A7) :: q)) n↔Has (p++(bp,.ct es) :: q) n:=by
  intro n
  constructor
  ·rintro ⟨e,he,hn⟩
   rcases ap.1 he with rfl | he
   ·exact ⟨_,bE.2 (.inl rfl),(Ew n).2 (.inl hn)⟩
   ·rcases bE.1 he with rfl | he
    ·exact ⟨_,bE.2 (.inl rfl),(Ew n).2 (.inr hn)⟩
    ·exact ⟨e,bE.2 (.inr he),hn⟩
  ·rintro ⟨e,he,hn⟩
   rcases bE.1 he with rfl | he
   ·rcases (Ew n).1 hn with h | h
    ·exact ⟨_,bv,h⟩
    ·exact ⟨_,ac _ (bE.2 (.inl rfl)),h⟩
   ·exact ⟨e,ac _ (bE.2 (.inr he)),hn⟩
 have hpn:(((x.1,x.2.ob) :: (p++(bp,.ct A7) :: q)).flatMap eb).Perm ((p++(bp,.ct es) :: q).flatMap eb):=by
  have e1:(eb (bp,.ct es)).Perm (eb (x.1,x.2.ob)++eb (bp,.ct A7)):=by
   rw [DO]
   simp only [eb,Ob.more,CN,bw,bk]
   refine (mW.filterMap _).trans ?_
   rw [bx]
   cases x.1.cw<;>simp
  rw [al,aw,aw,al,al]
  refine bz ?_ ((e1.symm.append_right _).append_left _)
  rw [← ag,← ag,← ag,← ag]
  refine (bY _ ?_)
  exact (cb.append_right _)
 refine ⟨⟨(hpn.nodup_iff).2 r.nodup,?_,?_,r.slt,r.gz⟩,⟨rfl,rfl,rfl,ai _,fun n hn=>⟨hn,rfl⟩,fun n _ _=>⟨rfl,id⟩,fun n hn=>.inl ((Lm n).1 hn),fun _=>ai _⟩⟩
 ·intro e he
  rcases ap.1 he with rfl | he
  ·exact qW.ob.1 (mc x hx)
  ·rcases bE.1 he with rfl | he
   ·exact ⟨CN,fun e he=>mc e (ow e he)⟩
   ·exact r.holds e (bE.2 (.inr he))
 ·intro e he n hn
  rcases ap.1 he with rfl | he
  ·have:=r.sep (bp,.ct es) (bE.2 (.inl rfl)) n ((Ew n).2 (.inl hn))
   exact ⟨fun h=>(this.1 h).elim,fun h=>(Qa.1 h).elim⟩
  ·rcases bE.1 he with rfl | he
   ·have:=r.sep (bp,.ct es) (bE.2 (.inl rfl)) n ((Ew n).2 (.inr hn))
    exact ⟨fun h=>(this.1 h).elim,fun h=>h.elim⟩
   ·exact r.sep e (bE.2 (.inr he)) n hn
theorem Ex {w:World} {S:Nat→Prop} {hp vA cL:Heap} {bp:Bk} {es A7:List (Bk×PO)} {x:Bk×PO} (r:db w S hp) (dl:yK hp x.1 x.2.ob vA) (u:na vA bp (.ct es) bp (.ct A7) cL) (mW:A7.Perm (x :: es)):
 db w S cL∧kS w S hp w S cL:=by
 obtain ⟨p0,q0,rfl,rfl⟩:=dl.split
 have r1:db w S ((x.1,x.2.ob) :: (p0++q0)):=by
  refine ⟨?_,fun e he=>r.holds e (bE.2 (by simpa using he)),fun e he=>r.sep e (bE.2 (by simpa using he)),r.slt,r.gz⟩
  refine ((List.Perm.flatMap_right eb ?_).nodup_iff).1 r.nodup
  exact List.perm_middle
 generalize hq:p0++q0=h1 at u r1
 obtain ⟨p,q,rfl,rfl⟩:=u.split
 obtain ⟨CN,mc⟩:bp.cw=none∧∀ e∈es,qW w S e.1 e.2:=r1.holds (bp,.ct es) (ac _ (bE.2 (.inl rfl)))
 have hxh:qW w S x.1 x.2:=qW.ob.2 (r1.holds (x.1,x.2.ob) (by simp))
 have Qa:x.2.ob.CL↔False:=by cases x.2<;>exact Iff.rfl
 have Ew:∀ n,n∈eb (bp,.ct A7)↔n∈eb (x.1,x.2.ob)∨n∈eb (bp,.ct es):=by
  intro n
  rw [xJ,xJ,DO,CN]
  constructor
  ·rintro (h | ⟨e,he,hn⟩)
   ·cases h
   ·rcases ap.1 (mW.mem_iff.1 he) with rfl | he
    ·exact .inl (by simp [hn])
    ·exact .inr (.inr ⟨e,he,hn⟩)
  ·rintro (h | h | ⟨e,he,hn⟩)
   ·exact .inr ⟨x,mW.mem_iff.2 (by simp),by simpa using h⟩
   ·cases h
   ·exact .inr ⟨e,mW.mem_iff.2 (ac _ he),hn⟩
 have e1:(eb (bp,.ct A7)).Perm (eb (x.1,x.2.ob)++eb (bp,.ct es)):=by
  rw [DO]
  simp only [eb,Ob.more,CN,bw,bk]
  refine (mW.filterMap _).trans ?_
  rw [bx]
  cases x.1.cw<;>simp
 have hpn:(((x.1,x.2.ob) :: (p++(bp,.ct es) :: q)).flatMap eb).Perm ((p++(bp,.ct A7) :: q).flatMap eb):=by
  rw [al,aw,aw,al,al]
  refine bz ?_ ((e1.symm.append_right _).append_left _)
  rw [← ag,← ag,← ag,← ag]
  refine (bY _ ?_)
  exact (cb.append_right _)
 have Lm:∀ n,Has (p++(bp,.ct A7) :: q) n→Has ((x.1,x.2.ob) :: (p++(bp,.ct es) :: q)) n:=by
  rintro n ⟨e,he,hn⟩
  rcases bE.1 he with rfl | he
  ·rcases (Ew n).1 hn with h | h
   ·exact ⟨_,bv,h⟩
   ·exact ⟨_,ac _ (bE.2 (.inl rfl)),h⟩
  ·exact ⟨e,ac _ (bE.2 (.inr he)),hn⟩
 have Yh:∀ n,Has ((x.1,x.2.ob) :: (p++(bp,.ct es) :: q)) n→Has (p0++(x.1,x.2.ob) :: q0) n:=fun n hn=>by
  obtain ⟨e,he,vD⟩:=hn
  refine ⟨e,bE.2 ?_,vD⟩
  rw [hq]
  simpa using he
 refine ⟨⟨(hpn.nodup_iff).1 r1.nodup,?_,?_,r.slt,r.gz⟩,⟨rfl,rfl,rfl,ai _,fun n hn=>⟨hn,rfl⟩,fun n _ _=>⟨rfl,id⟩,fun n hn=>.inl (Yh n (Lm n hn)),fun _=>ai _⟩⟩
 ·intro e he
  rcases bE.1 he with rfl | he
  ·refine ⟨CN,fun e he=>?_⟩
   rcases ap.1 (mW.mem_iff.1 he) with rfl | he
   ·exact hxh
   ·exact mc e he
  ·exact r1.holds e (ac _ (bE.2 (.inr he)))
 ·intro e he n hn
  rcases bE.1 he with rfl | he
  ·refine ⟨fun hs=>?_,fun h=>h.elim⟩
   rcases (Ew n).1 hn with h | h
   ·exact Qa.1 ((r1.sep _ (by simp) n h).1 hs)
   ·exact (r1.sep (bp,.ct es) (ac _ (bE.2 (.inl rfl))) n h).1 hs
  ·exact r1.sep e (ac _ (bE.2 (.inr he))) n hn
structure Kept (V:Type) where
 val:Bk→V→AV
 po:V→PO
def mX {E:Type} (sz:Nat) (g:E→AV):Kept (List E):=⟨fun b v=>.sl sz b 0 v.length,fun v=>.arr sz (v.map g)⟩
section plain
variable {K V:Type}
def Jt (gk:K→AV) (kp:Kept V) (β:K→Bk) (M:List (K×V)):List (AV×AV):=M.map fun e=>(gk e.1,kp.val (β e.1) e.2)
def me (kp:Kept V) (β:K→Bk) (M:List (K×V)):List (Bk×PO):=M.map fun e=>(β e.1,kp.po e.2)
def rz (β:K→Bk) (M:List (K×V)):List (K×(Bk×V)):=M.map fun e=>(e.1,(β e.1,e.2))
theorem xK (gk:K→AV) (kp:Kept V) (β:K→Bk) (M:List (K×V)):Jt gk kp β M=(rz β M).map fun e=>(gk e.1,kp.val e.2.1 e.2.2):=by
 unfold Jt rz;rw [cc];rfl
variable [DecidableEq K]
def ia (β:K→Bk) (k:K) (b:Bk):K→Bk:=fun k'=>if k'=k then b else β k'
theorem NX (β:K→Bk) (M:List (K×V)) (k:K):bc (rz β M) k=(bc M k).map fun v=>(β k,v):=by
 induction M with
 | nil=>rfl
 | cons e r ih=>
   show (if e.1=k then some (β e.1,e.2) else bc (rz β r) k)=(if e.1=k then some e.2 else bc r k).map _
   rw [ih]
   split
   ·rename_i h;rw [h];rfl
   ·rfl
theorem Ey {M:List (K×V)} {k:K} {v:V} (hn:(M.map a6).Nodup) (h:bc M k=some v):M.Perm ((k,v) :: mG M k):=by
 induction M with
 | nil=>cases h
 | cons e r ih=>
   rw [ce,List.nodup_cons] at hn
   unfold bc at h
   unfold mG
   rw [List.filter_cons]
   split at h
   ·rename_i hk
    obtain rfl:=aa h
    rw [if_neg (by simp [hk])]
    have:r.filter (fun e=>decide (e.1≠k))=r:=List.filter_eq_self.2 fun x hx=>by
     simp only [ne_eq,decide_not,Bool.not_eq_true',decide_eq_false_iff_not]
     intro hxk
     exact hn.1 (bo.2 ⟨x,hx,by rw [hxk,hk]⟩)
    rw [this,← hk]
   ·rename_i hk
    rw [if_pos (by simp [hk])]
    exact (List.Perm.cons e (ih hn.2 h)).trans (List.Perm.swap _ _ _)
theorem Ez (M:List (K×V)) (k:K):∀ e∈mG M k,e.1≠k:=fun e he=>by
 have:=(List.mem_filter.1 he).2
 simpa using this
theorem NY (kp:Kept V) (β:K→Bk) (k:K) (b:Bk) {M:List (K×V)} (h:∀ e∈M,e.1≠k):me kp (ia β k b) M=me kp β M:=by
 unfold me
 exact cf fun e he=>by unfold ia;rw [if_neg (h e he)]
variable [wJ K]
theorem uZ (M:List (K×V)) (k:K) (v:V):(bW M k v).Perm ((k,v) :: mG M k):=sU k v _
theorem NZ (kp:Kept V) (β:K→Bk) (k:K) (b:Bk) (M:List (K×V)) (v:V):(me kp (ia β k b) (bW M k v)).Perm ((b,kp.po v) :: me kp β (mG M k)):=by
 refine ((uZ M k v).map _).trans ?_
 rw [ce]
 have e1:(mG M k).map (fun e=>(ia β k b e.1,kp.po e.2))=me kp β (mG M k):=NY kp β k b (Ez M k)
 rw [e1]
 have:ia β k b k=b:=by unfold ia;rw [if_pos rfl]
 rw [this]
end plain
theorem EA {K V:Type} {gk:K→AV} {kp:Kept V} {β:K→Bk} {w:World} {S:Nat→Prop} {hp:Heap} {b:Bk} {M:List (K×V)} (NW:∀ a b,gk a=gk b→a=b) (r:db w S hp) (f:mD hp b (.mp (Jt gk kp β M))):(M.map a6).Nodup:=by
 rw [xK] at f
 obtain ⟨L,c,M',n,cq,p1,_,_,_,_,_,_,p8⟩:=qR (gv:=fun p:Bk×V=>kp.val p.1 p.2) NW r f
 have:=(p1.map a6).nodup_iff.1 p8
 unfold rz at this
 rw [cc] at this
 exact this
theorem Ju {hp cL:Heap} {b:Bk} {o o':Ob} (u:na hp b o b o' cL) (h:o=o'):hp=cL:=by
 obtain ⟨p,q,rfl,rfl⟩:=u.split
 rw [h]
section rules
variable {P:Program} {all:Array Oper} {rest:List Oper} {n:Nat} {tm:List (Nat×AV)} {hp:Heap} {Q:St→Prop} {d:Nat} {ty:TypeId} {pos:String} {af:Array Edge}
theorem N0 {K E:Type} [DecidableEq K] {gk:K→AV} {sz:Nat} {g:E→AV} {β:K→Bk} {M:List (K×List E)} {key:K} {xs:List E} {t kt vt:TypeId} {i:TypeInfo} {x y:Operand} {bm bp:Bk} {cL:Heap} [aB P t (.map kt vt)] [aX P vt i] [dC P kt gk] (hx:de tm x=some (.bV bm)) (hy:de tm y=some (gk key)) (f:mD hp bm (.mp (Jt gk (mX sz g) β M))) (u:na hp bp (.ct (me (mX sz g) β M)) bp (.ct (me (mX sz g) β (mG M key))) cL) (hz:i.zero=some (.slice none 0 0)) (h:pc M key []=some xs) (hn:ad d n=true)
 (kk:∀ b,(∀ v,bc M key=some v→b=β key∧v=xs)→ae P all rest ⟨n,(d,.sl sz b 0 xs.length) :: tm,(b,.arr sz (xs.map g)) :: cL⟩ Q):ae P all (⟨some d,.lookup t x y false,ty,pos,af,none⟩ :: rest) ⟨n,tm,hp⟩ Q:=by
 refine ae.IJ rfl fun w S a r=>?_
 have wz:=EA (dC.inj P kt) r.hp f
 have kx:=bj (σ:=⟨n,tm,hp⟩) r hx
 have ky:=bj (σ:=⟨n,tm,hp⟩) r hy
 obtain ⟨nb,hb,ex⟩:=kx.kf
 have f':=f
 rw [xK] at f'
 obtain ⟨L,c,M',zJ,cq,p1,p2,p3,p4,p5,p6,p7,p8⟩:=qR (gv:=fun p:Bk×List E=>(mX sz g).val p.1 p.2) (dC.inj P kt) r.hp f'
 obtain rfl:zJ=nb:=by rw [p4] at hb;exact aa hb
 have jD:=dC.find (P:=P) (t:=kt) (g:=gk) ky cq.toList (M'.map a6) (by simpa using p6.symm) (fun j k' e h1 h2=>by
  rw [a7] at h1
  cases hm:M'[j]? with
  | none=>rw [hm] at h1;cases h1
  | some q=>rw [hm] at h1;rw [← aa h1];exact (p7 j q e hm h2).1)
 have S7:=jg p1 p8 key
 rw [NX] at S7
 have hv:=aa h
 rcases oc (gv:=fun p:Bk×List E=>(mX sz g).val p.1 p.2) (w:=w) (S:=S) (k:=key) M' cq.toList 0 p6.symm (fun j e m h1 h2=>(p7 j e m h1 h2).2) with ⟨q1,q2⟩ | ⟨v',j,val,q1,q2,q3,_⟩
 ·
  rw [q1] at S7
  have Ea:bc M key=none:=by
   cases hc:bc M key with
   | none=>rfl
   | some v=>rw [hc] at S7;cases S7
  rw [Ea,Option.getD_none] at hv
  subst hv
  have Ah:=Ju u (by rw [wZ Ea])
  obtain ⟨g1,g2,g3⟩:=pP (b:=⟨none,0⟩) (o:=.arr sz (([]:List E).map g)) r.hp (Ext.refl w) id ⟨by simp,by simp,.inl ⟨rfl,rfl⟩⟩ (.inl rfl)
  refine ⟨.slice none 0 0,w,S,⟨n,(d,.sl sz ⟨none,0⟩ 0 0) :: tm,(⟨none,0⟩,.arr sz (([]:List E).map g)) :: cL⟩,?_,?_,?_,kk ⟨none,0⟩ (fun v hv=>by rw [Ea] at hv;cases hv)⟩
  ·simp [execOp,Instr.lookup,ex,run_underlying (aB.h (P:=P) (t:=t)),cY p5,dC.check (P:=P) (t:=kt) ky,jD,q2,zeroValue,typeInfo,aX.h (P:=P) (t:=vt),hz]
  ·rw [← Ah]
   exact (r.heap g3 g1).put hn (.Ba sz _ rfl)
  ·rw [← Ah];exact g2
 ·rw [q1] at S7
  obtain ⟨v,ZQ⟩:∃ v,bc M key=some v:=by
   cases hc:bc M key with
   | none=>rw [hc] at S7;cases S7
   | some v=>exact ⟨v,rfl⟩
  rw [ZQ,Option.getD_some] at hv
  subst hv
  rw [ZQ] at S7
  have UJ:v'=(β key,v):=aa S7
  subst UJ
  have UN:(me (mX sz g) β M).Perm ((β key,.arr sz (v.map g)) :: me (mX sz g) β (mG M key)):=((Ey wz ZQ).map _)
  obtain ⟨g1,g2⟩:=GA r.hp u UN
  refine ⟨val,w,S,⟨n,(d,.sl sz (β key) 0 v.length) :: tm,(β key,.arr sz (v.map g)) :: cL⟩,?_,(r.heap (fun m hm=>⟨hm,rfl⟩) g1).put hn q3,g2,kk (β key) (fun v2 WY=>⟨rfl,by rw [ZQ] at WY;exact (aa WY).symm⟩)⟩
  simp [execOp,Instr.lookup,ex,run_underlying (aB.h (P:=P) (t:=t)),cY p5,dC.check (P:=P) (t:=kt) ky,jD,q2]
end rules
theorem aj.Qb {n:Nat} {tm:List (Nat×AV)} {hp vA cL:Heap} {T:St→Prop} {K E:Type} [DecidableEq K] {gk:K→AV} {sz:Nat} {g:E→AV} {β:K→Bk} {M:List (K×List E)} {key:K} {xs:List E} {b bm bp:Bk} (NW:∀ a b,gk a=gk b→a=b) (h:pc M key []=some xs) (hb:∀ v,bc M key=some v→b=β key∧v=xs) (f:mD hp bm (.mp (Jt gk (mX sz g) β M))) (dl:yK hp b (.arr sz (xs.map g)) vA) (u:na vA bp (.ct (me (mX sz g) β (mG M key))) bp (.ct (me (mX sz g) β M)) cL) (k:aj ⟨n,tm,cL⟩ T):aj ⟨n,tm,hp⟩ T:=by
 refine aj.step (A3:=⟨n,tm,cL⟩) (fun w S a r=>?_) k
 have wz:=EA NW r.hp f
 cases hc:bc M key with
 | none=>
   have Ah:=Ju u (by rw [wZ hc])
   have hs:vA.Sublist hp:=by
    obtain ⟨p,q,rfl,rfl⟩:=dl.split
    exact a8 (be _) (List.sublist_cons_self _ _)
   rw [← Ah]
   exact ⟨_,S,rfl,r.less ⟨rfl,fun _ _ h=>h,hs⟩,kS.less (kS.refl w S hp) fun _ hn=>hn.sub hs⟩
 | some v=>
   obtain ⟨rfl,rfl⟩:=hb v hc
   have UN:(me (mX sz g) β M).Perm ((β key,.arr sz (v.map g)) :: me (mX sz g) β (mG M key)):=((Ey wz hc).map _)
   obtain ⟨g1,g2⟩:=Ex (x:=(β key,.arr sz (v.map g))) r.hp dl u UN
   exact ⟨_,S,rfl,r.heap (fun m hm=>⟨hm,rfl⟩) g1,g2⟩
theorem Ln {K V:Type} [DecidableEq K] (β:K→Bk) (M:List (K×V)) (k:K):mG (rz β M) k=rz β (mG M k):=by
 unfold mG rz
 rw [List.filter_map]
 rfl
theorem EB {K V:Type} [wJ K] (β:K→Bk) (k:K) (b:Bk) (v:V) (hk:β k=b):∀ M:List (K×V),wY k (b,v) (rz β M)=rz β (wY k v M)
 | []=>by simp [wY,rz,hk]
 | e :: r=>by
   show wY k (b,v) ((e.1,(β e.1,e.2)) :: rz β r)=rz β (wY k v (e :: r))
   unfold wY
   by_cases h:wJ.lt e.1 k=true
   ·rw [if_pos h,if_pos h,EB β k b v hk r];rfl
   ·rw [if_neg h,if_neg h];simp [rz,hk]
theorem N1 {K V:Type} [DecidableEq K] (β:K→Bk) (k:K) (b:Bk) {M:List (K×V)} (h:∀ e∈M,e.1≠k):rz (ia β k b) M=rz β M:=by
 unfold rz
 exact cf fun e he=>by unfold ia;rw [if_neg (h e he)]
theorem Lo {K V:Type} [DecidableEq K] [wJ K] (β:K→Bk) (M:List (K×V)) (k:K) (b:Bk) (v:V):bW (rz β M) k (b,v)=rz (ia β k b) (bW M k v):=by
 unfold bW
 rw [Ln,← N1 β k b (Ez M k),EB _ _ _ _ (by unfold ia;rw [if_pos rfl])]
section rules
variable {P:Program} {all:Array Oper} {rest:List Oper} {n:Nat} {tm:List (Nat×AV)} {hp:Heap} {Q:St→Prop} {d:Nat} {ty:TypeId} {pos:String} {af:Array Edge}
theorem w5 {K V:Type} [DecidableEq K] [wJ K] {gk:K→AV} {kp:Kept V} {β:K→Bk} {M:List (K×V)} {key:K} {v:V} {t kt vt:TypeId} {x y z:Operand} {b bm:Bk} {cL:Heap} {av:AV} [aB P t (.map kt vt)] [dC P kt gk] (hx:de tm x=some (.bV bm)) (hy:de tm y=some (gk key)) (hz:de tm z=some av) (qn:av=kp.val b v) (u:na hp bm (.mp (Jt gk kp β M)) bm (.mp (Jt gk kp (ia β key b) (bW M key v))) cL)
 (kk:ae P all rest ⟨n,tm,cL⟩ Q):ae P all (⟨none,.insert t x y z,ty,pos,af,none⟩ :: rest) ⟨n,tm,hp⟩ Q:=by
 rw [xK,xK,← Lo] at u
 exact Et (gk:=gk) (gv:=fun p:Bk×V=>kp.val p.1 p.2) (M:=rz β M) (key:=key) (v:=(b,v)) hx hy hz qn u kk
end rules
theorem aj.Bt {n:Nat} {tm:List (Nat×AV)} {hp vA cL:Heap} {T:St→Prop} {K V:Type} [DecidableEq K] [wJ K] {kp:Kept V} {β:K→Bk} {M:List (K×V)} {key:K} {v:V} {b bp:Bk} {o:Ob} (ho:o=(kp.po v).ob) (dl:yK hp b o vA) (u:na vA bp (.ct (me kp β (mG M key))) bp (.ct (me kp (ia β key b) (bW M key v))) cL) (k:aj ⟨n,tm,cL⟩ T):aj ⟨n,tm,hp⟩ T:=by
 refine aj.step (A3:=⟨n,tm,cL⟩) (fun w S a r=>?_) k
 subst ho
 obtain ⟨g1,g2⟩:=Ex (x:=(b,kp.po v)) r.hp dl u (NZ kp β key b M v)
 exact ⟨_,S,rfl,r.heap (fun m hm=>⟨hm,rfl⟩) g1,g2⟩
theorem aj.yX {n:Nat} {tm:List (Nat×AV)} {hp cL:Heap} {T:St→Prop} {K V:Type} [DecidableEq K] {kp:Kept V} {β:K→Bk} {M:List (K×V)} (key:K) {bp:Bk} (u:na hp bp (.ct (me kp β M)) bp (.ct (me kp β (mG M key))) cL) (k:aj ⟨n,tm,cL⟩ T):aj ⟨n,tm,hp⟩ T:=by
 refine aj.step (A3:=⟨n,tm,cL⟩) (fun w S a r=>?_) k
 obtain ⟨p,q,rfl,rfl⟩:=u.split
 have ow:(me kp β (mG M key)).Sublist (me kp β M):=(List.filter_sublist).map _
 have lI:(bp,Ob.ct (me kp β M))∈p++(bp,.ct (me kp β M)) :: q:=bE.2 (.inl rfl)
 have hbs:∀ n,n∈eb (bp,.ct (me kp β (mG M key)))→n∈eb (bp,.ct (me kp β M)):=fun n hn=>by
  rw [xJ] at hn ⊢
  exact hn.imp id fun ⟨e,he,h⟩=>⟨e,ow.subset he,h⟩
 have VN:(eb (bp,.ct (me kp β (mG M key)))).Sublist (eb (bp,.ct (me kp β M))):=by
  unfold eb Ob.more
  exact a8 (be _) (ow.filterMap _)
 have u9:db w S (p++(bp,.ct (me kp β (mG M key))) :: q):=by
  refine ⟨?_,?_,?_,r.hp.slt,r.hp.gz⟩
  ·have:=r.hp.nodup
   rw [aw,al] at this ⊢
   exact this.sublist (a8 (be _) (a8 VN (be _)))
  ·intro e he
   rcases bE.1 he with rfl | he
   ·obtain ⟨h0,h1⟩:bp.cw=none∧∀ e∈me kp β M,qW w S e.1 e.2:=r.hp.holds _ lI
    exact ⟨h0,fun e he=>h1 e (ow.subset he)⟩
   ·exact r.hp.holds e (bE.2 (.inr he))
  ·intro e he n hn
   rcases bE.1 he with rfl | he
   ·have:=r.hp.sep _ lI n (hbs n hn)
    exact ⟨fun h=>(this.1 h).elim,fun h=>h.elim⟩
   ·exact r.hp.sep e (bE.2 (.inr he)) n hn
 refine ⟨_,S,rfl,r.heap (fun m hm=>⟨hm,rfl⟩) u9,rfl,rfl,rfl,ai _,fun n hn=>⟨hn,rfl⟩,fun n _ _=>⟨rfl,id⟩,fun n hn=>.inl ?_,fun _=>ai _⟩
 obtain ⟨e,he,hn⟩:=hn
 rcases bE.1 he with rfl | he
 ·exact ⟨_,lI,hbs n hn⟩
 ·exact ⟨e,bE.2 (.inr he),hn⟩
section rules
variable {P:Program} {all:Array Oper} {rest:List Oper} {n:Nat} {tm:List (Nat×AV)} {hp:Heap} {Q:St→Prop} {d:Nat} {ty:TypeId} {pos:String} {af:Array Edge}
theorem Lp {K V:Type} {gk:K→AV} {kp:Kept V} {β:K→Bk} {t:TypeId} (hn:ad d n=true) (kk:∀ b bp:Bk,ae P all rest ⟨n,(d,.bV b) :: tm,(b,.mp (Jt gk kp β [])) :: (bp,.ct (me kp β [])) :: hp⟩ Q):ae P all (⟨some d,.makeMap t none,ty,pos,af,none⟩ :: rest) ⟨n,tm,hp⟩ Q:=by
 have g:ae P all (⟨some d,.makeMap t none,ty,pos,af,none⟩ :: rest) ⟨n,tm,(⟨none,0⟩,.ct []) :: hp⟩ Q:=sV hn (fun b=>kk b ⟨none,0⟩)
 refine ae.ghost (aj.step (A3:=⟨n,tm,(⟨none,0⟩,.ct []) :: hp⟩) (fun w S a r=>?_) (aj.here g))
 obtain ⟨g1,g2,g3⟩:=pP (b:=⟨none,0⟩) (o:=.ct []) r.hp (Ext.refl w) id ⟨rfl,by simp⟩ (.inl rfl)
 exact ⟨_,S,rfl,r.heap g3 g1,g2⟩
end rules
def rowOf (o:Option Obj):Option (Array Value):=match o with
 | some (.cells vs _ _)=>some vs
 | _=>none
theorem MA {P:Program} {w:World} {name:String} {g:Nat} (hg:P.globalNamed name=some g):w.var? P name=rowOf (w.heap[g]?):=by
 unfold World.var?
 rw [hg]
 rfl
theorem N2 (xs:List (List UInt8)):flat (xs.map AV.str)=xs.map AV.str:=wX (fun _=>rfl) xs
theorem Lq {w:World} {S:Nat→Prop} (r:db w S []) (xs:List (List UInt8)) (E:TypeId) {vs:Array Value} (hv:vs=(xs.map fun s=>Value.string ⟨s.toArray⟩).toArray):
 At (w.alloc (.cells vs E)) S (.sl 1 ⟨some w.heap.size,xs.length⟩ 0 xs.length) (.slice (some ⟨w.heap.size,0,none⟩) xs.length xs.length)∧
  db (w.alloc (.cells vs E)) S [(⟨some w.heap.size,xs.length⟩,.arr 1 (xs.map AV.str))]∧kS w S [] (w.alloc (.cells vs E)) S [(⟨some w.heap.size,xs.length⟩,.arr 1 (xs.map AV.str))]:=by
 subst hv
 have e0:=Ext.alloc w (.cells (xs.map fun s=>Value.string ⟨s.toArray⟩).toArray E)
 have hh:Holds (w.alloc (.cells (xs.map fun s=>Value.string ⟨s.toArray⟩).toArray E)) S ⟨some w.heap.size,xs.length⟩ (.arr 1 (xs.map AV.str)):=by
  refine ⟨fun x hx=>?_,by simp,.inr ⟨w.heap.size,(xs.map fun s=>Value.string ⟨s.toArray⟩).toArray,E,rfl,?_,by simp,?_⟩⟩
  ·obtain ⟨s,_,rfl⟩:=bo.1 hx
   exact ⟨rfl,fun c hc=>by rw [bi.1 hc];rfl⟩
  ·show (w.heap.push _)[w.heap.size]? =_
   simp
  ·rw [N2]
   intro i c v hc hv
   simp only [a7,List.getElem?_toArray,bs] at hc hv
   obtain ⟨s,h1,rfl⟩:=hc
   obtain ⟨s',h2,rfl⟩:=hv
   rw [h1] at h2
   obtain rfl:=aa h2
   exact .str s
 obtain ⟨k1,k2,k3⟩:=pP r e0 id hh (.inr ⟨_,rfl,ai _⟩)
 refine ⟨?_,k1,k2⟩
 have:=At.sl (w:=w.alloc (.cells (xs.map fun s=>Value.string ⟨s.toArray⟩).toArray E)) (S:=S) 1 ⟨some w.heap.size,xs.length⟩ 0 xs.length w.heap.size xs.length rfl (ai _) (by simp)
 simpa using this
def VO (k:IntKind) (zs:List Int) (o:Option Obj):Prop:=rowOf o=some (zs.map fun z=>Value.int k z).toArray
def VP (k:IntKind) (o:Option Obj):Prop:=∃ vs m,rowOf o=some vs∧vs[0]? =some (.int k m)
def Qd (o:Option Obj):Prop:=∃ vs ev,rowOf o=some vs∧vs[0]? =some ev∧(ev=.nilIface∨∃ te pe,ev=.iface te pe)
theorem EC (w:World) (g i:Nat) {vs:Array Value} (h:rowOf (w.heap[g]?)=some vs):w.cell? ⟨g,i,none⟩=vs[i]?:=by
 unfold World.cell?
 unfold rowOf at h
 split at h
 ·rename_i CP e f ho
  obtain rfl:=aa h
  simp [ho]
 ·cases h
def MC:List (Nat×(Option Obj→Prop))→Nat→Option (Option Obj→Prop)
 | [],_=>none
 | (k,o) :: r,g=>if g=k then some o else MC r g
theorem GC:∀ {l:List (Nat×(Option Obj→Prop))} {g:Nat} {o:Option Obj→Prop},MC l g=some o→(g,o)∈l
 | [],_,_,h=>by cases h
 | (k,o') :: r,g,o,h=>by
   unfold MC at h
   split at h
   ·rename_i hg
    rw [hg,aa h];simp
   ·exact ac _ (GC h)
theorem Lr {w:World} {g:Nat} {vs:Array Value} (h:rowOf (w.heap[g]?)=some vs):g < w.heap.size:=by
 rcases Nat.lt_or_ge g w.heap.size with h' | h'
 ·exact h'
 ·rw [Array.getElem?_eq_none h'] at h;cases h
end Go.Eng
namespace Go.Eng
open Go
section errs
variable [bN] {P:Program} {all:Array Oper} {rest:List Oper} {n:Nat} {tm:List (Nat×AV)} {hp:Heap} {Q:St→Prop} {d:Nat} {ty:TypeId} {pos:String} {af:Array Edge}
def VQ (e:Value) (ok:Bool):Prop:=(e=.nilIface∧ok=true)∨((∃ te pe,e=.iface te pe)∧ok=false)
def PuE (P:Program) (f:FuncId) (args:List AV) (m:Int) (ok:Bool):Prop:=aP P f args [] (fun r h=>∃ e,r=.lE [I m,.raw e]∧VQ e ok)
theorem S8 {f:FuncId} {args:List Operand} {ts:Array TypeId} {l l':List AV} {m:Int} {ok:Bool} [bJ P f] (hl:CO tm args=some l) (c:PuE P f l' m ok) (co:B7 hp l l') (hn:ad d n=true)
 (kk:∀ e,VQ e ok→ae P all rest ⟨n,(d,.lE [I m,.raw e]) :: tm,hp⟩ Q):ae P all (⟨some d,.call {callee:=.value (.func f),args:=args.toArray,argTypes:=ts},ty,pos,af,none⟩ :: rest) ⟨n,tm,hp⟩ Q:=by
 refine Mn hl c co hn (fun r h' hr=>?_)
 obtain ⟨e,rfl,he⟩:=hr
 exact ae.weaken (aK:=⟨n,(d,.lE [I m,.raw e]) :: tm,hp⟩) ⟨rfl,fun _ _ h=>h,List.sublist_append_right _ _⟩ (kk e he)
theorem Yi {t:TypeId} {ms:Array (String×TypeId)} [aB P t (.interface ms)] (te:TypeId) (pe:Value) (w:World):(Op.equal t (.iface te pe) .nilIface).run P w=.ok false w:=by
 show (Op.equalIn (9999+1) t _ _).run P w=_
 rw [Op.equalIn]
 simp [run_underlying (aB.h (P:=P) (t:=t))]
theorem Yj {t:TypeId} {ms:Array (String×TypeId)} [aB P t (.interface ms)] (w:World):(Op.equal t .nilIface .nilIface).run P w=.ok true w:=by
 show (Op.equalIn (9999+1) t _ _).run P w=_
 rw [Op.equalIn]
 simp [run_underlying (aB.h (P:=P) (t:=t))]
theorem Yk {xt yt:TypeId} {ms:Array (String×TypeId)} {x:Operand} {e:Value} {ok:Bool} [aB P xt (.interface ms)] (he:VQ e ok) (hx:de tm x=some (.raw e)):QV P ⟨some d,.binOp .eql xt x (.const .nilIface) yt,ty,pos,af,none⟩ ⟨n,tm,hp⟩ (.bool ok):=by
 refine fun w S a r=>⟨.bool ok,fun w1 _=>?_,.bool _⟩
 have hr:=(bj (σ:=⟨n,tm,hp⟩) r hx).Sj
 have hc:a.eval (.const .nilIface)=.nilIface:=rfl
 rcases he with ⟨rfl,rfl⟩ | ⟨⟨te,pe,rfl⟩,rfl⟩
 ·have h1:=Yj (P:=P) (t:=xt) w1
  simp [execOp,hr,hc,eqGuard,binOp,h1]
 ·have h1:=Yi (P:=P) (t:=xt) te pe w1
  simp [execOp,hr,hc,eqGuard,binOp,h1]
def N3 (a b:List UInt8):Option (List UInt8):=if a.length+b.length≤9223372036854775807 then some (a++b) else none
theorem Qe {xt yt:TypeId} {x y:Operand} {s t r:List UInt8} (h:N3 s t=some r) (hx:de tm x=some (.str s)) (hy:de tm y=some (.str t)):QV P ⟨some d,.binOp .add xt x y yt,ty,pos,af,none⟩ ⟨n,tm,hp⟩ (.str r):=by
 unfold N3 at h
 split at h
 ·rename_i hs
  obtain rfl:=aa h
  refine fun w S a r=>⟨.string (⟨s.toArray⟩++⟨t.toArray⟩),fun w1 _=>?_,?_⟩
  ·have h1:=run_string_add_sum (P:=P) (w:=w1) (⟨s.toArray⟩:ByteArray) (⟨t.toArray⟩:ByteArray) (by simpa [ci] using hs)
   simp [execOp,(bj (σ:=⟨n,tm,hp⟩) r hx).fj,(bj (σ:=⟨n,tm,hp⟩) r hy).fj,eqGuard,binOp,h1]
  ·have:((⟨s.toArray⟩:ByteArray)++⟨t.toArray⟩)=⟨(s++t).toArray⟩:=by apply ByteArray.ext;simp
   rw [this]
   exact .str _
 ·cases h
end errs
end Go.Eng
namespace Go.Eng
open Go
variable [bN]
end Go.Eng
namespace Go.Eng
open Go Go.Lib
variable [bN]
theorem Jv {w:World} {g:Nat} {v:Value} (h:w.cell? ⟨g,0,none⟩=some v):∃ vs,rowOf (w.heap[g]?)=some vs∧vs[0]? =some v:=by
 unfold World.cell? at h
 cases ho:w.heap[g]? with
 | none=>simp [ho] at h
 | some o=>
   cases o with
   | cells vs e f=>exact ⟨vs,rfl,by simpa [ho] using h⟩
   | _=>simp [ho] at h
theorem S9 {w:World} {g:Nat} {k:IntKind} {m:Int} (h:w.cell? ⟨g,0,none⟩=some (.int k m)):g < w.heap.size∧VP k (w.heap[g]?):=by
 obtain ⟨vs,h1,h2⟩:=Jv h
 exact ⟨Lr h1,vs,m,h1,h2⟩
theorem Ta {P:Program} {W:World} {name:String} {k:IntKind} {zs:List Int} {g:Nat} {t e:TypeId} {n:Nat}
 (hg:P.globalNamed name=some g) (hty:(P.globals[g]?).map (·.type)=some t) (ht:P.underlying t=some (.array n e)) (he:P.underlying e=some (.int k)) (hce:P.cellsOf e=1) (hct:P.cellsOf t=n)
 (h:VarReads P W name (tabData k zs)):g < W.heap.size∧VO k zs (W.heap[g]?):=by
 obtain ⟨g',t',cs,fuel,p,O0,ht',Ls,hd⟩:=h
 obtain rfl:=aa (hg.symm.trans O0)
 obtain rfl:=aa (hty.symm.trans ht')
 rw [MA hg] at Ls
 refine ⟨Lr Ls,?_⟩
 unfold VO
 rw [Ls,← cells_of_tab ht he hce hct hd]
theorem MD {P:Program} {W:World} {name:String} {d:DataW Unit} {g:Nat} {t:TypeId} {ms:Array (String×TypeId)}
 (hg:P.globalNamed name=some g) (hty:(P.globals[g]?).map (·.type)=some t) (ht:P.underlying t=some (.interface ms)) (h:VarReads P W name d):g < W.heap.size∧Qd (W.heap[g]?):=by
 obtain ⟨g',t',cs,fuel,p,O0,ht',Ls,hd⟩:=h
 obtain rfl:=aa (hg.symm.trans O0)
 obtain rfl:=aa (hty.symm.trans ht')
 rw [MA hg] at Ls
 refine ⟨Lr Ls,?_⟩
 have key:∀ l:List Value,DataW.trod (fun _=>()) P W 0 (fun _=>true) false fuel t l=some (d,p)→∃ ev,l[0]? =some ev∧(ev=.nilIface∨∃ te pe,ev=.iface te pe):=by
  intro l hl
  cases fuel with
  | zero=>simp [DataW.trod] at hl
  | succ fuel=>
    unfold DataW.trod at hl
    simp only [ht] at hl
    split at hl<;>first | (exact ⟨_,rfl,.inl rfl⟩) | (exact ⟨_,rfl,.inr ⟨_,_,rfl⟩⟩) | (simp_all)
 obtain ⟨ev,h1,h2⟩:=key cs.toList hd
 exact ⟨cs,ev,Ls,by simpa using h1,h2⟩
end Go.Eng
namespace Go.Eng
open Go
variable {H:Type} {enc:TypeId×Value→H}
theorem Jw {a:Assume} {C:Checked} {os:Os} {f:FuncId} {fn:Func} {s:ChangeSpec} {conds:List PathCond} {apart fresh handsOn again:Bool} {X:World→Array Value→Prop}
 (hX:∀ (w w':World) (args:Array Value),w.heap=w'.heap→X w args→X w' args)
 (own:ownKnob C.prog.godebug=none) (started:os.Started) (VR:C.prog.inits.idxOf? f=none) (SP:C.prog.funcs[f]? =some fn)
 (witness:∃ (w:World) (tape:Tape) (i:Input),w.os=os∧(w.forCall tape i).Shaped C.prog∧i.vars=[]∧Input.okWide C.prog (w.forCall tape i) .any w.heap.size f i∧
  ((s.pre enc C.prog fn conds apart (w.forCall tape i).memory i.args∧X (w.forCall tape i).memory i.args)∧sizedMet enc C.prog fn (OpenSpec.ofChange s) apart (w.forCall tape i).memory i.args)∧a.holds C.prog (lone (Frame.enter C.prog f i.args .normal) [] (w.forCall tape i)))
 (walk:∀ (W:World) (base:Nat) (args:Array Value) (ds gs:List (DataW H)) (before:List MemPlace),
  (∀ (j:Nat) t v,fn.params[j]? =some t→args[j]? =some v→Value.okWide C.prog W .any base t v)→
  DataW.Whole enc C.prog fn.params.toList s.vars apart W args.toList ds gs before→
  conds.all (PathCond.test C.prog ⟨fn.params.toList,ds,s.plain.varTypes C.prog,gs⟩)=true→
  (DataW.weightsEach C.prog (fn.params.toList++s.plain.varTypes C.prog) (ds++gs)).all (· ≤reachBytes)=true→X W args∧W.ShapedOpen C.prog→
  a.holds C.prog (lone (Frame.enter C.prog f args .normal) [] W)→
  Calls C.prog f args W fun e W'=>∃ v,e=.returned v∧s.post enc C.prog fn apart fresh handsOn again W args v W'):
 ReturnsInHanded a C os f .any (fun w args=>(s.pre enc C.prog fn conds apart w args∧X w args)∧sizedMet enc C.prog fn (OpenSpec.ofChange s) apart w args) (s.post enc C.prog fn apart fresh handsOn again):=by
 refine returnsInHanded_of_calls own started VR witness ?_
 intro w tape i _ shaped _ ok pre held
 obtain ⟨_,_,_,fn',there,_,_,_,_,aaN⟩:=ok
 cases aa (there.symm.trans SP)
 obtain ⟨⟨⟨ds,gs,before,whole,Yl⟩,x⟩,sized⟩:=pre
 have K:=walk (w.forCall tape i) w.heap.size i.args ds gs before aaN (DataW.Whole.of_heap (w':=w.forCall tape i) (by rfl) whole) Yl (sized.weights whole) ⟨hX _ _ _ (by rfl) x,shaped⟩ held
 exact K.mono fun e W' ⟨v,he,hp⟩=>by
  subst he
  exact ChangeSpec.post_blind hp
end Go.Eng
namespace Go.Eng
open Go
variable [bN]
def rb (s:List UInt8):List Int:=s.map fun c=>(c.toNat:Int)
theorem N4 (w:World) (e:TypeId) (s:ByteArray):Ext w (Lib.bytesWorld w e s):=by
 refine ⟨rfl,rfl,rfl,by rw [Lib.bytesWorld_size];omega,fun n hn=>Lib.bytesWorld_at_old w e s n hn,fun _=>?_⟩
 show w.drawn≤w.drawn+1
 omega
theorem db.one {w w':World} {S:Nat→Prop} {h:Heap} (r:db w S h) (e:Ext w w') (hs:w.heap.size < w'.heap.size):db w' (fun n=>S n∨n=w.heap.size) h∧kS w S h w' (fun n=>S n∨n=w.heap.size) h:=by
 have iW:∀ x∈h,∀ n,n∈eb x→n < w.heap.size:=fun x hx n hn=>r.lt ⟨x,hx,hn⟩
 have hk:∀ n,S n→(S n∨n=w.heap.size)∧w'.heap[n]? =w.heap[n]?:=fun n hn=>⟨.inl hn,e.same n (r.slt n hn)⟩
 refine ⟨⟨r.nodup,fun x hx=>(r.holds x hx).mono hk (fun n hn=>e.same n (iW x hx n hn)),fun x hx n hn=>⟨fun Je=>?_,fun hf=>.inl ((r.sep x hx n hn).2 hf)⟩,fun n hn=>?_,fun g o ho=>⟨.inl (r.gz g o ho).1,A9 (e.same g (r.slt g (r.gz g o ho).1)) (r.gz g o ho).2⟩⟩,
  ⟨e.os,e.tape,e.output,e.size,hk,fun n hn _=>⟨e.same n hn,fun Je=>?_⟩,fun n hn=>.inl hn,e.drawn⟩⟩
 ·rcases Je with h' | h'
  ·exact (r.sep x hx n hn).1 h'
  ·have:=iW x hx n hn;omega
 ·rcases hn with h' | h'
  ·exact Nat.lt_of_lt_of_le (r.slt n h') e.size
  ·omega
 ·rcases Je with h' | h'
  ·exact h'
  ·omega
section rules
variable {P:Program} {all:Array Oper} {rest:List Oper} {n:Nat} {tm:List (Nat×AV)} {hp:Heap} {Q:St→Prop} {d:Nat} {ty:TypeId} {pos:String} {af:Array Edge}
theorem ED (k:IntKind) (xs:List Int):flat (xs.map (AV.int k))=xs.map (AV.int k):=wX (fun _=>rfl) xs
theorem N5 {src dst e:TypeId} {D:TypeDesc} {x:Operand} {s:List UInt8} [aB P src D] [aB P dst (.slice e)] [aB P e (.int .u8)] (hx:de tm x=some (.str s)) (hn:ad d n=true)
 (kk:ae P all rest ⟨n,(d,.list 1 ((rb s).map (AV.int .u8))) :: tm,hp⟩ Q):ae P all (⟨some d,.convert src dst x,ty,pos,af,none⟩ :: rest) ⟨n,tm,hp⟩ Q:=by
 refine ae.IJ rfl fun w S a r=>?_
 have e1:=(bj (σ:=⟨n,tm,hp⟩) r hx).fj
 have wy:=Lib.run_convert_string_bytes (P:=P) w src dst e ⟨s.toArray⟩ (aB.h (P:=P) (t:=src)) (aB.h (P:=P) (t:=dst)) (aB.h (P:=P) (t:=e))
 have hE:=N4 w e ⟨s.toArray⟩
 obtain ⟨g1,g2⟩:=r.hp.one hE (by rw [Lib.bytesWorld_size];omega)
 have iV:(⟨s.toArray⟩:ByteArray).size=s.length:=by simp [ci]
 have sB:At (Lib.bytesWorld w e ⟨s.toArray⟩) (fun n=>S n∨n=w.heap.size) (.list 1 ((rb s).map (AV.int .u8))) (.slice (some ⟨w.heap.size,0,none⟩) (⟨s.toArray⟩:ByteArray).size (grownCap w (⟨s.toArray⟩:ByteArray).size 0 e)):=by
  have hl:((rb s).map (AV.int .u8)).length=(⟨s.toArray⟩:ByteArray).size:=by rw [iV];simp [rb]
  rw [← hl]
  refine .list 1 _ _ _ ((rb s).map fun z=>Value.int .u8 z) (fun y hy=>?_) ?_ (fun i c v hc hv=>?_) (fun i v hv=>?_) ?_
  ·obtain ⟨z,_,rfl⟩:=bo.1 hy
   exact ⟨rfl,fun c hc=>by rw [bi.1 hc];rfl⟩
  ·rw [ED];simp
  ·rw [ED] at hc
   simp only [a7,bs] at hc hv
   obtain ⟨z,h1,rfl⟩:=hc
   obtain ⟨z',h2,rfl⟩:=hv
   rw [h1] at h2;obtain rfl:=aa h2
   exact .int _ _
  ·have hi:i < s.length:=by
    have:=(List.getElem?_eq_some_iff.1 hv).1
    simpa [rb] using this
   refine ⟨_,rfl,rfl,.inr rfl,?_⟩
   rw [Nat.zero_add,Lib.bytesWorld_cell w e ⟨s.toArray⟩ i (by rw [iV];exact hi)]
   simp only [a7,rb,bs] at hv
   obtain ⟨z,⟨c,h1,rfl⟩,rfl⟩:=hv
   simp [List.getD,h1]
  ·rw [hl];exact grownCap_ge w _ 0 e
 refine ⟨_,Lib.bytesWorld w e ⟨s.toArray⟩,_,_,?_,(r.heap g2.mB g1).put hn sB,g2,kk⟩
 simp only [execOp,e1,Sem.run_bind,wy,Result.andThen_ok]
 rfl
end rules
end Go.Eng
namespace Go.Eng
open Go Go.Proofs Go.Shelf Go.RowKit Go.Lib
variable {P:Program} {ρ:Ren}
end Go.Eng
namespace Go.Eng
open Go Go.Proofs Go.Shelf Go.Lib
variable {P:Program} {ρ:Ren} [bN]
end Go.Eng
