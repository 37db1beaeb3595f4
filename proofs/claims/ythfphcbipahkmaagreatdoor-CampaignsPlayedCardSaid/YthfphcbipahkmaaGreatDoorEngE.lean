/- The engine: abstract values, the symbolic heap, one rule for each operation. No program in sight. -/
import Derived.Test.YthfphcbipahkmaaGreatDoorEngD
import Derived.Laws.Runes
import Derived.Laws.Concat
import Derived.Lib.LaidU8
import Derived.Lib.LaidTab
import Derived.HandedShaped
import Derived.Lib.ConvBytes
import Derived.Shelf.Strings.BuilderF
open ByteArray renaming size→ci
open List renaming mem_cons_of_mem→ac,append_assoc→ag,flatMap_cons→al,mem_cons→ap,flatMap_append→aw,getElem?_map→a7,Sublist.append→bc,Sublist.refl→be,mem_singleton→bi,nil_append→bk,mem_map→bo,mem_cons_self→bx,filterMap_cons→bO,Perm.trans→bW,Perm.append_right→bX,perm_append_comm→cb,map_map→cc,map_cons→ce,map_congr_left→cf
open Nat renaming blt→ad,le_refl→ai,beq→aH,eq_of_beq_eq_true→bv
open Option renaming some.inj→aa,map_eq_some_iff→bs,toList_none→bz
open Prod renaming fst→a6
set_option linter.unusedVariables false
set_option linter.unusedSimpArgs false
set_option linter.unusedSectionVars false
namespace Go.Eng
open Go
variable [bU]
def zX {X A:Type} (o:Option X) (a:A) (f:X→A):A:=match o with
 | none=>a
 | some x=>f x
theorem Cp {X A:Type} (a:A) (f:X→A):zX none a f=a:=rfl
theorem tq {X A:Type} (x:X) (a:A) (f:X→A):zX (some x) a f=f x:=rfl
theorem Ss {X A:Type} {o:Option X} {a r:A} {f:X→A} {C:Prop} (h:zX o a f=r) (kn:o=none→a=r→C) (ks:∀ x,o=some x→f x=r→C):C:=by
 cases o with
 | none=>exact kn rfl h
 | some x=>exact ks x rfl h
@[reducible] def TM {X:Type} (o:Option X) (A:AV→Heap→Prop) (B:X→AV→Heap→Prop):AV→Heap→Prop:=match o with
  | none=>A
  | some x=>B x
def T4 {Ck II IJ IK:Type} (H:Ck→II→IJ→IK→Heap) (V:Ck→II→IJ→IK→AV):AV→Heap→Prop:=fun v h=>∃ b0 b1 b2 b3,h=H b0 b1 b2 b3∧v=V b0 b1 b2 b3
def T5 {Ck II IJ IK Pl:Type} (H:Ck→II→IJ→IK→Pl→Heap) (V:Ck→II→IJ→IK→Pl→AV):AV→Heap→Prop:=fun v h=>∃ b0 b1 b2 b3 b4,h=H b0 b1 b2 b3 b4∧v=V b0 b1 b2 b3 b4
def T10 {Ck II IJ IK Pl XX XY XZ X0 X1:Type} (H:Ck→II→IJ→IK→Pl→XX→XY→XZ→X0→X1→Heap) (V:Ck→II→IJ→IK→Pl→XX→XY→XZ→X0→X1→AV):AV→Heap→Prop:=fun v h=>∃ b0 b1 b2 b3 b4 b5 b6 b7 b8 b9,h=H b0 b1 b2 b3 b4 b5 b6 b7 b8 b9∧v=V b0 b1 b2 b3 b4 b5 b6 b7 b8 b9
section rules
variable {P:Program} {all:Array Oper} {rest:List Oper} {n:Nat} {tm:List (Nat×AV)} {hp:Heap} {Q:St→Prop} {d:Nat} {ty:TypeId} {pos:String} {af:Array Edge}
theorem L0 {Ck II IJ IK:Type} {f:FuncId} {args:List Operand} {ts:Array TypeId} {l l':List AV} {h0 hr:Heap} {H H':Ck→II→IJ→IK→Heap} {V:Ck→II→IJ→IK→AV} [bN P f] (hl:B9 tm args=some l) (c:aR P f l' h0 (T4 H V)) (co:By hp l l') (hs:HR hp h0 hr) (ha:∀ b0 b1 b2 b3,tJ (H b0 b1 b2 b3) hr=some (H' b0 b1 b2 b3)) (hn:ad d n=true)
 (kk:∀ b0 b1 b2 b3,ae P all rest ⟨n,(d,V b0 b1 b2 b3) :: tm,H' b0 b1 b2 b3⟩ Q):ae P all (⟨some d,.call {callee:=.value (.func f),args:=args.toArray,argTypes:=ts},ty,pos,af,none⟩ :: rest) ⟨n,tm,hp⟩ Q:=
 DD hl c co hs hn (fun r h' ⟨b0,b1,b2,b3,e1,e2⟩=>by subst e1;subst e2;rw [qq (ha b0 b1 b2 b3)];exact kk b0 b1 b2 b3)
theorem Su {Ck II IJ IK Pl:Type} {f:FuncId} {args:List Operand} {ts:Array TypeId} {l l':List AV} {h0 hr:Heap} {H H':Ck→II→IJ→IK→Pl→Heap} {V:Ck→II→IJ→IK→Pl→AV} [bN P f] (hl:B9 tm args=some l) (c:aR P f l' h0 (T5 H V)) (co:By hp l l') (hs:HR hp h0 hr) (ha:∀ b0 b1 b2 b3 b4,tJ (H b0 b1 b2 b3 b4) hr=some (H' b0 b1 b2 b3 b4)) (hn:ad d n=true)
 (kk:∀ b0 b1 b2 b3 b4,ae P all rest ⟨n,(d,V b0 b1 b2 b3 b4) :: tm,H' b0 b1 b2 b3 b4⟩ Q):ae P all (⟨some d,.call {callee:=.value (.func f),args:=args.toArray,argTypes:=ts},ty,pos,af,none⟩ :: rest) ⟨n,tm,hp⟩ Q:=
 DD hl c co hs hn (fun r h' ⟨b0,b1,b2,b3,b4,e1,e2⟩=>by subst e1;subst e2;rw [qq (ha b0 b1 b2 b3 b4)];exact kk b0 b1 b2 b3 b4)
theorem Pm {Ck II IJ IK Pl XX XY XZ X0 X1:Type} {f:FuncId} {args:List Operand} {ts:Array TypeId} {l l':List AV} {h0 hr:Heap} {H H':Ck→II→IJ→IK→Pl→XX→XY→XZ→X0→X1→Heap} {V:Ck→II→IJ→IK→Pl→XX→XY→XZ→X0→X1→AV} [bN P f] (hl:B9 tm args=some l) (c:aR P f l' h0 (T10 H V)) (co:By hp l l') (hs:HR hp h0 hr) (ha:∀ b0 b1 b2 b3 b4 b5 b6 b7 b8 b9,tJ (H b0 b1 b2 b3 b4 b5 b6 b7 b8 b9) hr=some (H' b0 b1 b2 b3 b4 b5 b6 b7 b8 b9)) (hn:ad d n=true)
 (kk:∀ b0 b1 b2 b3 b4 b5 b6 b7 b8 b9,ae P all rest ⟨n,(d,V b0 b1 b2 b3 b4 b5 b6 b7 b8 b9) :: tm,H' b0 b1 b2 b3 b4 b5 b6 b7 b8 b9⟩ Q):ae P all (⟨some d,.call {callee:=.value (.func f),args:=args.toArray,argTypes:=ts},ty,pos,af,none⟩ :: rest) ⟨n,tm,hp⟩ Q:=
 DD hl c co hs hn (fun r h' ⟨b0,b1,b2,b3,b4,b5,b6,b7,b8,b9,e1,e2⟩=>by subst e1;subst e2;rw [qq (ha b0 b1 b2 b3 b4 b5 b6 b7 b8 b9)];exact kk b0 b1 b2 b3 b4 b5 b6 b7 b8 b9)
end rules
def WR (d:Nat):List (Nat×AV)→List (Nat×AV)
 | []=>[]
 | (k,v) :: r=>match aH k d with
   | true=>WR d r
   | false=>(k,v) :: WR d r
theorem Pn (d:Nat):∀ tm:List (Nat×AV),lk (WR d tm)=oT (lk tm) (some d) none
 | []=>by
   funext s
   show lk [] s=oT (lk []) (some d) none s
   simp [lk,oT]
 | (k,v) :: r=>by
   funext s
   have ih:=congrFun (Pn d r) s
   simp only [WR]
   cases hk:aH k d with
   | true=>
     obtain rfl:=bv hk
     simp only [ih,oT,lk]
     by_cases hs:k=s
     ·rw [if_pos hs,if_pos hs]
     ·have:aH k s=false:=by
       cases hb:aH k s with
       | true=>exact absurd (bv hb) hs
       | false=>rfl
      rw [if_neg hs,if_neg hs,this]
   | false=>
     simp only [lk,oT] at ih ⊢
     rw [ih]
     by_cases hs:d=s
     ·subst hs
      rw [if_pos rfl,if_pos rfl,hk]
     ·rw [if_neg hs,if_neg hs]
section rules
variable {P:Program} {all:Array Oper} {n:Nat} {B:Heap} {tk:List Tok} {dy:List Nat} {i:Nat} {rest:List Oper} {tm sb:List (Nat×AV)} {acc:(Nat→Bk)→List (Nat×AV)} {Q:(Nat→Bk)→List (Nat×AV)→Prop} {d:Nat} {ty:TypeId} {pos:String} {af:Array Edge} {op:Op}
theorem AT.aaC {o:Oper} {d:Nat} {V:Bk→AV} (hd:o.dst=some d) (hr:WR d tm=sb) (U9:dy.contains i=true) (h:∀ β,∀ X∈wY tk i β,tU P all n (X++B) o (Ka (lk tm) (lk (acc β))) (vK tk i β) V (fun b=>lG tk i (pO β i b))) (k:AT P all n B tk dy (i+1) rest sb (fun β=>(d,V (β i)) :: acc β) Q):AT P all n B tk dy i (o :: rest) tm acc Q:=by
 obtain ⟨D,AH,k1,k2⟩:=k
 refine ⟨(none,V) :: D,AH,.cons h (fun iI e b=>by cases e) (fun _=>U9) ?_,fun β=>?_⟩
 ·rw [hd,← Pn,hr]
  have e2:M7 none (fun β=>lk (acc β)) (some d) V i=fun β=>lk ((d,V (β i)) :: acc β):=by
   funext β
   simp only [M7]
   rw [wX];rfl
  rw [e2];exact k1
 ·have:=k2 β
  simp only [AG,hd]
  exact this
theorem AT.Vo {V:Bk→AV} {Ti H1:(Nat→Bk)→Heap} {Pi H2:Bk→Heap} (MU:∀ β,wY tk i β=[[]]) (OZ:∀ β,vK tk i β=Ti β) (M8:∀ β b,lG tk i (pO β i b)=Pi b) (h1:∀ β,tJ (Ti β) B=some (H1 β)) (h2:∀ b,tJ (Pi b) B=some (H2 b)) (hn:ad d n=true) (hr:WR d tm=sb) (U9:dy.contains i=true)
 (vJ:∀ β,ae P all [⟨some d,op,ty,pos,af,none⟩] ⟨n,GS (looks all ⟨some d,op,ty,pos,af,none⟩) (tm++acc β),H1 β⟩ (fun aJ=>∃ b AH,aJ=⟨n,AH,H2 b⟩∧lk AH d=some (V b)))
 (k:AT P all n B tk dy (i+1) rest sb (fun β=>(d,V (β i)) :: acc β) Q):AT P all n B tk dy i (⟨some d,op,ty,pos,af,none⟩ :: rest) tm acc Q:=by
 refine AT.aaC rfl hr U9 (fun β X hX=>?_) k
 rw [MU β] at hX
 obtain rfl:=bi.1 hX
 rw [bk,OZ β,show (fun b=>lG tk i (pO β i b))=Pi from funext (M8 β),← FT]
 refine wg rfl (fun d' vT=>by obtain rfl:=aa vT;simpa using hn) (h1 β) h2 ?_ (fun e=>by cases e)
 refine fun w S a r=>jr ?_ _ _ _ (vJ β w S a r)
 rintro e a' w' ⟨he,aJ,S',⟨b,AH,q1,q2⟩,hh⟩
 exact ⟨he,aJ,S',⟨b,AH,q1,fun d' vT=>by obtain rfl:=aa vT;exact q2⟩,hh⟩
end rules
theorem w7 (b:Bk) (es:List (Bk×PO)) (n:Nat):n∈eb (b,.cu es)↔b.cH=some n∨∃ e∈es,e.1.cH=some n:=by
 simp [eb,Ob.more,List.mem_filterMap]
theorem Db (e:Bk×PO):eb (e.1,e.2.ob)=e.1.cH.toList:=by
 obtain ⟨b,o⟩:=e
 cases o<;>simp [eb,Ob.more,PO.ob]
theorem F0 {w:World} {S:Nat→Prop} {hp cQ:Heap} {bp:Bk} {es Au:List (Bk×PO)} {x:Bk×PO} (r:de w S hp) (u:mF hp bp (.cu es) bp (.cu Au) cQ) (mC:es.Perm (x :: Au)):
 de w S ((x.1,x.2.ob) :: cQ)∧kT w S hp w S ((x.1,x.2.ob) :: cQ):=by
 obtain ⟨p,q,rfl,rfl⟩:=u.split
 obtain ⟨B8,lE⟩:bp.cH=none∧∀ e∈es,qz w S e.1 e.2:=r.holds (bp,.cu es) (bw.2 (.inl rfl))
 have nU:∀ e∈Au,e∈es:=fun e he=>mC.mem_iff.2 (ac _ he)
 have hx:x∈es:=mC.mem_iff.2 (by simp)
 have Po:x.2.ob.B7↔False:=by cases x.2<;>exact Iff.rfl
 have DT:∀ n,n∈eb (bp,.cu es)↔n∈eb (x.1,x.2.ob)∨n∈eb (bp,.cu Au):=by
  intro n
  rw [w7,w7,Db,B8]
  constructor
  ·rintro (h | ⟨e,he,hn⟩)
   ·cases h
   ·rcases ap.1 (mC.mem_iff.1 he) with rfl | he
    ·exact .inl (by simp [hn])
    ·exact .inr (.inr ⟨e,he,hn⟩)
  ·rintro (h | h | ⟨e,he,hn⟩)
   ·exact .inr ⟨x,hx,by simpa using h⟩
   ·cases h
   ·exact .inr ⟨e,nU e he,hn⟩
 have KO:∀ n,Has ((x.1,x.2.ob) :: (p++(bp,.cu Au) :: q)) n↔Has (p++(bp,.cu es) :: q) n:=by
  intro n
  constructor
  ·rintro ⟨e,he,hn⟩
   rcases ap.1 he with rfl | he
   ·exact ⟨_,bw.2 (.inl rfl),(DT n).2 (.inl hn)⟩
   ·rcases bw.1 he with rfl | he
    ·exact ⟨_,bw.2 (.inl rfl),(DT n).2 (.inr hn)⟩
    ·exact ⟨e,bw.2 (.inr he),hn⟩
  ·rintro ⟨e,he,hn⟩
   rcases bw.1 he with rfl | he
   ·rcases (DT n).1 hn with h | h
    ·exact ⟨_,bx,h⟩
    ·exact ⟨_,ac _ (bw.2 (.inl rfl)),h⟩
   ·exact ⟨e,ac _ (bw.2 (.inr he)),hn⟩
 have X2:(((x.1,x.2.ob) :: (p++(bp,.cu Au) :: q)).flatMap eb).Perm ((p++(bp,.cu es) :: q).flatMap eb):=by
  have e1:(eb (bp,.cu es)).Perm (eb (x.1,x.2.ob)++eb (bp,.cu Au)):=by
   rw [Db]
   simp only [eb,Ob.more,B8,bz,bk]
   refine (mC.filterMap _).trans ?_
   rw [bO]
   cases x.1.cH<;>simp
  rw [al,aw,aw,al,al]
  refine bW ?_ ((e1.symm.append_right _).append_left _)
  rw [← ag,← ag,← ag,← ag]
  refine (bX _ ?_)
  exact (cb.append_right _)
 refine ⟨⟨(X2.nodup_iff).2 r.nodup,?_,?_,r.slt,r.gh⟩,⟨rfl,rfl,rfl,ai _,fun n hn=>⟨hn,rfl⟩,fun n _ _=>⟨rfl,id⟩,fun n hn=>.inl ((KO n).1 hn),fun _=>ai _⟩⟩
 ·intro e he
  rcases ap.1 he with rfl | he
  ·exact qz.ob.1 (lE x hx)
  ·rcases bw.1 he with rfl | he
   ·exact ⟨B8,fun e he=>lE e (nU e he)⟩
   ·exact r.holds e (bw.2 (.inr he))
 ·intro e he n hn
  rcases ap.1 he with rfl | he
  ·have:=r.sep (bp,.cu es) (bw.2 (.inl rfl)) n ((DT n).2 (.inl hn))
   exact ⟨fun h=>(this.1 h).elim,fun h=>(Po.1 h).elim⟩
  ·rcases bw.1 he with rfl | he
   ·have:=r.sep (bp,.cu es) (bw.2 (.inl rfl)) n ((DT n).2 (.inr hn))
    exact ⟨fun h=>(this.1 h).elim,fun h=>h.elim⟩
   ·exact r.sep e (bw.2 (.inr he)) n hn
theorem DU {w:World} {S:Nat→Prop} {hp vc cQ:Heap} {bp:Bk} {es Au:List (Bk×PO)} {x:Bk×PO} (r:de w S hp) (dl:x7 hp x.1 x.2.ob vc) (u:mF vc bp (.cu es) bp (.cu Au) cQ) (mC:Au.Perm (x :: es)):
 de w S cQ∧kT w S hp w S cQ:=by
 obtain ⟨p0,q0,rfl,rfl⟩:=dl.split
 have r1:de w S ((x.1,x.2.ob) :: (p0++q0)):=by
  refine ⟨?_,fun e he=>r.holds e (bw.2 (by simpa using he)),fun e he=>r.sep e (bw.2 (by simpa using he)),r.slt,r.gh⟩
  refine ((List.Perm.flatMap_right eb ?_).nodup_iff).1 r.nodup
  exact List.perm_middle
 generalize hq:p0++q0=h1 at u r1
 obtain ⟨p,q,rfl,rfl⟩:=u.split
 obtain ⟨B8,lE⟩:bp.cH=none∧∀ e∈es,qz w S e.1 e.2:=r1.holds (bp,.cu es) (ac _ (bw.2 (.inl rfl)))
 have hxh:qz w S x.1 x.2:=qz.ob.2 (r1.holds (x.1,x.2.ob) (by simp))
 have Po:x.2.ob.B7↔False:=by cases x.2<;>exact Iff.rfl
 have DT:∀ n,n∈eb (bp,.cu Au)↔n∈eb (x.1,x.2.ob)∨n∈eb (bp,.cu es):=by
  intro n
  rw [w7,w7,Db,B8]
  constructor
  ·rintro (h | ⟨e,he,hn⟩)
   ·cases h
   ·rcases ap.1 (mC.mem_iff.1 he) with rfl | he
    ·exact .inl (by simp [hn])
    ·exact .inr (.inr ⟨e,he,hn⟩)
  ·rintro (h | h | ⟨e,he,hn⟩)
   ·exact .inr ⟨x,mC.mem_iff.2 (by simp),by simpa using h⟩
   ·cases h
   ·exact .inr ⟨e,mC.mem_iff.2 (ac _ he),hn⟩
 have e1:(eb (bp,.cu Au)).Perm (eb (x.1,x.2.ob)++eb (bp,.cu es)):=by
  rw [Db]
  simp only [eb,Ob.more,B8,bz,bk]
  refine (mC.filterMap _).trans ?_
  rw [bO]
  cases x.1.cH<;>simp
 have X2:(((x.1,x.2.ob) :: (p++(bp,.cu es) :: q)).flatMap eb).Perm ((p++(bp,.cu Au) :: q).flatMap eb):=by
  rw [al,aw,aw,al,al]
  refine bW ?_ ((e1.symm.append_right _).append_left _)
  rw [← ag,← ag,← ag,← ag]
  refine (bX _ ?_)
  exact (cb.append_right _)
 have KO:∀ n,Has (p++(bp,.cu Au) :: q) n→Has ((x.1,x.2.ob) :: (p++(bp,.cu es) :: q)) n:=by
  rintro n ⟨e,he,hn⟩
  rcases bw.1 he with rfl | he
  ·rcases (DT n).1 hn with h | h
   ·exact ⟨_,bx,h⟩
   ·exact ⟨_,ac _ (bw.2 (.inl rfl)),h⟩
  ·exact ⟨e,ac _ (bw.2 (.inr he)),hn⟩
 have X3:∀ n,Has ((x.1,x.2.ob) :: (p++(bp,.cu es) :: q)) n→Has (p0++(x.1,x.2.ob) :: q0) n:=fun n hn=>by
  obtain ⟨e,he,u5⟩:=hn
  refine ⟨e,bw.2 ?_,u5⟩
  rw [hq]
  simpa using he
 refine ⟨⟨(X2.nodup_iff).1 r1.nodup,?_,?_,r.slt,r.gh⟩,⟨rfl,rfl,rfl,ai _,fun n hn=>⟨hn,rfl⟩,fun n _ _=>⟨rfl,id⟩,fun n hn=>.inl (X3 n (KO n hn)),fun _=>ai _⟩⟩
 ·intro e he
  rcases bw.1 he with rfl | he
  ·refine ⟨B8,fun e he=>?_⟩
   rcases ap.1 (mC.mem_iff.1 he) with rfl | he
   ·exact hxh
   ·exact lE e he
  ·exact r1.holds e (ac _ (bw.2 (.inr he)))
 ·intro e he n hn
  rcases bw.1 he with rfl | he
  ·refine ⟨fun hs=>?_,fun h=>h.elim⟩
   rcases (DT n).1 hn with h | h
   ·exact Po.1 ((r1.sep _ (by simp) n h).1 hs)
   ·exact (r1.sep (bp,.cu es) (ac _ (bw.2 (.inl rfl))) n h).1 hs
  ·exact r1.sep e (ac _ (bw.2 (.inr he))) n hn
structure Kept (V:Type) where
 val:Bk→V→AV
 po:V→PO
def mD {E:Type} (sz:Nat) (g:E→AV):Kept (List E):=⟨fun b v=>.sl sz b 0 v.length,fun v=>.arr sz (v.map g)⟩
section plain
variable {K V:Type}
def IL (gk:K→AV) (kp:Kept V) (β:K→Bk) (M:List (K×V)):List (AV×AV):=M.map fun e=>(gk e.1,kp.val (β e.1) e.2)
def lR (kp:Kept V) (β:K→Bk) (M:List (K×V)):List (Bk×PO):=M.map fun e=>(β e.1,kp.po e.2)
def qR (β:K→Bk) (M:List (K×V)):List (K×(Bk×V)):=M.map fun e=>(e.1,(β e.1,e.2))
theorem w8 (gk:K→AV) (kp:Kept V) (β:K→Bk) (M:List (K×V)):IL gk kp β M=(qR β M).map fun e=>(gk e.1,kp.val e.2.1 e.2.2):=by
 unfold IL qR;rw [cc];rfl
variable [DecidableEq K]
def gP (β:K→Bk) (k:K) (b:Bk):K→Bk:=fun k'=>if k'=k then b else β k'
theorem Nd (β:K→Bk) (M:List (K×V)) (k:K):bh (qR β M) k=(bh M k).map fun v=>(β k,v):=by
 induction M with
 | nil=>rfl
 | cons e r ih=>
   show (if e.1=k then some (β e.1,e.2) else bh (qR β r) k)=(if e.1=k then some e.2 else bh r k).map _
   rw [ih]
   split
   ·rename_i h;rw [h];rfl
   ·rfl
theorem DV {M:List (K×V)} {k:K} {v:V} (hn:(M.map a6).Nodup) (h:bh M k=some v):M.Perm ((k,v) :: mj M k):=by
 induction M with
 | nil=>cases h
 | cons e r ih=>
   rw [ce,List.nodup_cons] at hn
   unfold bh at h
   unfold mj
   rw [List.filter_cons]
   split at h
   ·rename_i hk
    obtain rfl:=aa h
    rw [if_neg (by simp [hk])]
    have:r.filter (fun e=>decide (e.1≠k))=r:=List.filter_eq_self.2 fun x hx=>by
     simp only [ne_eq,decide_not,Bool.not_eq_true',decide_eq_false_iff_not]
     intro hxk
     exact hn.1 (bo.2 ⟨x,hx,by rw [hxk,hk]⟩)
    rw [this,← hk]
   ·rename_i hk
    rw [if_pos (by simp [hk])]
    exact (List.Perm.cons e (ih hn.2 h)).trans (List.Perm.swap _ _ _)
theorem DW (M:List (K×V)) (k:K):∀ e∈mj M k,e.1≠k:=fun e he=>by
 have:=(List.mem_filter.1 he).2
 simpa using this
theorem Nf (kp:Kept V) (β:K→Bk) (k:K) (b:Bk) {M:List (K×V)} (h:∀ e∈M,e.1≠k):lR kp (gP β k b) M=lR kp β M:=by
 unfold lR
 exact cf fun e he=>by unfold gP;rw [if_neg (h e he)]
variable [vU K]
theorem uu (M:List (K×V)) (k:K) (v:V):(ca M k v).Perm ((k,v) :: mj M k):=sv k v _
theorem Ng (kp:Kept V) (β:K→Bk) (k:K) (b:Bk) (M:List (K×V)) (v:V):(lR kp (gP β k b) (ca M k v)).Perm ((b,kp.po v) :: lR kp β (mj M k)):=by
 refine ((uu M k v).map _).trans ?_
 rw [ce]
 have e1:(mj M k).map (fun e=>(gP β k b e.1,kp.po e.2))=lR kp β (mj M k):=Nf kp β k b (DW M k)
 rw [e1]
 have:gP β k b k=b:=by unfold gP;rw [if_pos rfl]
 rw [this]
end plain
theorem DX {K V:Type} {gk:K→AV} {kp:Kept V} {β:K→Bk} {w:World} {S:Nat→Prop} {hp:Heap} {b:Bk} {M:List (K×V)} (IF:∀ a b,gk a=gk b→a=b) (r:de w S hp) (f:mh hp b (.mp (IL gk kp β M))):(M.map a6).Nodup:=by
 rw [w8] at f
 obtain ⟨L,c,M',n,cC,p1,_,_,_,_,_,_,p8⟩:=qs (gv:=fun p:Bk×V=>kp.val p.1 p.2) IF r f
 have:=(p1.map a6).nodup_iff.1 p8
 unfold qR at this
 rw [cc] at this
 exact this
theorem IM {hp cQ:Heap} {b:Bk} {o o':Ob} (u:mF hp b o b o' cQ) (h:o=o'):hp=cQ:=by
 obtain ⟨p,q,rfl,rfl⟩:=u.split
 rw [h]
section rules
variable {P:Program} {all:Array Oper} {rest:List Oper} {n:Nat} {tm:List (Nat×AV)} {hp:Heap} {Q:St→Prop} {d:Nat} {ty:TypeId} {pos:String} {af:Array Edge}
theorem Nh {K E:Type} [DecidableEq K] {gk:K→AV} {sz:Nat} {g:E→AV} {β:K→Bk} {M:List (K×List E)} {key:K} {xs:List E} {t kt vt:TypeId} {i:TypeInfo} {x y:Operand} {bm bp:Bk} {cQ:Heap} [aC P t (.map kt vt)] [a8 P vt i] [dD P kt gk] (hx:du tm x=some (.bV bm)) (hy:du tm y=some (gk key)) (f:mh hp bm (.mp (IL gk (mD sz g) β M))) (u:mF hp bp (.cu (lR (mD sz g) β M)) bp (.cu (lR (mD sz g) β (mj M key))) cQ) (hz:i.zero=some (.slice none 0 0)) (h:oJ M key []=some xs) (hn:ad d n=true)
 (kk:∀ b,(∀ v,bh M key=some v→b=β key∧v=xs)→ae P all rest ⟨n,(d,.sl sz b 0 xs.length) :: tm,(b,.arr sz (xs.map g)) :: cQ⟩ Q):ae P all (⟨some d,.lookup t x y false,ty,pos,af,none⟩ :: rest) ⟨n,tm,hp⟩ Q:=by
 refine ae.HY rfl fun w S a r=>?_
 have um:=DX (dD.inj P kt) r.hp f
 have kx:=bl (σ:=⟨n,tm,hp⟩) r hx
 have ky:=bl (σ:=⟨n,tm,hp⟩) r hy
 obtain ⟨nb,hb,ex⟩:=kx.jY
 have f':=f
 rw [w8] at f'
 obtain ⟨L,c,M',yX,cC,p1,p2,p3,p4,p5,p6,p7,p8⟩:=qs (gv:=fun p:Bk×List E=>(mD sz g).val p.1 p.2) (dD.inj P kt) r.hp f'
 obtain rfl:yX=nb:=by rw [p4] at hb;exact aa hb
 have ju:=dD.find (P:=P) (t:=kt) (g:=gk) ky cC.toList (M'.map a6) (by simpa using p6.symm) (fun j k' e h1 h2=>by
  rw [a7] at h1
  cases hm:M'[j]? with
  | none=>rw [hm] at h1;cases h1
  | some q=>rw [hm] at h1;rw [← aa h1];exact (p7 j q e hm h2).1)
 have Sv:=je p1 p8 key
 rw [Nd] at Sv
 have hv:=aa h
 rcases nE (gv:=fun p:Bk×List E=>(mD sz g).val p.1 p.2) (w:=w) (S:=S) (k:=key) M' cC.toList 0 p6.symm (fun j e m h1 h2=>(p7 j e m h1 h2).2) with ⟨q1,q2⟩ | ⟨v',j,val,q1,q2,q3,_⟩
 ·
  rw [q1] at Sv
  have CK:bh M key=none:=by
   cases hc:bh M key with
   | none=>rfl
   | some v=>rw [hc] at Sv;cases Sv
  rw [CK,Option.getD_none] at hv
  subst hv
  have zA:=IM u (by rw [wj CK])
  obtain ⟨g1,g2,g3⟩:=pg (b:=⟨none,0⟩) (o:=.arr sz (([]:List E).map g)) r.hp (Ext.refl w) id ⟨by simp,by simp,.inl ⟨rfl,rfl⟩⟩ (.inl rfl)
  refine ⟨.slice none 0 0,w,S,⟨n,(d,.sl sz ⟨none,0⟩ 0 0) :: tm,(⟨none,0⟩,.arr sz (([]:List E).map g)) :: cQ⟩,?_,?_,?_,kk ⟨none,0⟩ (fun v hv=>by rw [CK] at hv;cases hv)⟩
  ·simp [execOp,Instr.lookup,ex,run_underlying (aC.h (P:=P) (t:=t)),cY p5,dD.check (P:=P) (t:=kt) ky,ju,q2,zeroValue,typeInfo,a8.h (P:=P) (t:=vt),hz]
  ·rw [← zA]
   exact (r.heap g3 g1).put hn (.Ax sz _ rfl)
  ·rw [← zA];exact g2
 ·rw [q1] at Sv
  obtain ⟨v,Zx⟩:∃ v,bh M key=some v:=by
   cases hc:bh M key with
   | none=>rw [hc] at Sv;cases Sv
   | some v=>exact ⟨v,rfl⟩
  rw [Zx,Option.getD_some] at hv
  subst hv
  rw [Zx] at Sv
  have Ut:v'=(β key,v):=aa Sv
  subst Ut
  have WT:(lR (mD sz g) β M).Perm ((β key,.arr sz (v.map g)) :: lR (mD sz g) β (mj M key)):=((DV um Zx).map _)
  obtain ⟨g1,g2⟩:=F0 r.hp u WT
  refine ⟨val,w,S,⟨n,(d,.sl sz (β key) 0 v.length) :: tm,(β key,.arr sz (v.map g)) :: cQ⟩,?_,(r.heap (fun m hm=>⟨hm,rfl⟩) g1).put hn q3,g2,kk (β key) (fun v2 WH=>⟨rfl,by rw [Zx] at WH;exact (aa WH).symm⟩)⟩
  simp [execOp,Instr.lookup,ex,run_underlying (aC.h (P:=P) (t:=t)),cY p5,dD.check (P:=P) (t:=kt) ky,ju,q2]
end rules
theorem aj.Pp {n:Nat} {tm:List (Nat×AV)} {hp vc cQ:Heap} {T:St→Prop} {K E:Type} [DecidableEq K] {gk:K→AV} {sz:Nat} {g:E→AV} {β:K→Bk} {M:List (K×List E)} {key:K} {xs:List E} {b bm bp:Bk} (IF:∀ a b,gk a=gk b→a=b) (h:oJ M key []=some xs) (hb:∀ v,bh M key=some v→b=β key∧v=xs) (f:mh hp bm (.mp (IL gk (mD sz g) β M))) (dl:x7 hp b (.arr sz (xs.map g)) vc) (u:mF vc bp (.cu (lR (mD sz g) β (mj M key))) bp (.cu (lR (mD sz g) β M)) cQ) (k:aj ⟨n,tm,cQ⟩ T):aj ⟨n,tm,hp⟩ T:=by
 refine aj.step (Ar:=⟨n,tm,cQ⟩) (fun w S a r=>?_) k
 have um:=DX IF r.hp f
 cases hc:bh M key with
 | none=>
   have zA:=IM u (by rw [wj hc])
   have hs:vc.Sublist hp:=by
    obtain ⟨p,q,rfl,rfl⟩:=dl.split
    exact bc (be _) (List.sublist_cons_self _ _)
   rw [← zA]
   exact ⟨_,S,rfl,r.less ⟨rfl,fun _ _ h=>h,hs⟩,kT.less (kT.refl w S hp) fun _ hn=>hn.sub hs⟩
 | some v=>
   obtain ⟨rfl,rfl⟩:=hb v hc
   have WT:(lR (mD sz g) β M).Perm ((β key,.arr sz (v.map g)) :: lR (mD sz g) β (mj M key)):=((DV um hc).map _)
   obtain ⟨g1,g2⟩:=DU (x:=(β key,.arr sz (v.map g))) r.hp dl u WT
   exact ⟨_,S,rfl,r.heap (fun m hm=>⟨hm,rfl⟩) g1,g2⟩
theorem KP {K V:Type} [DecidableEq K] (β:K→Bk) (M:List (K×V)) (k:K):mj (qR β M) k=qR β (mj M k):=by
 unfold mj qR
 rw [List.filter_map]
 rfl
theorem DY {K V:Type} [vU K] (β:K→Bk) (k:K) (b:Bk) (v:V) (hk:β k=b):∀ M:List (K×V),wi k (b,v) (qR β M)=qR β (wi k v M)
 | []=>by simp [wi,qR,hk]
 | e :: r=>by
   show wi k (b,v) ((e.1,(β e.1,e.2)) :: qR β r)=qR β (wi k v (e :: r))
   unfold wi
   by_cases h:vU.lt e.1 k=true
   ·rw [if_pos h,if_pos h,DY β k b v hk r];rfl
   ·rw [if_neg h,if_neg h];simp [qR,hk]
theorem Ni {K V:Type} [DecidableEq K] (β:K→Bk) (k:K) (b:Bk) {M:List (K×V)} (h:∀ e∈M,e.1≠k):qR (gP β k b) M=qR β M:=by
 unfold qR
 exact cf fun e he=>by unfold gP;rw [if_neg (h e he)]
theorem KQ {K V:Type} [DecidableEq K] [vU K] (β:K→Bk) (M:List (K×V)) (k:K) (b:Bk) (v:V):ca (qR β M) k (b,v)=qR (gP β k b) (ca M k v):=by
 unfold ca
 rw [KP,← Ni β k b (DW M k),DY _ _ _ _ (by unfold gP;rw [if_pos rfl])]
section rules
variable {P:Program} {all:Array Oper} {rest:List Oper} {n:Nat} {tm:List (Nat×AV)} {hp:Heap} {Q:St→Prop} {d:Nat} {ty:TypeId} {pos:String} {af:Array Edge}
theorem wo {K V:Type} [DecidableEq K] [vU K] {gk:K→AV} {kp:Kept V} {β:K→Bk} {M:List (K×V)} {key:K} {v:V} {t kt vt:TypeId} {x y z:Operand} {b bm:Bk} {cQ:Heap} {av:AV} [aC P t (.map kt vt)] [dD P kt gk] (hx:du tm x=some (.bV bm)) (hy:du tm y=some (gk key)) (hz:du tm z=some av) (pM:av=kp.val b v) (u:mF hp bm (.mp (IL gk kp β M)) bm (.mp (IL gk kp (gP β key b) (ca M key v))) cQ)
 (kk:ae P all rest ⟨n,tm,cQ⟩ Q):ae P all (⟨none,.insert t x y z,ty,pos,af,none⟩ :: rest) ⟨n,tm,hp⟩ Q:=by
 rw [w8,w8,← KQ] at u
 exact DQ (gk:=gk) (gv:=fun p:Bk×V=>kp.val p.1 p.2) (M:=qR β M) (key:=key) (v:=(b,v)) hx hy hz pM u kk
end rules
theorem aj.AP {n:Nat} {tm:List (Nat×AV)} {hp vc cQ:Heap} {T:St→Prop} {K V:Type} [DecidableEq K] [vU K] {kp:Kept V} {β:K→Bk} {M:List (K×V)} {key:K} {v:V} {b bp:Bk} {o:Ob} (ho:o=(kp.po v).ob) (dl:x7 hp b o vc) (u:mF vc bp (.cu (lR kp β (mj M key))) bp (.cu (lR kp (gP β key b) (ca M key v))) cQ) (k:aj ⟨n,tm,cQ⟩ T):aj ⟨n,tm,hp⟩ T:=by
 refine aj.step (Ar:=⟨n,tm,cQ⟩) (fun w S a r=>?_) k
 subst ho
 obtain ⟨g1,g2⟩:=DU (x:=(b,kp.po v)) r.hp dl u (Ng kp β key b M v)
 exact ⟨_,S,rfl,r.heap (fun m hm=>⟨hm,rfl⟩) g1,g2⟩
theorem aj.yj {n:Nat} {tm:List (Nat×AV)} {hp cQ:Heap} {T:St→Prop} {K V:Type} [DecidableEq K] {kp:Kept V} {β:K→Bk} {M:List (K×V)} (key:K) {bp:Bk} (u:mF hp bp (.cu (lR kp β M)) bp (.cu (lR kp β (mj M key))) cQ) (k:aj ⟨n,tm,cQ⟩ T):aj ⟨n,tm,hp⟩ T:=by
 refine aj.step (Ar:=⟨n,tm,cQ⟩) (fun w S a r=>?_) k
 obtain ⟨p,q,rfl,rfl⟩:=u.split
 have nU:(lR kp β (mj M key)).Sublist (lR kp β M):=(List.filter_sublist).map _
 have lK:(bp,Ob.cu (lR kp β M))∈p++(bp,.cu (lR kp β M)) :: q:=bw.2 (.inl rfl)
 have hbs:∀ n,n∈eb (bp,.cu (lR kp β (mj M key)))→n∈eb (bp,.cu (lR kp β M)):=fun n hn=>by
  rw [w7] at hn ⊢
  exact hn.imp id fun ⟨e,he,h⟩=>⟨e,nU.subset he,h⟩
 have Vp:(eb (bp,.cu (lR kp β (mj M key)))).Sublist (eb (bp,.cu (lR kp β M))):=by
  unfold eb Ob.more
  exact bc (be _) (nU.filterMap _)
 have uB:de w S (p++(bp,.cu (lR kp β (mj M key))) :: q):=by
  refine ⟨?_,?_,?_,r.hp.slt,r.hp.gh⟩
  ·have:=r.hp.nodup
   rw [aw,al] at this ⊢
   exact this.sublist (bc (be _) (bc Vp (be _)))
  ·intro e he
   rcases bw.1 he with rfl | he
   ·obtain ⟨h0,h1⟩:bp.cH=none∧∀ e∈lR kp β M,qz w S e.1 e.2:=r.hp.holds _ lK
    exact ⟨h0,fun e he=>h1 e (nU.subset he)⟩
   ·exact r.hp.holds e (bw.2 (.inr he))
  ·intro e he n hn
   rcases bw.1 he with rfl | he
   ·have:=r.hp.sep _ lK n (hbs n hn)
    exact ⟨fun h=>(this.1 h).elim,fun h=>h.elim⟩
   ·exact r.hp.sep e (bw.2 (.inr he)) n hn
 refine ⟨_,S,rfl,r.heap (fun m hm=>⟨hm,rfl⟩) uB,rfl,rfl,rfl,ai _,fun n hn=>⟨hn,rfl⟩,fun n _ _=>⟨rfl,id⟩,fun n hn=>.inl ?_,fun _=>ai _⟩
 obtain ⟨e,he,hn⟩:=hn
 rcases bw.1 he with rfl | he
 ·exact ⟨_,lK,hbs n hn⟩
 ·exact ⟨e,bw.2 (.inr he),hn⟩
section rules
variable {P:Program} {all:Array Oper} {rest:List Oper} {n:Nat} {tm:List (Nat×AV)} {hp:Heap} {Q:St→Prop} {d:Nat} {ty:TypeId} {pos:String} {af:Array Edge}
theorem KR {K V:Type} {gk:K→AV} {kp:Kept V} {β:K→Bk} {t:TypeId} (hn:ad d n=true) (kk:∀ b bp:Bk,ae P all rest ⟨n,(d,.bV b) :: tm,(b,.mp (IL gk kp β [])) :: (bp,.cu (lR kp β [])) :: hp⟩ Q):ae P all (⟨some d,.makeMap t none,ty,pos,af,none⟩ :: rest) ⟨n,tm,hp⟩ Q:=by
 have g:ae P all (⟨some d,.makeMap t none,ty,pos,af,none⟩ :: rest) ⟨n,tm,(⟨none,0⟩,.cu []) :: hp⟩ Q:=sw hn (fun b=>kk b ⟨none,0⟩)
 refine ae.ghost (aj.step (Ar:=⟨n,tm,(⟨none,0⟩,.cu []) :: hp⟩) (fun w S a r=>?_) (aj.here g))
 obtain ⟨g1,g2,g3⟩:=pg (b:=⟨none,0⟩) (o:=.cu []) r.hp (Ext.refl w) id ⟨rfl,by simp⟩ (.inl rfl)
 exact ⟨_,S,rfl,r.heap g3 g1,g2⟩
end rules
def rowOf (o:Option Obj):Option (Array Value):=match o with
 | some (.cells vs _ _)=>some vs
 | _=>none
theorem L1 {P:Program} {w:World} {name:String} {g:Nat} (hg:P.globalNamed name=some g):w.var? P name=rowOf (w.heap[g]?):=by
 unfold World.var?
 rw [hg]
 rfl
theorem Nj (xs:List (List UInt8)):flat (xs.map AV.str)=xs.map AV.str:=wh (fun _=>rfl) xs
theorem KS {w:World} {S:Nat→Prop} (r:de w S []) (xs:List (List UInt8)) (E:TypeId) {vs:Array Value} (hv:vs=(xs.map fun s=>Value.string ⟨s.toArray⟩).toArray):
 At (w.alloc (.cells vs E)) S (.sl 1 ⟨some w.heap.size,xs.length⟩ 0 xs.length) (.slice (some ⟨w.heap.size,0,none⟩) xs.length xs.length)∧
  de (w.alloc (.cells vs E)) S [(⟨some w.heap.size,xs.length⟩,.arr 1 (xs.map AV.str))]∧kT w S [] (w.alloc (.cells vs E)) S [(⟨some w.heap.size,xs.length⟩,.arr 1 (xs.map AV.str))]:=by
 subst hv
 have e0:=Ext.alloc w (.cells (xs.map fun s=>Value.string ⟨s.toArray⟩).toArray E)
 have hh:Holds (w.alloc (.cells (xs.map fun s=>Value.string ⟨s.toArray⟩).toArray E)) S ⟨some w.heap.size,xs.length⟩ (.arr 1 (xs.map AV.str)):=by
  refine ⟨fun x hx=>?_,by simp,.inr ⟨w.heap.size,(xs.map fun s=>Value.string ⟨s.toArray⟩).toArray,E,rfl,?_,by simp,?_⟩⟩
  ·obtain ⟨s,_,rfl⟩:=bo.1 hx
   exact ⟨rfl,fun c hc=>by rw [bi.1 hc];rfl⟩
  ·show (w.heap.push _)[w.heap.size]? =_
   simp
  ·rw [Nj]
   intro i c v hc hv
   simp only [a7,List.getElem?_toArray,bs] at hc hv
   obtain ⟨s,h1,rfl⟩:=hc
   obtain ⟨s',h2,rfl⟩:=hv
   rw [h1] at h2
   obtain rfl:=aa h2
   exact .str s
 obtain ⟨k1,k2,k3⟩:=pg r e0 id hh (.inr ⟨_,rfl,ai _⟩)
 refine ⟨?_,k1,k2⟩
 have:=At.sl (w:=w.alloc (.cells (xs.map fun s=>Value.string ⟨s.toArray⟩).toArray E)) (S:=S) 1 ⟨some w.heap.size,xs.length⟩ 0 xs.length w.heap.size xs.length rfl (ai _) (by simp)
 simpa using this
def Vq (k:IntKind) (zs:List Int) (o:Option Obj):Prop:=rowOf o=some (zs.map fun z=>Value.int k z).toArray
def Vr (k:IntKind) (o:Option Obj):Prop:=∃ vs m,rowOf o=some vs∧vs[0]? =some (.int k m)
def Pq (o:Option Obj):Prop:=∃ vs ev,rowOf o=some vs∧vs[0]? =some ev∧(ev=.nilIface∨∃ te pe,ev=.iface te pe)
theorem DZ (w:World) (g i:Nat) {vs:Array Value} (h:rowOf (w.heap[g]?)=some vs):w.cell? ⟨g,i,none⟩=vs[i]?:=by
 unfold World.cell?
 unfold rowOf at h
 split at h
 ·rename_i Cb e f ho
  obtain rfl:=aa h
  simp [ho]
 ·cases h
def L2:List (Nat×(Option Obj→Prop))→Nat→Option (Option Obj→Prop)
 | [],_=>none
 | (k,o) :: r,g=>if g=k then some o else L2 r g
theorem F1:∀ {l:List (Nat×(Option Obj→Prop))} {g:Nat} {o:Option Obj→Prop},L2 l g=some o→(g,o)∈l
 | [],_,_,h=>by cases h
 | (k,o') :: r,g,o,h=>by
   unfold L2 at h
   split at h
   ·rename_i hg
    rw [hg,aa h];simp
   ·exact ac _ (F1 h)
theorem KT {w:World} {g:Nat} {vs:Array Value} (h:rowOf (w.heap[g]?)=some vs):g < w.heap.size:=by
 rcases Nat.lt_or_ge g w.heap.size with h' | h'
 ·exact h'
 ·rw [Array.getElem?_eq_none h'] at h;cases h
end Go.Eng
namespace Go.Eng
open Go
section errs
variable [bU] {P:Program} {all:Array Oper} {rest:List Oper} {n:Nat} {tm:List (Nat×AV)} {hp:Heap} {Q:St→Prop} {d:Nat} {ty:TypeId} {pos:String} {af:Array Edge}
def Vs (e:Value) (ok:Bool):Prop:=(e=.nilIface∧ok=true)∨((∃ te pe,e=.iface te pe)∧ok=false)
def PuE (P:Program) (f:FuncId) (args:List AV) (m:Int) (ok:Bool):Prop:=aR P f args [] (fun r h=>∃ e,r=.lM [I m,.raw e]∧Vs e ok)
theorem Sw {f:FuncId} {args:List Operand} {ts:Array TypeId} {l l':List AV} {m:Int} {ok:Bool} [bN P f] (hl:B9 tm args=some l) (c:PuE P f l' m ok) (co:By hp l l') (hn:ad d n=true)
 (kk:∀ e,Vs e ok→ae P all rest ⟨n,(d,.lM [I m,.raw e]) :: tm,hp⟩ Q):ae P all (⟨some d,.call {callee:=.value (.func f),args:=args.toArray,argTypes:=ts},ty,pos,af,none⟩ :: rest) ⟨n,tm,hp⟩ Q:=by
 refine LP hl c co hn (fun r h' hr=>?_)
 obtain ⟨e,rfl,he⟩:=hr
 exact ae.weaken (aJ:=⟨n,(d,.lM [I m,.raw e]) :: tm,hp⟩) ⟨rfl,fun _ _ h=>h,List.sublist_append_right _ _⟩ (kk e he)
theorem X4 {t:TypeId} {ms:Array (String×TypeId)} [aC P t (.interface ms)] (te:TypeId) (pe:Value) (w:World):(Op.equal t (.iface te pe) .nilIface).run P w=.ok false w:=by
 show (Op.equalIn (9999+1) t _ _).run P w=_
 rw [Op.equalIn]
 simp [run_underlying (aC.h (P:=P) (t:=t))]
theorem X5 {t:TypeId} {ms:Array (String×TypeId)} [aC P t (.interface ms)] (w:World):(Op.equal t .nilIface .nilIface).run P w=.ok true w:=by
 show (Op.equalIn (9999+1) t _ _).run P w=_
 rw [Op.equalIn]
 simp [run_underlying (aC.h (P:=P) (t:=t))]
theorem X6 {xt yt:TypeId} {ms:Array (String×TypeId)} {x:Operand} {e:Value} {ok:Bool} [aC P xt (.interface ms)] (he:Vs e ok) (hx:du tm x=some (.raw e)):QV P ⟨some d,.binOp .eql xt x (.const .nilIface) yt,ty,pos,af,none⟩ ⟨n,tm,hp⟩ (.bool ok):=by
 refine fun w S a r=>⟨.bool ok,fun w1 _=>?_,.bool _⟩
 have hr:=(bl (σ:=⟨n,tm,hp⟩) r hx).RF
 have hc:a.eval (.const .nilIface)=.nilIface:=rfl
 rcases he with ⟨rfl,rfl⟩ | ⟨⟨te,pe,rfl⟩,rfl⟩
 ·have h1:=X5 (P:=P) (t:=xt) w1
  simp [execOp,hr,hc,eqGuard,binOp,h1]
 ·have h1:=X4 (P:=P) (t:=xt) te pe w1
  simp [execOp,hr,hc,eqGuard,binOp,h1]
def Nk (a b:List UInt8):Option (List UInt8):=if a.length+b.length≤9223372036854775807 then some (a++b) else none
theorem Pr {xt yt:TypeId} {x y:Operand} {s t r:List UInt8} (h:Nk s t=some r) (hx:du tm x=some (.str s)) (hy:du tm y=some (.str t)):QV P ⟨some d,.binOp .add xt x y yt,ty,pos,af,none⟩ ⟨n,tm,hp⟩ (.str r):=by
 unfold Nk at h
 split at h
 ·rename_i hs
  obtain rfl:=aa h
  refine fun w S a r=>⟨.string (⟨s.toArray⟩++⟨t.toArray⟩),fun w1 _=>?_,?_⟩
  ·have h1:=run_string_add_sum (P:=P) (w:=w1) (⟨s.toArray⟩:ByteArray) (⟨t.toArray⟩:ByteArray) (by simpa [ci] using hs)
   simp [execOp,(bl (σ:=⟨n,tm,hp⟩) r hx).eV,(bl (σ:=⟨n,tm,hp⟩) r hy).eV,eqGuard,binOp,h1]
  ·have:((⟨s.toArray⟩:ByteArray)++⟨t.toArray⟩)=⟨(s++t).toArray⟩:=by apply ByteArray.ext;simp
   rw [this]
   exact .str _
 ·cases h
end errs
end Go.Eng
namespace Go.Eng
open Go
variable [bU]
end Go.Eng
namespace Go.Eng
open Go Go.Lib
variable [bU]
theorem IN {w:World} {g:Nat} {v:Value} (h:w.cell? ⟨g,0,none⟩=some v):∃ vs,rowOf (w.heap[g]?)=some vs∧vs[0]? =some v:=by
 unfold World.cell? at h
 cases ho:w.heap[g]? with
 | none=>simp [ho] at h
 | some o=>
   cases o with
   | cells vs e f=>exact ⟨vs,rfl,by simpa [ho] using h⟩
   | _=>simp [ho] at h
theorem Sx {w:World} {g:Nat} {k:IntKind} {m:Int} (h:w.cell? ⟨g,0,none⟩=some (.int k m)):g < w.heap.size∧Vr k (w.heap[g]?):=by
 obtain ⟨vs,h1,h2⟩:=IN h
 exact ⟨KT h1,vs,m,h1,h2⟩
theorem Sy {P:Program} {W:World} {name:String} {k:IntKind} {zs:List Int} {g:Nat} {t e:TypeId} {n:Nat}
 (hg:P.globalNamed name=some g) (hty:(P.globals[g]?).map (·.type)=some t) (ht:P.underlying t=some (.array n e)) (he:P.underlying e=some (.int k)) (hce:P.cellsOf e=1) (hct:P.cellsOf t=n)
 (h:VarReads P W name (tabData k zs)):g < W.heap.size∧Vq k zs (W.heap[g]?):=by
 obtain ⟨g',t',cs,fuel,p,Oi,Uw,KU,hd⟩:=h
 obtain rfl:=aa (hg.symm.trans Oi)
 obtain rfl:=aa (hty.symm.trans Uw)
 rw [L1 hg] at KU
 refine ⟨KT KU,?_⟩
 unfold Vq
 rw [KU,← cells_of_tab ht he hce hct hd]
theorem L3 {P:Program} {W:World} {name:String} {d:DataW Unit} {g:Nat} {t:TypeId} {ms:Array (String×TypeId)}
 (hg:P.globalNamed name=some g) (hty:(P.globals[g]?).map (·.type)=some t) (ht:P.underlying t=some (.interface ms)) (h:VarReads P W name d):g < W.heap.size∧Pq (W.heap[g]?):=by
 obtain ⟨g',t',cs,fuel,p,Oi,Uw,KU,hd⟩:=h
 obtain rfl:=aa (hg.symm.trans Oi)
 obtain rfl:=aa (hty.symm.trans Uw)
 rw [L1 hg] at KU
 refine ⟨KT KU,?_⟩
 have key:∀ l:List Value,DataW.trod (fun _=>()) P W 0 (fun _=>true) false fuel t l=some (d,p)→∃ ev,l[0]? =some ev∧(ev=.nilIface∨∃ te pe,ev=.iface te pe):=by
  intro l hl
  cases fuel with
  | zero=>simp [DataW.trod] at hl
  | succ fuel=>
    unfold DataW.trod at hl
    simp only [ht] at hl
    split at hl<;>first | (exact ⟨_,rfl,.inl rfl⟩) | (exact ⟨_,rfl,.inr ⟨_,_,rfl⟩⟩) | (simp_all)
 obtain ⟨ev,h1,h2⟩:=key cs.toList hd
 exact ⟨cs,ev,KU,by simpa using h1,h2⟩
end Go.Eng
namespace Go.Eng
open Go
variable {H:Type} {enc:TypeId×Value→H}
theorem IP {a:Assume} {C:Checked} {os:Os} {f:FuncId} {fn:Func} {s:ChangeSpec} {conds:List PathCond} {apart fresh handsOn again:Bool} {X:World→Array Value→Prop}
 (hX:∀ (w w':World) (args:Array Value),w.heap=w'.heap→X w args→X w' args)
 (own:ownKnob C.prog.godebug=none) (started:os.Started) (Vt:C.prog.inits.idxOf? f=none) (Sd:C.prog.funcs[f]? =some fn)
 (witness:∃ (w:World) (tape:Tape) (i:Input),w.os=os∧(w.forCall tape i).Shaped C.prog∧i.vars=[]∧Input.okWide C.prog (w.forCall tape i) .any w.heap.size f i∧
  ((s.pre enc C.prog fn conds apart (w.forCall tape i).memory i.args∧X (w.forCall tape i).memory i.args)∧sizedMet enc C.prog fn (OpenSpec.ofChange s) apart (w.forCall tape i).memory i.args)∧a.holds C.prog (lone (Frame.enter C.prog f i.args .normal) [] (w.forCall tape i)))
 (walk:∀ (W:World) (base:Nat) (args:Array Value) (ds gs:List (DataW H)) (before:List MemPlace),
  (∀ (j:Nat) t v,fn.params[j]? =some t→args[j]? =some v→Value.okWide C.prog W .any base t v)→
  DataW.Whole enc C.prog fn.params.toList s.vars apart W args.toList ds gs before→
  conds.all (PathCond.test C.prog ⟨fn.params.toList,ds,s.plain.varTypes C.prog,gs⟩)=true→
  (DataW.weightsEach C.prog (fn.params.toList++s.plain.varTypes C.prog) (ds++gs)).all (· ≤reachBytes)=true→X W args∧W.ShapedOpen C.prog→
  a.holds C.prog (lone (Frame.enter C.prog f args .normal) [] W)→
  Calls C.prog f args W fun e W'=>∃ v,e=.returned v∧s.post enc C.prog fn apart fresh handsOn again W args v W'):
 ReturnsInHanded a C os f .any (fun w args=>(s.pre enc C.prog fn conds apart w args∧X w args)∧sizedMet enc C.prog fn (OpenSpec.ofChange s) apart w args) (s.post enc C.prog fn apart fresh handsOn again):=by
 refine returnsInHanded_of_calls own started Vt witness ?_
 intro w tape i _ shaped _ ok pre held
 obtain ⟨_,_,_,fn',there,_,_,_,_,aaD⟩:=ok
 cases aa (there.symm.trans Sd)
 obtain ⟨⟨⟨ds,gs,before,whole,X7⟩,x⟩,sized⟩:=pre
 have K:=walk (w.forCall tape i) w.heap.size i.args ds gs before aaD (DataW.Whole.of_heap (w':=w.forCall tape i) (by rfl) whole) X7 (sized.weights whole) ⟨hX _ _ _ (by rfl) x,shaped⟩ held
 exact K.mono fun e W' ⟨v,he,hp⟩=>by
  subst he
  exact ChangeSpec.post_blind hp
end Go.Eng
namespace Go.Eng
open Go
variable [bU]
def qE (s:List UInt8):List Int:=s.map fun c=>(c.toNat:Int)
theorem Nl (w:World) (e:TypeId) (s:ByteArray):Ext w (Lib.bytesWorld w e s):=by
 refine ⟨rfl,rfl,rfl,by rw [Lib.bytesWorld_size];omega,fun n hn=>Lib.bytesWorld_at_old w e s n hn,fun _=>?_⟩
 show w.drawn≤w.drawn+1
 omega
theorem de.one {w w':World} {S:Nat→Prop} {h:Heap} (r:de w S h) (e:Ext w w') (hs:w.heap.size < w'.heap.size):de w' (fun n=>S n∨n=w.heap.size) h∧kT w S h w' (fun n=>S n∨n=w.heap.size) h:=by
 have eI:∀ x∈h,∀ n,n∈eb x→n < w.heap.size:=fun x hx n hn=>r.lt ⟨x,hx,hn⟩
 have hk:∀ n,S n→(S n∨n=w.heap.size)∧w'.heap[n]? =w.heap[n]?:=fun n hn=>⟨.inl hn,e.same n (r.slt n hn)⟩
 refine ⟨⟨r.nodup,fun x hx=>(r.holds x hx).mono hk (fun n hn=>e.same n (eI x hx n hn)),fun x hx n hn=>⟨fun Iv=>?_,fun hf=>.inl ((r.sep x hx n hn).2 hf)⟩,fun n hn=>?_,fun g o ho=>⟨.inl (r.gh g o ho).1,Aw (e.same g (r.slt g (r.gh g o ho).1)) (r.gh g o ho).2⟩⟩,
  ⟨e.os,e.tape,e.output,e.size,hk,fun n hn _=>⟨e.same n hn,fun Iv=>?_⟩,fun n hn=>.inl hn,e.drawn⟩⟩
 ·rcases Iv with h' | h'
  ·exact (r.sep x hx n hn).1 h'
  ·have:=eI x hx n hn;omega
 ·rcases hn with h' | h'
  ·exact Nat.lt_of_lt_of_le (r.slt n h') e.size
  ·omega
 ·rcases Iv with h' | h'
  ·exact h'
  ·omega
section rules
variable {P:Program} {all:Array Oper} {rest:List Oper} {n:Nat} {tm:List (Nat×AV)} {hp:Heap} {Q:St→Prop} {d:Nat} {ty:TypeId} {pos:String} {af:Array Edge}
theorem D0 (k:IntKind) (xs:List Int):flat (xs.map (AV.int k))=xs.map (AV.int k):=wh (fun _=>rfl) xs
theorem Nn {src dst e:TypeId} {D:TypeDesc} {x:Operand} {s:List UInt8} [aC P src D] [aC P dst (.slice e)] [aC P e (.int .u8)] (hx:du tm x=some (.str s)) (hn:ad d n=true)
 (kk:ae P all rest ⟨n,(d,.list 1 ((qE s).map (AV.int .u8))) :: tm,hp⟩ Q):ae P all (⟨some d,.convert src dst x,ty,pos,af,none⟩ :: rest) ⟨n,tm,hp⟩ Q:=by
 refine ae.HY rfl fun w S a r=>?_
 have e1:=(bl (σ:=⟨n,tm,hp⟩) r hx).eV
 have vJ:=Lib.run_convert_string_bytes (P:=P) w src dst e ⟨s.toArray⟩ (aC.h (P:=P) (t:=src)) (aC.h (P:=P) (t:=dst)) (aC.h (P:=P) (t:=e))
 have hE:=Nl w e ⟨s.toArray⟩
 obtain ⟨g1,g2⟩:=r.hp.one hE (by rw [Lib.bytesWorld_size];omega)
 have jc:(⟨s.toArray⟩:ByteArray).size=s.length:=by simp [ci]
 have qo:At (Lib.bytesWorld w e ⟨s.toArray⟩) (fun n=>S n∨n=w.heap.size) (.list 1 ((qE s).map (AV.int .u8))) (.slice (some ⟨w.heap.size,0,none⟩) (⟨s.toArray⟩:ByteArray).size (grownCap w (⟨s.toArray⟩:ByteArray).size 0 e)):=by
  have hl:((qE s).map (AV.int .u8)).length=(⟨s.toArray⟩:ByteArray).size:=by rw [jc];simp [qE]
  rw [← hl]
  refine .list 1 _ _ _ ((qE s).map fun z=>Value.int .u8 z) (fun y hy=>?_) ?_ (fun i c v hc hv=>?_) (fun i v hv=>?_) ?_
  ·obtain ⟨z,_,rfl⟩:=bo.1 hy
   exact ⟨rfl,fun c hc=>by rw [bi.1 hc];rfl⟩
  ·rw [D0];simp
  ·rw [D0] at hc
   simp only [a7,bs] at hc hv
   obtain ⟨z,h1,rfl⟩:=hc
   obtain ⟨z',h2,rfl⟩:=hv
   rw [h1] at h2;obtain rfl:=aa h2
   exact .int _ _
  ·have hi:i < s.length:=by
    have:=(List.getElem?_eq_some_iff.1 hv).1
    simpa [qE] using this
   refine ⟨_,rfl,rfl,.inr rfl,?_⟩
   rw [Nat.zero_add,Lib.bytesWorld_cell w e ⟨s.toArray⟩ i (by rw [jc];exact hi)]
   simp only [a7,qE,bs] at hv
   obtain ⟨z,⟨c,h1,rfl⟩,rfl⟩:=hv
   simp [List.getD,h1]
  ·rw [hl];exact grownCap_ge w _ 0 e
 refine ⟨_,Lib.bytesWorld w e ⟨s.toArray⟩,_,_,?_,(r.heap g2.mf g1).put hn qo,g2,kk⟩
 simp only [execOp,e1,Sem.run_bind,vJ,Result.andThen_ok]
 rfl
end rules
end Go.Eng
namespace Go.Eng
open Go Go.Proofs Go.Shelf Go.RowKit Go.Lib
variable {P:Program} {ρ:Ren}
end Go.Eng
namespace Go.Eng
open Go Go.Proofs Go.Shelf Go.Lib
variable {P:Program} {ρ:Ren} [bU]
end Go.Eng
