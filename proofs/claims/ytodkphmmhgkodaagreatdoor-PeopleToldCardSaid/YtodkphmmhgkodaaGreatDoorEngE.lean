/- The engine: abstract values, the symbolic heap, one rule for each operation. No program in sight. -/
import Derived.Test.YtodkphmmhgkodaaGreatDoorEngD
import Derived.Laws.Runes
import Derived.Laws.Concat
import Derived.Lib.LaidU8
import Derived.Lib.LaidTab
import Derived.HandedShaped
import Derived.Lib.ConvBytes
import Derived.Shelf.Strings.BuilderF
set_option linter.unusedVariables false
set_option linter.unusedSimpArgs false
set_option linter.unusedSectionVars false
namespace Go.Eng
open Go
variable [bM]
def zw {X A:Type} (o:Option X) (a:A) (f:X→A):A:=match o with
 | none=>a
 | some x=>f x
theorem Ac {X A:Type} (a:A) (f:X→A):zw none a f=a:=rfl
theorem Ad {X A:Type} (x:X) (a:A) (f:X→A):zw (some x) a f=f x:=rfl
theorem O5 {X A:Type} {o:Option X} {a r:A} {f:X→A} {C:Prop} (h:zw o a f=r) (kn:o=none→a=r→C) (ks:∀ x,o=some x→f x=r→C):C:=by
 cases o with
 | none=>exact kn rfl h
 | some x=>exact ks x rfl h
@[reducible] def TM {X:Type} (o:Option X) (A:AV→Heap→Prop) (B:X→AV→Heap→Prop):AV→Heap→Prop:=match o with
  | none=>A
  | some x=>B x
def T6 {Br JV Ru Rv Rw Rx:Type} (H:Br→JV→Ru→Rv→Rw→Rx→Heap) (V:Br→JV→Ru→Rv→Rw→Rx→AV):AV→Heap→Prop:=fun v h=>∃ b0 b1 b2 b3 b4 b5,h=H b0 b1 b2 b3 b4 b5∧v=V b0 b1 b2 b3 b4 b5
section rules
variable {P:Program} {all:Array Oper} {rest:List Oper} {n:Nat} {tm:List (Nat×AV)} {hp:Heap} {Q:St→Prop} {d:Nat} {ty:TypeId} {pos:String} {af:Array Edge}
theorem rS {Br JV Ru Rv Rw Rx:Type} {f:FuncId} {args:List Operand} {ts:Array TypeId} {l l':List AV} {h0 hr:Heap} {H H':Br→JV→Ru→Rv→Rw→Rx→Heap} {V:Br→JV→Ru→Rv→Rw→Rx→AV} [bF P f] (hl:zS tm args=some l) (c:aT P f l' h0 (T6 H V)) (co:yc hp l l') (hs:C5 hp h0 hr) (ha:∀ b0 b1 b2 b3 b4 b5,su (H b0 b1 b2 b3 b4 b5) hr=some (H' b0 b1 b2 b3 b4 b5)) (hn:Nat.blt d n=true)
 (kk:∀ b0 b1 b2 b3 b4 b5,ae P all rest ⟨n,(d,V b0 b1 b2 b3 b4 b5) :: tm,H' b0 b1 b2 b3 b4 b5⟩ Q):ae P all (⟨some d,.call {callee:=.value (.func f),args:=args.toArray,argTypes:=ts},ty,pos,af,none⟩ :: rest) ⟨n,tm,hp⟩ Q:=
 DX hl c co hs hn (fun r h' ⟨b0,b1,b2,b3,b4,b5,e1,e2⟩=>by subst e1;subst e2;rw [oN (ha b0 b1 b2 b3 b4 b5)];exact kk b0 b1 b2 b3 b4 b5)
theorem Ry {t e:TypeId} [aP P t (.pointer e)] (x:Addr) (w:World):(Op.equal t (.pointer (some x)) (.pointer none)).run P w=.ok false w:=by
 show (Op.equalIn (9999+1) t _ _).run P w=_
 rw [Op.equalIn]
 simp [run_underlying (aP.h (P:=P) (t:=t))]
theorem Rz {t e:TypeId} [aP P t (.pointer e)] (w:World):(Op.equal t (.pointer none) (.pointer none)).run P w=.ok true w:=by
 show (Op.equalIn (9999+1) t _ _).run P w=_
 rw [Op.equalIn]
 simp [run_underlying (aP.h (P:=P) (t:=t))]
theorem Hz {t e yt:TypeId} {x y:Operand} {b:Bk} {o:Nat} [aP P t (.pointer e)] (hx:dm tm x=some (.ptr b o)) (hy:dm tm y=some (.raw (.pointer none))):QV P ⟨some d,.binOp .eql t x y yt,ty,pos,af,none⟩ ⟨n,tm,hp⟩ (.bool false):=by
 intro w S a r
 obtain ⟨m,_,hv⟩:=(bA (σ:=⟨n,tm,hp⟩) r hx).ta
 have hu:=(bA (σ:=⟨n,tm,hp⟩) r hy).DK
 refine ⟨.bool false,fun w' _=>?_,.bool _⟩
 have h1:=Ry (P:=P) (t:=t) (e:=e) ⟨m,o,none⟩ w'
 simp [execOp,hv,hu,eqGuard,binOp,h1]
theorem Fq {t e yt:TypeId} {x y:Operand} [aP P t (.pointer e)] (hx:dm tm x=some (.raw (.pointer none))) (hy:dm tm y=some (.raw (.pointer none))):QV P ⟨some d,.binOp .eql t x y yt,ty,pos,af,none⟩ ⟨n,tm,hp⟩ (.bool true):=by
 intro w S a r
 have hv:=(bA (σ:=⟨n,tm,hp⟩) r hx).DK
 have hu:=(bA (σ:=⟨n,tm,hp⟩) r hy).DK
 refine ⟨.bool true,fun w' _=>?_,.bool _⟩
 have h1:=Rz (P:=P) (t:=t) (e:=e) w'
 simp [execOp,hv,hu,eqGuard,binOp,h1]
end rules
def Qj (d:Nat):List (Nat×AV)→List (Nat×AV)
 | []=>[]
 | (k,v) :: r=>match Nat.beq k d with
   | true=>Qj d r
   | false=>(k,v) :: Qj d r
theorem Kr (d:Nat):∀ tm:List (Nat×AV),lk (Qj d tm)=nn (lk tm) (some d) none
 | []=>by
   funext s
   show lk [] s=nn (lk []) (some d) none s
   simp [lk,nn]
 | (k,v) :: r=>by
   funext s
   have ih:=congrFun (Kr d r) s
   simp only [Qj]
   cases hk:Nat.beq k d with
   | true=>
     obtain rfl:=Nat.eq_of_beq_eq_true hk
     simp only [ih,nn,lk]
     by_cases hs:k=s
     ·rw [if_pos hs,if_pos hs]
     ·have:Nat.beq k s=false:=by
       cases hb:Nat.beq k s with
       | true=>exact absurd (Nat.eq_of_beq_eq_true hb) hs
       | false=>rfl
      rw [if_neg hs,if_neg hs,this]
   | false=>
     simp only [lk,nn] at ih ⊢
     rw [ih]
     by_cases hs:d=s
     ·subst hs
      rw [if_pos rfl,if_pos rfl,hk]
     ·rw [if_neg hs,if_neg hs]
section rules
variable {P:Program} {all:Array Oper} {n:Nat} {B:Heap} {tk:List Tok} {dy:List Nat} {i:Nat} {rest:List Oper} {tm qj:List (Nat×AV)} {acc:(Nat→Bk)→List (Nat×AV)} {Q:(Nat→Bk)→List (Nat×AV)→Prop} {d:Nat} {ty:TypeId} {pos:String} {af:Array Edge} {op:Op}
theorem AT.UO {o:Oper} {d:Nat} {V:Bk→AV} (hd:o.dst=some d) (hr:Qj d tm=qj) (OV:dy.contains i=true) (h:∀ β,∀ X∈uE tk i β,rz P all n (X++B) o (Gp (lk tm) (lk (acc β))) (tE tk i β) V (fun b=>jW tk i (oU β i b))) (k:AT P all n B tk dy (i+1) rest qj (fun β=>(d,V (β i)) :: acc β) Q):AT P all n B tk dy i (o :: rest) tm acc Q:=by
 obtain ⟨D,Ax,k1,k2⟩:=k
 refine ⟨(none,V) :: D,Ax,.cons h (fun cy e b=>by cases e) (fun _=>OV) ?_,fun β=>?_⟩
 ·rw [hd,← Kr,hr]
  have e2:IE none (fun β=>lk (acc β)) (some d) V i=fun β=>lk ((d,V (β i)) :: acc β):=by
   funext β
   simp only [IE]
   rw [wH];rfl
  rw [e2];exact k1
 ·have:=k2 β
  simp only [yj,hd]
  exact this
theorem AT.RA {V:Bk→AV} {Ti H1:(Nat→Bk)→Heap} {Pi H2:Bk→Heap} (JP:∀ β,uE tk i β=[[]]) (Ke:∀ β,tE tk i β=Ti β) (Hv:∀ β b,jW tk i (oU β i b)=Pi b) (h1:∀ β,su (Ti β) B=some (H1 β)) (h2:∀ b,su (Pi b) B=some (H2 b)) (hn:Nat.blt d n=true) (hr:Qj d tm=qj) (OV:dy.contains i=true)
 (vD:∀ β,ae P all [⟨some d,op,ty,pos,af,none⟩] ⟨n,DV (looks all ⟨some d,op,ty,pos,af,none⟩) (tm++acc β),H1 β⟩ (fun aH=>∃ b Ax,aH=⟨n,Ax,H2 b⟩∧lk Ax d=some (V b)))
 (k:AT P all n B tk dy (i+1) rest qj (fun β=>(d,V (β i)) :: acc β) Q):AT P all n B tk dy i (⟨some d,op,ty,pos,af,none⟩ :: rest) tm acc Q:=by
 refine AT.UO rfl hr OV (fun β X hX=>?_) k
 rw [JP β] at hX
 obtain rfl:=List.mem_singleton.1 hX
 rw [List.nil_append,Ke β,show (fun b=>jW tk i (oU β i b))=Pi from funext (Hv β),← Db]
 refine wJ rfl (fun d' Az=>by obtain rfl:=Option.some.inj Az;simpa using hn) (h1 β) h2 ?_ (fun e=>by cases e)
 refine fun w S a r=>jl ?_ _ _ _ (vD β w S a r)
 rintro e a' w' ⟨he,aH,S',⟨b,Ax,q1,q2⟩,hh⟩
 exact ⟨he,aH,S',⟨b,Ax,q1,fun d' Az=>by obtain rfl:=Option.some.inj Az;exact q2⟩,hh⟩
end rules
theorem wP (b:Bk) (es:List (Bk×PO)) (n:Nat):n∈eb (b,.cm es)↔b.cu=some n∨∃ e∈es,e.1.cu=some n:=by
 simp [eb,Ob.more,List.mem_filterMap]
theorem AU (e:Bk×PO):eb (e.1,e.2.ob)=e.1.cu.toList:=by
 obtain ⟨b,o⟩:=e
 cases o<;>simp [eb,Ob.more,PO.ob]
theorem Dh {w:World} {S:Nat→Prop} {hp cN:Heap} {bp:Bk} {es x5:List (Bk×PO)} {x:Bk×PO} (r:cI w S hp) (u:nN hp bp (.cm es) bp (.cm x5) cN) (pv:es.Perm (x :: x5)):
 cI w S ((x.1,x.2.ob) :: cN)∧k9 w S hp w S ((x.1,x.2.ob) :: cN):=by
 obtain ⟨p,q,rfl,rfl⟩:=u.split
 obtain ⟨AN,oA⟩:bp.cu=none∧∀ e∈es,ou w S e.1 e.2:=r.holds (bp,.cm es) (bx.2 (.inl rfl))
 have vk:∀ e∈x5,e∈es:=fun e he=>pv.mem_iff.2 (List.mem_cons_of_mem _ he)
 have hx:x∈es:=pv.mem_iff.2 (by simp)
 have Ks:x.2.ob.zR↔False:=by cases x.2<;>exact Iff.rfl
 have BJ:∀ n,n∈eb (bp,.cm es)↔n∈eb (x.1,x.2.ob)∨n∈eb (bp,.cm x5):=by
  intro n
  rw [wP,wP,AU,AN]
  constructor
  ·rintro (h | ⟨e,he,hn⟩)
   ·cases h
   ·rcases List.mem_cons.1 (pv.mem_iff.1 he) with rfl | he
    ·exact .inl (by simp [hn])
    ·exact .inr (.inr ⟨e,he,hn⟩)
  ·rintro (h | h | ⟨e,he,hn⟩)
   ·exact .inr ⟨x,hx,by simpa using h⟩
   ·cases h
   ·exact .inr ⟨e,vk e he,hn⟩
 have Kt:∀ n,Has ((x.1,x.2.ob) :: (p++(bp,.cm x5) :: q)) n↔Has (p++(bp,.cm es) :: q) n:=by
  intro n
  constructor
  ·rintro ⟨e,he,hn⟩
   rcases List.mem_cons.1 he with rfl | he
   ·exact ⟨_,bx.2 (.inl rfl),(BJ n).2 (.inl hn)⟩
   ·rcases bx.1 he with rfl | he
    ·exact ⟨_,bx.2 (.inl rfl),(BJ n).2 (.inr hn)⟩
    ·exact ⟨e,bx.2 (.inr he),hn⟩
  ·rintro ⟨e,he,hn⟩
   rcases bx.1 he with rfl | he
   ·rcases (BJ n).1 hn with h | h
    ·exact ⟨_,List.mem_cons_self,h⟩
    ·exact ⟨_,List.mem_cons_of_mem _ (bx.2 (.inl rfl)),h⟩
   ·exact ⟨e,List.mem_cons_of_mem _ (bx.2 (.inr he)),hn⟩
 have UP:(((x.1,x.2.ob) :: (p++(bp,.cm x5) :: q)).flatMap eb).Perm ((p++(bp,.cm es) :: q).flatMap eb):=by
  have e1:(eb (bp,.cm es)).Perm (eb (x.1,x.2.ob)++eb (bp,.cm x5)):=by
   rw [AU]
   simp only [eb,Ob.more,AN,Option.toList_none,List.nil_append]
   refine (pv.filterMap _).trans ?_
   rw [List.filterMap_cons]
   cases x.1.cu<;>simp
  rw [List.flatMap_cons,List.flatMap_append,List.flatMap_append,List.flatMap_cons,List.flatMap_cons]
  refine List.Perm.trans ?_ ((e1.symm.append_right _).append_left _)
  rw [← List.append_assoc,← List.append_assoc,← List.append_assoc,← List.append_assoc]
  refine (List.Perm.append_right _ ?_)
  exact (List.perm_append_comm.append_right _)
 refine ⟨⟨(UP.nodup_iff).2 r.nodup,?_,?_,r.slt,r.iy⟩,⟨rfl,rfl,rfl,Nat.le_refl _,fun n hn=>⟨hn,rfl⟩,fun n _ _=>⟨rfl,id⟩,fun n hn=>.inl ((Kt n).1 hn),fun _=>Nat.le_refl _⟩⟩
 ·intro e he
  rcases List.mem_cons.1 he with rfl | he
  ·exact ou.ob.1 (oA x hx)
  ·rcases bx.1 he with rfl | he
   ·exact ⟨AN,fun e he=>oA e (vk e he)⟩
   ·exact r.holds e (bx.2 (.inr he))
 ·intro e he n hn
  rcases List.mem_cons.1 he with rfl | he
  ·have:=r.sep (bp,.cm es) (bx.2 (.inl rfl)) n ((BJ n).2 (.inl hn))
   exact ⟨fun h=>(this.1 h).elim,fun h=>(Ks.1 h).elim⟩
  ·rcases bx.1 he with rfl | he
   ·have:=r.sep (bp,.cm es) (bx.2 (.inl rfl)) n ((BJ n).2 (.inr hn))
    exact ⟨fun h=>(this.1 h).elim,fun h=>h.elim⟩
   ·exact r.sep e (bx.2 (.inr he)) n hn
theorem BK {w:World} {S:Nat→Prop} {hp re cN:Heap} {bp:Bk} {es x5:List (Bk×PO)} {x:Bk×PO} (r:cI w S hp) (dl:w7 hp x.1 x.2.ob re) (u:nN re bp (.cm es) bp (.cm x5) cN) (pv:x5.Perm (x :: es)):
 cI w S cN∧k9 w S hp w S cN:=by
 obtain ⟨p0,q0,rfl,rfl⟩:=dl.split
 have r1:cI w S ((x.1,x.2.ob) :: (p0++q0)):=by
  refine ⟨?_,fun e he=>r.holds e (bx.2 (by simpa using he)),fun e he=>r.sep e (bx.2 (by simpa using he)),r.slt,r.iy⟩
  refine ((List.Perm.flatMap_right eb ?_).nodup_iff).1 r.nodup
  exact List.perm_middle
 generalize hq:p0++q0=h1 at u r1
 obtain ⟨p,q,rfl,rfl⟩:=u.split
 obtain ⟨AN,oA⟩:bp.cu=none∧∀ e∈es,ou w S e.1 e.2:=r1.holds (bp,.cm es) (List.mem_cons_of_mem _ (bx.2 (.inl rfl)))
 have Zb:ou w S x.1 x.2:=ou.ob.2 (r1.holds (x.1,x.2.ob) (by simp))
 have Ks:x.2.ob.zR↔False:=by cases x.2<;>exact Iff.rfl
 have BJ:∀ n,n∈eb (bp,.cm x5)↔n∈eb (x.1,x.2.ob)∨n∈eb (bp,.cm es):=by
  intro n
  rw [wP,wP,AU,AN]
  constructor
  ·rintro (h | ⟨e,he,hn⟩)
   ·cases h
   ·rcases List.mem_cons.1 (pv.mem_iff.1 he) with rfl | he
    ·exact .inl (by simp [hn])
    ·exact .inr (.inr ⟨e,he,hn⟩)
  ·rintro (h | h | ⟨e,he,hn⟩)
   ·exact .inr ⟨x,pv.mem_iff.2 (by simp),by simpa using h⟩
   ·cases h
   ·exact .inr ⟨e,pv.mem_iff.2 (List.mem_cons_of_mem _ he),hn⟩
 have e1:(eb (bp,.cm x5)).Perm (eb (x.1,x.2.ob)++eb (bp,.cm es)):=by
  rw [AU]
  simp only [eb,Ob.more,AN,Option.toList_none,List.nil_append]
  refine (pv.filterMap _).trans ?_
  rw [List.filterMap_cons]
  cases x.1.cu<;>simp
 have UP:(((x.1,x.2.ob) :: (p++(bp,.cm es) :: q)).flatMap eb).Perm ((p++(bp,.cm x5) :: q).flatMap eb):=by
  rw [List.flatMap_cons,List.flatMap_append,List.flatMap_append,List.flatMap_cons,List.flatMap_cons]
  refine List.Perm.trans ?_ ((e1.symm.append_right _).append_left _)
  rw [← List.append_assoc,← List.append_assoc,← List.append_assoc,← List.append_assoc]
  refine (List.Perm.append_right _ ?_)
  exact (List.perm_append_comm.append_right _)
 have Kt:∀ n,Has (p++(bp,.cm x5) :: q) n→Has ((x.1,x.2.ob) :: (p++(bp,.cm es) :: q)) n:=by
  rintro n ⟨e,he,hn⟩
  rcases bx.1 he with rfl | he
  ·rcases (BJ n).1 hn with h | h
   ·exact ⟨_,List.mem_cons_self,h⟩
   ·exact ⟨_,List.mem_cons_of_mem _ (bx.2 (.inl rfl)),h⟩
  ·exact ⟨e,List.mem_cons_of_mem _ (bx.2 (.inr he)),hn⟩
 have RB:∀ n,Has ((x.1,x.2.ob) :: (p++(bp,.cm es) :: q)) n→Has (p0++(x.1,x.2.ob) :: q0) n:=fun n hn=>by
  obtain ⟨e,he,tQ⟩:=hn
  refine ⟨e,bx.2 ?_,tQ⟩
  rw [hq]
  simpa using he
 refine ⟨⟨(UP.nodup_iff).1 r1.nodup,?_,?_,r.slt,r.iy⟩,⟨rfl,rfl,rfl,Nat.le_refl _,fun n hn=>⟨hn,rfl⟩,fun n _ _=>⟨rfl,id⟩,fun n hn=>.inl (RB n (Kt n hn)),fun _=>Nat.le_refl _⟩⟩
 ·intro e he
  rcases bx.1 he with rfl | he
  ·refine ⟨AN,fun e he=>?_⟩
   rcases List.mem_cons.1 (pv.mem_iff.1 he) with rfl | he
   ·exact Zb
   ·exact oA e he
  ·exact r1.holds e (List.mem_cons_of_mem _ (bx.2 (.inr he)))
 ·intro e he n hn
  rcases bx.1 he with rfl | he
  ·refine ⟨fun hs=>?_,fun h=>h.elim⟩
   rcases (BJ n).1 hn with h | h
   ·exact Ks.1 ((r1.sep _ (by simp) n h).1 hs)
   ·exact (r1.sep (bp,.cm es) (List.mem_cons_of_mem _ (bx.2 (.inl rfl))) n h).1 hs
  ·exact r1.sep e (List.mem_cons_of_mem _ (bx.2 (.inr he))) n hn
structure Kept (V:Type) where
 val:Bk→V→AV
 po:V→PO
def rC {E:Type} (sz:Nat) (g:E→AV):Kept (List E):=⟨fun b v=>.sl sz b 0 v.length,fun v=>.arr sz (v.map g)⟩
section plain
variable {K V:Type}
def te (kp:Kept V) (β:K→Bk) (M:List (K×V)):List (Bk×PO):=M.map fun e=>(β e.1,kp.po e.2)
variable [DecidableEq K]
def AA (β:K→Bk) (k:K) (b:Bk):K→Bk:=fun k'=>if k'=k then b else β k'
variable [xK K]
end plain
section rules
variable {P:Program} {all:Array Oper} {rest:List Oper} {n:Nat} {tm:List (Nat×AV)} {hp:Heap} {Q:St→Prop} {d:Nat} {ty:TypeId} {pos:String} {af:Array Edge}
end rules
section rules
variable {P:Program} {all:Array Oper} {rest:List Oper} {n:Nat} {tm:List (Nat×AV)} {hp:Heap} {Q:St→Prop} {d:Nat} {ty:TypeId} {pos:String} {af:Array Edge}
end rules
section rules
variable {P:Program} {all:Array Oper} {rest:List Oper} {n:Nat} {tm:List (Nat×AV)} {hp:Heap} {Q:St→Prop} {d:Nat} {ty:TypeId} {pos:String} {af:Array Edge}
end rules
def HA:List (Nat×(Option Obj→Prop))→Nat→Option (Option Obj→Prop)
 | [],_=>none
 | (k,o) :: r,g=>if g=k then some o else HA r g
theorem Di:∀ {l:List (Nat×(Option Obj→Prop))} {g:Nat} {o:Option Obj→Prop},HA l g=some o→(g,o)∈l
 | [],_,_,h=>by cases h
 | (k,o') :: r,g,o,h=>by
   unfold HA at h
   split at h
   ·rename_i hg
    rw [hg,Option.some.inj h];simp
   ·exact List.mem_cons_of_mem _ (Di h)
end Go.Eng
namespace Go.Eng
open Go
section errs
variable [bM] {P:Program} {all:Array Oper} {rest:List Oper} {n:Nat} {tm:List (Nat×AV)} {hp:Heap} {Q:St→Prop} {d:Nat} {ty:TypeId} {pos:String} {af:Array Edge}
end errs
end Go.Eng
namespace Go.Eng
open Go
variable [bM]
section rules
variable {P:Program} {all:Array Oper} {rest:List Oper} {n:Nat} {tm:List (Nat×AV)} {hp:Heap} {Q:St→Prop} {d:Nat} {ty:TypeId} {pos:String} {af:Array Edge}
end rules
end Go.Eng
namespace Go.Eng
open Go Go.Lib
variable [bM]
end Go.Eng
namespace Go.Eng
open Go
variable {H:Type} {enc:TypeId×Value→H}
theorem Fs {a:Assume} {C:Checked} {os:Os} {f:FuncId} {fn:Func} {s:ChangeSpec} {conds:List PathCond} {apart fresh handsOn again:Bool} {X:World→Array Value→Prop}
 (hX:∀ (w w':World) (args:Array Value),w.heap=w'.heap→X w args→X w' args)
 (own:ownKnob C.prog.godebug=none) (started:os.Started) (O6:C.prog.inits.idxOf? f=none) (Kk:C.prog.funcs[f]? =some fn)
 (witness:∃ (w:World) (tape:Tape) (i:Input),w.os=os∧(w.forCall tape i).Shaped C.prog∧i.vars=[]∧Input.okWide C.prog (w.forCall tape i) .any w.heap.size f i∧
  ((s.pre enc C.prog fn conds apart (w.forCall tape i).memory i.args∧X (w.forCall tape i).memory i.args)∧sizedMet enc C.prog fn (OpenSpec.ofChange s) apart (w.forCall tape i).memory i.args)∧a.holds C.prog (lone (Frame.enter C.prog f i.args .normal) [] (w.forCall tape i)))
 (walk:∀ (W:World) (base:Nat) (args:Array Value) (ds gs:List (DataW H)) (before:List MemPlace),
  (∀ (j:Nat) t v,fn.params[j]? =some t→args[j]? =some v→Value.okWide C.prog W .any base t v)→
  DataW.Whole enc C.prog fn.params.toList s.vars apart W args.toList ds gs before→
  conds.all (PathCond.test C.prog ⟨fn.params.toList,ds,s.plain.varTypes C.prog,gs⟩)=true→
  (DataW.weightsEach C.prog (fn.params.toList++s.plain.varTypes C.prog) (ds++gs)).all (· ≤reachBytes)=true→X W args∧W.ShapedOpen C.prog→
  a.holds C.prog (lone (Frame.enter C.prog f args .normal) [] W)→
  Calls C.prog f args W fun e W'=>∃ v,e=.returned v∧s.post enc C.prog fn apart fresh handsOn again W args v W'):
 ReturnsInHanded a C os f .any (fun w args=>(s.pre enc C.prog fn conds apart w args∧X w args)∧sizedMet enc C.prog fn (OpenSpec.ofChange s) apart w args) (s.post enc C.prog fn apart fresh handsOn again):=by
 refine returnsInHanded_of_calls own started O6 witness ?_
 intro w tape i _ shaped _ ok pre held
 obtain ⟨_,_,_,fn',there,_,_,_,_,UQ⟩:=ok
 cases Option.some.inj (there.symm.trans Kk)
 obtain ⟨⟨⟨ds,gs,before,whole,RC⟩,x⟩,sized⟩:=pre
 have K:=walk (w.forCall tape i) w.heap.size i.args ds gs before UQ (DataW.Whole.of_heap (w':=w.forCall tape i) (by rfl) whole) RC (sized.weights whole) ⟨hX _ _ _ (by rfl) x,shaped⟩ held
 exact K.mono fun e W' ⟨v,he,hp⟩=>by
  subst he
  exact ChangeSpec.post_blind hp
end Go.Eng
namespace Go.Eng
open Go
variable [bM]
section rules
variable {P:Program} {all:Array Oper} {rest:List Oper} {n:Nat} {tm:List (Nat×AV)} {hp:Heap} {Q:St→Prop} {d:Nat} {ty:TypeId} {pos:String} {af:Array Edge}
end rules
section rules
variable {P:Program} {all:Array Oper} {rest:List Oper} {n:Nat} {tm:List (Nat×AV)} {hp:Heap} {Q:St→Prop} {d:Nat} {ty:TypeId} {pos:String} {af:Array Edge}
end rules
section
variable {P:Program} {all:Array Oper} {rest:List Oper} {n:Nat} {tm:List (Nat×AV)} {hp:Heap} {Q:St→Prop} {d:Nat} {ty:TypeId} {pos:String} {af:Array Edge}
end
end Go.Eng
namespace Go.Eng
open Go Go.Proofs Go.Shelf Go.RowKit Go.Lib
section
variable {P:Program} (w:World)
end
variable {P:Program} {ρ:Ren}
end Go.Eng
namespace Go.Eng
open Go Go.Proofs Go.Shelf Go.Lib
variable {P:Program} {ρ:Ren} [bM]
end Go.Eng
