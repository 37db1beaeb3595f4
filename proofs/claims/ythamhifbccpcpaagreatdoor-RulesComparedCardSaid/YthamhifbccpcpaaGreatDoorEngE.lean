/- The engine: abstract values, the symbolic heap, one rule for each operation. No program in sight. -/
import Derived.Test.YthamhifbccpcpaaGreatDoorEngD
import Derived.Laws.Runes
import Derived.Laws.Concat
import Derived.Lib.LaidU8
import Derived.Lib.LaidTab
import Derived.HandedShaped
import Derived.Lib.ConvBytes
import Derived.Shelf.Strings.BuilderF
set_option linter.unusedVariables false
set_option linter.unusedSimpArgs false
set_option linter.unusedSectionVars false
namespace Go.Eng
open Go
variable [bI]
@[reducible] def TM {X:Type} (o:Option X) (A:AV→Heap→Prop) (B:X→AV→Heap→Prop):AV→Heap→Prop:=match o with
  | none=>A
  | some x=>B x
def T6 {Dy N6 N7 N8 N9 Oa:Type} (H:Dy→N6→N7→N8→N9→Oa→Heap) (V:Dy→N6→N7→N8→N9→Oa→AV):AV→Heap→Prop:=fun v h=>∃ b0 b1 b2 b3 b4 b5,h=H b0 b1 b2 b3 b4 b5∧v=V b0 b1 b2 b3 b4 b5
def T7 {Dy N6 N7 N8 N9 Oa Wa:Type} (H:Dy→N6→N7→N8→N9→Oa→Wa→Heap) (V:Dy→N6→N7→N8→N9→Oa→Wa→AV):AV→Heap→Prop:=fun v h=>∃ b0 b1 b2 b3 b4 b5 b6,h=H b0 b1 b2 b3 b4 b5 b6∧v=V b0 b1 b2 b3 b4 b5 b6
section rules
variable {P:Program} {all:Array Oper} {rest:List Oper} {n:Nat} {tm:List (Nat×AV)} {hp:Heap} {Q:St→Prop} {d:Nat} {ty:TypeId} {pos:String} {af:Array Edge}
theorem zW {Dy N6 N7 N8 N9 Oa:Type} {f:FuncId} {args:List Operand} {ts:Array TypeId} {l l':List AV} {h0 hr:Heap} {H H':Dy→N6→N7→N8→N9→Oa→Heap} {V:Dy→N6→N7→N8→N9→Oa→AV} [bD P f] (hl:BB tm args=some l) (c:aM P f l' h0 (T6 H V)) (co:AN hp l l') (hs:KN hp h0 hr) (ha:∀ b0 b1 b2 b3 b4 b5,uC (H b0 b1 b2 b3 b4 b5) hr=some (H' b0 b1 b2 b3 b4 b5)) (hn:Nat.blt d n=true)
 (kk:∀ b0 b1 b2 b3 b4 b5,ai P all rest ⟨n,(d,V b0 b1 b2 b3 b4 b5) :: tm,H' b0 b1 b2 b3 b4 b5⟩ Q):ai P all (⟨some d,.call {callee:=.value (.func f),args:=args.toArray,argTypes:=ts},ty,pos,af,none⟩ :: rest) ⟨n,tm,hp⟩ Q:=
 Gm hl c co hs hn (fun r h' ⟨b0,b1,b2,b3,b4,b5,e1,e2⟩=>by subst e1;subst e2;rw [pJ (ha b0 b1 b2 b3 b4 b5)];exact kk b0 b1 b2 b3 b4 b5)
theorem Gy {Dy N6 N7 N8 N9 Oa Wa:Type} {f:FuncId} {args:List Operand} {ts:Array TypeId} {l l':List AV} {h0 hr:Heap} {H H':Dy→N6→N7→N8→N9→Oa→Wa→Heap} {V:Dy→N6→N7→N8→N9→Oa→Wa→AV} [bD P f] (hl:BB tm args=some l) (c:aM P f l' h0 (T7 H V)) (co:AN hp l l') (hs:KN hp h0 hr) (ha:∀ b0 b1 b2 b3 b4 b5 b6,uC (H b0 b1 b2 b3 b4 b5 b6) hr=some (H' b0 b1 b2 b3 b4 b5 b6)) (hn:Nat.blt d n=true)
 (kk:∀ b0 b1 b2 b3 b4 b5 b6,ai P all rest ⟨n,(d,V b0 b1 b2 b3 b4 b5 b6) :: tm,H' b0 b1 b2 b3 b4 b5 b6⟩ Q):ai P all (⟨some d,.call {callee:=.value (.func f),args:=args.toArray,argTypes:=ts},ty,pos,af,none⟩ :: rest) ⟨n,tm,hp⟩ Q:=
 Gm hl c co hs hn (fun r h' ⟨b0,b1,b2,b3,b4,b5,b6,e1,e2⟩=>by subst e1;subst e2;rw [pJ (ha b0 b1 b2 b3 b4 b5 b6)];exact kk b0 b1 b2 b3 b4 b5 b6)
end rules
def UX (d:Nat):List (Nat×AV)→List (Nat×AV)
 | []=>[]
 | (k,v) :: r=>match Nat.beq k d with
   | true=>UX d r
   | false=>(k,v) :: UX d r
theorem Oc (d:Nat):∀ tm:List (Nat×AV),lk (UX d tm)=mV (lk tm) (some d) none
 | []=>by
   funext s
   show lk [] s=mV (lk []) (some d) none s
   simp [lk,mV]
 | (k,v) :: r=>by
   funext s
   have ih:=congrFun (Oc d r) s
   simp only [UX]
   cases hk:Nat.beq k d with
   | true=>
     obtain rfl:=Nat.eq_of_beq_eq_true hk
     simp only [ih,mV,lk]
     by_cases hs:k=s
     ·rw [if_pos hs,if_pos hs]
     ·have:Nat.beq k s=false:=by
       cases hb:Nat.beq k s with
       | true=>exact absurd (Nat.eq_of_beq_eq_true hb) hs
       | false=>rfl
      rw [if_neg hs,if_neg hs,this]
   | false=>
     simp only [lk,mV] at ih ⊢
     rw [ih]
     by_cases hs:d=s
     ·subst hs
      rw [if_pos rfl,if_pos rfl,hk]
     ·rw [if_neg hs,if_neg hs]
section rules
variable {P:Program} {all:Array Oper} {n:Nat} {B:Heap} {tk:List Tok} {dy:List Nat} {i:Nat} {rest:List Oper} {tm qq:List (Nat×AV)} {acc:(Nat→Bk)→List (Nat×AV)} {Q:(Nat→Bk)→List (Nat×AV)→Prop} {d:Nat} {ty:TypeId} {pos:String} {af:Array Edge} {op:Op}
theorem AT.Za {o:Oper} {d:Nat} {V:Bk→AV} (hd:o.dst=some d) (hr:UX d tm=qq) (Tk:dy.contains i=true) (h:∀ β,∀ X∈w4 tk i β,sQ P all n (X++B) o (JA (lk tm) (lk (acc β))) (vr tk i β) V (fun b=>kZ tk i (pk β i b))) (k:AT P all n B tk dy (i+1) rest qq (fun β=>(d,V (β i)) :: acc β) Q):AT P all n B tk dy i (o :: rest) tm acc Q:=by
 obtain ⟨D,Cn,k1,k2⟩:=k
 refine ⟨(none,V) :: D,Cn,.cons h (fun dF e b=>by cases e) (fun _=>Tk) ?_,fun β=>?_⟩
 ·rw [hd,← Oc,hr]
  have e2:LX none (fun β=>lk (acc β)) (some d) V i=fun β=>lk ((d,V (β i)) :: acc β):=by
   funext β
   simp only [LX]
   rw [vQ];rfl
  rw [e2];exact k1
 ·have:=k2 β
  simp only [zO,hd]
  exact this
theorem AT.Od {V:Bk→AV} {Ti H1:(Nat→Bk)→Heap} {Pi H2:Bk→Heap} (Nw:∀ β,w4 tk i β=[[]]) (QE:∀ β,vr tk i β=Ti β) (QF:∀ β b,kZ tk i (pk β i b)=Pi b) (h1:∀ β,uC (Ti β) B=some (H1 β)) (h2:∀ b,uC (Pi b) B=some (H2 b)) (hn:Nat.blt d n=true) (hr:UX d tm=qq) (Tk:dy.contains i=true)
 (xe:∀ β,ai P all [⟨some d,op,ty,pos,af,none⟩] ⟨n,Hy (looks all ⟨some d,op,ty,pos,af,none⟩) (tm++acc β),H1 β⟩ (fun aL=>∃ b Cn,aL=⟨n,Cn,H2 b⟩∧lk Cn d=some (V b)))
 (k:AT P all n B tk dy (i+1) rest qq (fun β=>(d,V (β i)) :: acc β) Q):AT P all n B tk dy i (⟨some d,op,ty,pos,af,none⟩ :: rest) tm acc Q:=by
 refine AT.Za rfl hr Tk (fun β X hX=>?_) k
 rw [Nw β] at hX
 obtain rfl:=List.mem_singleton.1 hX
 rw [List.nil_append,QE β,show (fun b=>kZ tk i (pk β i b))=Pi from funext (QF β),← LZ]
 refine ya rfl (fun d' BL=>by obtain rfl:=Option.some.inj BL;simpa using hn) (h1 β) h2 ?_ (fun e=>by cases e)
 refine fun w S a r=>jy ?_ _ _ _ (xe β w S a r)
 rintro e a' w' ⟨he,aL,S',⟨b,Cn,q1,q2⟩,hh⟩
 exact ⟨he,aL,S',⟨b,Cn,q1,fun d' BL=>by obtain rfl:=Option.some.inj BL;exact q2⟩,hh⟩
end rules
theorem CT (b:Bk) (es:List (Bk×PO)) (n:Nat):n∈eb (b,.da es)↔b.cd=some n∨∃ e∈es,e.1.cd=some n:=by
 simp [eb,Ob.more,List.mem_filterMap]
theorem CU (e:Bk×PO):eb (e.1,e.2.ob)=e.1.cd.toList:=by
 obtain ⟨b,o⟩:=e
 cases o<;>simp [eb,Ob.more,PO.ob]
theorem Fv {w:World} {S:Nat→Prop} {hp dG:Heap} {bp:Bk} {es KX:List (Bk×PO)} {x:Bk×PO} (r:du w S hp) (u:pB hp bp (.da es) bp (.da KX) dG) (nP:es.Perm (x :: KX)):
 du w S ((x.1,x.2.ob) :: dG)∧kT w S hp w S ((x.1,x.2.ob) :: dG):=by
 obtain ⟨p,q,rfl,rfl⟩:=u.split
 obtain ⟨De,mC⟩:bp.cd=none∧∀ e∈es,oV w S e.1 e.2:=r.holds (bp,.da es) (bG.2 (.inl rfl))
 have Io:∀ e∈KX,e∈es:=fun e he=>nP.mem_iff.2 (List.mem_cons_of_mem _ he)
 have hx:x∈es:=nP.mem_iff.2 (by simp)
 have Oe:x.2.ob.BA↔False:=by cases x.2<;>exact Iff.rfl
 have Ip:∀ n,n∈eb (bp,.da es)↔n∈eb (x.1,x.2.ob)∨n∈eb (bp,.da KX):=by
  intro n
  rw [CT,CT,CU,De]
  constructor
  ·rintro (h | ⟨e,he,hn⟩)
   ·cases h
   ·rcases List.mem_cons.1 (nP.mem_iff.1 he) with rfl | he
    ·exact .inl (by simp [hn])
    ·exact .inr (.inr ⟨e,he,hn⟩)
  ·rintro (h | h | ⟨e,he,hn⟩)
   ·exact .inr ⟨x,hx,by simpa using h⟩
   ·cases h
   ·exact .inr ⟨e,Io e he,hn⟩
 have TA:∀ n,Has ((x.1,x.2.ob) :: (p++(bp,.da KX) :: q)) n↔Has (p++(bp,.da es) :: q) n:=by
  intro n
  constructor
  ·rintro ⟨e,he,hn⟩
   rcases List.mem_cons.1 he with rfl | he
   ·exact ⟨_,bG.2 (.inl rfl),(Ip n).2 (.inl hn)⟩
   ·rcases bG.1 he with rfl | he
    ·exact ⟨_,bG.2 (.inl rfl),(Ip n).2 (.inr hn)⟩
    ·exact ⟨e,bG.2 (.inr he),hn⟩
  ·rintro ⟨e,he,hn⟩
   rcases bG.1 he with rfl | he
   ·rcases (Ip n).1 hn with h | h
    ·exact ⟨_,List.mem_cons_self,h⟩
    ·exact ⟨_,List.mem_cons_of_mem _ (bG.2 (.inl rfl)),h⟩
   ·exact ⟨e,List.mem_cons_of_mem _ (bG.2 (.inr he)),hn⟩
 have Zb:(((x.1,x.2.ob) :: (p++(bp,.da KX) :: q)).flatMap eb).Perm ((p++(bp,.da es) :: q).flatMap eb):=by
  have e1:(eb (bp,.da es)).Perm (eb (x.1,x.2.ob)++eb (bp,.da KX)):=by
   rw [CU]
   simp only [eb,Ob.more,De,Option.toList_none,List.nil_append]
   refine (nP.filterMap _).trans ?_
   rw [List.filterMap_cons]
   cases x.1.cd<;>simp
  rw [List.flatMap_cons,List.flatMap_append,List.flatMap_append,List.flatMap_cons,List.flatMap_cons]
  refine List.Perm.trans ?_ ((e1.symm.append_right _).append_left _)
  rw [← List.append_assoc,← List.append_assoc,← List.append_assoc,← List.append_assoc]
  refine (List.Perm.append_right _ ?_)
  exact (List.perm_append_comm.append_right _)
 refine ⟨⟨(Zb.nodup_iff).2 r.nodup,?_,?_,r.slt,r.jC⟩,⟨rfl,rfl,rfl,Nat.le_refl _,fun n hn=>⟨hn,rfl⟩,fun n _ _=>⟨rfl,id⟩,fun n hn=>.inl ((TA n).1 hn),fun _=>Nat.le_refl _⟩⟩
 ·intro e he
  rcases List.mem_cons.1 he with rfl | he
  ·exact oV.ob.1 (mC x hx)
  ·rcases bG.1 he with rfl | he
   ·exact ⟨De,fun e he=>mC e (Io e he)⟩
   ·exact r.holds e (bG.2 (.inr he))
 ·intro e he n hn
  rcases List.mem_cons.1 he with rfl | he
  ·have:=r.sep (bp,.da es) (bG.2 (.inl rfl)) n ((Ip n).2 (.inl hn))
   exact ⟨fun h=>(this.1 h).elim,fun h=>(Oe.1 h).elim⟩
  ·rcases bG.1 he with rfl | he
   ·have:=r.sep (bp,.da es) (bG.2 (.inl rfl)) n ((Ip n).2 (.inr hn))
    exact ⟨fun h=>(this.1 h).elim,fun h=>h.elim⟩
   ·exact r.sep e (bG.2 (.inr he)) n hn
theorem Iq {w:World} {S:Nat→Prop} {hp BT dG:Heap} {bp:Bk} {es KX:List (Bk×PO)} {x:Bk×PO} (r:du w S hp) (dl:yW hp x.1 x.2.ob BT) (u:pB BT bp (.da es) bp (.da KX) dG) (nP:KX.Perm (x :: es)):
 du w S dG∧kT w S hp w S dG:=by
 obtain ⟨p0,q0,rfl,rfl⟩:=dl.split
 have r1:du w S ((x.1,x.2.ob) :: (p0++q0)):=by
  refine ⟨?_,fun e he=>r.holds e (bG.2 (by simpa using he)),fun e he=>r.sep e (bG.2 (by simpa using he)),r.slt,r.jC⟩
  refine ((List.Perm.flatMap_right eb ?_).nodup_iff).1 r.nodup
  exact List.perm_middle
 generalize hq:p0++q0=h1 at u r1
 obtain ⟨p,q,rfl,rfl⟩:=u.split
 obtain ⟨De,mC⟩:bp.cd=none∧∀ e∈es,oV w S e.1 e.2:=r1.holds (bp,.da es) (List.mem_cons_of_mem _ (bG.2 (.inl rfl)))
 have hxh:oV w S x.1 x.2:=oV.ob.2 (r1.holds (x.1,x.2.ob) (by simp))
 have Oe:x.2.ob.BA↔False:=by cases x.2<;>exact Iff.rfl
 have Ip:∀ n,n∈eb (bp,.da KX)↔n∈eb (x.1,x.2.ob)∨n∈eb (bp,.da es):=by
  intro n
  rw [CT,CT,CU,De]
  constructor
  ·rintro (h | ⟨e,he,hn⟩)
   ·cases h
   ·rcases List.mem_cons.1 (nP.mem_iff.1 he) with rfl | he
    ·exact .inl (by simp [hn])
    ·exact .inr (.inr ⟨e,he,hn⟩)
  ·rintro (h | h | ⟨e,he,hn⟩)
   ·exact .inr ⟨x,nP.mem_iff.2 (by simp),by simpa using h⟩
   ·cases h
   ·exact .inr ⟨e,nP.mem_iff.2 (List.mem_cons_of_mem _ he),hn⟩
 have e1:(eb (bp,.da KX)).Perm (eb (x.1,x.2.ob)++eb (bp,.da es)):=by
  rw [CU]
  simp only [eb,Ob.more,De,Option.toList_none,List.nil_append]
  refine (nP.filterMap _).trans ?_
  rw [List.filterMap_cons]
  cases x.1.cd<;>simp
 have Zb:(((x.1,x.2.ob) :: (p++(bp,.da es) :: q)).flatMap eb).Perm ((p++(bp,.da KX) :: q).flatMap eb):=by
  rw [List.flatMap_cons,List.flatMap_append,List.flatMap_append,List.flatMap_cons,List.flatMap_cons]
  refine List.Perm.trans ?_ ((e1.symm.append_right _).append_left _)
  rw [← List.append_assoc,← List.append_assoc,← List.append_assoc,← List.append_assoc]
  refine (List.Perm.append_right _ ?_)
  exact (List.perm_append_comm.append_right _)
 have TA:∀ n,Has (p++(bp,.da KX) :: q) n→Has ((x.1,x.2.ob) :: (p++(bp,.da es) :: q)) n:=by
  rintro n ⟨e,he,hn⟩
  rcases bG.1 he with rfl | he
  ·rcases (Ip n).1 hn with h | h
   ·exact ⟨_,List.mem_cons_self,h⟩
   ·exact ⟨_,List.mem_cons_of_mem _ (bG.2 (.inl rfl)),h⟩
  ·exact ⟨e,List.mem_cons_of_mem _ (bG.2 (.inr he)),hn⟩
 have Wb:∀ n,Has ((x.1,x.2.ob) :: (p++(bp,.da es) :: q)) n→Has (p0++(x.1,x.2.ob) :: q0) n:=fun n hn=>by
  obtain ⟨e,he,wE⟩:=hn
  refine ⟨e,bG.2 ?_,wE⟩
  rw [hq]
  simpa using he
 refine ⟨⟨(Zb.nodup_iff).1 r1.nodup,?_,?_,r.slt,r.jC⟩,⟨rfl,rfl,rfl,Nat.le_refl _,fun n hn=>⟨hn,rfl⟩,fun n _ _=>⟨rfl,id⟩,fun n hn=>.inl (Wb n (TA n hn)),fun _=>Nat.le_refl _⟩⟩
 ·intro e he
  rcases bG.1 he with rfl | he
  ·refine ⟨De,fun e he=>?_⟩
   rcases List.mem_cons.1 (nP.mem_iff.1 he) with rfl | he
   ·exact hxh
   ·exact mC e he
  ·exact r1.holds e (List.mem_cons_of_mem _ (bG.2 (.inr he)))
 ·intro e he n hn
  rcases bG.1 he with rfl | he
  ·refine ⟨fun hs=>?_,fun h=>h.elim⟩
   rcases (Ip n).1 hn with h | h
   ·exact Oe.1 ((r1.sep _ (by simp) n h).1 hs)
   ·exact (r1.sep (bp,.da es) (List.mem_cons_of_mem _ (bG.2 (.inl rfl))) n h).1 hs
  ·exact r1.sep e (List.mem_cons_of_mem _ (bG.2 (.inr he))) n hn
structure Kept (V:Type) where
 val:Bk→V→AV
 po:V→PO
def bx {E:Type} (sz:Nat) (g:E→AV):Kept (List E):=⟨fun b v=>.sl sz b 0 v.length,fun v=>.arr sz (v.map g)⟩
section plain
variable {K V:Type}
def kB (gk:K→AV) (kp:Kept V) (β:K→Bk) (M:List (K×V)):List (AV×AV):=M.map fun e=>(gk e.1,kp.val (β e.1) e.2)
def cC (kp:Kept V) (β:K→Bk) (M:List (K×V)):List (Bk×PO):=M.map fun e=>(β e.1,kp.po e.2)
def oh (β:K→Bk) (M:List (K×V)):List (K×(Bk×V)):=M.map fun e=>(e.1,(β e.1,e.2))
theorem tI (gk:K→AV) (kp:Kept V) (β:K→Bk) (M:List (K×V)):kB gk kp β M=(oh β M).map fun e=>(gk e.1,kp.val e.2.1 e.2.2):=by
 unfold kB oh;rw [List.map_map];rfl
variable [DecidableEq K]
def w5 (β:K→Bk) (k:K) (b:Bk):K→Bk:=fun k'=>if k'=k then b else β k'
theorem L9 (β:K→Bk) (M:List (K×V)) (k:K):ca (oh β M) k=(ca M k).map fun v=>(β k,v):=by
 induction M with
 | nil=>rfl
 | cons e r ih=>
   show (if e.1=k then some (β e.1,e.2) else ca (oh β r) k)=(if e.1=k then some e.2 else ca r k).map _
   rw [ih]
   split
   ·rename_i h;rw [h];rfl
   ·rfl
theorem ze {M:List (K×V)} {k:K} {v:V} (hn:(M.map Prod.fst).Nodup) (h:ca M k=some v):M.Perm ((k,v) :: lJ M k):=by
 induction M with
 | nil=>cases h
 | cons e r ih=>
   rw [List.map_cons,List.nodup_cons] at hn
   unfold ca at h
   unfold lJ
   rw [List.filter_cons]
   split at h
   ·rename_i hk
    obtain rfl:=Option.some.inj h
    rw [if_neg (by simp [hk])]
    have:r.filter (fun e=>decide (e.1≠k))=r:=List.filter_eq_self.2 fun x hx=>by
     simp only [ne_eq,decide_not,Bool.not_eq_true',decide_eq_false_iff_not]
     intro hxk
     exact hn.1 (List.mem_map.2 ⟨x,hx,by rw [hxk,hk]⟩)
    rw [this,← hk]
   ·rename_i hk
    rw [if_pos (by simp [hk])]
    exact (List.Perm.cons e (ih hn.2 h)).trans (List.Perm.swap _ _ _)
theorem Ir (M:List (K×V)) (k:K):∀ e∈lJ M k,e.1≠k:=fun e he=>by
 have:=(List.mem_filter.1 he).2
 simpa using this
theorem Ma (kp:Kept V) (β:K→Bk) (k:K) (b:Bk) {M:List (K×V)} (h:∀ e∈M,e.1≠k):cC kp (w5 β k b) M=cC kp β M:=by
 unfold cC
 exact List.map_congr_left fun e he=>by unfold w5;rw [if_neg (h e he)]
variable [zD K]
theorem Mb (M:List (K×V)) (k:K) (v:V):(rP M k v).Perm ((k,v) :: lJ M k):=vv k v _
theorem Mc (kp:Kept V) (β:K→Bk) (k:K) (b:Bk) (M:List (K×V)) (v:V):(cC kp (w5 β k b) (rP M k v)).Perm ((b,kp.po v) :: cC kp β (lJ M k)):=by
 refine ((Mb M k v).map _).trans ?_
 rw [List.map_cons]
 have e1:(lJ M k).map (fun e=>(w5 β k b e.1,kp.po e.2))=cC kp β (lJ M k):=Ma kp β k b (Ir M k)
 rw [e1]
 have:w5 β k b k=b:=by unfold w5;rw [if_pos rfl]
 rw [this]
end plain
theorem DQ {K V:Type} {gk:K→AV} {kp:Kept V} {β:K→Bk} {w:World} {S:Nat→Prop} {hp:Heap} {b:Bk} {M:List (K×V)} (Ij:∀ a b,gk a=gk b→a=b) (r:du w S hp) (f:nU hp b (.mp (kB gk kp β M))):(M.map Prod.fst).Nodup:=by
 rw [tI] at f
 obtain ⟨L,c,M',n,gy,p1,_,_,_,_,_,_,p8⟩:=zU (gv:=fun p:Bk×V=>kp.val p.1 p.2) Ij r f
 have:=(p1.map Prod.fst).nodup_iff.1 p8
 unfold oh at this
 rw [List.map_map] at this
 exact this
theorem Is {hp dG:Heap} {b:Bk} {o o':Ob} (u:pB hp b o b o' dG) (h:o=o'):hp=dG:=by
 obtain ⟨p,q,rfl,rfl⟩:=u.split
 rw [h]
section rules
variable {P:Program} {all:Array Oper} {rest:List Oper} {n:Nat} {tm:List (Nat×AV)} {hp:Heap} {Q:St→Prop} {d:Nat} {ty:TypeId} {pos:String} {af:Array Edge}
theorem vw {K E:Type} [DecidableEq K] {gk:K→AV} {sz:Nat} {g:E→AV} {β:K→Bk} {M:List (K×List E)} {key:K} {xs:List E} {t kt vt:TypeId} {i:TypeInfo} {x y:Operand} {bm bp:Bk} {dG:Heap} [aR P t (.map kt vt)] [bf P vt i] [nB P kt gk] (hx:dt tm x=some (.ph bm)) (hy:dt tm y=some (gk key)) (f:nU hp bm (.mp (kB gk (bx sz g) β M))) (u:pB hp bp (.da (cC (bx sz g) β M)) bp (.da (cC (bx sz g) β (lJ M key))) dG) (hz:i.zero=some (.slice none 0 0)) (h:vu M key []=some xs) (hn:Nat.blt d n=true)
 (kk:∀ b,(∀ v,ca M key=some v→b=β key∧v=xs)→ai P all rest ⟨n,(d,.sl sz b 0 xs.length) :: tm,(b,.arr sz (xs.map g)) :: dG⟩ Q):ai P all (⟨some d,.lookup t x y false,ty,pos,af,none⟩ :: rest) ⟨n,tm,hp⟩ Q:=by
 refine ai.LD rfl fun w S a r=>?_
 have xf:=DQ (nB.inj P kt) r.hp f
 have kx:=bn (σ:=⟨n,tm,hp⟩) r hx
 have ky:=bn (σ:=⟨n,tm,hp⟩) r hy
 obtain ⟨nb,hb,ex⟩:=kx.zT
 have f':=f
 rw [tI] at f'
 obtain ⟨L,c,M',M4,gy,p1,p2,p3,p4,p5,p6,p7,p8⟩:=zU (gv:=fun p:Bk×List E=>(bx sz g).val p.1 p.2) (nB.inj P kt) r.hp f'
 obtain rfl:M4=nb:=by rw [p4] at hb;exact Option.some.inj hb
 have BR:=nB.find (P:=P) (t:=kt) (g:=gk) ky gy.toList (M'.map Prod.fst) (by simpa using p6.symm) (fun j k' e h1 h2=>by
  rw [List.getElem?_map] at h1
  cases hm:M'[j]? with
  | none=>rw [hm] at h1;cases h1
  | some q=>rw [hm] at h1;rw [← Option.some.inj h1];exact (p7 j q e hm h2).1)
 have QS:=A3 p1 p8 key
 rw [L9] at QS
 have hv:=Option.some.inj h
 rcases CQ (gv:=fun p:Bk×List E=>(bx sz g).val p.1 p.2) (w:=w) (S:=S) (k:=key) M' gy.toList 0 p6.symm (fun j e m h1 h2=>(p7 j e m h1 h2).2) with ⟨q1,q2⟩ | ⟨v',j,val,q1,q2,q3,_⟩
 ·
  rw [q1] at QS
  have Fg:ca M key=none:=by
   cases hc:ca M key with
   | none=>rfl
   | some v=>rw [hc] at QS;cases QS
  rw [Fg,Option.getD_none] at hv
  subst hv
  have Fp:=Is u (by rw [A4 Fg])
  obtain ⟨g1,g2,g3⟩:=sW (b:=⟨none,0⟩) (o:=.arr sz (([]:List E).map g)) r.hp (Ext.refl w) id ⟨by simp,by simp,.inl ⟨rfl,rfl⟩⟩ (.inl rfl)
  refine ⟨.slice none 0 0,w,S,⟨n,(d,.sl sz ⟨none,0⟩ 0 0) :: tm,(⟨none,0⟩,.arr sz (([]:List E).map g)) :: dG⟩,?_,?_,?_,kk ⟨none,0⟩ (fun v hv=>by rw [Fg] at hv;cases hv)⟩
  ·simp [execOp,Instr.lookup,ex,run_underlying (aR.h (P:=P) (t:=t)),lK p5,nB.check (P:=P) (t:=kt) ky,BR,q2,zeroValue,typeInfo,bf.h (P:=P) (t:=vt),hz]
  ·rw [← Fp]
   exact (r.heap g3 g1).put hn (.Dd sz _ rfl)
  ·rw [← Fp];exact g2
 ·rw [q1] at QS
  obtain ⟨v,XJ⟩:∃ v,ca M key=some v:=by
   cases hc:ca M key with
   | none=>rw [hc] at QS;cases QS
   | some v=>exact ⟨v,rfl⟩
  rw [XJ,Option.getD_some] at hv
  subst hv
  rw [XJ] at QS
  have YY:v'=(β key,v):=Option.some.inj QS
  subst YY
  have Wc:(cC (bx sz g) β M).Perm ((β key,.arr sz (v.map g)) :: cC (bx sz g) β (lJ M key)):=((ze xf XJ).map _)
  obtain ⟨g1,g2⟩:=Fv r.hp u Wc
  refine ⟨val,w,S,⟨n,(d,.sl sz (β key) 0 v.length) :: tm,(β key,.arr sz (v.map g)) :: dG⟩,?_,(r.heap (fun m hm=>⟨hm,rfl⟩) g1).put hn q3,g2,kk (β key) (fun v2 S7=>⟨rfl,by rw [XJ] at S7;exact (Option.some.inj S7).symm⟩)⟩
  simp [execOp,Instr.lookup,ex,run_underlying (aR.h (P:=P) (t:=t)),lK p5,nB.check (P:=P) (t:=kt) ky,BR,q2]
end rules
theorem ak.Sm {n:Nat} {tm:List (Nat×AV)} {hp BT dG:Heap} {T:St→Prop} {K E:Type} [DecidableEq K] {gk:K→AV} {sz:Nat} {g:E→AV} {β:K→Bk} {M:List (K×List E)} {key:K} {xs:List E} {b bm bp:Bk} (Ij:∀ a b,gk a=gk b→a=b) (h:vu M key []=some xs) (hb:∀ v,ca M key=some v→b=β key∧v=xs) (f:nU hp bm (.mp (kB gk (bx sz g) β M))) (dl:yW hp b (.arr sz (xs.map g)) BT) (u:pB BT bp (.da (cC (bx sz g) β (lJ M key))) bp (.da (cC (bx sz g) β M)) dG) (k:ak ⟨n,tm,dG⟩ T):ak ⟨n,tm,hp⟩ T:=by
 refine ak.step (CK:=⟨n,tm,dG⟩) (fun w S a r=>?_) k
 have xf:=DQ Ij r.hp f
 cases hc:ca M key with
 | none=>
   have Fp:=Is u (by rw [A4 hc])
   have hs:BT.Sublist hp:=by
    obtain ⟨p,q,rfl,rfl⟩:=dl.split
    exact List.Sublist.append (List.Sublist.refl _) (List.sublist_cons_self _ _)
   rw [← Fp]
   exact ⟨_,S,rfl,r.less ⟨rfl,fun _ _ h=>h,hs⟩,kT.less (kT.refl w S hp) fun _ hn=>hn.sub hs⟩
 | some v=>
   obtain ⟨rfl,rfl⟩:=hb v hc
   have Wc:(cC (bx sz g) β M).Perm ((β key,.arr sz (v.map g)) :: cC (bx sz g) β (lJ M key)):=((ze xf hc).map _)
   obtain ⟨g1,g2⟩:=Iq (x:=(β key,.arr sz (v.map g))) r.hp dl u Wc
   exact ⟨_,S,rfl,r.heap (fun m hm=>⟨hm,rfl⟩) g1,g2⟩
theorem J6 {K V:Type} [DecidableEq K] (β:K→Bk) (M:List (K×V)) (k:K):lJ (oh β M) k=oh β (lJ M k):=by
 unfold lJ oh
 rw [List.filter_map]
 rfl
theorem DR {K V:Type} [zD K] (β:K→Bk) (k:K) (b:Bk) (v:V) (hk:β k=b):∀ M:List (K×V),yu k (b,v) (oh β M)=oh β (yu k v M)
 | []=>by simp [yu,oh,hk]
 | e :: r=>by
   show yu k (b,v) ((e.1,(β e.1,e.2)) :: oh β r)=oh β (yu k v (e :: r))
   unfold yu
   by_cases h:zD.lt e.1 k=true
   ·rw [if_pos h,if_pos h,DR β k b v hk r];rfl
   ·rw [if_neg h,if_neg h];simp [oh,hk]
theorem Md {K V:Type} [DecidableEq K] (β:K→Bk) (k:K) (b:Bk) {M:List (K×V)} (h:∀ e∈M,e.1≠k):oh (w5 β k b) M=oh β M:=by
 unfold oh
 exact List.map_congr_left fun e he=>by unfold w5;rw [if_neg (h e he)]
theorem J7 {K V:Type} [DecidableEq K] [zD K] (β:K→Bk) (M:List (K×V)) (k:K) (b:Bk) (v:V):rP (oh β M) k (b,v)=oh (w5 β k b) (rP M k v):=by
 unfold rP
 rw [J6,← Md β k b (Ir M k),DR _ _ _ _ (by unfold w5;rw [if_pos rfl])]
section rules
variable {P:Program} {all:Array Oper} {rest:List Oper} {n:Nat} {tm:List (Nat×AV)} {hp:Heap} {Q:St→Prop} {d:Nat} {ty:TypeId} {pos:String} {af:Array Edge}
theorem vX {K V:Type} [DecidableEq K] [zD K] {gk:K→AV} {kp:Kept V} {β:K→Bk} {M:List (K×V)} {key:K} {v:V} {t kt vt:TypeId} {x y z:Operand} {b bm:Bk} {dG:Heap} {av:AV} [aR P t (.map kt vt)] [nB P kt gk] (hx:dt tm x=some (.ph bm)) (hy:dt tm y=some (gk key)) (hz:dt tm z=some av) (tC:av=kp.val b v) (u:pB hp bm (.mp (kB gk kp β M)) bm (.mp (kB gk kp (w5 β key b) (rP M key v))) dG)
 (kk:ai P all rest ⟨n,tm,dG⟩ Q):ai P all (⟨none,.mapUpdate t x y z,ty,pos,af,none⟩ :: rest) ⟨n,tm,hp⟩ Q:=by
 rw [tI,tI,← J7] at u
 exact BS (gk:=gk) (gv:=fun p:Bk×V=>kp.val p.1 p.2) (M:=oh β M) (key:=key) (v:=(b,v)) hx hy hz tC u kk
end rules
theorem ak.CV {n:Nat} {tm:List (Nat×AV)} {hp BT dG:Heap} {T:St→Prop} {K V:Type} [DecidableEq K] [zD K] {kp:Kept V} {β:K→Bk} {M:List (K×V)} {key:K} {v:V} {b bp:Bk} {o:Ob} (ho:o=(kp.po v).ob) (dl:yW hp b o BT) (u:pB BT bp (.da (cC kp β (lJ M key))) bp (.da (cC kp (w5 β key b) (rP M key v))) dG) (k:ak ⟨n,tm,dG⟩ T):ak ⟨n,tm,hp⟩ T:=by
 refine ak.step (CK:=⟨n,tm,dG⟩) (fun w S a r=>?_) k
 subst ho
 obtain ⟨g1,g2⟩:=Iq (x:=(b,kp.po v)) r.hp dl u (Mc kp β key b M v)
 exact ⟨_,S,rfl,r.heap (fun m hm=>⟨hm,rfl⟩) g1,g2⟩
section rules
variable {P:Program} {all:Array Oper} {rest:List Oper} {n:Nat} {tm:List (Nat×AV)} {hp:Heap} {Q:St→Prop} {d:Nat} {ty:TypeId} {pos:String} {af:Array Edge}
theorem zf {K V:Type} {gk:K→AV} {kp:Kept V} {β:K→Bk} {t:TypeId} (hn:Nat.blt d n=true) (kk:∀ b bp:Bk,ai P all rest ⟨n,(d,.ph b) :: tm,(b,.mp (kB gk kp β [])) :: (bp,.da (cC kp β [])) :: hp⟩ Q):ai P all (⟨some d,.makeMap t none,ty,pos,af,none⟩ :: rest) ⟨n,tm,hp⟩ Q:=by
 have g:ai P all (⟨some d,.makeMap t none,ty,pos,af,none⟩ :: rest) ⟨n,tm,(⟨none,0⟩,.da []) :: hp⟩ Q:=Fs hn (fun b=>kk b ⟨none,0⟩)
 refine ai.ghost (ak.step (CK:=⟨n,tm,(⟨none,0⟩,.da []) :: hp⟩) (fun w S a r=>?_) (ak.here g))
 obtain ⟨g1,g2,g3⟩:=sW (b:=⟨none,0⟩) (o:=.da []) r.hp (Ext.refl w) id ⟨rfl,by simp⟩ (.inl rfl)
 exact ⟨_,S,rfl,r.heap g3 g1,g2⟩
end rules
def rowOf (o:Option Obj):Option (Array Value):=match o with
 | some (.cells vs _ _)=>some vs
 | _=>none
def Wd (k:IntKind) (o:Option Obj):Prop:=∃ vs m,rowOf o=some vs∧vs[0]? =some (.int k m)
def KY:List (Nat×(Option Obj→Prop))→Nat→Option (Option Obj→Prop)
 | [],_=>none
 | (k,o) :: r,g=>if g=k then some o else KY r g
theorem Fw:∀ {l:List (Nat×(Option Obj→Prop))} {g:Nat} {o:Option Obj→Prop},KY l g=some o→(g,o)∈l
 | [],_,_,h=>by cases h
 | (k,o') :: r,g,o,h=>by
   unfold KY at h
   split at h
   ·rename_i hg
    rw [hg,Option.some.inj h];simp
   ·exact List.mem_cons_of_mem _ (Fw h)
theorem TB {w:World} {g:Nat} {vs:Array Value} (h:rowOf (w.heap[g]?)=some vs):g < w.heap.size:=by
 rcases Nat.lt_or_ge g w.heap.size with h' | h'
 ·exact h'
 ·rw [Array.getElem?_eq_none h'] at h;cases h
end Go.Eng
namespace Go.Eng
open Go
section errs
variable [bI] {P:Program} {all:Array Oper} {rest:List Oper} {n:Nat} {tm:List (Nat×AV)} {hp:Heap} {Q:St→Prop} {d:Nat} {ty:TypeId} {pos:String} {af:Array Edge}
end errs
end Go.Eng
namespace Go.Eng
open Go
variable [bI]
section rules
variable {P:Program} {all:Array Oper} {rest:List Oper} {n:Nat} {tm:List (Nat×AV)} {hp:Heap} {Q:St→Prop} {d:Nat} {ty:TypeId} {pos:String} {af:Array Edge}
end rules
end Go.Eng
namespace Go.Eng
open Go Go.Lib
variable [bI]
theorem Iu {w:World} {g:Nat} {v:Value} (h:w.cell? ⟨g,0,none⟩=some v):∃ vs,rowOf (w.heap[g]?)=some vs∧vs[0]? =some v:=by
 unfold World.cell? at h
 cases ho:w.heap[g]? with
 | none=>simp [ho] at h
 | some o=>
   cases o with
   | cells vs e f=>exact ⟨vs,rfl,by simpa [ho] using h⟩
   | _=>simp [ho] at h
theorem QT {w:World} {g:Nat} {k:IntKind} {m:Int} (h:w.cell? ⟨g,0,none⟩=some (.int k m)):g < w.heap.size∧Wd k (w.heap[g]?):=by
 obtain ⟨vs,h1,h2⟩:=Iu h
 exact ⟨TB h1,vs,m,h1,h2⟩
end Go.Eng
namespace Go.Eng
open Go
variable {H:Type} {enc:TypeId×Value→H}
theorem Iv {a:Assume} {C:Checked} {os:Os} {f:FuncId} {fn:Func} {s:ChangeSpec} {conds:List PathCond} {apart fresh handsOn again:Bool} {X:World→Array Value→Prop}
 (hX:∀ (w w':World) (args:Array Value),w.heap=w'.heap→X w args→X w' args)
 (own:ownKnob C.prog.godebug=none) (started:os.Started) (TC:C.prog.inits.idxOf? f=none) (V0:C.prog.funcs[f]? =some fn)
 (witness:∃ (w:World) (tape:Tape) (i:Input),w.os=os∧(w.forCall tape i).Shaped C.prog∧i.vars=[]∧Input.okWide C.prog (w.forCall tape i) .any w.heap.size f i∧
  ((s.pre enc C.prog fn conds apart (w.forCall tape i).memory i.args∧X (w.forCall tape i).memory i.args)∧sizedMet enc C.prog fn (OpenSpec.ofChange s) apart (w.forCall tape i).memory i.args)∧a.holds C.prog (lone (Frame.enter C.prog f i.args .normal) [] (w.forCall tape i)))
 (walk:∀ (W:World) (base:Nat) (args:Array Value) (ds gs:List (DataW H)) (before:List MemPlace),
  (∀ (j:Nat) t v,fn.params[j]? =some t→args[j]? =some v→Value.okWide C.prog W .any base t v)→
  DataW.Whole enc C.prog fn.params.toList s.vars apart W args.toList ds gs before→
  conds.all (PathCond.test C.prog ⟨fn.params.toList,ds,s.plain.varTypes C.prog,gs⟩)=true→
  (DataW.weightsEach C.prog (fn.params.toList++s.plain.varTypes C.prog) (ds++gs)).all (· ≤reachBytes)=true→X W args∧W.ShapedOpen C.prog→
  a.holds C.prog (lone (Frame.enter C.prog f args .normal) [] W)→
  Calls C.prog f args W fun e W'=>∃ v,e=.returned v∧s.post enc C.prog fn apart fresh handsOn again W args v W'):
 ReturnsInHanded a C os f .any (fun w args=>(s.pre enc C.prog fn conds apart w args∧X w args)∧sizedMet enc C.prog fn (OpenSpec.ofChange s) apart w args) (s.post enc C.prog fn apart fresh handsOn again):=by
 refine returnsInHanded_of_calls own started TC witness ?_
 intro w tape i _ shaped _ ok pre held
 obtain ⟨_,_,_,fn',there,_,_,_,_,Zc⟩:=ok
 cases Option.some.inj (there.symm.trans V0)
 obtain ⟨⟨⟨ds,gs,before,whole,We⟩,x⟩,sized⟩:=pre
 have K:=walk (w.forCall tape i) w.heap.size i.args ds gs before Zc (DataW.Whole.of_heap (w':=w.forCall tape i) (by rfl) whole) We (sized.weights whole) ⟨hX _ _ _ (by rfl) x,shaped⟩ held
 exact K.mono fun e W' ⟨v,he,hp⟩=>by
  subst he
  exact ChangeSpec.post_blind hp
end Go.Eng
namespace Go.Eng
open Go
variable [bI]
section rules
variable {P:Program} {all:Array Oper} {rest:List Oper} {n:Nat} {tm:List (Nat×AV)} {hp:Heap} {Q:St→Prop} {d:Nat} {ty:TypeId} {pos:String} {af:Array Edge}
end rules
section rules
variable {P:Program} {all:Array Oper} {rest:List Oper} {n:Nat} {tm:List (Nat×AV)} {hp:Heap} {Q:St→Prop} {d:Nat} {ty:TypeId} {pos:String} {af:Array Edge}
end rules
section
variable {P:Program} {all:Array Oper} {rest:List Oper} {n:Nat} {tm:List (Nat×AV)} {hp:Heap} {Q:St→Prop} {d:Nat} {ty:TypeId} {pos:String} {af:Array Edge}
end
end Go.Eng
namespace Go.Eng
open Go Go.Proofs Go.Shelf Go.RowKit Go.Lib
section
variable {P:Program} (w:World)
end
variable {P:Program} {ρ:Ren}
end Go.Eng
namespace Go.Eng
open Go Go.Proofs Go.Shelf Go.Lib
variable {P:Program} {ρ:Ren} [bI]
end Go.Eng
