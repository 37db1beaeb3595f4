/- The engine: abstract values, the symbolic heap, one rule for each operation. No program in sight. -/
import Derived.Test.YtpibecbdhjbanaaGreatDoorEngD
import Derived.Laws.Runes
import Derived.Laws.Concat
import Derived.Lib.LaidU8
import Derived.Lib.LaidTab
import Derived.HandedShaped
import Derived.Lib.ConvBytes
import Derived.Shelf.Strings.BuilderF
set_option linter.unusedVariables false
set_option linter.unusedSimpArgs false
set_option linter.unusedSectionVars false
namespace Go.Eng
open Go
variable [bD]
def As {X A:Type} (o:Option X) (a:A) (f:X→A):A:=match o with
 | none=>a
 | some x=>f x
theorem BV {X A:Type} (a:A) (f:X→A):As none a f=a:=rfl
theorem wj {X A:Type} (x:X) (a:A) (f:X→A):As (some x) a f=f x:=rfl
theorem Qp {X A:Type} {o:Option X} {a r:A} {f:X→A} {C:Prop} (h:As o a f=r) (kn:o=none→a=r→C) (ks:∀ x,o=some x→f x=r→C):C:=by
 cases o with
 | none=>exact kn rfl h
 | some x=>exact ks x rfl h
@[reducible] def TM {X:Type} (o:Option X) (A:AV→Heap→Prop) (B:X→AV→Heap→Prop):AV→Heap→Prop:=match o with
  | none=>A
  | some x=>B x
def T4 {wh BW BX BY:Type} (H:wh→BW→BX→BY→Heap) (V:wh→BW→BX→BY→AV):AV→Heap→Prop:=fun v h=>∃ b0 b1 b2 b3,h=H b0 b1 b2 b3∧v=V b0 b1 b2 b3
def T5 {wh BW BX BY Hn:Type} (H:wh→BW→BX→BY→Hn→Heap) (V:wh→BW→BX→BY→Hn→AV):AV→Heap→Prop:=fun v h=>∃ b0 b1 b2 b3 b4,h=H b0 b1 b2 b3 b4∧v=V b0 b1 b2 b3 b4
def R1 {wh BW BX BY Hn NU NV NW NX NY:Type} (H:wh→BW→BX→BY→Hn→NU→NV→NW→NX→NY→Heap) (V:wh→BW→BX→BY→Hn→NU→NV→NW→NX→NY→AV):AV→Heap→Prop:=fun v h=>∃ b0 b1 b2 b3 b4 b5 b6 b7 b8 b9,h=H b0 b1 b2 b3 b4 b5 b6 b7 b8 b9∧v=V b0 b1 b2 b3 b4 b5 b6 b7 b8 b9
section rules
variable {P:Program} {all:Array Oper} {rest:List Oper} {n:Nat} {tm:List (Nat×AV)} {hp:Heap} {Q:St→Prop} {d:Nat} {ty:TypeId} {pos:String} {af:Array Edge}
theorem Au {wh BW BX BY:Type} {f:FuncId} {args:List Operand} {ts:Array TypeId} {l l':List AV} {h0 hr:Heap} {H H':wh→BW→BX→BY→Heap} {V:wh→BW→BX→BY→AV} [bw P f] (hl:wZ tm args=some l) (c:aF P f l' h0 (T4 H V)) (co:vk hp l l') (hs:BF hp h0 hr) (ha:∀ b0 b1 b2 b3,pT (H b0 b1 b2 b3) hr=some (H' b0 b1 b2 b3)) (hn:Nat.blt d n=true)
 (kk:∀ b0 b1 b2 b3,ae P all rest ⟨n,(d,V b0 b1 b2 b3) :: tm,H' b0 b1 b2 b3⟩ Q):ae P all (⟨some d,.call {callee:=.value (.func f),args:=args.toArray,argTypes:=ts},ty,pos,af,none⟩ :: rest) ⟨n,tm,hp⟩ Q:=
 xz hl c co hs hn (fun r h' ⟨b0,b1,b2,b3,e1,e2⟩=>by subst e1;subst e2;rw [lV (ha b0 b1 b2 b3)];exact kk b0 b1 b2 b3)
theorem Av {wh BW BX BY Hn:Type} {f:FuncId} {args:List Operand} {ts:Array TypeId} {l l':List AV} {h0 hr:Heap} {H H':wh→BW→BX→BY→Hn→Heap} {V:wh→BW→BX→BY→Hn→AV} [bw P f] (hl:wZ tm args=some l) (c:aF P f l' h0 (T5 H V)) (co:vk hp l l') (hs:BF hp h0 hr) (ha:∀ b0 b1 b2 b3 b4,pT (H b0 b1 b2 b3 b4) hr=some (H' b0 b1 b2 b3 b4)) (hn:Nat.blt d n=true)
 (kk:∀ b0 b1 b2 b3 b4,ae P all rest ⟨n,(d,V b0 b1 b2 b3 b4) :: tm,H' b0 b1 b2 b3 b4⟩ Q):ae P all (⟨some d,.call {callee:=.value (.func f),args:=args.toArray,argTypes:=ts},ty,pos,af,none⟩ :: rest) ⟨n,tm,hp⟩ Q:=
 xz hl c co hs hn (fun r h' ⟨b0,b1,b2,b3,b4,e1,e2⟩=>by subst e1;subst e2;rw [lV (ha b0 b1 b2 b3 b4)];exact kk b0 b1 b2 b3 b4)
theorem BZ {wh BW BX BY Hn NU NV NW NX NY:Type} {f:FuncId} {args:List Operand} {ts:Array TypeId} {l l':List AV} {h0 hr:Heap} {H H':wh→BW→BX→BY→Hn→NU→NV→NW→NX→NY→Heap} {V:wh→BW→BX→BY→Hn→NU→NV→NW→NX→NY→AV} [bw P f] (hl:wZ tm args=some l) (c:aF P f l' h0 (R1 H V)) (co:vk hp l l') (hs:BF hp h0 hr) (ha:∀ b0 b1 b2 b3 b4 b5 b6 b7 b8 b9,pT (H b0 b1 b2 b3 b4 b5 b6 b7 b8 b9) hr=some (H' b0 b1 b2 b3 b4 b5 b6 b7 b8 b9)) (hn:Nat.blt d n=true)
 (kk:∀ b0 b1 b2 b3 b4 b5 b6 b7 b8 b9,ae P all rest ⟨n,(d,V b0 b1 b2 b3 b4 b5 b6 b7 b8 b9) :: tm,H' b0 b1 b2 b3 b4 b5 b6 b7 b8 b9⟩ Q):ae P all (⟨some d,.call {callee:=.value (.func f),args:=args.toArray,argTypes:=ts},ty,pos,af,none⟩ :: rest) ⟨n,tm,hp⟩ Q:=
 xz hl c co hs hn (fun r h' ⟨b0,b1,b2,b3,b4,b5,b6,b7,b8,b9,e1,e2⟩=>by subst e1;subst e2;rw [lV (ha b0 b1 b2 b3 b4 b5 b6 b7 b8 b9)];exact kk b0 b1 b2 b3 b4 b5 b6 b7 b8 b9)
end rules
section rules
variable {P:Program} {all:Array Oper} {n:Nat} {B:Heap} {tk:List Tok} {dy:List Nat} {i:Nat} {rest:List Oper} {tm nB:List (Nat×AV)} {acc:(Nat→Bk)→List (Nat×AV)} {Q:(Nat→Bk)→List (Nat×AV)→Prop} {d:Nat} {ty:TypeId} {pos:String} {af:Array Edge} {op:Op}
end rules
theorem qH (b:Bk) (es:List (Bk×PO)) (n:Nat):n∈eb (b,.bM es)↔b.bY=some n∨∃ e∈es,e.1.bY=some n:=by
 simp [eb,Ob.more,List.mem_filterMap]
theorem w9 (e:Bk×PO):eb (e.1,e.2.ob)=e.1.bY.toList:=by
 obtain ⟨b,o⟩:=e
 cases o<;>simp [eb,Ob.more,PO.ob]
theorem zA {w:World} {S:Nat→Prop} {hp bU:Heap} {bp:Bk} {es um:List (Bk×PO)} {x:Bk×PO} (r:bZ w S hp) (u:jY hp bp (.bM es) bp (.bM um) bU) (kr:es.Perm (x :: um)):
 bZ w S ((x.1,x.2.ob) :: bU)∧iF w S hp w S ((x.1,x.2.ob) :: bU):=by
 obtain ⟨p,q,rfl,rfl⟩:=u.split
 obtain ⟨zb,iW⟩:bp.bY=none∧∀ e∈es,lx w S e.1 e.2:=r.holds (bp,.bM es) (aY.2 (.inl rfl))
 have pG:∀ e∈um,e∈es:=fun e he=>kr.mem_iff.2 (List.mem_cons_of_mem _ he)
 have hx:x∈es:=kr.mem_iff.2 (by simp)
 have LG:x.2.ob.vV↔False:=by cases x.2<;>exact Iff.rfl
 have xN:∀ n,n∈eb (bp,.bM es)↔n∈eb (x.1,x.2.ob)∨n∈eb (bp,.bM um):=by
  intro n
  rw [qH,qH,w9,zb]
  constructor
  ·rintro (h | ⟨e,he,hn⟩)
   ·cases h
   ·rcases List.mem_cons.1 (kr.mem_iff.1 he) with rfl | he
    ·exact .inl (by simp [hn])
    ·exact .inr (.inr ⟨e,he,hn⟩)
  ·rintro (h | h | ⟨e,he,hn⟩)
   ·exact .inr ⟨x,hx,by simpa using h⟩
   ·cases h
   ·exact .inr ⟨e,pG e he,hn⟩
 have Dl:∀ n,Has ((x.1,x.2.ob) :: (p++(bp,.bM um) :: q)) n↔Has (p++(bp,.bM es) :: q) n:=by
  intro n
  constructor
  ·rintro ⟨e,he,hn⟩
   rcases List.mem_cons.1 he with rfl | he
   ·exact ⟨_,aY.2 (.inl rfl),(xN n).2 (.inl hn)⟩
   ·rcases aY.1 he with rfl | he
    ·exact ⟨_,aY.2 (.inl rfl),(xN n).2 (.inr hn)⟩
    ·exact ⟨e,aY.2 (.inr he),hn⟩
  ·rintro ⟨e,he,hn⟩
   rcases aY.1 he with rfl | he
   ·rcases (xN n).1 hn with h | h
    ·exact ⟨_,List.mem_cons_self,h⟩
    ·exact ⟨_,List.mem_cons_of_mem _ (aY.2 (.inl rfl)),h⟩
   ·exact ⟨e,List.mem_cons_of_mem _ (aY.2 (.inr he)),hn⟩
 have Qq:(((x.1,x.2.ob) :: (p++(bp,.bM um) :: q)).flatMap eb).Perm ((p++(bp,.bM es) :: q).flatMap eb):=by
  have e1:(eb (bp,.bM es)).Perm (eb (x.1,x.2.ob)++eb (bp,.bM um)):=by
   rw [w9]
   simp only [eb,Ob.more,zb,Option.toList_none,List.nil_append]
   refine (kr.filterMap _).trans ?_
   rw [List.filterMap_cons]
   cases x.1.bY<;>simp
  rw [List.flatMap_cons,List.flatMap_append,List.flatMap_append,List.flatMap_cons,List.flatMap_cons]
  refine List.Perm.trans ?_ ((e1.symm.append_right _).append_left _)
  rw [← List.append_assoc,← List.append_assoc,← List.append_assoc,← List.append_assoc]
  refine (List.Perm.append_right _ ?_)
  exact (List.perm_append_comm.append_right _)
 refine ⟨⟨(Qq.nodup_iff).2 r.nodup,?_,?_,r.slt,r.fU⟩,⟨rfl,rfl,rfl,Nat.le_refl _,fun n hn=>⟨hn,rfl⟩,fun n _ _=>⟨rfl,id⟩,fun n hn=>.inl ((Dl n).1 hn),fun _=>Nat.le_refl _⟩⟩
 ·intro e he
  rcases List.mem_cons.1 he with rfl | he
  ·exact lx.ob.1 (iW x hx)
  ·rcases aY.1 he with rfl | he
   ·exact ⟨zb,fun e he=>iW e (pG e he)⟩
   ·exact r.holds e (aY.2 (.inr he))
 ·intro e he n hn
  rcases List.mem_cons.1 he with rfl | he
  ·have:=r.sep (bp,.bM es) (aY.2 (.inl rfl)) n ((xN n).2 (.inl hn))
   exact ⟨fun h=>(this.1 h).elim,fun h=>(LG.1 h).elim⟩
  ·rcases aY.1 he with rfl | he
   ·have:=r.sep (bp,.bM es) (aY.2 (.inl rfl)) n ((xN n).2 (.inr hn))
    exact ⟨fun h=>(this.1 h).elim,fun h=>h.elim⟩
   ·exact r.sep e (aY.2 (.inr he)) n hn
theorem xO {w:World} {S:Nat→Prop} {hp tc bU:Heap} {bp:Bk} {es um:List (Bk×PO)} {x:Bk×PO} (r:bZ w S hp) (dl:ui hp x.1 x.2.ob tc) (u:jY tc bp (.bM es) bp (.bM um) bU) (kr:um.Perm (x :: es)):
 bZ w S bU∧iF w S hp w S bU:=by
 obtain ⟨p0,q0,rfl,rfl⟩:=dl.split
 have r1:bZ w S ((x.1,x.2.ob) :: (p0++q0)):=by
  refine ⟨?_,fun e he=>r.holds e (aY.2 (by simpa using he)),fun e he=>r.sep e (aY.2 (by simpa using he)),r.slt,r.fU⟩
  refine ((List.Perm.flatMap_right eb ?_).nodup_iff).1 r.nodup
  exact List.perm_middle
 generalize hq:p0++q0=h1 at u r1
 obtain ⟨p,q,rfl,rfl⟩:=u.split
 obtain ⟨zb,iW⟩:bp.bY=none∧∀ e∈es,lx w S e.1 e.2:=r1.holds (bp,.bM es) (List.mem_cons_of_mem _ (aY.2 (.inl rfl)))
 have Vm:lx w S x.1 x.2:=lx.ob.2 (r1.holds (x.1,x.2.ob) (by simp))
 have LG:x.2.ob.vV↔False:=by cases x.2<;>exact Iff.rfl
 have xN:∀ n,n∈eb (bp,.bM um)↔n∈eb (x.1,x.2.ob)∨n∈eb (bp,.bM es):=by
  intro n
  rw [qH,qH,w9,zb]
  constructor
  ·rintro (h | ⟨e,he,hn⟩)
   ·cases h
   ·rcases List.mem_cons.1 (kr.mem_iff.1 he) with rfl | he
    ·exact .inl (by simp [hn])
    ·exact .inr (.inr ⟨e,he,hn⟩)
  ·rintro (h | h | ⟨e,he,hn⟩)
   ·exact .inr ⟨x,kr.mem_iff.2 (by simp),by simpa using h⟩
   ·cases h
   ·exact .inr ⟨e,kr.mem_iff.2 (List.mem_cons_of_mem _ he),hn⟩
 have e1:(eb (bp,.bM um)).Perm (eb (x.1,x.2.ob)++eb (bp,.bM es)):=by
  rw [w9]
  simp only [eb,Ob.more,zb,Option.toList_none,List.nil_append]
  refine (kr.filterMap _).trans ?_
  rw [List.filterMap_cons]
  cases x.1.bY<;>simp
 have Qq:(((x.1,x.2.ob) :: (p++(bp,.bM es) :: q)).flatMap eb).Perm ((p++(bp,.bM um) :: q).flatMap eb):=by
  rw [List.flatMap_cons,List.flatMap_append,List.flatMap_append,List.flatMap_cons,List.flatMap_cons]
  refine List.Perm.trans ?_ ((e1.symm.append_right _).append_left _)
  rw [← List.append_assoc,← List.append_assoc,← List.append_assoc,← List.append_assoc]
  refine (List.Perm.append_right _ ?_)
  exact (List.perm_append_comm.append_right _)
 have Dl:∀ n,Has (p++(bp,.bM um) :: q) n→Has ((x.1,x.2.ob) :: (p++(bp,.bM es) :: q)) n:=by
  rintro n ⟨e,he,hn⟩
  rcases aY.1 he with rfl | he
  ·rcases (xN n).1 hn with h | h
   ·exact ⟨_,List.mem_cons_self,h⟩
   ·exact ⟨_,List.mem_cons_of_mem _ (aY.2 (.inl rfl)),h⟩
  ·exact ⟨e,List.mem_cons_of_mem _ (aY.2 (.inr he)),hn⟩
 have NZ:∀ n,Has ((x.1,x.2.ob) :: (p++(bp,.bM es) :: q)) n→Has (p0++(x.1,x.2.ob) :: q0) n:=fun n hn=>by
  obtain ⟨e,he,pE⟩:=hn
  refine ⟨e,aY.2 ?_,pE⟩
  rw [hq]
  simpa using he
 refine ⟨⟨(Qq.nodup_iff).1 r1.nodup,?_,?_,r.slt,r.fU⟩,⟨rfl,rfl,rfl,Nat.le_refl _,fun n hn=>⟨hn,rfl⟩,fun n _ _=>⟨rfl,id⟩,fun n hn=>.inl (NZ n (Dl n hn)),fun _=>Nat.le_refl _⟩⟩
 ·intro e he
  rcases aY.1 he with rfl | he
  ·refine ⟨zb,fun e he=>?_⟩
   rcases List.mem_cons.1 (kr.mem_iff.1 he) with rfl | he
   ·exact Vm
   ·exact iW e he
  ·exact r1.holds e (List.mem_cons_of_mem _ (aY.2 (.inr he)))
 ·intro e he n hn
  rcases aY.1 he with rfl | he
  ·refine ⟨fun hs=>?_,fun h=>h.elim⟩
   rcases (xN n).1 hn with h | h
   ·exact LG.1 ((r1.sep _ (by simp) n h).1 hs)
   ·exact (r1.sep (bp,.bM es) (List.mem_cons_of_mem _ (aY.2 (.inl rfl))) n h).1 hs
  ·exact r1.sep e (List.mem_cons_of_mem _ (aY.2 (.inr he))) n hn
structure Kept (V:Type) where
 val:Bk→V→AV
 po:V→PO
def iP {E:Type} (sz:Nat) (g:E→AV):Kept (List E):=⟨fun b v=>.sl sz b 0 v.length,fun v=>.arr sz (v.map g)⟩
section plain
variable {K V:Type}
def B0 (gk:K→AV) (kp:Kept V) (β:K→Bk) (M:List (K×V)):List (AV×AV):=M.map fun e=>(gk e.1,kp.val (β e.1) e.2)
def iv (kp:Kept V) (β:K→Bk) (M:List (K×V)):List (Bk×PO):=M.map fun e=>(β e.1,kp.po e.2)
def lF (β:K→Bk) (M:List (K×V)):List (K×(Bk×V)):=M.map fun e=>(e.1,(β e.1,e.2))
theorem qI (gk:K→AV) (kp:Kept V) (β:K→Bk) (M:List (K×V)):B0 gk kp β M=(lF β M).map fun e=>(gk e.1,kp.val e.2.1 e.2.2):=by
 unfold B0 lF;rw [List.map_map];rfl
variable [DecidableEq K]
def eG (β:K→Bk) (k:K) (b:Bk):K→Bk:=fun k'=>if k'=k then b else β k'
theorem Fo (β:K→Bk) (M:List (K×V)) (k:K):ch (lF β M) k=(ch M k).map fun v=>(β k,v):=by
 induction M with
 | nil=>rfl
 | cons e r ih=>
   show (if e.1=k then some (β e.1,e.2) else ch (lF β r) k)=(if e.1=k then some e.2 else ch r k).map _
   rw [ih]
   split
   ·rename_i h;rw [h];rfl
   ·rfl
theorem xP {M:List (K×V)} {k:K} {v:V} (hn:(M.map Prod.fst).Nodup) (h:ch M k=some v):M.Perm ((k,v) :: iY M k):=by
 induction M with
 | nil=>cases h
 | cons e r ih=>
   rw [List.map_cons,List.nodup_cons] at hn
   unfold ch at h
   unfold iY
   rw [List.filter_cons]
   split at h
   ·rename_i hk
    obtain rfl:=Option.some.inj h
    rw [if_neg (by simp [hk])]
    have:r.filter (fun e=>decide (e.1≠k))=r:=List.filter_eq_self.2 fun x hx=>by
     simp only [ne_eq,decide_not,Bool.not_eq_true',decide_eq_false_iff_not]
     intro Vn
     exact hn.1 (List.mem_map.2 ⟨x,hx,by rw [Vn,hk]⟩)
    rw [this,← hk]
   ·rename_i hk
    rw [if_pos (by simp [hk])]
    exact (List.Perm.cons e (ih hn.2 h)).trans (List.Perm.swap _ _ _)
theorem xQ (M:List (K×V)) (k:K):∀ e∈iY M k,e.1≠k:=fun e he=>by
 have:=(List.mem_filter.1 he).2
 simpa using this
theorem Fp (kp:Kept V) (β:K→Bk) (k:K) (b:Bk) {M:List (K×V)} (h:∀ e∈M,e.1≠k):iv kp (eG β k b) M=iv kp β M:=by
 unfold iv
 exact List.map_congr_left fun e he=>by unfold eG;rw [if_neg (h e he)]
variable [tu K]
theorem oJ (M:List (K×V)) (k:K) (v:V):(bT M k v).Perm ((k,v) :: iY M k):=pW k v _
theorem Fq (kp:Kept V) (β:K→Bk) (k:K) (b:Bk) (M:List (K×V)) (v:V):(iv kp (eG β k b) (bT M k v)).Perm ((b,kp.po v) :: iv kp β (iY M k)):=by
 refine ((oJ M k v).map _).trans ?_
 rw [List.map_cons]
 have e1:(iY M k).map (fun e=>(eG β k b e.1,kp.po e.2))=iv kp β (iY M k):=Fp kp β k b (xQ M k)
 rw [e1]
 have:eG β k b k=b:=by unfold eG;rw [if_pos rfl]
 rw [this]
end plain
theorem xR {K V:Type} {gk:K→AV} {kp:Kept V} {β:K→Bk} {w:World} {S:Nat→Prop} {hp:Heap} {b:Bk} {M:List (K×V)} (Hj:∀ a b,gk a=gk b→a=b) (r:bZ w S hp) (f:ki hp b (.mp (B0 gk kp β M))):(M.map Prod.fst).Nodup:=by
 rw [qI] at f
 obtain ⟨L,c,M',n,eF,p1,_,_,_,_,_,_,p8⟩:=sP (gv:=fun p:Bk×V=>kp.val p.1 p.2) Hj r f
 have:=(p1.map Prod.fst).nodup_iff.1 p8
 unfold lF at this
 rw [List.map_map] at this
 exact this
theorem B1 {hp bU:Heap} {b:Bk} {o o':Ob} (u:jY hp b o b o' bU) (h:o=o'):hp=bU:=by
 obtain ⟨p,q,rfl,rfl⟩:=u.split
 rw [h]
section rules
variable {P:Program} {all:Array Oper} {rest:List Oper} {n:Nat} {tm:List (Nat×AV)} {hp:Heap} {Q:St→Prop} {d:Nat} {ty:TypeId} {pos:String} {af:Array Edge}
theorem Fs {K E:Type} [DecidableEq K] {gk:K→AV} {sz:Nat} {g:E→AV} {β:K→Bk} {M:List (K×List E)} {key:K} {xs:List E} {t kt vt:TypeId} {i:TypeInfo} {x y:Operand} {bm bp:Bk} {bU:Heap} [ax P t (.map kt vt)] [aV P vt i] [fI P kt gk] (hx:cx tm x=some (.ct bm)) (hy:cx tm y=some (gk key)) (f:ki hp bm (.mp (B0 gk (iP sz g) β M))) (u:jY hp bp (.bM (iv (iP sz g) β M)) bp (.bM (iv (iP sz g) β (iY M key))) bU) (hz:i.zero=some (.slice none 0 0)) (h:nD M key []=some xs) (hn:Nat.blt d n=true)
 (kk:∀ b,(∀ v,ch M key=some v→b=β key∧v=xs)→ae P all rest ⟨n,(d,.sl sz b 0 xs.length) :: tm,(b,.arr sz (xs.map g)) :: bU⟩ Q):ae P all (⟨some d,.lookup t x y false,ty,pos,af,none⟩ :: rest) ⟨n,tm,hp⟩ Q:=by
 refine ae.Gr rfl fun w S a r=>?_
 have wE:=xR (fI.inj P kt) r.hp f
 have kx:=bf (σ:=⟨n,tm,hp⟩) r hx
 have ky:=bf (σ:=⟨n,tm,hp⟩) r hy
 obtain ⟨nb,hb,ex⟩:=kx.oT
 have f':=f
 rw [qI] at f'
 obtain ⟨L,c,M',C0,eF,p1,p2,p3,p4,p5,p6,p7,p8⟩:=sP (gv:=fun p:Bk×List E=>(iP sz g).val p.1 p.2) (fI.inj P kt) r.hp f'
 obtain rfl:C0=nb:=by rw [p4] at hb;exact Option.some.inj hb
 have oU:=fI.find (P:=P) (t:=kt) (g:=gk) ky eF.toList (M'.map Prod.fst) (by simpa using p6.symm) (fun j k' e h1 h2=>by
  rw [List.getElem?_map] at h1
  cases hm:M'[j]? with
  | none=>rw [hm] at h1;cases h1
  | some q=>rw [hm] at h1;rw [← Option.some.inj h1];exact (p7 j q e hm h2).1)
 have Ju:=mL p1 p8 key
 rw [Fo] at Ju
 have hv:=Option.some.inj h
 rcases qG (gv:=fun p:Bk×List E=>(iP sz g).val p.1 p.2) (w:=w) (S:=S) (k:=key) M' eF.toList 0 p6.symm (fun j e m h1 h2=>(p7 j e m h1 h2).2) with ⟨q1,q2⟩ | ⟨v',j,val,q1,q2,q3,_⟩
 ·
  rw [q1] at Ju
  have yP:ch M key=none:=by
   cases hc:ch M key with
   | none=>rfl
   | some v=>rw [hc] at Ju;cases Ju
  rw [yP,Option.getD_none] at hv
  subst hv
  have zu:=B1 u (by rw [sN yP])
  obtain ⟨g1,g2,g3⟩:=nf (b:=⟨none,0⟩) (o:=.arr sz (([]:List E).map g)) r.hp (Ext.refl w) id ⟨by simp,by simp,.inl ⟨rfl,rfl⟩⟩ (.inl rfl)
  refine ⟨.slice none 0 0,w,S,⟨n,(d,.sl sz ⟨none,0⟩ 0 0) :: tm,(⟨none,0⟩,.arr sz (([]:List E).map g)) :: bU⟩,?_,?_,?_,kk ⟨none,0⟩ (fun v hv=>by rw [yP] at hv;cases hv)⟩
  ·simp [execOp,Instr.lookup,ex,run_underlying (ax.h (P:=P) (t:=t)),gM p5,fI.check (P:=P) (t:=kt) ky,oU,q2,zeroValue,typeInfo,aV.h (P:=P) (t:=vt),hz]
  ·rw [← zu]
   exact (r.heap g3 g1).put hn (.xh sz _ rfl)
  ·rw [← zu];exact g2
 ·rw [q1] at Ju
  obtain ⟨v,Pg⟩:∃ v,ch M key=some v:=by
   cases hc:ch M key with
   | none=>rw [hc] at Ju;cases Ju
   | some v=>exact ⟨v,rfl⟩
  rw [Pg,Option.getD_some] at hv
  subst hv
  rw [Pg] at Ju
  have Ql:v'=(β key,v):=Option.some.inj Ju
  subst Ql
  have KP:(iv (iP sz g) β M).Perm ((β key,.arr sz (v.map g)) :: iv (iP sz g) β (iY M key)):=((xP wE Pg).map _)
  obtain ⟨g1,g2⟩:=zA r.hp u KP
  refine ⟨val,w,S,⟨n,(d,.sl sz (β key) 0 v.length) :: tm,(β key,.arr sz (v.map g)) :: bU⟩,?_,(r.heap (fun m hm=>⟨hm,rfl⟩) g1).put hn q3,g2,kk (β key) (fun v2 O5=>⟨rfl,by rw [Pg] at O5;exact (Option.some.inj O5).symm⟩)⟩
  simp [execOp,Instr.lookup,ex,run_underlying (ax.h (P:=P) (t:=t)),gM p5,fI.check (P:=P) (t:=kt) ky,oU,q2]
end rules
theorem aj.Ho {n:Nat} {tm:List (Nat×AV)} {hp tc bU:Heap} {T:St→Prop} {K E:Type} [DecidableEq K] {gk:K→AV} {sz:Nat} {g:E→AV} {β:K→Bk} {M:List (K×List E)} {key:K} {xs:List E} {b bm bp:Bk} (Hj:∀ a b,gk a=gk b→a=b) (h:nD M key []=some xs) (hb:∀ v,ch M key=some v→b=β key∧v=xs) (f:ki hp bm (.mp (B0 gk (iP sz g) β M))) (dl:ui hp b (.arr sz (xs.map g)) tc) (u:jY tc bp (.bM (iv (iP sz g) β (iY M key))) bp (.bM (iv (iP sz g) β M)) bU) (k:aj ⟨n,tm,bU⟩ T):aj ⟨n,tm,hp⟩ T:=by
 refine aj.step (wW:=⟨n,tm,bU⟩) (fun w S a r=>?_) k
 have wE:=xR Hj r.hp f
 cases hc:ch M key with
 | none=>
   have zu:=B1 u (by rw [sN hc])
   have hs:tc.Sublist hp:=by
    obtain ⟨p,q,rfl,rfl⟩:=dl.split
    exact List.Sublist.append (List.Sublist.refl _) (List.sublist_cons_self _ _)
   rw [← zu]
   exact ⟨_,S,rfl,r.less ⟨rfl,fun _ _ h=>h,hs⟩,iF.less (iF.refl w S hp) fun _ hn=>hn.sub hs⟩
 | some v=>
   obtain ⟨rfl,rfl⟩:=hb v hc
   have KP:(iv (iP sz g) β M).Perm ((β key,.arr sz (v.map g)) :: iv (iP sz g) β (iY M key)):=((xP wE hc).map _)
   obtain ⟨g1,g2⟩:=xO (x:=(β key,.arr sz (v.map g))) r.hp dl u KP
   exact ⟨_,S,rfl,r.heap (fun m hm=>⟨hm,rfl⟩) g1,g2⟩
theorem Dm {K V:Type} [DecidableEq K] (β:K→Bk) (M:List (K×V)) (k:K):iY (lF β M) k=lF β (iY M k):=by
 unfold iY lF
 rw [List.filter_map]
 rfl
theorem xS {K V:Type} [tu K] (β:K→Bk) (k:K) (b:Bk) (v:V) (hk:β k=b):∀ M:List (K×V),tb k (b,v) (lF β M)=lF β (tb k v M)
 | []=>by simp [tb,lF,hk]
 | e :: r=>by
   show tb k (b,v) ((e.1,(β e.1,e.2)) :: lF β r)=lF β (tb k v (e :: r))
   unfold tb
   by_cases h:tu.lt e.1 k=true
   ·rw [if_pos h,if_pos h,xS β k b v hk r];rfl
   ·rw [if_neg h,if_neg h];simp [lF,hk]
theorem Ft {K V:Type} [DecidableEq K] (β:K→Bk) (k:K) (b:Bk) {M:List (K×V)} (h:∀ e∈M,e.1≠k):lF (eG β k b) M=lF β M:=by
 unfold lF
 exact List.map_congr_left fun e he=>by unfold eG;rw [if_neg (h e he)]
theorem Dn {K V:Type} [DecidableEq K] [tu K] (β:K→Bk) (M:List (K×V)) (k:K) (b:Bk) (v:V):bT (lF β M) k (b,v)=lF (eG β k b) (bT M k v):=by
 unfold bT
 rw [Dm,← Ft β k b (xQ M k),xS _ _ _ _ (by unfold eG;rw [if_pos rfl])]
section rules
variable {P:Program} {all:Array Oper} {rest:List Oper} {n:Nat} {tm:List (Nat×AV)} {hp:Heap} {Q:St→Prop} {d:Nat} {ty:TypeId} {pos:String} {af:Array Edge}
theorem p9 {K V:Type} [DecidableEq K] [tu K] {gk:K→AV} {kp:Kept V} {β:K→Bk} {M:List (K×V)} {key:K} {v:V} {t kt vt:TypeId} {x y z:Operand} {b bm:Bk} {bU:Heap} {av:AV} [ax P t (.map kt vt)] [fI P kt gk] (hx:cx tm x=some (.ct bm)) (hy:cx tm y=some (gk key)) (hz:cx tm z=some av) (nz:av=kp.val b v) (u:jY hp bm (.mp (B0 gk kp β M)) bm (.mp (B0 gk kp (eG β key b) (bT M key v))) bU)
 (kk:ae P all rest ⟨n,tm,bU⟩ Q):ae P all (⟨none,.insert t x y z,ty,pos,af,none⟩ :: rest) ⟨n,tm,hp⟩ Q:=by
 rw [qI,qI,← Dn] at u
 exact Hl (gk:=gk) (gv:=fun p:Bk×V=>kp.val p.1 p.2) (M:=lF β M) (key:=key) (v:=(b,v)) hx hy hz nz u kk
end rules
theorem aj.uH {n:Nat} {tm:List (Nat×AV)} {hp tc bU:Heap} {T:St→Prop} {K V:Type} [DecidableEq K] [tu K] {kp:Kept V} {β:K→Bk} {M:List (K×V)} {key:K} {v:V} {b bp:Bk} {o:Ob} (ho:o=(kp.po v).ob) (dl:ui hp b o tc) (u:jY tc bp (.bM (iv kp β (iY M key))) bp (.bM (iv kp (eG β key b) (bT M key v))) bU) (k:aj ⟨n,tm,bU⟩ T):aj ⟨n,tm,hp⟩ T:=by
 refine aj.step (wW:=⟨n,tm,bU⟩) (fun w S a r=>?_) k
 subst ho
 obtain ⟨g1,g2⟩:=xO (x:=(b,kp.po v)) r.hp dl u (Fq kp β key b M v)
 exact ⟨_,S,rfl,r.heap (fun m hm=>⟨hm,rfl⟩) g1,g2⟩
theorem aj.sf {n:Nat} {tm:List (Nat×AV)} {hp bU:Heap} {T:St→Prop} {K V:Type} [DecidableEq K] {kp:Kept V} {β:K→Bk} {M:List (K×V)} (key:K) {bp:Bk} (u:jY hp bp (.bM (iv kp β M)) bp (.bM (iv kp β (iY M key))) bU) (k:aj ⟨n,tm,bU⟩ T):aj ⟨n,tm,hp⟩ T:=by
 refine aj.step (wW:=⟨n,tm,bU⟩) (fun w S a r=>?_) k
 obtain ⟨p,q,rfl,rfl⟩:=u.split
 have pG:(iv kp β (iY M key)).Sublist (iv kp β M):=(List.filter_sublist).map _
 have nA:(bp,Ob.bM (iv kp β M))∈p++(bp,.bM (iv kp β M)) :: q:=aY.2 (.inl rfl)
 have R2:∀ n,n∈eb (bp,.bM (iv kp β (iY M key)))→n∈eb (bp,.bM (iv kp β M)):=fun n hn=>by
  rw [qH] at hn ⊢
  exact hn.imp id fun ⟨e,he,h⟩=>⟨e,pG.subset he,h⟩
 have LH:(eb (bp,.bM (iv kp β (iY M key)))).Sublist (eb (bp,.bM (iv kp β M))):=by
  unfold eb Ob.more
  exact List.Sublist.append (List.Sublist.refl _) (pG.filterMap _)
 have tM:bZ w S (p++(bp,.bM (iv kp β (iY M key))) :: q):=by
  refine ⟨?_,?_,?_,r.hp.slt,r.hp.fU⟩
  ·have:=r.hp.nodup
   rw [List.flatMap_append,List.flatMap_cons] at this ⊢
   exact this.sublist (List.Sublist.append (List.Sublist.refl _) (List.Sublist.append LH (List.Sublist.refl _)))
  ·intro e he
   rcases aY.1 he with rfl | he
   ·obtain ⟨h0,h1⟩:bp.bY=none∧∀ e∈iv kp β M,lx w S e.1 e.2:=r.hp.holds _ nA
    exact ⟨h0,fun e he=>h1 e (pG.subset he)⟩
   ·exact r.hp.holds e (aY.2 (.inr he))
  ·intro e he n hn
   rcases aY.1 he with rfl | he
   ·have:=r.hp.sep _ nA n (R2 n hn)
    exact ⟨fun h=>(this.1 h).elim,fun h=>h.elim⟩
   ·exact r.hp.sep e (aY.2 (.inr he)) n hn
 refine ⟨_,S,rfl,r.heap (fun m hm=>⟨hm,rfl⟩) tM,rfl,rfl,rfl,Nat.le_refl _,fun n hn=>⟨hn,rfl⟩,fun n _ _=>⟨rfl,id⟩,fun n hn=>.inl ?_,fun _=>Nat.le_refl _⟩
 obtain ⟨e,he,hn⟩:=hn
 rcases aY.1 he with rfl | he
 ·exact ⟨_,nA,R2 n hn⟩
 ·exact ⟨e,aY.2 (.inr he),hn⟩
section rules
variable {P:Program} {all:Array Oper} {rest:List Oper} {n:Nat} {tm:List (Nat×AV)} {hp:Heap} {Q:St→Prop} {d:Nat} {ty:TypeId} {pos:String} {af:Array Edge}
theorem Dp {K V:Type} {gk:K→AV} {kp:Kept V} {β:K→Bk} {t:TypeId} (hn:Nat.blt d n=true) (kk:∀ b bp:Bk,ae P all rest ⟨n,(d,.ct b) :: tm,(b,.mp (B0 gk kp β [])) :: (bp,.bM (iv kp β [])) :: hp⟩ Q):ae P all (⟨some d,.makeMap t none,ty,pos,af,none⟩ :: rest) ⟨n,tm,hp⟩ Q:=by
 have g:ae P all (⟨some d,.makeMap t none,ty,pos,af,none⟩ :: rest) ⟨n,tm,(⟨none,0⟩,.bM []) :: hp⟩ Q:=vA hn (fun b=>kk b ⟨none,0⟩)
 refine ae.ghost (aj.step (wW:=⟨n,tm,(⟨none,0⟩,.bM []) :: hp⟩) (fun w S a r=>?_) (aj.here g))
 obtain ⟨g1,g2,g3⟩:=nf (b:=⟨none,0⟩) (o:=.bM []) r.hp (Ext.refl w) id ⟨rfl,by simp⟩ (.inl rfl)
 exact ⟨_,S,rfl,r.heap g3 g1,g2⟩
end rules
def rowOf (o:Option Obj):Option (Array Value):=match o with
 | some (.cells vs _ _)=>some vs
 | _=>none
theorem Eg {P:Program} {w:World} {name:String} {g:Nat} (hg:P.globalNamed name=some g):w.var? P name=rowOf (w.heap[g]?):=by
 unfold World.var?
 rw [hg]
 rfl
theorem Fu (xs:List (List UInt8)):flat (xs.map AV.str)=xs.map AV.str:=pV (fun _=>rfl) xs
theorem Dq {w:World} {S:Nat→Prop} (r:bZ w S []) (xs:List (List UInt8)) (E:TypeId) {vs:Array Value} (hv:vs=(xs.map fun s=>Value.string ⟨s.toArray⟩).toArray):
 At (w.alloc (.cells vs E)) S (.sl 1 ⟨some w.heap.size,xs.length⟩ 0 xs.length) (.slice (some ⟨w.heap.size,0,none⟩) xs.length xs.length)∧
  bZ (w.alloc (.cells vs E)) S [(⟨some w.heap.size,xs.length⟩,.arr 1 (xs.map AV.str))]∧iF w S [] (w.alloc (.cells vs E)) S [(⟨some w.heap.size,xs.length⟩,.arr 1 (xs.map AV.str))]:=by
 subst hv
 have e0:=Ext.alloc w (.cells (xs.map fun s=>Value.string ⟨s.toArray⟩).toArray E)
 have hh:Holds (w.alloc (.cells (xs.map fun s=>Value.string ⟨s.toArray⟩).toArray E)) S ⟨some w.heap.size,xs.length⟩ (.arr 1 (xs.map AV.str)):=by
  refine ⟨fun x hx=>?_,by simp,.inr ⟨w.heap.size,(xs.map fun s=>Value.string ⟨s.toArray⟩).toArray,E,rfl,?_,by simp,?_⟩⟩
  ·obtain ⟨s,_,rfl⟩:=List.mem_map.1 hx
   exact ⟨rfl,fun c hc=>by rw [List.mem_singleton.1 hc];rfl⟩
  ·show (w.heap.push _)[w.heap.size]? =_
   simp
  ·rw [Fu]
   intro i c v hc hv
   simp only [List.getElem?_map,List.getElem?_toArray,Option.map_eq_some_iff] at hc hv
   obtain ⟨s,h1,rfl⟩:=hc
   obtain ⟨s',h2,rfl⟩:=hv
   rw [h1] at h2
   obtain rfl:=Option.some.inj h2
   exact .str s
 obtain ⟨k1,k2,k3⟩:=nf r e0 id hh (.inr ⟨_,rfl,Nat.le_refl _⟩)
 refine ⟨?_,k1,k2⟩
 have:=At.sl (w:=w.alloc (.cells (xs.map fun s=>Value.string ⟨s.toArray⟩).toArray E)) (S:=S) 1 ⟨some w.heap.size,xs.length⟩ 0 xs.length w.heap.size xs.length rfl (Nat.le_refl _) (by simp)
 simpa using this
def LI (k:IntKind) (zs:List Int) (o:Option Obj):Prop:=rowOf o=some (zs.map fun z=>Value.int k z).toArray
def LJ (k:IntKind) (o:Option Obj):Prop:=∃ vs m,rowOf o=some vs∧vs[0]? =some (.int k m)
def Hp (o:Option Obj):Prop:=∃ vs ev,rowOf o=some vs∧vs[0]? =some ev∧(ev=.nilIface∨∃ te pe,ev=.iface te pe)
theorem xT (w:World) (g i:Nat) {vs:Array Value} (h:rowOf (w.heap[g]?)=some vs):w.cell? ⟨g,i,none⟩=vs[i]?:=by
 unfold World.cell?
 unfold rowOf at h
 split at h
 ·rename_i yM e f ho
  obtain rfl:=Option.some.inj h
  simp [ho]
 ·cases h
def Eh:List (Nat×(Option Obj→Prop))→Nat→Option (Option Obj→Prop)
 | [],_=>none
 | (k,o) :: r,g=>if g=k then some o else Eh r g
theorem zB:∀ {l:List (Nat×(Option Obj→Prop))} {g:Nat} {o:Option Obj→Prop},Eh l g=some o→(g,o)∈l
 | [],_,_,h=>by cases h
 | (k,o') :: r,g,o,h=>by
   unfold Eh at h
   split at h
   ·rename_i hg
    rw [hg,Option.some.inj h];simp
   ·exact List.mem_cons_of_mem _ (zB h)
theorem Dr {w:World} {g:Nat} {vs:Array Value} (h:rowOf (w.heap[g]?)=some vs):g < w.heap.size:=by
 rcases Nat.lt_or_ge g w.heap.size with h' | h'
 ·exact h'
 ·rw [Array.getElem?_eq_none h'] at h;cases h
end Go.Eng
namespace Go.Eng
open Go
section errs
variable [bD] {P:Program} {all:Array Oper} {rest:List Oper} {n:Nat} {tm:List (Nat×AV)} {hp:Heap} {Q:St→Prop} {d:Nat} {ty:TypeId} {pos:String} {af:Array Edge}
def LK (e:Value) (ok:Bool):Prop:=(e=.nilIface∧ok=true)∨((∃ te pe,e=.iface te pe)∧ok=false)
def R3 (P:Program) (f:FuncId) (args:List AV) (m:Int) (ok:Bool):Prop:=aF P f args [] (fun r h=>∃ e,r=.kj [I m,.raw e]∧LK e ok)
theorem Jv {f:FuncId} {args:List Operand} {ts:Array TypeId} {l l':List AV} {m:Int} {ok:Bool} [bw P f] (hl:wZ tm args=some l) (c:R3 P f l' m ok) (co:vk hp l l') (hn:Nat.blt d n=true)
 (kk:∀ e,LK e ok→ae P all rest ⟨n,(d,.kj [I m,.raw e]) :: tm,hp⟩ Q):ae P all (⟨some d,.call {callee:=.value (.func f),args:=args.toArray,argTypes:=ts},ty,pos,af,none⟩ :: rest) ⟨n,tm,hp⟩ Q:=by
 refine D0 hl c co hn (fun r h' hr=>?_)
 obtain ⟨e,rfl,he⟩:=hr
 exact ae.weaken (aC:=⟨n,(d,.kj [I m,.raw e]) :: tm,hp⟩) ⟨rfl,fun _ _ h=>h,List.sublist_append_right _ _⟩ (kk e he)
theorem N0 {t:TypeId} {ms:Array (String×TypeId)} [ax P t (.interface ms)] (te:TypeId) (pe:Value) (w:World):(Op.equal t (.iface te pe) .nilIface).run P w=.ok false w:=by
 show (Op.equalIn (9999+1) t _ _).run P w=_
 rw [Op.equalIn]
 simp [run_underlying (ax.h (P:=P) (t:=t))]
theorem N1 {t:TypeId} {ms:Array (String×TypeId)} [ax P t (.interface ms)] (w:World):(Op.equal t .nilIface .nilIface).run P w=.ok true w:=by
 show (Op.equalIn (9999+1) t _ _).run P w=_
 rw [Op.equalIn]
 simp [run_underlying (ax.h (P:=P) (t:=t))]
theorem N2 {xt yt:TypeId} {ms:Array (String×TypeId)} {x:Operand} {e:Value} {ok:Bool} [ax P xt (.interface ms)] (he:LK e ok) (hx:cx tm x=some (.raw e)):QV P ⟨some d,.binOp .eql xt x (.const .nilIface) yt,ty,pos,af,none⟩ ⟨n,tm,hp⟩ (.bool ok):=by
 refine fun w S a r=>⟨.bool ok,fun w1 _=>?_,.bool _⟩
 have hr:=(bf (σ:=⟨n,tm,hp⟩) r hx).IT
 have hc:a.eval (.const .nilIface)=.nilIface:=rfl
 rcases he with ⟨rfl,rfl⟩ | ⟨⟨te,pe,rfl⟩,rfl⟩
 ·have h1:=N1 (P:=P) (t:=xt) w1
  simp [execOp,hr,hc,eqGuard,binOp,h1]
 ·have h1:=N0 (P:=P) (t:=xt) te pe w1
  simp [execOp,hr,hc,eqGuard,binOp,h1]
def Fv (a b:List UInt8):Option (List UInt8):=if a.length+b.length≤9223372036854775807 then some (a++b) else none
theorem Hq {xt yt:TypeId} {x y:Operand} {s t r:List UInt8} (h:Fv s t=some r) (hx:cx tm x=some (.str s)) (hy:cx tm y=some (.str t)):QV P ⟨some d,.binOp .add xt x y yt,ty,pos,af,none⟩ ⟨n,tm,hp⟩ (.str r):=by
 unfold Fv at h
 split at h
 ·rename_i hs
  obtain rfl:=Option.some.inj h
  refine fun w S a r=>⟨.string (⟨s.toArray⟩++⟨t.toArray⟩),fun w1 _=>?_,?_⟩
  ·have h1:=run_string_add_sum (P:=P) (w:=w1) (⟨s.toArray⟩:ByteArray) (⟨t.toArray⟩:ByteArray) (by simpa [ByteArray.size] using hs)
   simp [execOp,(bf (σ:=⟨n,tm,hp⟩) r hx).et,(bf (σ:=⟨n,tm,hp⟩) r hy).et,eqGuard,binOp,h1]
  ·have:((⟨s.toArray⟩:ByteArray)++⟨t.toArray⟩)=⟨(s++t).toArray⟩:=by apply ByteArray.ext;simp
   rw [this]
   exact .str _
 ·cases h
end errs
end Go.Eng
namespace Go.Eng
open Go
variable [bD]
section rules
variable {P:Program} {all:Array Oper} {rest:List Oper} {n:Nat} {tm:List (Nat×AV)} {hp:Heap} {Q:St→Prop} {d:Nat} {ty:TypeId} {pos:String} {af:Array Edge}
end rules
end Go.Eng
namespace Go.Eng
open Go Go.Lib
variable [bD]
theorem B2 {w:World} {g:Nat} {v:Value} (h:w.cell? ⟨g,0,none⟩=some v):∃ vs,rowOf (w.heap[g]?)=some vs∧vs[0]? =some v:=by
 unfold World.cell? at h
 cases ho:w.heap[g]? with
 | none=>simp [ho] at h
 | some o=>
   cases o with
   | cells vs e f=>exact ⟨vs,rfl,by simpa [ho] using h⟩
   | _=>simp [ho] at h
theorem Jw {w:World} {g:Nat} {k:IntKind} {m:Int} (h:w.cell? ⟨g,0,none⟩=some (.int k m)):g < w.heap.size∧LJ k (w.heap[g]?):=by
 obtain ⟨vs,h1,h2⟩:=B2 h
 exact ⟨Dr h1,vs,m,h1,h2⟩
theorem Jx {P:Program} {W:World} {name:String} {k:IntKind} {zs:List Int} {g:Nat} {t e:TypeId} {n:Nat}
 (hg:P.globalNamed name=some g) (Qr:(P.globals[g]?).map (·.type)=some t) (ht:P.underlying t=some (.array n e)) (he:P.underlying e=some (.int k)) (Vo:P.cellsOf e=1) (Vp:P.cellsOf t=n)
 (h:VarReads P W name (tabData k zs)):g < W.heap.size∧LI k zs (W.heap[g]?):=by
 obtain ⟨g',t',cs,fuel,p,KL,Qs,Ds,hd⟩:=h
 obtain rfl:=Option.some.inj (hg.symm.trans KL)
 obtain rfl:=Option.some.inj (Qr.symm.trans Qs)
 rw [Eg hg] at Ds
 refine ⟨Dr Ds,?_⟩
 unfold LI
 rw [Ds,← cells_of_tab ht he Vo Vp hd]
theorem Ei {P:Program} {W:World} {name:String} {d:DataW Unit} {g:Nat} {t:TypeId} {ms:Array (String×TypeId)}
 (hg:P.globalNamed name=some g) (Qr:(P.globals[g]?).map (·.type)=some t) (ht:P.underlying t=some (.interface ms)) (h:VarReads P W name d):g < W.heap.size∧Hp (W.heap[g]?):=by
 obtain ⟨g',t',cs,fuel,p,KL,Qs,Ds,hd⟩:=h
 obtain rfl:=Option.some.inj (hg.symm.trans KL)
 obtain rfl:=Option.some.inj (Qr.symm.trans Qs)
 rw [Eg hg] at Ds
 refine ⟨Dr Ds,?_⟩
 have key:∀ l:List Value,DataW.trod (fun _=>()) P W 0 (fun _=>true) false fuel t l=some (d,p)→∃ ev,l[0]? =some ev∧(ev=.nilIface∨∃ te pe,ev=.iface te pe):=by
  intro l hl
  cases fuel with
  | zero=>simp [DataW.trod] at hl
  | succ fuel=>
    unfold DataW.trod at hl
    simp only [ht] at hl
    split at hl<;>first | (exact ⟨_,rfl,.inl rfl⟩) | (exact ⟨_,rfl,.inr ⟨_,_,rfl⟩⟩) | (simp_all)
 obtain ⟨ev,h1,h2⟩:=key cs.toList hd
 exact ⟨cs,ev,Ds,by simpa using h1,h2⟩
end Go.Eng
namespace Go.Eng
open Go
variable {H:Type} {enc:TypeId×Value→H}
theorem B3 {a:Assume} {C:Checked} {os:Os} {f:FuncId} {fn:Func} {s:ChangeSpec} {conds:List PathCond} {apart fresh handsOn again:Bool} {X:World→Array Value→Prop}
 (hX:∀ (w w':World) (args:Array Value),w.heap=w'.heap→X w args→X w' args)
 (own:ownKnob C.prog.godebug=none) (started:os.Started) (LL:C.prog.inits.idxOf? f=none) (NN:C.prog.funcs[f]? =some fn)
 (witness:∃ (w:World) (tape:Tape) (i:Input),w.os=os∧(w.forCall tape i).Shaped C.prog∧i.vars=[]∧Input.okWide C.prog (w.forCall tape i) .any w.heap.size f i∧
  ((s.pre enc C.prog fn conds apart (w.forCall tape i).memory i.args∧X (w.forCall tape i).memory i.args)∧sizedMet enc C.prog fn (OpenSpec.ofChange s) apart (w.forCall tape i).memory i.args)∧a.holds C.prog (lone (Frame.enter C.prog f i.args .normal) [] (w.forCall tape i)))
 (walk:∀ (W:World) (base:Nat) (args:Array Value) (ds gs:List (DataW H)) (before:List MemPlace),
  (∀ (j:Nat) t v,fn.params[j]? =some t→args[j]? =some v→Value.okWide C.prog W .any base t v)→
  DataW.Whole enc C.prog fn.params.toList s.vars apart W args.toList ds gs before→
  conds.all (PathCond.test C.prog ⟨fn.params.toList,ds,s.plain.varTypes C.prog,gs⟩)=true→
  (DataW.weightsEach C.prog (fn.params.toList++s.plain.varTypes C.prog) (ds++gs)).all (· ≤reachBytes)=true→X W args∧W.ShapedOpen C.prog→
  a.holds C.prog (lone (Frame.enter C.prog f args .normal) [] W)→
  Calls C.prog f args W fun e W'=>∃ v,e=.returned v∧s.post enc C.prog fn apart fresh handsOn again W args v W'):
 ReturnsInHanded a C os f .any (fun w args=>(s.pre enc C.prog fn conds apart w args∧X w args)∧sizedMet enc C.prog fn (OpenSpec.ofChange s) apart w args) (s.post enc C.prog fn apart fresh handsOn again):=by
 refine returnsInHanded_of_calls own started LL witness ?_
 intro w tape i _ shaped _ ok pre held
 obtain ⟨_,_,_,YN,there,_,_,_,_,Qt⟩:=ok
 cases Option.some.inj (there.symm.trans NN)
 obtain ⟨⟨⟨ds,gs,before,whole,N3⟩,x⟩,sized⟩:=pre
 have K:=walk (w.forCall tape i) w.heap.size i.args ds gs before Qt (DataW.Whole.of_heap (w':=w.forCall tape i) (by rfl) whole) N3 (sized.weights whole) ⟨hX _ _ _ (by rfl) x,shaped⟩ held
 exact K.mono fun e W' ⟨v,he,hp⟩=>by
  subst he
  exact ChangeSpec.post_blind hp
end Go.Eng
namespace Go.Eng
open Go
variable [bD]
section rules
variable {P:Program} {all:Array Oper} {rest:List Oper} {n:Nat} {tm:List (Nat×AV)} {hp:Heap} {Q:St→Prop} {d:Nat} {ty:TypeId} {pos:String} {af:Array Edge}
end rules
def lA (s:List UInt8):List Int:=s.map fun c=>(c.toNat:Int)
theorem Fw (w:World) (e:TypeId) (s:ByteArray):Ext w (Lib.bytesWorld w e s):=by
 refine ⟨rfl,rfl,rfl,by rw [Lib.bytesWorld_size];omega,fun n hn=>Lib.bytesWorld_at_old w e s n hn,fun _=>?_⟩
 show w.drawn≤w.drawn+1
 omega
theorem bZ.one {w w':World} {S:Nat→Prop} {h:Heap} (r:bZ w S h) (e:Ext w w') (hs:w.heap.size < w'.heap.size):bZ w' (fun n=>S n∨n=w.heap.size) h∧iF w S h w' (fun n=>S n∨n=w.heap.size) h:=by
 have iO:∀ x∈h,∀ n,n∈eb x→n < w.heap.size:=fun x hx n hn=>r.lt ⟨x,hx,hn⟩
 have hk:∀ n,S n→(S n∨n=w.heap.size)∧w'.heap[n]? =w.heap[n]?:=fun n hn=>⟨.inl hn,e.same n (r.slt n hn)⟩
 refine ⟨⟨r.nodup,fun x hx=>(r.holds x hx).mono hk (fun n hn=>e.same n (iO x hx n hn)),fun x hx n hn=>⟨fun Eb=>?_,fun hf=>.inl ((r.sep x hx n hn).2 hf)⟩,fun n hn=>?_,fun g o ho=>⟨.inl (r.fU g o ho).1,xg (e.same g (r.slt g (r.fU g o ho).1)) (r.fU g o ho).2⟩⟩,
  ⟨e.os,e.tape,e.output,e.size,hk,fun n hn _=>⟨e.same n hn,fun Eb=>?_⟩,fun n hn=>.inl hn,e.drawn⟩⟩
 ·rcases Eb with h' | h'
  ·exact (r.sep x hx n hn).1 h'
  ·have:=iO x hx n hn;omega
 ·rcases hn with h' | h'
  ·exact Nat.lt_of_lt_of_le (r.slt n h') e.size
  ·omega
 ·rcases Eb with h' | h'
  ·exact h'
  ·omega
section rules
variable {P:Program} {all:Array Oper} {rest:List Oper} {n:Nat} {tm:List (Nat×AV)} {hp:Heap} {Q:St→Prop} {d:Nat} {ty:TypeId} {pos:String} {af:Array Edge}
theorem xU (k:IntKind) (xs:List Int):flat (xs.map (AV.int k))=xs.map (AV.int k):=pV (fun _=>rfl) xs
theorem Fx {src dst e:TypeId} {D:TypeDesc} {x:Operand} {s:List UInt8} [ax P src D] [ax P dst (.slice e)] [ax P e (.int .u8)] (hx:cx tm x=some (.str s)) (hn:Nat.blt d n=true)
 (kk:ae P all rest ⟨n,(d,.list 1 ((lA s).map (AV.int .u8))) :: tm,hp⟩ Q):ae P all (⟨some d,.convert src dst x,ty,pos,af,none⟩ :: rest) ⟨n,tm,hp⟩ Q:=by
 refine ae.Gr rfl fun w S a r=>?_
 have e1:=(bf (σ:=⟨n,tm,hp⟩) r hx).et
 have rZ:=Lib.run_convert_string_bytes (P:=P) w src dst e ⟨s.toArray⟩ (ax.h (P:=P) (t:=src)) (ax.h (P:=P) (t:=dst)) (ax.h (P:=P) (t:=e))
 have hE:=Fw w e ⟨s.toArray⟩
 obtain ⟨g1,g2⟩:=r.hp.one hE (by rw [Lib.bytesWorld_size];omega)
 have hJ:(⟨s.toArray⟩:ByteArray).size=s.length:=by simp [ByteArray.size]
 have nQ:At (Lib.bytesWorld w e ⟨s.toArray⟩) (fun n=>S n∨n=w.heap.size) (.list 1 ((lA s).map (AV.int .u8))) (.slice (some ⟨w.heap.size,0,none⟩) (⟨s.toArray⟩:ByteArray).size (grownCap w (⟨s.toArray⟩:ByteArray).size 0 e)):=by
  have hl:((lA s).map (AV.int .u8)).length=(⟨s.toArray⟩:ByteArray).size:=by rw [hJ];simp [lA]
  rw [← hl]
  refine .list 1 _ _ _ ((lA s).map fun z=>Value.int .u8 z) (fun y hy=>?_) ?_ (fun i c v hc hv=>?_) (fun i v hv=>?_) ?_
  ·obtain ⟨z,_,rfl⟩:=List.mem_map.1 hy
   exact ⟨rfl,fun c hc=>by rw [List.mem_singleton.1 hc];rfl⟩
  ·rw [xU];simp
  ·rw [xU] at hc
   simp only [List.getElem?_map,Option.map_eq_some_iff] at hc hv
   obtain ⟨z,h1,rfl⟩:=hc
   obtain ⟨z',h2,rfl⟩:=hv
   rw [h1] at h2;obtain rfl:=Option.some.inj h2
   exact .int _ _
  ·have hi:i < s.length:=by
    have:=(List.getElem?_eq_some_iff.1 hv).1
    simpa [lA] using this
   refine ⟨_,rfl,rfl,.inr rfl,?_⟩
   rw [Nat.zero_add,Lib.bytesWorld_cell w e ⟨s.toArray⟩ i (by rw [hJ];exact hi)]
   simp only [List.getElem?_map,lA,Option.map_eq_some_iff] at hv
   obtain ⟨z,⟨c,h1,rfl⟩,rfl⟩:=hv
   simp [List.getD,h1]
  ·rw [hl];exact grownCap_ge w _ 0 e
 refine ⟨_,Lib.bytesWorld w e ⟨s.toArray⟩,_,_,?_,(r.heap g2.jX g1).put hn nQ,g2,kk⟩
 simp only [execOp,e1,Sem.run_bind,rZ,Result.andThen_ok]
 rfl
end rules
section
variable {P:Program} {all:Array Oper} {rest:List Oper} {n:Nat} {tm:List (Nat×AV)} {hp:Heap} {Q:St→Prop} {d:Nat} {ty:TypeId} {pos:String} {af:Array Edge}
end
end Go.Eng
namespace Go.Eng
open Go Go.Proofs Go.Shelf Go.RowKit Go.Lib
section
variable {P:Program} (w:World)
end
variable {P:Program} {ρ:Ren}
end Go.Eng
namespace Go.Eng
open Go Go.Proofs Go.Shelf Go.Lib
variable {P:Program} {ρ:Ren} [bD]
end Go.Eng
