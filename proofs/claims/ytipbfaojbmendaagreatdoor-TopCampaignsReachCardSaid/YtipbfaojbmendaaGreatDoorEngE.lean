/- The engine: abstract values, the symbolic heap, one rule for each operation. No program in sight. -/
import Derived.Test.YtipbfaojbmendaaGreatDoorEngD
import Derived.Laws.Runes
import Derived.Laws.Concat
import Derived.Lib.LaidU8
import Derived.Lib.LaidTab
import Derived.HandedShaped
import Derived.Lib.ConvBytes
import Derived.Shelf.Strings.BuilderF
open List renaming mem_cons_of_mem→aa,append_assoc→ad,mem_cons→ag,flatMap_cons→ai,flatMap_append→aL,nil_append→a6,mem_singleton→a8,mem_cons_self→be,filterMap_cons→bk,Perm.trans→bm,Perm.append_right→bo,perm_append_comm→bu
open Nat renaming le_refl→al,blt→ap,beq→aw,eq_of_beq_eq_true→a7
open Option renaming some.inj→ac,toList_none→bi
set_option linter.unusedVariables false
set_option linter.unusedSimpArgs false
set_option linter.unusedSectionVars false
namespace Go.Eng
open Go
variable [ck]
def yf {X A:Type} (o:Option X) (a:A) (f:X→A):A:=match o with
 | none=>a
 | some x=>f x
theorem AH {X A:Type} (a:A) (f:X→A):yf none a f=a:=rfl
theorem rm {X A:Type} (x:X) (a:A) (f:X→A):yf (some x) a f=f x:=rfl
theorem P9 {X A:Type} {o:Option X} {a r:A} {f:X→A} {C:Prop} (h:yf o a f=r) (kn:o=none→a=r→C) (ks:∀ x,o=some x→f x=r→C):C:=by
 cases o with
 | none=>exact kn rfl h
 | some x=>exact ks x rfl h
@[reducible] def TM {X:Type} (o:Option X) (A:AV→Heap→Prop) (B:X→AV→Heap→Prop):AV→Heap→Prop:=match o with
  | none=>A
  | some x=>B x
def T4 {AD GR GS GU:Type} (H:AD→GR→GS→GU→Heap) (V:AD→GR→GS→GU→AV):AV→Heap→Prop:=fun v h=>∃ b0 b1 b2 b3,h=H b0 b1 b2 b3∧v=V b0 b1 b2 b3
def T5 {AD GR GS GU Na:Type} (H:AD→GR→GS→GU→Na→Heap) (V:AD→GR→GS→GU→Na→AV):AV→Heap→Prop:=fun v h=>∃ b0 b1 b2 b3 b4,h=H b0 b1 b2 b3 b4∧v=V b0 b1 b2 b3 b4
def T10 {AD GR GS GU Na VO VP VQ VR VS:Type} (H:AD→GR→GS→GU→Na→VO→VP→VQ→VR→VS→Heap) (V:AD→GR→GS→GU→Na→VO→VP→VQ→VR→VS→AV):AV→Heap→Prop:=fun v h=>∃ b0 b1 b2 b3 b4 b5 b6 b7 b8 b9,h=H b0 b1 b2 b3 b4 b5 b6 b7 b8 b9∧v=V b0 b1 b2 b3 b4 b5 b6 b7 b8 b9
section rules
variable {P:Program} {all:Array Oper} {rest:List Oper} {n:Nat} {tm:List (Nat×AV)} {hp:Heap} {Q:St→Prop} {d:Nat} {ty:TypeId} {pos:String} {af:Array Edge}
theorem yV {AD GR GS GU:Type} {f:FuncId} {args:List Operand} {ts:Array TypeId} {l l':List AV} {h0 hr:Heap} {H H':AD→GR→GS→GU→Heap} {V:AD→GR→GS→GU→AV} [cq P f] (hl:A8 tm args=some l) (c:aY P f l' h0 (T4 H V)) (co:Av hp l l') (hs:F2 hp h0 hr) (ha:∀ b0 b1 b2 b3,sk (H b0 b1 b2 b3) hr=some (H' b0 b1 b2 b3)) (hn:ap d n=true)
 (kk:∀ b0 b1 b2 b3,ae P all rest ⟨n,(d,V b0 b1 b2 b3) :: tm,H' b0 b1 b2 b3⟩ Q):ae P all (⟨some d,.call {callee:=.value (.func f),args:=args.toArray,argTypes:=ts},ty,pos,af,none⟩ :: rest) ⟨n,tm,hp⟩ Q:=
 B8 hl c co hs hn (fun r h' ⟨b0,b1,b2,b3,e1,e2⟩=>by subst e1;subst e2;rw [pg (ha b0 b1 b2 b3)];exact kk b0 b1 b2 b3)
theorem BC {AD GR GS GU Na:Type} {f:FuncId} {args:List Operand} {ts:Array TypeId} {l l':List AV} {h0 hr:Heap} {H H':AD→GR→GS→GU→Na→Heap} {V:AD→GR→GS→GU→Na→AV} [cq P f] (hl:A8 tm args=some l) (c:aY P f l' h0 (T5 H V)) (co:Av hp l l') (hs:F2 hp h0 hr) (ha:∀ b0 b1 b2 b3 b4,sk (H b0 b1 b2 b3 b4) hr=some (H' b0 b1 b2 b3 b4)) (hn:ap d n=true)
 (kk:∀ b0 b1 b2 b3 b4,ae P all rest ⟨n,(d,V b0 b1 b2 b3 b4) :: tm,H' b0 b1 b2 b3 b4⟩ Q):ae P all (⟨some d,.call {callee:=.value (.func f),args:=args.toArray,argTypes:=ts},ty,pos,af,none⟩ :: rest) ⟨n,tm,hp⟩ Q:=
 B8 hl c co hs hn (fun r h' ⟨b0,b1,b2,b3,b4,e1,e2⟩=>by subst e1;subst e2;rw [pg (ha b0 b1 b2 b3 b4)];exact kk b0 b1 b2 b3 b4)
theorem Cj {AD GR GS GU Na VO VP VQ VR VS:Type} {f:FuncId} {args:List Operand} {ts:Array TypeId} {l l':List AV} {h0 hr:Heap} {H H':AD→GR→GS→GU→Na→VO→VP→VQ→VR→VS→Heap} {V:AD→GR→GS→GU→Na→VO→VP→VQ→VR→VS→AV} [cq P f] (hl:A8 tm args=some l) (c:aY P f l' h0 (T10 H V)) (co:Av hp l l') (hs:F2 hp h0 hr) (ha:∀ b0 b1 b2 b3 b4 b5 b6 b7 b8 b9,sk (H b0 b1 b2 b3 b4 b5 b6 b7 b8 b9) hr=some (H' b0 b1 b2 b3 b4 b5 b6 b7 b8 b9)) (hn:ap d n=true)
 (kk:∀ b0 b1 b2 b3 b4 b5 b6 b7 b8 b9,ae P all rest ⟨n,(d,V b0 b1 b2 b3 b4 b5 b6 b7 b8 b9) :: tm,H' b0 b1 b2 b3 b4 b5 b6 b7 b8 b9⟩ Q):ae P all (⟨some d,.call {callee:=.value (.func f),args:=args.toArray,argTypes:=ts},ty,pos,af,none⟩ :: rest) ⟨n,tm,hp⟩ Q:=
 B8 hl c co hs hn (fun r h' ⟨b0,b1,b2,b3,b4,b5,b6,b7,b8,b9,e1,e2⟩=>by subst e1;subst e2;rw [pg (ha b0 b1 b2 b3 b4 b5 b6 b7 b8 b9)];exact kk b0 b1 b2 b3 b4 b5 b6 b7 b8 b9)
end rules
def UL (d:Nat):List (Nat×AV)→List (Nat×AV)
 | []=>[]
 | (k,v) :: r=>match aw k d with
   | true=>UL d r
   | false=>(k,v) :: UL d r
theorem Nb (d:Nat):∀ tm:List (Nat×AV),lk (UL d tm)=nf (lk tm) (some d) none
 | []=>by
   funext s
   show lk [] s=nf (lk []) (some d) none s
   simp [lk,nf]
 | (k,v) :: r=>by
   funext s
   have ih:=congrFun (Nb d r) s
   simp only [UL]
   cases hk:aw k d with
   | true=>
     obtain rfl:=a7 hk
     simp only [ih,nf,lk]
     by_cases hs:k=s
     ·rw [if_pos hs,if_pos hs]
     ·have:aw k s=false:=by
       cases hb:aw k s with
       | true=>exact absurd (a7 hb) hs
       | false=>rfl
      rw [if_neg hs,if_neg hs,this]
   | false=>
     simp only [lk,nf] at ih ⊢
     rw [ih]
     by_cases hs:d=s
     ·subst hs
      rw [if_pos rfl,if_pos rfl,hk]
     ·rw [if_neg hs,if_neg hs]
section rules
variable {P:Program} {all:Array Oper} {n:Nat} {B:Heap} {tk:List Tok} {dy:List Nat} {i:Nat} {rest:List Oper} {tm pZ:List (Nat×AV)} {acc:(Nat→Bk)→List (Nat×AV)} {Q:(Nat→Bk)→List (Nat×AV)→Prop} {d:Nat} {ty:TypeId} {pos:String} {af:Array Edge} {op:Op}
theorem AT.YJ {o:Oper} {d:Nat} {V:Bk→AV} (hd:o.dst=some d) (hr:UL d tm=pZ) (SU:dy.contains i=true) (h:∀ β,∀ X∈u7 tk i β,sT P all n (X++B) o (H8 (lk tm) (lk (acc β))) (tZ tk i β) V (fun b=>kB tk i (om β i b))) (k:AT P all n B tk dy (i+1) rest pZ (fun β=>(d,V (β i)) :: acc β) Q):AT P all n B tk dy i (o :: rest) tm acc Q:=by
 obtain ⟨D,yN,k1,k2⟩:=k
 refine ⟨(none,V) :: D,yN,.cons h (fun rf e b=>by cases e) (fun _=>SU) ?_,fun β=>?_⟩
 ·rw [hd,← Nb,hr]
  have e2:K8 none (fun β=>lk (acc β)) (some d) V i=fun β=>lk ((d,V (β i)) :: acc β):=by
   funext β
   simp only [K8]
   rw [u6];rfl
  rw [e2];exact k1
 ·have:=k2 β
  simp only [yM,hd]
  exact this
theorem AT.Ld {V:Bk→AV} {Ti H1:(Nat→Bk)→Heap} {Pi H2:Bk→Heap} (KX:∀ β,u7 tk i β=[[]]) (MO:∀ β,tZ tk i β=Ti β) (K9:∀ β b,kB tk i (om β i b)=Pi b) (h1:∀ β,sk (Ti β) B=some (H1 β)) (h2:∀ b,sk (Pi b) B=some (H2 b)) (hn:ap d n=true) (hr:UL d tm=pZ) (SU:dy.contains i=true)
 (u3:∀ β,ae P all [⟨some d,op,ty,pos,af,none⟩] ⟨n,Gw (looks all ⟨some d,op,ty,pos,af,none⟩) (tm++acc β),H1 β⟩ (fun aS=>∃ b yN,aS=⟨n,yN,H2 b⟩∧lk yN d=some (V b)))
 (k:AT P all n B tk dy (i+1) rest pZ (fun β=>(d,V (β i)) :: acc β) Q):AT P all n B tk dy i (⟨some d,op,ty,pos,af,none⟩ :: rest) tm acc Q:=by
 refine AT.YJ rfl hr SU (fun β X hX=>?_) k
 rw [KX β] at hX
 obtain rfl:=a8.1 hX
 rw [a6,MO β,show (fun b=>kB tk i (om β i b))=Pi from funext (K9 β),← zO]
 refine uA rfl (fun d' ub=>by obtain rfl:=ac ub;simpa using hn) (h1 β) h2 ?_ (fun e=>by cases e)
 refine fun w S a r=>iG ?_ _ _ _ (u3 β w S a r)
 rintro e a' w' ⟨he,aS,S',⟨b,yN,q1,q2⟩,hh⟩
 exact ⟨he,aS,S',⟨b,yN,q1,fun d' ub=>by obtain rfl:=ac ub;exact q2⟩,hh⟩
end rules
theorem xm (b:Bk) (es:List (Bk×PO)) (n:Nat):n∈eb (b,.cC es)↔b.dp=some n∨∃ e∈es,e.1.dp=some n:=by
 simp [eb,Ob.more,List.mem_filterMap]
theorem BD (e:Bk×PO):eb (e.1,e.2.ob)=e.1.dp.toList:=by
 obtain ⟨b,o⟩:=e
 cases o<;>simp [eb,Ob.more,PO.ob]
theorem Lf {w:World} {S:Nat→Prop} {hp dE:Heap} {bp:Bk} {es yA:List (Bk×PO)} {x:Bk×PO} (r:cY w S hp) (u:nC hp bp (.cC es) bp (.cC yA) dE) (mB:es.Perm (x :: yA)):
 cY w S ((x.1,x.2.ob) :: dE)∧lr w S hp w S ((x.1,x.2.ob) :: dE):=by
 obtain ⟨p,q,rfl,rfl⟩:=u.split
 obtain ⟨Bu,lf⟩:bp.dp=none∧∀ e∈es,pc w S e.1 e.2:=r.holds (bp,.cC es) (bN.2 (.inl rfl))
 have pj:∀ e∈yA,e∈es:=fun e he=>mB.mem_iff.2 (aa _ he)
 have hx:x∈es:=mB.mem_iff.2 (by simp)
 have Nc:x.2.ob.Ao↔False:=by cases x.2<;>exact Iff.rfl
 have Ck:∀ n,n∈eb (bp,.cC es)↔n∈eb (x.1,x.2.ob)∨n∈eb (bp,.cC yA):=by
  intro n
  rw [xm,xm,BD,Bu]
  constructor
  ·rintro (h | ⟨e,he,hn⟩)
   ·cases h
   ·rcases ag.1 (mB.mem_iff.1 he) with rfl | he
    ·exact .inl (by simp [hn])
    ·exact .inr (.inr ⟨e,he,hn⟩)
  ·rintro (h | h | ⟨e,he,hn⟩)
   ·exact .inr ⟨x,hx,by simpa using h⟩
   ·cases h
   ·exact .inr ⟨e,pj e he,hn⟩
 have IM:∀ n,Has ((x.1,x.2.ob) :: (p++(bp,.cC yA) :: q)) n↔Has (p++(bp,.cC es) :: q) n:=by
  intro n
  constructor
  ·rintro ⟨e,he,hn⟩
   rcases ag.1 he with rfl | he
   ·exact ⟨_,bN.2 (.inl rfl),(Ck n).2 (.inl hn)⟩
   ·rcases bN.1 he with rfl | he
    ·exact ⟨_,bN.2 (.inl rfl),(Ck n).2 (.inr hn)⟩
    ·exact ⟨e,bN.2 (.inr he),hn⟩
  ·rintro ⟨e,he,hn⟩
   rcases bN.1 he with rfl | he
   ·rcases (Ck n).1 hn with h | h
    ·exact ⟨_,be,h⟩
    ·exact ⟨_,aa _ (bN.2 (.inl rfl)),h⟩
   ·exact ⟨e,aa _ (bN.2 (.inr he)),hn⟩
 have VT:(((x.1,x.2.ob) :: (p++(bp,.cC yA) :: q)).flatMap eb).Perm ((p++(bp,.cC es) :: q).flatMap eb):=by
  have e1:(eb (bp,.cC es)).Perm (eb (x.1,x.2.ob)++eb (bp,.cC yA)):=by
   rw [BD]
   simp only [eb,Ob.more,Bu,bi,a6]
   refine (mB.filterMap _).trans ?_
   rw [bk]
   cases x.1.dp<;>simp
  rw [ai,aL,aL,ai,ai]
  refine bm ?_ ((e1.symm.append_right _).append_left _)
  rw [← ad,← ad,← ad,← ad]
  refine (bo _ ?_)
  exact (bu.append_right _)
 refine ⟨⟨(VT.nodup_iff).2 r.nodup,?_,?_,r.slt,r.ib⟩,⟨rfl,rfl,rfl,al _,fun n hn=>⟨hn,rfl⟩,fun n _ _=>⟨rfl,id⟩,fun n hn=>.inl ((IM n).1 hn),fun _=>al _⟩⟩
 ·intro e he
  rcases ag.1 he with rfl | he
  ·exact pc.ob.1 (lf x hx)
  ·rcases bN.1 he with rfl | he
   ·exact ⟨Bu,fun e he=>lf e (pj e he)⟩
   ·exact r.holds e (bN.2 (.inr he))
 ·intro e he n hn
  rcases ag.1 he with rfl | he
  ·have:=r.sep (bp,.cC es) (bN.2 (.inl rfl)) n ((Ck n).2 (.inl hn))
   exact ⟨fun h=>(this.1 h).elim,fun h=>(Nc.1 h).elim⟩
  ·rcases bN.1 he with rfl | he
   ·have:=r.sep (bp,.cC es) (bN.2 (.inl rfl)) n ((Ck n).2 (.inr hn))
    exact ⟨fun h=>(this.1 h).elim,fun h=>h.elim⟩
   ·exact r.sep e (bN.2 (.inr he)) n hn
theorem Nd {w:World} {S:Nat→Prop} {hp vb dE:Heap} {bp:Bk} {es yA:List (Bk×PO)} {x:Bk×PO} (r:cY w S hp) (dl:xA hp x.1 x.2.ob vb) (u:nC vb bp (.cC es) bp (.cC yA) dE) (mB:yA.Perm (x :: es)):
 cY w S dE∧lr w S hp w S dE:=by
 obtain ⟨p0,q0,rfl,rfl⟩:=dl.split
 have r1:cY w S ((x.1,x.2.ob) :: (p0++q0)):=by
  refine ⟨?_,fun e he=>r.holds e (bN.2 (by simpa using he)),fun e he=>r.sep e (bN.2 (by simpa using he)),r.slt,r.ib⟩
  refine ((List.Perm.flatMap_right eb ?_).nodup_iff).1 r.nodup
  exact List.perm_middle
 generalize hq:p0++q0=h1 at u r1
 obtain ⟨p,q,rfl,rfl⟩:=u.split
 obtain ⟨Bu,lf⟩:bp.dp=none∧∀ e∈es,pc w S e.1 e.2:=r1.holds (bp,.cC es) (aa _ (bN.2 (.inl rfl)))
 have hxh:pc w S x.1 x.2:=pc.ob.2 (r1.holds (x.1,x.2.ob) (by simp))
 have Nc:x.2.ob.Ao↔False:=by cases x.2<;>exact Iff.rfl
 have Ck:∀ n,n∈eb (bp,.cC yA)↔n∈eb (x.1,x.2.ob)∨n∈eb (bp,.cC es):=by
  intro n
  rw [xm,xm,BD,Bu]
  constructor
  ·rintro (h | ⟨e,he,hn⟩)
   ·cases h
   ·rcases ag.1 (mB.mem_iff.1 he) with rfl | he
    ·exact .inl (by simp [hn])
    ·exact .inr (.inr ⟨e,he,hn⟩)
  ·rintro (h | h | ⟨e,he,hn⟩)
   ·exact .inr ⟨x,mB.mem_iff.2 (by simp),by simpa using h⟩
   ·cases h
   ·exact .inr ⟨e,mB.mem_iff.2 (aa _ he),hn⟩
 have e1:(eb (bp,.cC yA)).Perm (eb (x.1,x.2.ob)++eb (bp,.cC es)):=by
  rw [BD]
  simp only [eb,Ob.more,Bu,bi,a6]
  refine (mB.filterMap _).trans ?_
  rw [bk]
  cases x.1.dp<;>simp
 have VT:(((x.1,x.2.ob) :: (p++(bp,.cC es) :: q)).flatMap eb).Perm ((p++(bp,.cC yA) :: q).flatMap eb):=by
  rw [ai,aL,aL,ai,ai]
  refine bm ?_ ((e1.symm.append_right _).append_left _)
  rw [← ad,← ad,← ad,← ad]
  refine (bo _ ?_)
  exact (bu.append_right _)
 have IM:∀ n,Has (p++(bp,.cC yA) :: q) n→Has ((x.1,x.2.ob) :: (p++(bp,.cC es) :: q)) n:=by
  rintro n ⟨e,he,hn⟩
  rcases bN.1 he with rfl | he
  ·rcases (Ck n).1 hn with h | h
   ·exact ⟨_,be,h⟩
   ·exact ⟨_,aa _ (bN.2 (.inl rfl)),h⟩
  ·exact ⟨e,aa _ (bN.2 (.inr he)),hn⟩
 have VU:∀ n,Has ((x.1,x.2.ob) :: (p++(bp,.cC es) :: q)) n→Has (p0++(x.1,x.2.ob) :: q0) n:=fun n hn=>by
  obtain ⟨e,he,tY⟩:=hn
  refine ⟨e,bN.2 ?_,tY⟩
  rw [hq]
  simpa using he
 refine ⟨⟨(VT.nodup_iff).1 r1.nodup,?_,?_,r.slt,r.ib⟩,⟨rfl,rfl,rfl,al _,fun n hn=>⟨hn,rfl⟩,fun n _ _=>⟨rfl,id⟩,fun n hn=>.inl (VU n (IM n hn)),fun _=>al _⟩⟩
 ·intro e he
  rcases bN.1 he with rfl | he
  ·refine ⟨Bu,fun e he=>?_⟩
   rcases ag.1 (mB.mem_iff.1 he) with rfl | he
   ·exact hxh
   ·exact lf e he
  ·exact r1.holds e (aa _ (bN.2 (.inr he)))
 ·intro e he n hn
  rcases bN.1 he with rfl | he
  ·refine ⟨fun hs=>?_,fun h=>h.elim⟩
   rcases (Ck n).1 hn with h | h
   ·exact Nc.1 ((r1.sep _ (by simp) n h).1 hs)
   ·exact (r1.sep (bp,.cC es) (aa _ (bN.2 (.inl rfl))) n h).1 hs
  ·exact r1.sep e (aa _ (bN.2 (.inr he))) n hn
section plain
variable {K V:Type}
variable [DecidableEq K]
theorem Nf (M:List (K×V)) (k:K):∀ e∈rQ M k,e.1≠k:=fun e he=>by
 have:=(List.mem_filter.1 he).2
 simpa using this
variable [vM K]
theorem uE (M:List (K×V)) (k:K) (v:V):(dX M k v).Perm ((k,v) :: rQ M k):=qn k v _
end plain
def rowOf (o:Option Obj):Option (Array Value):=match o with
 | some (.cells vs _ _)=>some vs
 | _=>none
theorem JV {P:Program} {w:World} {name:String} {g:Nat} (hg:P.globalNamed name=some g):w.var? P name=rowOf (w.heap[g]?):=by
 unfold World.var?
 rw [hg]
 rfl
theorem Lg (xs:List (List UInt8)):flat (xs.map AV.str)=xs.map AV.str:=D6 (fun _=>rfl) xs
theorem IN {w:World} {S:Nat→Prop} (r:cY w S []) (xs:List (List UInt8)) (E:TypeId) {vs:Array Value} (hv:vs=(xs.map fun s=>Value.string ⟨s.toArray⟩).toArray):
 At (w.alloc (.cells vs E)) S (.sl 1 ⟨some w.heap.size,xs.length⟩ 0 xs.length) (.slice (some ⟨w.heap.size,0,none⟩) xs.length xs.length)∧
  cY (w.alloc (.cells vs E)) S [(⟨some w.heap.size,xs.length⟩,.arr 1 (xs.map AV.str))]∧lr w S [] (w.alloc (.cells vs E)) S [(⟨some w.heap.size,xs.length⟩,.arr 1 (xs.map AV.str))]:=by
 subst hv
 have e0:=Ext.alloc w (.cells (xs.map fun s=>Value.string ⟨s.toArray⟩).toArray E)
 have hh:Holds (w.alloc (.cells (xs.map fun s=>Value.string ⟨s.toArray⟩).toArray E)) S ⟨some w.heap.size,xs.length⟩ (.arr 1 (xs.map AV.str)):=by
  refine ⟨fun x hx=>?_,by simp,.inr ⟨w.heap.size,(xs.map fun s=>Value.string ⟨s.toArray⟩).toArray,E,rfl,?_,by simp,?_⟩⟩
  ·obtain ⟨s,_,rfl⟩:=List.mem_map.1 hx
   exact ⟨rfl,fun c hc=>by rw [a8.1 hc];rfl⟩
  ·show (w.heap.push _)[w.heap.size]? =_
   simp
  ·rw [Lg]
   intro i c v hc hv
   simp only [List.getElem?_map,List.getElem?_toArray,Option.map_eq_some_iff] at hc hv
   obtain ⟨s,h1,rfl⟩:=hc
   obtain ⟨s',h2,rfl⟩:=hv
   rw [h1] at h2
   obtain rfl:=ac h2
   exact .str s
 obtain ⟨k1,k2,k3⟩:=qL r e0 id hh (.inr ⟨_,rfl,al _⟩)
 refine ⟨?_,k1,k2⟩
 have:=At.sl (w:=w.alloc (.cells (xs.map fun s=>Value.string ⟨s.toArray⟩).toArray E)) (S:=S) 1 ⟨some w.heap.size,xs.length⟩ 0 xs.length w.heap.size xs.length rfl (al _) (by simp)
 simpa using this
def Tb (k:IntKind) (zs:List Int) (o:Option Obj):Prop:=rowOf o=some (zs.map fun z=>Value.int k z).toArray
def Tc (k:IntKind) (o:Option Obj):Prop:=∃ vs m,rowOf o=some vs∧vs[0]? =some (.int k m)
def Ng (o:Option Obj):Prop:=∃ vs ev,rowOf o=some vs∧vs[0]? =some ev∧(ev=.nilIface∨∃ te pe,ev=.iface te pe)
theorem Cl (w:World) (g i:Nat) {vs:Array Value} (h:rowOf (w.heap[g]?)=some vs):w.cell? ⟨g,i,none⟩=vs[i]?:=by
 unfold World.cell?
 unfold rowOf at h
 split at h
 ·rename_i H5 e f ho
  obtain rfl:=ac h
  simp [ho]
 ·cases h
def JW:List (Nat×(Option Obj→Prop))→Nat→Option (Option Obj→Prop)
 | [],_=>none
 | (k,o) :: r,g=>if g=k then some o else JW r g
theorem D9:∀ {l:List (Nat×(Option Obj→Prop))} {g:Nat} {o:Option Obj→Prop},JW l g=some o→(g,o)∈l
 | [],_,_,h=>by cases h
 | (k,o') :: r,g,o,h=>by
   unfold JW at h
   split at h
   ·rename_i hg
    rw [hg,ac h];simp
   ·exact aa _ (D9 h)
theorem IP {w:World} {g:Nat} {vs:Array Value} (h:rowOf (w.heap[g]?)=some vs):g < w.heap.size:=by
 rcases Nat.lt_or_ge g w.heap.size with h' | h'
 ·exact h'
 ·rw [Array.getElem?_eq_none h'] at h;cases h
end Go.Eng
namespace Go.Eng
open Go
section errs
variable [ck] {P:Program} {all:Array Oper} {rest:List Oper} {n:Nat} {tm:List (Nat×AV)} {hp:Heap} {Q:St→Prop} {d:Nat} {ty:TypeId} {pos:String} {af:Array Edge}
def Td (e:Value) (ok:Bool):Prop:=(e=.nilIface∧ok=true)∨((∃ te pe,e=.iface te pe)∧ok=false)
def PuE (P:Program) (f:FuncId) (args:List AV) (m:Int) (ok:Bool):Prop:=aY P f args [] (fun r h=>∃ e,r=.ma [I m,.raw e]∧Td e ok)
theorem Qa {f:FuncId} {args:List Operand} {ts:Array TypeId} {l l':List AV} {m:Int} {ok:Bool} [cq P f] (hl:A8 tm args=some l) (c:PuE P f l' m ok) (co:Av hp l l') (hn:ap d n=true)
 (kk:∀ e,Td e ok→ae P all rest ⟨n,(d,.ma [I m,.raw e]) :: tm,hp⟩ Q):ae P all (⟨some d,.call {callee:=.value (.func f),args:=args.toArray,argTypes:=ts},ty,pos,af,none⟩ :: rest) ⟨n,tm,hp⟩ Q:=by
 refine JL hl c co hn (fun r h' hr=>?_)
 obtain ⟨e,rfl,he⟩:=hr
 exact ae.weaken (aS:=⟨n,(d,.ma [I m,.raw e]) :: tm,hp⟩) ⟨rfl,fun _ _ h=>h,List.sublist_append_right _ _⟩ (kk e he)
theorem VV {t:TypeId} {ms:Array (String×TypeId)} [aF P t (.interface ms)] (te:TypeId) (pe:Value) (w:World):(Op.equal t (.iface te pe) .nilIface).run P w=.ok false w:=by
 show (Op.equalIn (9999+1) t _ _).run P w=_
 rw [Op.equalIn]
 simp [run_underlying (aF.h (P:=P) (t:=t))]
theorem VW {t:TypeId} {ms:Array (String×TypeId)} [aF P t (.interface ms)] (w:World):(Op.equal t .nilIface .nilIface).run P w=.ok true w:=by
 show (Op.equalIn (9999+1) t _ _).run P w=_
 rw [Op.equalIn]
 simp [run_underlying (aF.h (P:=P) (t:=t))]
theorem VX {xt yt:TypeId} {ms:Array (String×TypeId)} {x:Operand} {e:Value} {ok:Bool} [aF P xt (.interface ms)] (he:Td e ok) (hx:dh tm x=some (.raw e)):QV P ⟨some d,.binOp .eql xt x (.const .nilIface) yt,ty,pos,af,none⟩ ⟨n,tm,hp⟩ (.bool ok):=by
 refine fun w S a r=>⟨.bool ok,fun w1 _=>?_,.bool _⟩
 have hr:=(bt (σ:=⟨n,tm,hp⟩) r hx).Pv
 have hc:a.eval (.const .nilIface)=.nilIface:=rfl
 rcases he with ⟨rfl,rfl⟩ | ⟨⟨te,pe,rfl⟩,rfl⟩
 ·have h1:=VW (P:=P) (t:=xt) w1
  simp [execOp,hr,hc,eqGuard,binOp,h1]
 ·have h1:=VV (P:=P) (t:=xt) te pe w1
  simp [execOp,hr,hc,eqGuard,binOp,h1]
def Qb (a b:List UInt8):Option (List UInt8):=if a.length+b.length≤9223372036854775807 then some (a++b) else none
end errs
end Go.Eng
namespace Go.Eng
open Go
variable [ck]
end Go.Eng
namespace Go.Eng
open Go Go.Lib
variable [ck]
theorem GV {w:World} {g:Nat} {v:Value} (h:w.cell? ⟨g,0,none⟩=some v):∃ vs,rowOf (w.heap[g]?)=some vs∧vs[0]? =some v:=by
 unfold World.cell? at h
 cases ho:w.heap[g]? with
 | none=>simp [ho] at h
 | some o=>
   cases o with
   | cells vs e f=>exact ⟨vs,rfl,by simpa [ho] using h⟩
   | _=>simp [ho] at h
theorem Qd {w:World} {g:Nat} {k:IntKind} {m:Int} (h:w.cell? ⟨g,0,none⟩=some (.int k m)):g < w.heap.size∧Tc k (w.heap[g]?):=by
 obtain ⟨vs,h1,h2⟩:=GV h
 exact ⟨IP h1,vs,m,h1,h2⟩
theorem Qe {P:Program} {W:World} {name:String} {k:IntKind} {zs:List Int} {g:Nat} {t e:TypeId} {n:Nat}
 (hg:P.globalNamed name=some g) (YK:(P.globals[g]?).map (·.type)=some t) (ht:P.underlying t=some (.array n e)) (he:P.underlying e=some (.int k)) (hce:P.cellsOf e=1) (hct:P.cellsOf t=n)
 (h:VarReads P W name (tabData k zs)):g < W.heap.size∧Tb k zs (W.heap[g]?):=by
 obtain ⟨g',t',cs,fuel,p,IQ,Pd,IS,hd⟩:=h
 obtain rfl:=ac (hg.symm.trans IQ)
 obtain rfl:=ac (YK.symm.trans Pd)
 rw [JV hg] at IS
 refine ⟨IP IS,?_⟩
 unfold Tb
 rw [IS,← cells_of_tab ht he hce hct hd]
theorem JX {P:Program} {W:World} {name:String} {d:DataW Unit} {g:Nat} {t:TypeId} {ms:Array (String×TypeId)}
 (hg:P.globalNamed name=some g) (YK:(P.globals[g]?).map (·.type)=some t) (ht:P.underlying t=some (.interface ms)) (h:VarReads P W name d):g < W.heap.size∧Ng (W.heap[g]?):=by
 obtain ⟨g',t',cs,fuel,p,IQ,Pd,IS,hd⟩:=h
 obtain rfl:=ac (hg.symm.trans IQ)
 obtain rfl:=ac (YK.symm.trans Pd)
 rw [JV hg] at IS
 refine ⟨IP IS,?_⟩
 have key:∀ l:List Value,DataW.trod (fun _=>()) P W 0 (fun _=>true) false fuel t l=some (d,p)→∃ ev,l[0]? =some ev∧(ev=.nilIface∨∃ te pe,ev=.iface te pe):=by
  intro l hl
  cases fuel with
  | zero=>simp [DataW.trod] at hl
  | succ fuel=>
    unfold DataW.trod at hl
    simp only [ht] at hl
    split at hl<;>first | (exact ⟨_,rfl,.inl rfl⟩) | (exact ⟨_,rfl,.inr ⟨_,_,rfl⟩⟩) | (simp_all)
 obtain ⟨ev,h1,h2⟩:=key cs.toList hd
 exact ⟨cs,ev,IS,by simpa using h1,h2⟩
end Go.Eng
namespace Go.Eng
open Go
variable {H:Type} {enc:TypeId×Value→H}
theorem GW {a:Assume} {C:Checked} {os:Os} {f:FuncId} {fn:Func} {s:ChangeSpec} {conds:List PathCond} {apart fresh handsOn again:Bool} {X:World→Array Value→Prop}
 (hX:∀ (w w':World) (args:Array Value),w.heap=w'.heap→X w args→X w' args)
 (own:ownKnob C.prog.godebug=none) (started:os.Started) (Te:C.prog.inits.idxOf? f=none) (P0:C.prog.funcs[f]? =some fn)
 (witness:∃ (w:World) (tape:Tape) (i:Input),w.os=os∧(w.forCall tape i).Shaped C.prog∧i.vars=[]∧Input.okWide C.prog (w.forCall tape i) .any w.heap.size f i∧
  ((s.pre enc C.prog fn conds apart (w.forCall tape i).memory i.args∧X (w.forCall tape i).memory i.args)∧sizedMet enc C.prog fn (OpenSpec.ofChange s) apart (w.forCall tape i).memory i.args)∧a.holds C.prog (lone (Frame.enter C.prog f i.args .normal) [] (w.forCall tape i)))
 (walk:∀ (W:World) (base:Nat) (args:Array Value) (ds gs:List (DataW H)) (before:List MemPlace),
  (∀ (j:Nat) t v,fn.params[j]? =some t→args[j]? =some v→Value.okWide C.prog W .any base t v)→
  DataW.Whole enc C.prog fn.params.toList s.vars apart W args.toList ds gs before→
  conds.all (PathCond.test C.prog ⟨fn.params.toList,ds,s.plain.varTypes C.prog,gs⟩)=true→
  (DataW.weightsEach C.prog (fn.params.toList++s.plain.varTypes C.prog) (ds++gs)).all (· ≤reachBytes)=true→X W args∧W.ShapedOpen C.prog→
  a.holds C.prog (lone (Frame.enter C.prog f args .normal) [] W)→
  Calls C.prog f args W fun e W'=>∃ v,e=.returned v∧s.post enc C.prog fn apart fresh handsOn again W args v W'):
 ReturnsInHanded a C os f .any (fun w args=>(s.pre enc C.prog fn conds apart w args∧X w args)∧sizedMet enc C.prog fn (OpenSpec.ofChange s) apart w args) (s.post enc C.prog fn apart fresh handsOn again):=by
 refine returnsInHanded_of_calls own started Te witness ?_
 intro w tape i _ shaped _ ok pre held
 obtain ⟨_,_,_,fn',there,_,_,_,_,YL⟩:=ok
 cases ac (there.symm.trans P0)
 obtain ⟨⟨⟨ds,gs,before,whole,VY⟩,x⟩,sized⟩:=pre
 have K:=walk (w.forCall tape i) w.heap.size i.args ds gs before YL (DataW.Whole.of_heap (w':=w.forCall tape i) (by rfl) whole) VY (sized.weights whole) ⟨hX _ _ _ (by rfl) x,shaped⟩ held
 exact K.mono fun e W' ⟨v,he,hp⟩=>by
  subst he
  exact ChangeSpec.post_blind hp
end Go.Eng
namespace Go.Eng
open Go
variable [ck]
def zU (s:List UInt8):List Int:=s.map fun c=>(c.toNat:Int)
end Go.Eng
namespace Go.Eng
open Go Go.Proofs Go.Shelf Go.RowKit Go.Lib
variable {P:Program} {ρ:Ren}
end Go.Eng
namespace Go.Eng
open Go Go.Proofs Go.Shelf Go.Lib
variable {P:Program} {ρ:Ren} [ck]
end Go.Eng
