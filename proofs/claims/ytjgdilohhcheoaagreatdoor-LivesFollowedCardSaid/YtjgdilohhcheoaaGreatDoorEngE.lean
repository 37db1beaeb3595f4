/- The engine: abstract values, the symbolic heap, one rule for each operation. No program in sight. -/
import Derived.Test.YtjgdilohhcheoaaGreatDoorEngD
import Derived.Laws.Runes
import Derived.Laws.Concat
import Derived.Lib.LaidU8
import Derived.Lib.LaidTab
import Derived.HandedShaped
import Derived.Lib.ConvBytes
import Derived.Shelf.Strings.BuilderF
set_option linter.unusedVariables false
set_option linter.unusedSimpArgs false
set_option linter.unusedSectionVars false
namespace Go.Eng
open Go
variable [bt]
def uu {X A:Type} (o:Option X) (a:A) (f:X→A):A:=match o with
 | none=>a
 | some x=>f x
theorem FL {X A:Type} {o:Option X} {a r:A} {f:X→A} {C:Prop} (h:uu o a f=r) (kn:o=none→a=r→C) (ks:∀ x,o=some x→f x=r→C):C:=by
 cases o with
 | none=>exact kn rfl h
 | some x=>exact ks x rfl h
@[reducible] def TM {X:Type} (o:Option X) (A:AV→Heap→Prop) (B:X→AV→Heap→Prop):AV→Heap→Prop:=match o with
  | none=>A
  | some x=>B x
theorem GS {P:Program} {f:FuncId} {args:List AV} {h0:Heap} {X:Type} {o:Option X} {A:AV→Heap→Prop} {B:X→AV→Heap→Prop} (e:o=none) (c:aG P f args h0 (TM o A B)):aG P f args h0 A:=by
 subst e;exact c
theorem GU {P:Program} {f:FuncId} {args:List AV} {h0:Heap} {X:Type} {o:Option X} {x:X} {A:AV→Heap→Prop} {B:X→AV→Heap→Prop} (e:o=some x) (c:aG P f args h0 (TM o A B)):aG P f args h0 (B x):=by
 subst e;exact c
def T3 {sw vI Aj:Type} (H:sw→vI→Aj→Heap) (V:sw→vI→Aj→AV):AV→Heap→Prop:=fun v h=>∃ b0 b1 b2,h=H b0 b1 b2∧v=V b0 b1 b2
def T5 {sw vI Aj Ef Eg:Type} (H:sw→vI→Aj→Ef→Eg→Heap) (V:sw→vI→Aj→Ef→Eg→AV):AV→Heap→Prop:=fun v h=>∃ b0 b1 b2 b3 b4,h=H b0 b1 b2 b3 b4∧v=V b0 b1 b2 b3 b4
def T7 {sw vI Aj Ef Eg JH JI:Type} (H:sw→vI→Aj→Ef→Eg→JH→JI→Heap) (V:sw→vI→Aj→Ef→Eg→JH→JI→AV):AV→Heap→Prop:=fun v h=>∃ b0 b1 b2 b3 b4 b5 b6,h=H b0 b1 b2 b3 b4 b5 b6∧v=V b0 b1 b2 b3 b4 b5 b6
def T8 {sw vI Aj Ef Eg JH JI Rp:Type} (H:sw→vI→Aj→Ef→Eg→JH→JI→Rp→Heap) (V:sw→vI→Aj→Ef→Eg→JH→JI→Rp→AV):AV→Heap→Prop:=fun v h=>∃ b0 b1 b2 b3 b4 b5 b6 b7,h=H b0 b1 b2 b3 b4 b5 b6 b7∧v=V b0 b1 b2 b3 b4 b5 b6 b7
section rules
variable {P:Program} {all:Array Oper} {rest:List Oper} {n:Nat} {tm:List (Nat×AV)} {hp:Heap} {Q:St→Prop} {d:Nat} {ty:TypeId} {pos:String} {af:Array Edge}
theorem L8 {sw vI Aj:Type} {f:FuncId} {args:List Operand} {ts:Array TypeId} {l l':List AV} {h0 hr:Heap} {H H':sw→vI→Aj→Heap} {V:sw→vI→Aj→AV} [ba P f] (hl:wN tm args=some l) (c:aG P f l' h0 (T3 H V)) (co:wb hp l l') (hs:zu hp h0 hr) (ha:∀ b0 b1 b2,ou (H b0 b1 b2) hr=some (H' b0 b1 b2)) (hn:Nat.blt d n=true)
 (kk:∀ b0 b1 b2,ae P all rest ⟨n,(d,V b0 b1 b2) :: tm,H' b0 b1 b2⟩ Q):ae P all (⟨some d,.call {callee:=.value (.func f),args:=args.toArray,argTypes:=ts},ty,pos,af,none⟩ :: rest) ⟨n,tm,hp⟩ Q:=
 wh hl c co hs hn (fun r h' ⟨b0,b1,b2,e1,e2⟩=>by subst e1;subst e2;rw [kp (ha b0 b1 b2)];exact kk b0 b1 b2)
theorem GV {sw vI Aj Ef Eg:Type} {f:FuncId} {args:List Operand} {ts:Array TypeId} {l l':List AV} {h0 hr:Heap} {H H':sw→vI→Aj→Ef→Eg→Heap} {V:sw→vI→Aj→Ef→Eg→AV} [ba P f] (hl:wN tm args=some l) (c:aG P f l' h0 (T5 H V)) (co:wb hp l l') (hs:zu hp h0 hr) (ha:∀ b0 b1 b2 b3 b4,ou (H b0 b1 b2 b3 b4) hr=some (H' b0 b1 b2 b3 b4)) (hn:Nat.blt d n=true)
 (kk:∀ b0 b1 b2 b3 b4,ae P all rest ⟨n,(d,V b0 b1 b2 b3 b4) :: tm,H' b0 b1 b2 b3 b4⟩ Q):ae P all (⟨some d,.call {callee:=.value (.func f),args:=args.toArray,argTypes:=ts},ty,pos,af,none⟩ :: rest) ⟨n,tm,hp⟩ Q:=
 wh hl c co hs hn (fun r h' ⟨b0,b1,b2,b3,b4,e1,e2⟩=>by subst e1;subst e2;rw [kp (ha b0 b1 b2 b3 b4)];exact kk b0 b1 b2 b3 b4)
theorem L9 {sw vI Aj Ef Eg JH JI:Type} {f:FuncId} {args:List Operand} {ts:Array TypeId} {l l':List AV} {h0 hr:Heap} {H H':sw→vI→Aj→Ef→Eg→JH→JI→Heap} {V:sw→vI→Aj→Ef→Eg→JH→JI→AV} [ba P f] (hl:wN tm args=some l) (c:aG P f l' h0 (T7 H V)) (co:wb hp l l') (hs:zu hp h0 hr) (ha:∀ b0 b1 b2 b3 b4 b5 b6,ou (H b0 b1 b2 b3 b4 b5 b6) hr=some (H' b0 b1 b2 b3 b4 b5 b6)) (hn:Nat.blt d n=true)
 (kk:∀ b0 b1 b2 b3 b4 b5 b6,ae P all rest ⟨n,(d,V b0 b1 b2 b3 b4 b5 b6) :: tm,H' b0 b1 b2 b3 b4 b5 b6⟩ Q):ae P all (⟨some d,.call {callee:=.value (.func f),args:=args.toArray,argTypes:=ts},ty,pos,af,none⟩ :: rest) ⟨n,tm,hp⟩ Q:=
 wh hl c co hs hn (fun r h' ⟨b0,b1,b2,b3,b4,b5,b6,e1,e2⟩=>by subst e1;subst e2;rw [kp (ha b0 b1 b2 b3 b4 b5 b6)];exact kk b0 b1 b2 b3 b4 b5 b6)
theorem CS {sw vI Aj Ef Eg JH JI Rp:Type} {f:FuncId} {args:List Operand} {ts:Array TypeId} {l l':List AV} {h0 hr:Heap} {H H':sw→vI→Aj→Ef→Eg→JH→JI→Rp→Heap} {V:sw→vI→Aj→Ef→Eg→JH→JI→Rp→AV} [ba P f] (hl:wN tm args=some l) (c:aG P f l' h0 (T8 H V)) (co:wb hp l l') (hs:zu hp h0 hr) (ha:∀ b0 b1 b2 b3 b4 b5 b6 b7,ou (H b0 b1 b2 b3 b4 b5 b6 b7) hr=some (H' b0 b1 b2 b3 b4 b5 b6 b7)) (hn:Nat.blt d n=true)
 (kk:∀ b0 b1 b2 b3 b4 b5 b6 b7,ae P all rest ⟨n,(d,V b0 b1 b2 b3 b4 b5 b6 b7) :: tm,H' b0 b1 b2 b3 b4 b5 b6 b7⟩ Q):ae P all (⟨some d,.call {callee:=.value (.func f),args:=args.toArray,argTypes:=ts},ty,pos,af,none⟩ :: rest) ⟨n,tm,hp⟩ Q:=
 wh hl c co hs hn (fun r h' ⟨b0,b1,b2,b3,b4,b5,b6,b7,e1,e2⟩=>by subst e1;subst e2;rw [kp (ha b0 b1 b2 b3 b4 b5 b6 b7)];exact kk b0 b1 b2 b3 b4 b5 b6 b7)
theorem NI {t e:TypeId} [ay P t (.pointer e)] (x:Addr) (w:World):(Op.equal t (.pointer (some x)) (.pointer none)).run P w=.ok false w:=by
 show (Op.equalIn (9999+1) t _ _).run P w=_
 rw [Op.equalIn]
 simp [run_underlying (ay.h (P:=P) (t:=t))]
theorem NJ {t e:TypeId} [ay P t (.pointer e)] (w:World):(Op.equal t (.pointer none) (.pointer none)).run P w=.ok true w:=by
 show (Op.equalIn (9999+1) t _ _).run P w=_
 rw [Op.equalIn]
 simp [run_underlying (ay.h (P:=P) (t:=t))]
theorem xc {t e yt:TypeId} {x y:Operand} {b:Bk} {o:Nat} [ay P t (.pointer e)] (hx:bY tm x=some (.ptr b o)) (hy:bY tm y=some (.raw (.pointer none))):QV P ⟨some d,.binOp .eql t x y yt,ty,pos,af,none⟩ ⟨n,tm,hp⟩ (.bool false):=by
 intro w S a r
 obtain ⟨m,_,hv⟩:=(aN (σ:=⟨n,tm,hp⟩) r hx).nh
 have hu:=(aN (σ:=⟨n,tm,hp⟩) r hy).ki
 refine ⟨.bool false,fun w' _=>?_,.bool _⟩
 have h1:=NI (P:=P) (t:=t) (e:=e) ⟨m,o,none⟩ w'
 simp [execOp,hv,hu,eqGuard,binOp,h1]
theorem GW {t e yt:TypeId} {x y:Operand} {b:Bk} {o:Nat} [ay P t (.pointer e)] (hx:bY tm x=some (.ptr b o)) (hy:bY tm y=some (.raw (.pointer none))):QV P ⟨some d,.binOp .neq t x y yt,ty,pos,af,none⟩ ⟨n,tm,hp⟩ (.bool true):=by
 intro w S a r
 obtain ⟨m,_,hv⟩:=(aN (σ:=⟨n,tm,hp⟩) r hx).nh
 have hu:=(aN (σ:=⟨n,tm,hp⟩) r hy).ki
 refine ⟨.bool true,fun w' _=>?_,.bool _⟩
 have h1:=NI (P:=P) (t:=t) (e:=e) ⟨m,o,none⟩ w'
 simp [execOp,hv,hu,eqGuard,binOp,h1]
theorem uv {t e yt:TypeId} {x y:Operand} [ay P t (.pointer e)] (hx:bY tm x=some (.raw (.pointer none))) (hy:bY tm y=some (.raw (.pointer none))):QV P ⟨some d,.binOp .eql t x y yt,ty,pos,af,none⟩ ⟨n,tm,hp⟩ (.bool true):=by
 intro w S a r
 have hv:=(aN (σ:=⟨n,tm,hp⟩) r hx).ki
 have hu:=(aN (σ:=⟨n,tm,hp⟩) r hy).ki
 refine ⟨.bool true,fun w' _=>?_,.bool _⟩
 have h1:=NJ (P:=P) (t:=t) (e:=e) w'
 simp [execOp,hv,hu,eqGuard,binOp,h1]
theorem Eh {t e yt:TypeId} {x y:Operand} [ay P t (.pointer e)] (hx:bY tm x=some (.raw (.pointer none))) (hy:bY tm y=some (.raw (.pointer none))):QV P ⟨some d,.binOp .neq t x y yt,ty,pos,af,none⟩ ⟨n,tm,hp⟩ (.bool false):=by
 intro w S a r
 have hv:=(aN (σ:=⟨n,tm,hp⟩) r hx).ki
 have hu:=(aN (σ:=⟨n,tm,hp⟩) r hy).ki
 refine ⟨.bool false,fun w' _=>?_,.bool _⟩
 have h1:=NJ (P:=P) (t:=t) (e:=e) w'
 simp [execOp,hv,hu,eqGuard,binOp,h1]
theorem wo {α β:Type} (f:α→β):∀ (l:List α) (j:Nat),(l.eraseIdx j).map f=(l.map f).eraseIdx j
 | [],_=>rfl
 | _ :: _,0=>rfl
 | _ :: l,j+1=>by simp only [List.eraseIdx_cons_succ,List.map_cons,wo f l j]
theorem Ei {K V:Type} [DecidableEq K] {gk:K→AV} {gv:V→AV} {M:List (K×V)} {key:K} {t kt vt:TypeId} {x y:Operand} {b:Bk} {bZ:Heap} {t2:TypeId} [ay P t (.map kt vt)] [il P kt gk] (hx:bY tm x=some (.cd b)) (hy:bY tm y=some (gk key)) (u:iw hp b (.mp (M.map fun e=>(gk e.1,gv e.2))) b (.mp ((qg M key).map fun e=>(gk e.1,gv e.2))) bZ)
 (kk:ae P all rest ⟨n,tm,bZ⟩ Q):ae P all (⟨none,.call {callee:=.builtin .delete,args:=#[x,y],argTypes:=#[t,t2]},ty,pos,af,none⟩ :: rest) ⟨n,tm,hp⟩ Q:=by
 refine ae.Dz rfl fun w S a r=>?_
 have kx:=aN (σ:=⟨n,tm,hp⟩) r hx
 have ky:=aN (σ:=⟨n,tm,hp⟩) r hy
 obtain ⟨nb,hb,ex⟩:=kx.mT
 obtain ⟨L,c,M',Be,ee,p1,p2,p3,p4,p5,p6,p7,p8⟩:=tc (il.inj P kt) r.hp u.lN
 obtain rfl:Be=nb:=by rw [p4] at hb;exact Option.some.inj hb
 have qL:=il.find (P:=P) (t:=kt) (g:=gk) ky ee.toList (M'.map Prod.fst) (by simpa using p6.symm) (fun j k' e h1 h2=>by
  rw [List.getElem?_map] at h1
  cases hm:M'[j]? with
  | none=>rw [hm] at h1;cases h1
  | some q=>rw [hm] at h1;rw [← Option.some.inj h1];exact (p7 j q e hm h2).1)
 obtain ⟨Oy,oI,g1,g2,g3,g4,g5,g6,g7⟩:=p3
 obtain rfl:Oy=Be:=by rw [p4] at g1;exact (Option.some.inj g1).symm
 obtain rfl:oI=ee:=by rw [p5] at g2;exact (Obj.map.inj (Option.some.inj g2)).1.symm
 have WM:L.length=M'.length:=by have:=congrArg List.length p2;simpa using this
 rcases td (gv:=gv) (w:=w) (S:=S) (k:=key) M' oI.toList 0 p6.symm (fun j e m h1 h2=>(p7 j e m h1 h2).2) with ⟨q1,q2⟩ | ⟨v',j,val,q1,q2,q3,q4⟩
 ·have hw:=sA (ob:=.map oI c) r.hp u p4 p5 id id (fun k1=>by
   refine ⟨L,c,?_,Oy,oI,p4,sy p5,g3,fun i e m he hm=>⟨(g4 i e m he hm).1,(g4 i e m he hm).2.1.mono k1,(g4 i e m he hm).2.2.mono k1⟩,g5,g6,g7⟩
   rw [B7 (by rw [← qx p1 p8];exact q1),p2]
   exact p1.map _)
  refine ⟨.tuple #[],_,S,⟨n,tm,bZ⟩,?_,r.heap hw.2.2 hw.1,hw.2.1,kk⟩
  simp [execOp,ex,resolve,invoke,builtin,Builtin.delete_,run_underlying (ay.h (P:=P) (t:=t)),fl p5,il.check (P:=P) (t:=kt) ky,qL,q2,ta _ p5]
 ·have PH:j < M'.length:=(List.getElem?_eq_some_iff.1 q4).1
  have DM:∀ (i:Nat) e m,(L.eraseIdx j)[i]? =some e→(oI.eraseIdxIfInBounds j)[i]? =some m→m.born=e.born∧At w S e.k m.key∧At w S e.v m.val:=by
   intro i e m he hm
   rw [← Array.getElem?_toList,Array.toList_eraseIdxIfInBounds,List.getElem?_eraseIdx] at hm
   rw [List.getElem?_eraseIdx] at he
   split at he
   ·rename_i hi;rw [if_pos hi] at hm;exact g4 i e m he (by simpa using hm)
   ·rename_i hi;rw [if_neg hi] at hm;exact g4 (i+1) e m he (by simpa using hm)
  have hw:=sA (ob:=.map (oI.eraseIdxIfInBounds j) c) r.hp u p4 p5 id id (fun k1=>by
   refine ⟨L.eraseIdx j,c,?_,Oy,_,p4,sy p5,?_,fun i e m he hm=>⟨(DM i e m he hm).1,(DM i e m he hm).2.1.mono k1,(DM i e m he hm).2.2.mono k1⟩,fun e he=>g5 e (List.mem_of_mem_eraseIdx he),?_,?_⟩
   ·have e0:(L.eraseIdx j).map lM.kv=(M'.eraseIdx j).map (fun e=>(gk e.1,gv e.2)):=by
     rw [wo,wo,p2]
    rw [e0]
    refine List.Perm.map _ ?_
    have e2:M'=M'.take j++(key,v') :: M'.drop (j+1):=by
     have:=List.take_append_drop j M'
     rw [List.drop_eq_getElem_cons PH] at this
     have hq:M'[j]=(key,v'):=by rw [List.getElem?_eq_getElem PH] at q4;exact Option.some.inj q4
     rw [hq] at this
     exact this.symm
    have e4:qg M' key=M'.take j++M'.drop (j+1):=by
     have L5:=p8
     rw [e2,List.map_append,List.map_cons,List.nodup_append,List.nodup_cons] at L5
     unfold qg
     rw [e2,List.filter_append,List.filter_cons]
     simp only [ne_eq,not_true_eq_false,decide_false,Bool.false_eq_true,if_false]
     rw [← e2]
     congr 1
     ·refine List.filter_eq_self.2 fun e he=>?_
      simp only [decide_not,Bool.not_eq_true',decide_eq_false_iff_not]
      intro hk
      exact L5.2.2 e.1 (List.mem_map.2 ⟨e,he,rfl⟩) key (by simp) hk
     ·refine List.filter_eq_self.2 fun e he=>?_
      simp only [decide_not,Bool.not_eq_true',decide_eq_false_iff_not]
      intro hk
      exact L5.2.1.1 (List.mem_map.2 ⟨e,he,hk⟩)
    rw [List.eraseIdx_eq_take_drop_succ,← e4]
    exact p1.filter _
   ·rw [← Array.length_toList,Array.toList_eraseIdxIfInBounds,List.length_eraseIdx,List.length_eraseIdx,Array.length_toList,g3]
   ·exact g6.sublist ((List.eraseIdx_sublist ..).map _)
   ·exact g7.sublist ((List.eraseIdx_sublist ..).map _))
  refine ⟨.tuple #[],_,S,⟨n,tm,bZ⟩,?_,r.heap hw.2.2 hw.1,hw.2.1,kk⟩
  simp [execOp,ex,resolve,invoke,builtin,Builtin.delete_,run_underlying (ay.h (P:=P) (t:=t)),fl p5,il.check (P:=P) (t:=kt) ky,qL,q2,ta _ p5]
end rules
def OB (d:Nat):List (Nat×AV)→List (Nat×AV)
 | []=>[]
 | (k,v) :: r=>match Nat.beq k d with
   | true=>OB d r
   | false=>(k,v) :: OB d r
theorem JJ (d:Nat):∀ tm:List (Nat×AV),lk (OB d tm)=gl (lk tm) (some d) none
 | []=>by
   funext s
   show lk [] s=gl (lk []) (some d) none s
   simp [lk,gl]
 | (k,v) :: r=>by
   funext s
   have ih:=congrFun (JJ d r) s
   simp only [OB]
   cases hk:Nat.beq k d with
   | true=>
     obtain rfl:=Nat.eq_of_beq_eq_true hk
     simp only [ih,gl,lk]
     by_cases hs:k=s
     ·rw [if_pos hs,if_pos hs]
     ·have:Nat.beq k s=false:=by
       cases hb:Nat.beq k s with
       | true=>exact absurd (Nat.eq_of_beq_eq_true hb) hs
       | false=>rfl
      rw [if_neg hs,if_neg hs,this]
   | false=>
     simp only [lk,gl] at ih ⊢
     rw [ih]
     by_cases hs:d=s
     ·subst hs
      rw [if_pos rfl,if_pos rfl,hk]
     ·rw [if_neg hs,if_neg hs]
section rules
variable {P:Program} {all:Array Oper} {n:Nat} {B:Heap} {tk:List Tok} {dy:List Nat} {i:Nat} {rest:List Oper} {tm ln:List (Nat×AV)} {acc:(Nat→Bk)→List (Nat×AV)} {Q:(Nat→Bk)→List (Nat×AV)→Prop} {d:Nat} {ty:TypeId} {pos:String} {af:Array Edge} {op:Op}
theorem AT.Ux {o:Oper} {d:Nat} {V:Bk→AV} (hd:o.dst=some d) (hr:OB d tm=ln) (LQ:dy.contains i=true) (h:∀ β,∀ X∈sW tk i β,nC P all n (X++B) o (x5 (lk tm) (lk (acc β))) (r7 tk i β) V (fun b=>jk tk i (nx β i b))) (k:AT P all n B tk dy (i+1) rest ln (fun β=>(d,V (β i)) :: acc β) Q):AT P all n B tk dy i (o :: rest) tm acc Q:=by
 obtain ⟨D,wk,k1,k2⟩:=k
 refine ⟨(none,V) :: D,wk,.cons h (fun dD e b=>by cases e) (fun _=>LQ) ?_,fun β=>?_⟩
 ·rw [hd,← JJ,hr]
  have e2:HL none (fun β=>lk (acc β)) (some d) V i=fun β=>lk ((d,V (β i)) :: acc β):=by
   funext β
   simp only [HL]
   rw [sV];rfl
  rw [e2];exact k1
 ·have:=k2 β
  simp only [wX,hd]
  exact this
theorem AT.Rq {V:Bk→AV} {Ti H1:(Nat→Bk)→Heap} {Pi H2:Bk→Heap} (Fz:∀ β,sW tk i β=[[]]) (Js:∀ β,r7 tk i β=Ti β) (Jt:∀ β b,jk tk i (nx β i b)=Pi b) (h1:∀ β,ou (Ti β) B=some (H1 β)) (h2:∀ b,ou (Pi b) B=some (H2 b)) (hn:Nat.blt d n=true) (hr:OB d tm=ln) (LQ:dy.contains i=true)
 (qG:∀ β,ae P all [⟨some d,op,ty,pos,af,none⟩] ⟨n,zt (looks all ⟨some d,op,ty,pos,af,none⟩) (tm++acc β),H1 β⟩ (fun aK=>∃ b wk,aK=⟨n,wk,H2 b⟩∧lk wk d=some (V b)))
 (k:AT P all n B tk dy (i+1) rest ln (fun β=>(d,V (β i)) :: acc β) Q):AT P all n B tk dy i (⟨some d,op,ty,pos,af,none⟩ :: rest) tm acc Q:=by
 refine AT.Ux rfl hr LQ (fun β X hX=>?_) k
 rw [Fz β] at hX
 obtain rfl:=List.mem_singleton.1 hX
 rw [List.nil_append,Js β,show (fun b=>jk tk i (nx β i b))=Pi from funext (Jt β),← B4]
 refine qu rfl (fun d' vu=>by obtain rfl:=Option.some.inj vu;simpa using hn) (h1 β) h2 ?_ (fun e=>by cases e)
 refine fun w S a r=>fF ?_ _ _ _ (qG β w S a r)
 rintro e a' w' ⟨he,aK,S',⟨b,wk,q1,q2⟩,hh⟩
 exact ⟨he,aK,S',⟨b,wk,q1,fun d' vu=>by obtain rfl:=Option.some.inj vu;exact q2⟩,hh⟩
end rules
theorem vf (b:Bk) (es:List (Bk×PO)) (n:Nat):n∈eb (b,.bS es)↔b.cy=some n∨∃ e∈es,e.1.cy=some n:=by
 simp [eb,Ob.more,List.mem_filterMap]
theorem zA (e:Bk×PO):eb (e.1,e.2.ob)=e.1.cy.toList:=by
 obtain ⟨b,o⟩:=e
 cases o<;>simp [eb,Ob.more,PO.ob]
theorem HO {w:World} {S:Nat→Prop} {hp bZ:Heap} {bp:Bk} {es uw:List (Bk×PO)} {x:Bk×PO} (r:ck w S hp) (u:iw hp bp (.bS es) bp (.bS uw) bZ) (kO:es.Perm (x :: uw)):
 ck w S ((x.1,x.2.ob) :: bZ)∧ic w S hp w S ((x.1,x.2.ob) :: bZ):=by
 obtain ⟨p,q,rfl,rfl⟩:=u.split
 obtain ⟨Bn,gB⟩:bp.cy=none∧∀ e∈es,nM w S e.1 e.2:=r.holds (bp,.bS es) (bg.2 (.inl rfl))
 have FM:∀ e∈uw,e∈es:=fun e he=>kO.mem_iff.2 (List.mem_cons_of_mem _ he)
 have hx:x∈es:=kO.mem_iff.2 (by simp)
 have OC:x.2.ob.yA↔False:=by cases x.2<;>exact Iff.rfl
 have Ak:∀ n,n∈eb (bp,.bS es)↔n∈eb (x.1,x.2.ob)∨n∈eb (bp,.bS uw):=by
  intro n
  rw [vf,vf,zA,Bn]
  constructor
  ·rintro (h | ⟨e,he,hn⟩)
   ·cases h
   ·rcases List.mem_cons.1 (kO.mem_iff.1 he) with rfl | he
    ·exact .inl (by simp [hn])
    ·exact .inr (.inr ⟨e,he,hn⟩)
  ·rintro (h | h | ⟨e,he,hn⟩)
   ·exact .inr ⟨x,hx,by simpa using h⟩
   ·cases h
   ·exact .inr ⟨e,FM e he,hn⟩
 have JK:∀ n,Has ((x.1,x.2.ob) :: (p++(bp,.bS uw) :: q)) n↔Has (p++(bp,.bS es) :: q) n:=by
  intro n
  constructor
  ·rintro ⟨e,he,hn⟩
   rcases List.mem_cons.1 he with rfl | he
   ·exact ⟨_,bg.2 (.inl rfl),(Ak n).2 (.inl hn)⟩
   ·rcases bg.1 he with rfl | he
    ·exact ⟨_,bg.2 (.inl rfl),(Ak n).2 (.inr hn)⟩
    ·exact ⟨e,bg.2 (.inr he),hn⟩
  ·rintro ⟨e,he,hn⟩
   rcases bg.1 he with rfl | he
   ·rcases (Ak n).1 hn with h | h
    ·exact ⟨_,List.mem_cons_self,h⟩
    ·exact ⟨_,List.mem_cons_of_mem _ (bg.2 (.inl rfl)),h⟩
   ·exact ⟨e,List.mem_cons_of_mem _ (bg.2 (.inr he)),hn⟩
 have Uy:(((x.1,x.2.ob) :: (p++(bp,.bS uw) :: q)).flatMap eb).Perm ((p++(bp,.bS es) :: q).flatMap eb):=by
  have e1:(eb (bp,.bS es)).Perm (eb (x.1,x.2.ob)++eb (bp,.bS uw)):=by
   rw [zA]
   simp only [eb,Ob.more,Bn,Option.toList_none,List.nil_append]
   refine (kO.filterMap _).trans ?_
   rw [List.filterMap_cons]
   cases x.1.cy<;>simp
  rw [List.flatMap_cons,List.flatMap_append,List.flatMap_append,List.flatMap_cons,List.flatMap_cons]
  refine List.Perm.trans ?_ ((e1.symm.append_right _).append_left _)
  rw [← List.append_assoc,← List.append_assoc,← List.append_assoc,← List.append_assoc]
  refine (List.Perm.append_right _ ?_)
  exact (List.perm_append_comm.append_right _)
 refine ⟨⟨(Uy.nodup_iff).2 r.nodup,?_,?_,r.slt,r.gq⟩,⟨rfl,rfl,rfl,Nat.le_refl _,fun n hn=>⟨hn,rfl⟩,fun n _ _=>⟨rfl,id⟩,fun n hn=>.inl ((JK n).1 hn),fun _=>Nat.le_refl _⟩⟩
 ·intro e he
  rcases List.mem_cons.1 he with rfl | he
  ·exact nM.ob.1 (gB x hx)
  ·rcases bg.1 he with rfl | he
   ·exact ⟨Bn,fun e he=>gB e (FM e he)⟩
   ·exact r.holds e (bg.2 (.inr he))
 ·intro e he n hn
  rcases List.mem_cons.1 he with rfl | he
  ·have:=r.sep (bp,.bS es) (bg.2 (.inl rfl)) n ((Ak n).2 (.inl hn))
   exact ⟨fun h=>(this.1 h).elim,fun h=>(OC.1 h).elim⟩
  ·rcases bg.1 he with rfl | he
   ·have:=r.sep (bp,.bS es) (bg.2 (.inl rfl)) n ((Ak n).2 (.inr hn))
    exact ⟨fun h=>(this.1 h).elim,fun h=>h.elim⟩
   ·exact r.sep e (bg.2 (.inr he)) n hn
theorem JL {w:World} {S:Nat→Prop} {hp pj bZ:Heap} {bp:Bk} {es uw:List (Bk×PO)} {x:Bk×PO} (r:ck w S hp) (dl:xV hp x.1 x.2.ob pj) (u:iw pj bp (.bS es) bp (.bS uw) bZ) (kO:uw.Perm (x :: es)):
 ck w S bZ∧ic w S hp w S bZ:=by
 obtain ⟨p0,q0,rfl,rfl⟩:=dl.split
 have r1:ck w S ((x.1,x.2.ob) :: (p0++q0)):=by
  refine ⟨?_,fun e he=>r.holds e (bg.2 (by simpa using he)),fun e he=>r.sep e (bg.2 (by simpa using he)),r.slt,r.gq⟩
  refine ((List.Perm.flatMap_right eb ?_).nodup_iff).1 r.nodup
  exact List.perm_middle
 generalize hq:p0++q0=h1 at u r1
 obtain ⟨p,q,rfl,rfl⟩:=u.split
 obtain ⟨Bn,gB⟩:bp.cy=none∧∀ e∈es,nM w S e.1 e.2:=r1.holds (bp,.bS es) (List.mem_cons_of_mem _ (bg.2 (.inl rfl)))
 have hxh:nM w S x.1 x.2:=nM.ob.2 (r1.holds (x.1,x.2.ob) (by simp))
 have OC:x.2.ob.yA↔False:=by cases x.2<;>exact Iff.rfl
 have Ak:∀ n,n∈eb (bp,.bS uw)↔n∈eb (x.1,x.2.ob)∨n∈eb (bp,.bS es):=by
  intro n
  rw [vf,vf,zA,Bn]
  constructor
  ·rintro (h | ⟨e,he,hn⟩)
   ·cases h
   ·rcases List.mem_cons.1 (kO.mem_iff.1 he) with rfl | he
    ·exact .inl (by simp [hn])
    ·exact .inr (.inr ⟨e,he,hn⟩)
  ·rintro (h | h | ⟨e,he,hn⟩)
   ·exact .inr ⟨x,kO.mem_iff.2 (by simp),by simpa using h⟩
   ·cases h
   ·exact .inr ⟨e,kO.mem_iff.2 (List.mem_cons_of_mem _ he),hn⟩
 have e1:(eb (bp,.bS uw)).Perm (eb (x.1,x.2.ob)++eb (bp,.bS es)):=by
  rw [zA]
  simp only [eb,Ob.more,Bn,Option.toList_none,List.nil_append]
  refine (kO.filterMap _).trans ?_
  rw [List.filterMap_cons]
  cases x.1.cy<;>simp
 have Uy:(((x.1,x.2.ob) :: (p++(bp,.bS es) :: q)).flatMap eb).Perm ((p++(bp,.bS uw) :: q).flatMap eb):=by
  rw [List.flatMap_cons,List.flatMap_append,List.flatMap_append,List.flatMap_cons,List.flatMap_cons]
  refine List.Perm.trans ?_ ((e1.symm.append_right _).append_left _)
  rw [← List.append_assoc,← List.append_assoc,← List.append_assoc,← List.append_assoc]
  refine (List.Perm.append_right _ ?_)
  exact (List.perm_append_comm.append_right _)
 have JK:∀ n,Has (p++(bp,.bS uw) :: q) n→Has ((x.1,x.2.ob) :: (p++(bp,.bS es) :: q)) n:=by
  rintro n ⟨e,he,hn⟩
  rcases bg.1 he with rfl | he
  ·rcases (Ak n).1 hn with h | h
   ·exact ⟨_,List.mem_cons_self,h⟩
   ·exact ⟨_,List.mem_cons_of_mem _ (bg.2 (.inl rfl)),h⟩
  ·exact ⟨e,List.mem_cons_of_mem _ (bg.2 (.inr he)),hn⟩
 have Rr:∀ n,Has ((x.1,x.2.ob) :: (p++(bp,.bS es) :: q)) n→Has (p0++(x.1,x.2.ob) :: q0) n:=fun n hn=>by
  obtain ⟨e,he,rq⟩:=hn
  refine ⟨e,bg.2 ?_,rq⟩
  rw [hq]
  simpa using he
 refine ⟨⟨(Uy.nodup_iff).1 r1.nodup,?_,?_,r.slt,r.gq⟩,⟨rfl,rfl,rfl,Nat.le_refl _,fun n hn=>⟨hn,rfl⟩,fun n _ _=>⟨rfl,id⟩,fun n hn=>.inl (Rr n (JK n hn)),fun _=>Nat.le_refl _⟩⟩
 ·intro e he
  rcases bg.1 he with rfl | he
  ·refine ⟨Bn,fun e he=>?_⟩
   rcases List.mem_cons.1 (kO.mem_iff.1 he) with rfl | he
   ·exact hxh
   ·exact gB e he
  ·exact r1.holds e (List.mem_cons_of_mem _ (bg.2 (.inr he)))
 ·intro e he n hn
  rcases bg.1 he with rfl | he
  ·refine ⟨fun hs=>?_,fun h=>h.elim⟩
   rcases (Ak n).1 hn with h | h
   ·exact OC.1 ((r1.sep _ (by simp) n h).1 hs)
   ·exact (r1.sep (bp,.bS es) (List.mem_cons_of_mem _ (bg.2 (.inl rfl))) n h).1 hs
  ·exact r1.sep e (List.mem_cons_of_mem _ (bg.2 (.inr he))) n hn
section plain
variable {K V:Type}
variable [DecidableEq K]
variable [yK K]
theorem Cc (M:List (K×V)) (k:K) (v:V):(ny M k v).Perm ((k,v) :: qg M k):=sx k v _
end plain
section rules
variable {P:Program} {all:Array Oper} {rest:List Oper} {n:Nat} {tm:List (Nat×AV)} {hp:Heap} {Q:St→Prop} {d:Nat} {ty:TypeId} {pos:String} {af:Array Edge}
end rules
section rules
variable {P:Program} {all:Array Oper} {rest:List Oper} {n:Nat} {tm:List (Nat×AV)} {hp:Heap} {Q:St→Prop} {d:Nat} {ty:TypeId} {pos:String} {af:Array Edge}
end rules
section rules
variable {P:Program} {all:Array Oper} {rest:List Oper} {n:Nat} {tm:List (Nat×AV)} {hp:Heap} {Q:St→Prop} {d:Nat} {ty:TypeId} {pos:String} {af:Array Edge}
end rules
def rowOf (o:Option Obj):Option (Array Value):=match o with
 | some (.cells vs _ _)=>some vs
 | _=>none
theorem GX {P:Program} {w:World} {name:String} {g:Nat} (hg:P.globalNamed name=some g):w.var? P name=rowOf (w.heap[g]?):=by
 unfold World.var?
 rw [hg]
 rfl
theorem HP (xs:List (List UInt8)):flat (xs.map AV.str)=xs.map AV.str:=x7 (fun _=>rfl) xs
theorem FN {w:World} {S:Nat→Prop} (r:ck w S []) (xs:List (List UInt8)) (E:TypeId) {vs:Array Value} (hv:vs=(xs.map fun s=>Value.string ⟨s.toArray⟩).toArray):
 At (w.alloc (.cells vs E)) S (.sl 1 ⟨some w.heap.size,xs.length⟩ 0 xs.length) (.slice (some ⟨w.heap.size,0,none⟩) xs.length xs.length)∧
  ck (w.alloc (.cells vs E)) S [(⟨some w.heap.size,xs.length⟩,.arr 1 (xs.map AV.str))]∧ic w S [] (w.alloc (.cells vs E)) S [(⟨some w.heap.size,xs.length⟩,.arr 1 (xs.map AV.str))]:=by
 subst hv
 have e0:=Ext.alloc w (.cells (xs.map fun s=>Value.string ⟨s.toArray⟩).toArray E)
 have hh:Holds (w.alloc (.cells (xs.map fun s=>Value.string ⟨s.toArray⟩).toArray E)) S ⟨some w.heap.size,xs.length⟩ (.arr 1 (xs.map AV.str)):=by
  refine ⟨fun x hx=>?_,by simp,.inr ⟨w.heap.size,(xs.map fun s=>Value.string ⟨s.toArray⟩).toArray,E,rfl,?_,by simp,?_⟩⟩
  ·obtain ⟨s,_,rfl⟩:=List.mem_map.1 hx
   exact ⟨rfl,fun c hc=>by rw [List.mem_singleton.1 hc];rfl⟩
  ·show (w.heap.push _)[w.heap.size]? =_
   simp
  ·rw [HP]
   intro i c v hc hv
   simp only [List.getElem?_map,List.getElem?_toArray,Option.map_eq_some_iff] at hc hv
   obtain ⟨s,h1,rfl⟩:=hc
   obtain ⟨s',h2,rfl⟩:=hv
   rw [h1] at h2
   obtain rfl:=Option.some.inj h2
   exact .str s
 obtain ⟨k1,k2,k3⟩:=o4 r e0 id hh (.inr ⟨_,rfl,Nat.le_refl _⟩)
 refine ⟨?_,k1,k2⟩
 have:=At.sl (w:=w.alloc (.cells (xs.map fun s=>Value.string ⟨s.toArray⟩).toArray E)) (S:=S) 1 ⟨some w.heap.size,xs.length⟩ 0 xs.length w.heap.size xs.length rfl (Nat.le_refl _) (by simp)
 simpa using this
def Ma (k:IntKind) (zs:List Int) (o:Option Obj):Prop:=rowOf o=some (zs.map fun z=>Value.int k z).toArray
def JM (k:IntKind) (o:Option Obj):Prop:=∃ vs m,rowOf o=some vs∧vs[0]? =some (.int k m)
theorem Al (w:World) (g i:Nat) {vs:Array Value} (h:rowOf (w.heap[g]?)=some vs):w.cell? ⟨g,i,none⟩=vs[i]?:=by
 unfold World.cell?
 unfold rowOf at h
 split at h
 ·rename_i vZ e f ho
  obtain rfl:=Option.some.inj h
  simp [ho]
 ·cases h
def GY:List (Nat×(Option Obj→Prop))→Nat→Option (Option Obj→Prop)
 | [],_=>none
 | (k,o) :: r,g=>if g=k then some o else GY r g
theorem Cd:∀ {l:List (Nat×(Option Obj→Prop))} {g:Nat} {o:Option Obj→Prop},GY l g=some o→(g,o)∈l
 | [],_,_,h=>by cases h
 | (k,o') :: r,g,o,h=>by
   unfold GY at h
   split at h
   ·rename_i hg
    rw [hg,Option.some.inj h];simp
   ·exact List.mem_cons_of_mem _ (Cd h)
theorem JN {w:World} {g:Nat} {vs:Array Value} (h:rowOf (w.heap[g]?)=some vs):g < w.heap.size:=by
 rcases Nat.lt_or_ge g w.heap.size with h' | h'
 ·exact h'
 ·rw [Array.getElem?_eq_none h'] at h;cases h
end Go.Eng
namespace Go.Eng
open Go
section errs
variable [bt] {P:Program} {all:Array Oper} {rest:List Oper} {n:Nat} {tm:List (Nat×AV)} {hp:Heap} {Q:St→Prop} {d:Nat} {ty:TypeId} {pos:String} {af:Array Edge}
def Mb (n:Int):List UInt8:=(Utf8.encode n).data.toList
theorem HQ {src dst:TypeId} {D:TypeDesc} {x:Operand} {k:IntKind} {i:Int} [ay P src D] [ay P dst .string] (hx:bY tm x=some (.int k i)):QV P ⟨some d,.convert src dst x,ty,pos,af,none⟩ ⟨n,tm,hp⟩ (.str (Mb i)):=by
 intro w S a r
 refine ⟨.string (Utf8.encode i),fun w1 _=>?_,.str (Mb i)⟩
 have h:=run_convert_int_string w1 src dst k i (P:=P) (by rw [ay.h (P:=P) (t:=src)];rfl) (ay.h (P:=P) (t:=dst))
 simp only [execOp,(aN (σ:=⟨n,tm,hp⟩) r hx).ca,Sem.run_bind,h,Result.andThen_ok]
 rfl
def xd (a b:List UInt8):Option (List UInt8):=if a.length+b.length≤9223372036854775807 then some (a++b) else none
theorem x8 {xt yt:TypeId} {x y:Operand} {s t r:List UInt8} (h:xd s t=some r) (hx:bY tm x=some (.str s)) (hy:bY tm y=some (.str t)):QV P ⟨some d,.binOp .add xt x y yt,ty,pos,af,none⟩ ⟨n,tm,hp⟩ (.str r):=by
 unfold xd at h
 split at h
 ·rename_i hs
  obtain rfl:=Option.some.inj h
  refine fun w S a r=>⟨.string (⟨s.toArray⟩++⟨t.toArray⟩),fun w1 _=>?_,?_⟩
  ·have h1:=run_string_add_sum (P:=P) (w:=w1) (⟨s.toArray⟩:ByteArray) (⟨t.toArray⟩:ByteArray) (by simpa [ByteArray.size] using hs)
   simp [execOp,(aN (σ:=⟨n,tm,hp⟩) r hx).cI,(aN (σ:=⟨n,tm,hp⟩) r hy).cI,eqGuard,binOp,h1]
  ·have:((⟨s.toArray⟩:ByteArray)++⟨t.toArray⟩)=⟨(s++t).toArray⟩:=by apply ByteArray.ext;simp
   rw [this]
   exact .str _
 ·cases h
end errs
end Go.Eng
namespace Go.Eng
open Go
variable [bt]
section rules
variable {P:Program} {all:Array Oper} {rest:List Oper} {n:Nat} {tm:List (Nat×AV)} {hp:Heap} {Q:St→Prop} {d:Nat} {ty:TypeId} {pos:String} {af:Array Edge}
end rules
end Go.Eng
namespace Go.Eng
open Go Go.Lib
variable [bt]
theorem Ej {w:World} {g:Nat} {v:Value} (h:w.cell? ⟨g,0,none⟩=some v):∃ vs,rowOf (w.heap[g]?)=some vs∧vs[0]? =some v:=by
 unfold World.cell? at h
 cases ho:w.heap[g]? with
 | none=>simp [ho] at h
 | some o=>
   cases o with
   | cells vs e f=>exact ⟨vs,rfl,by simpa [ho] using h⟩
   | _=>simp [ho] at h
theorem Mc {w:World} {g:Nat} {k:IntKind} {m:Int} (h:w.cell? ⟨g,0,none⟩=some (.int k m)):g < w.heap.size∧JM k (w.heap[g]?):=by
 obtain ⟨vs,h1,h2⟩:=Ej h
 exact ⟨JN h1,vs,m,h1,h2⟩
theorem Md {P:Program} {W:World} {name:String} {k:IntKind} {zs:List Int} {g:Nat} {t e:TypeId} {n:Nat}
 (hg:P.globalNamed name=some g) (hty:(P.globals[g]?).map (·.type)=some t) (ht:P.underlying t=some (.array n e)) (he:P.underlying e=some (.int k)) (hce:P.cellsOf e=1) (hct:P.cellsOf t=n)
 (h:VarReads P W name (tabData k zs)):g < W.heap.size∧Ma k zs (W.heap[g]?):=by
 obtain ⟨g',t',cs,fuel,p,hg',ht',OD,hd⟩:=h
 obtain rfl:=Option.some.inj (hg.symm.trans hg')
 obtain rfl:=Option.some.inj (hty.symm.trans ht')
 rw [GX hg] at OD
 refine ⟨JN OD,?_⟩
 unfold Ma
 rw [OD,← cells_of_tab ht he hce hct hd]
end Go.Eng
namespace Go.Eng
open Go
variable {H:Type} {enc:TypeId×Value→H}
theorem Ek {a:Assume} {C:Checked} {os:Os} {f:FuncId} {fn:Func} {s:ChangeSpec} {conds:List PathCond} {apart fresh handsOn again:Bool} {X:World→Array Value→Prop}
 (hX:∀ (w w':World) (args:Array Value),w.heap=w'.heap→X w args→X w' args)
 (own:ownKnob C.prog.godebug=none) (started:os.Started) (OE:C.prog.inits.idxOf? f=none) (LS:C.prog.funcs[f]? =some fn)
 (witness:∃ (w:World) (tape:Tape) (i:Input),w.os=os∧(w.forCall tape i).Shaped C.prog∧i.vars=[]∧Input.okWide C.prog (w.forCall tape i) .any w.heap.size f i∧
  ((s.pre enc C.prog fn conds apart (w.forCall tape i).memory i.args∧X (w.forCall tape i).memory i.args)∧sizedMet enc C.prog fn (OpenSpec.ofChange s) apart (w.forCall tape i).memory i.args)∧a.holds C.prog (lone (Frame.enter C.prog f i.args .normal) [] (w.forCall tape i)))
 (walk:∀ (W:World) (base:Nat) (args:Array Value) (ds gs:List (DataW H)) (before:List MemPlace),
  (∀ (j:Nat) t v,fn.params[j]? =some t→args[j]? =some v→Value.okWide C.prog W .any base t v)→
  DataW.Whole enc C.prog fn.params.toList s.vars apart W args.toList ds gs before→
  conds.all (PathCond.test C.prog ⟨fn.params.toList,ds,s.plain.varTypes C.prog,gs⟩)=true→
  (DataW.weightsEach C.prog (fn.params.toList++s.plain.varTypes C.prog) (ds++gs)).all (· ≤reachBytes)=true→X W args∧W.ShapedOpen C.prog→
  a.holds C.prog (lone (Frame.enter C.prog f args .normal) [] W)→
  Calls C.prog f args W fun e W'=>∃ v,e=.returned v∧s.post enc C.prog fn apart fresh handsOn again W args v W'):
 ReturnsInHanded a C os f .any (fun w args=>(s.pre enc C.prog fn conds apart w args∧X w args)∧sizedMet enc C.prog fn (OpenSpec.ofChange s) apart w args) (s.post enc C.prog fn apart fresh handsOn again):=by
 refine returnsInHanded_of_calls own started OE witness ?_
 intro w tape i _ shaped _ ok pre held
 obtain ⟨_,_,_,fn',there,_,_,_,_,Uz⟩:=ok
 cases Option.some.inj (there.symm.trans LS)
 obtain ⟨⟨⟨ds,gs,before,whole,Rt⟩,x⟩,sized⟩:=pre
 have K:=walk (w.forCall tape i) w.heap.size i.args ds gs before Uz (DataW.Whole.of_heap (w':=w.forCall tape i) (by rfl) whole) Rt (sized.weights whole) ⟨hX _ _ _ (by rfl) x,shaped⟩ held
 exact K.mono fun e W' ⟨v,he,hp⟩=>by
  subst he
  exact ChangeSpec.post_blind hp
end Go.Eng
namespace Go.Eng
open Go
variable [bt]
abbrev Fq (m len cap:Nat):AV:=.raw (.slice (some ⟨m,0,none⟩) len cap)
theorem aj.Ru {n s len sz:Nat} {tm:List (Nat×AV)} {hp:Heap} {T:St→Prop} {b:Bk} (hs:lk tm s=some (.sl sz b 0 len)) (h0:0 < len)
 (k:∀ m cap,b.cy=some m→len≤cap→cap≤b.cap→aj ⟨n,(s,Fq m len cap) :: tm,hp⟩ T):aj ⟨n,tm,hp⟩ T:=by
 intro w S a r
 obtain ⟨v,h1,h2⟩:=r.tm s _ hs
 obtain ⟨oa,cap,rfl,e2⟩:=h2.nv
 rcases e2 with ⟨_,_,hl,_,_⟩ | ⟨m,hb,rfl,g1,g2⟩ | ⟨_,_,_,_,hl,_⟩
 ·omega
 ·refine k m cap hb g1 (by omega) w S a ⟨r.size,r.defers,fun t av h=>?_,r.hp⟩
  simp only [lk] at h
  split at h
  ·rename_i hq
   obtain rfl:s=t:=by simpa using hq
   obtain rfl:=Option.some.inj h
   refine ⟨_,h1,?_⟩
   rw [Nat.zero_mul]
   exact .raw _
  ·exact r.tm t av h
 ·omega
theorem aj.JO {n s m len cap sz:Nat} {tm:List (Nat×AV)} {hp:Heap} {T:St→Prop} {b:Bk} (hs:lk tm s=some (Fq m len cap)) (hb:b.cy=some m) (h1:len≤cap) (h2:cap≤b.cap)
 (k:aj ⟨n,(s,.sl sz b 0 len) :: tm,hp⟩ T):aj ⟨n,tm,hp⟩ T:=by
 intro w S a r
 refine k w S a ⟨r.size,r.defers,fun t av h=>?_,r.hp⟩
 simp only [lk] at h
 split at h
 ·rename_i hq
  obtain rfl:s=t:=by simpa using hq
  obtain rfl:=Option.some.inj h
  obtain ⟨v,g1,g2⟩:=r.tm s _ hs
  obtain rfl:=g2.ki
  refine ⟨_,g1,?_⟩
  have:=At.sl (w:=w) (S:=S) sz b 0 len m cap hb h1 (by omega)
  rwa [Nat.zero_mul] at this
 ·exact r.tm t av h
section rules
variable {P:Program} {all:Array Oper} {rest:List Oper} {n:Nat} {tm:List (Nat×AV)} {hp:Heap} {Q:St→Prop} {d:Nat} {ty:TypeId} {pos:String} {af:Array Edge}
theorem x9 {x:Operand} {t e:TypeId} {m len cap:Nat} [ay P t (.slice e)] (hx:bY tm x=some (Fq m len cap)):QV P ⟨some d,.call {callee:=.builtin .len,args:=#[x],argTypes:=#[t]},ty,pos,af,none⟩ ⟨n,tm,hp⟩ (.int .i64 (len:Nat)):=
 (fun w S a r=>⟨.int .i64 (len:Nat),fun w1 _=>by
  have h1:=(aN (σ:=⟨n,tm,hp⟩) r hx).ki
  simp [execOp,h1,resolve,invoke,builtin,Builtin.len_,run_underlying (ay.h (P:=P) (t:=t)),goInt],.int _ _⟩)
theorem CT {t e:TypeId} {i:TypeInfo} {x y z:Operand} {ky kz:IntKind} {L H:Int} {sz m len cap:Nat} {b:Bk} [ay P t (.slice e)] [aP P e i] (hx:bY tm x=some (Fq m len cap)) (eN:Nat.beq i.size sz=true) (hy:bY tm y=some (.int ky L)) (hz:bY tm z=some (.int kz H)) (hb:b.cy=some m) (hc:cap≤b.cap) (h0:0≤L) (h1:L≤H) (h2:H≤cap):
 QV P ⟨some d,.slice t x (some y) (some z) none,ty,pos,af,none⟩ ⟨n,tm,hp⟩ (.sl sz b L.toNat (H.toNat - L.toNat)):=by
 intro w S a r
 obtain rfl:i.size=sz:=Nat.eq_of_beq_eq_true eN
 have e1:=(aN (σ:=⟨n,tm,hp⟩) r hx).ki
 have ey:=(aN (σ:=⟨n,tm,hp⟩) r hy).ca
 have ez:=(aN (σ:=⟨n,tm,hp⟩) r hz).ca
 refine ⟨.slice (if cap=L.toNat then some ⟨m,0,none⟩ else some ((⟨m,0,none⟩:Addr).add (L.toNat * i.size))) (H.toNat - L.toNat) (cap - L.toNat),fun w1 _=>?_,?_⟩
 ·have q1:0≤H:=by omega
  have q2:L≤(H.toNat:Int):=by omega
  simp [execOp,Instr.sliceAt,run_underlying (ay.h (P:=P) (t:=t)),Instr.slice,e1,ey,ez,Instr.sliceBounds,Instr.sliceBound,asIntOf,h0,h2,q1,q2,sizeOf,typeInfo,aP.h (P:=P) (t:=e)]
  intro iv;omega
 ·by_cases xQ:cap=L.toNat
  ·rw [if_pos xQ,show H.toNat - L.toNat=0 by omega,show cap - L.toNat=0 by omega]
   exact .IG i.size b _ m _ hb
  ·rw [if_neg xQ]
   have:=At.sl (w:=w) (S:=S) i.size b L.toNat (H.toNat - L.toNat) m (cap - L.toNat) hb (by omega) (by omega)
   simpa [jw] using this
theorem CU {t e:TypeId} {i:TypeInfo} {x y z u:Operand} {ky kz ku:IntKind} {L H M:Int} {m len cap:Nat} [ay P t (.slice e)] [aP P e i] (hx:bY tm x=some (Fq m len cap)) (hy:bY tm y=some (.int ky L)) (hz:bY tm z=some (.int kz H)) (hu:bY tm u=some (.int ku M)) (h0:0≤L) (h1:L≤H) (h2:H≤M) (h3:M≤cap):
 QV P ⟨some d,.slice t x (some y) (some z) (some u),ty,pos,af,none⟩ ⟨n,tm,hp⟩ (.raw (.slice (if M.toNat=L.toNat then some ⟨m,0,none⟩ else some ((⟨m,0,none⟩:Addr).add (L.toNat * i.size))) (H.toNat - L.toNat) (M.toNat - L.toNat))):=by
 intro w S a r
 have e1:=(aN (σ:=⟨n,tm,hp⟩) r hx).ki
 have ey:=(aN (σ:=⟨n,tm,hp⟩) r hy).ca
 have ez:=(aN (σ:=⟨n,tm,hp⟩) r hz).ca
 have eu:=(aN (σ:=⟨n,tm,hp⟩) r hu).ca
 refine ⟨_,fun w1 _=>?_,.raw _⟩
 have q0:0≤M:=by omega
 have q1:0≤H:=by omega
 have q2:H≤max M 0:=by omega
 have q3:L≤max H 0:=by omega
 simp [execOp,Instr.sliceAt,run_underlying (ay.h (P:=P) (t:=t)),Instr.slice,e1,ey,ez,eu,Instr.sliceBounds,Instr.sliceBound,asIntOf,h0,h3,q0,q1,q2,q3,sizeOf,typeInfo,aP.h (P:=P) (t:=e)]
theorem te {t e:TypeId} {i:TypeInfo} {x z:Operand} {kz:IntKind} {H:Int} {m len cap:Nat} [ay P t (.slice e)] [aP P e i] (hx:bY tm x=some (Fq m len cap)) (hz:bY tm z=some (.int kz H)) (h0:0≤H) (h1:H≤cap):
 QV P ⟨some d,.slice t x none (some z) none,ty,pos,af,none⟩ ⟨n,tm,hp⟩ (Fq m H.toNat cap):=by
 intro w S a r
 have e1:=(aN (σ:=⟨n,tm,hp⟩) r hx).ki
 have ez:=(aN (σ:=⟨n,tm,hp⟩) r hz).ca
 refine ⟨_,fun w1 _=>?_,.raw _⟩
 simp [execOp,Instr.sliceAt,run_underlying (ay.h (P:=P) (t:=t)),Instr.slice,e1,ez,Instr.sliceBounds,Instr.sliceBound,asIntOf,h0,h1,sizeOf,typeInfo,aP.h (P:=P) (t:=e)]
 intro _;rfl
theorem mh {t e:TypeId} {i:TypeInfo} {x y:Operand} {ky:IntKind} {L:Int} {sz m len cap:Nat} {b:Bk} [ay P t (.slice e)] [aP P e i] (hx:bY tm x=some (Fq m len cap)) (eN:Nat.beq i.size sz=true) (hy:bY tm y=some (.int ky L)) (hb:b.cy=some m) (hc:cap≤b.cap) (h0:0≤L) (h1:L≤len) (h2:len≤cap):
 QV P ⟨some d,.slice t x (some y) none none,ty,pos,af,none⟩ ⟨n,tm,hp⟩ (.sl sz b L.toNat (len - L.toNat)):=by
 intro w S a r
 obtain rfl:i.size=sz:=Nat.eq_of_beq_eq_true eN
 have e1:=(aN (σ:=⟨n,tm,hp⟩) r hx).ki
 have ey:=(aN (σ:=⟨n,tm,hp⟩) r hy).ca
 refine ⟨.slice (if cap=L.toNat then some ⟨m,0,none⟩ else some ((⟨m,0,none⟩:Addr).add (L.toNat * i.size))) (len - L.toNat) (cap - L.toNat),fun w1 _=>?_,?_⟩
 ·simp [execOp,Instr.sliceAt,run_underlying (ay.h (P:=P) (t:=t)),Instr.slice,e1,ey,Instr.sliceBounds,Instr.sliceBound,asIntOf,h0,h1,sizeOf,typeInfo,aP.h (P:=P) (t:=e)]
 ·by_cases xQ:cap=L.toNat
  ·rw [if_pos xQ,show len - L.toNat=0 by omega,show cap - L.toNat=0 by omega]
   exact .IG i.size b _ m _ hb
  ·rw [if_neg xQ]
   have:=At.sl (w:=w) (S:=S) i.size b L.toNat (len - L.toNat) m (cap - L.toNat) hb (by omega) (by omega)
   simpa [jw] using this
theorem Em {t e:TypeId} {i:TypeInfo} {x y:Operand} {src:AV} {b:Bk} {k sz m cap:Nat} {xs ys:List AV} {pj bZ:Heap} [ay P t (.slice e)] [aP P e i] (hx:bY tm x=some (Fq m k cap)) (hy:bY tm y=some src) (eN:Nat.beq i.size sz=true) (h0:Nat.blt 0 sz=true) (hn:Nat.blt d n=true) (tz:b.cy=some m) (WO:cap≤b.cap)
 (hs:Src hp sz src ys) (hk:k≤xs.length) (u1:iw hp b (.arr sz xs) b (.arr sz (xs.take k)) pj) (u:iw pj b (.arr sz (xs.take k)) b (.arr sz (xs.take k++ys)) bZ) (sr:k+ys.length≤cap)
 (kk:ae P all rest ⟨n,(d,Fq m (k+ys.length) cap) :: tm,bZ⟩ Q):ae P all (⟨some d,.call {callee:=.builtin .append,args:=#[x,y],argTypes:=#[t,t]},ty,pos,af,none⟩ :: rest) ⟨n,tm,hp⟩ Q:=by
 refine ae.Dz rfl fun w S a r=>?_
 obtain rfl:i.size=sz:=Nat.eq_of_beq_eq_true eN
 have hl:(xs.take k).length=k:=by simp;omega
 obtain ⟨q1,q2⟩:=D7 r.hp u1
 have e1:=(aN (σ:=⟨n,tm,hp⟩) r hx).ki
 have hsv:=hs.at r.hp (aN (σ:=⟨n,tm,hp⟩) r hy)
 generalize xs.take k=zs at *
 subst hl
 obtain ⟨k0,ad,c,jc,e2,k1,k2,k3⟩:=hsv
 obtain ⟨g0,g1,g2⟩:=jd q1 (.inl u.lN)
 rcases g2 with ⟨g2,_⟩ | ⟨m',vs,E,g2,g3,g4,g5⟩
 ·rw [g2] at tz;cases tz
 obtain rfl:m'=m:=by rw [g2] at tz;exact Option.some.inj tz
 have hmul:(zs.length+ys.length) * i.size≤b.cap * i.size:=Nat.mul_le_mul_right _ (by omega)
 have h0:0 < i.size:=by simpa using h0
 by_cases K6:ys=[]
 ·subst K6
  have hr:=tx (P:=P) (ty:=ty) (ay.h (P:=P) (t:=t)) (aP.h (P:=P) (t:=e)) (some ⟨m',0,none⟩) ad zs.length cap c (by simpa using sr) w
  have hH:Holds w S b (.arr i.size (zs++[])):=by rw [List.append_nil];exact q1.holds _ u.lN.mem
  obtain ⟨j1,j2,j3⟩:=kj q1 u ⟨⟨rfl,rfl,rfl,Nat.le_refl _,fun _ _ _=>rfl⟩,fun _=>Nat.le_refl _⟩ id id hH (.inl rfl)
  refine ⟨.slice (some ⟨m',0,none⟩) zs.length cap,w,S,_,?_,(r.heap j3 j1).put hn (.raw _),q2.trans j2,by simpa using kk⟩
  simp at e2
  simp [execOp,resolve,invoke,builtin,e1,e2,hr]
 have hy0:jc≠[]:=by
  intro h;subst h
  have:0 < ys.length:=List.length_pos_iff.2 K6
  have:=Nat.mul_pos this h0
  rw [← k1] at this;simp at this
 have vY:∀ u∈jc,u.oneCell'=true:=sn (cs:=flat ys) (vs:=jc.toArray) (by simp [k1,bA k0]) k2 (zJ k0)
 have Gw:0 < jc.length:=List.length_pos_iff.2 hy0
 obtain ⟨Ls,rfl,_⟩:=k3 0 jc[0] (by simp [Gw])
 have Nu:∀ (j:Nat) u,jc[j]? =some u→w.cell? (Ls.add j)=some u:=fun j u hu=>by
  obtain ⟨ad2,h1,h2⟩:=k3 j u hu
  obtain rfl:=Option.some.inj h1
  exact h2
 have DL:zs.length * i.size+jc.length≤vs.size:=by rw [k1,← Nat.add_mul,g4];exact hmul
 have hr:=vH (P:=P) (ty:=ty) (ay.h (P:=P) (t:=t)) (aP.h (P:=P) (t:=e)) m' zs.length cap vs g3 Ls ys.length c jc k1 Nu vY sr DL
 have nS:¬ S m':=fun hs=>(q1.sep _ u.lN.mem m' (kJ tz)).1 hs
 have ex:∀ k,S k→S k∧(w.setRow m' (vs.toList.take (zs.length * i.size)++jc++vs.toList.drop (zs.length * i.size+jc.length)).toArray).heap[k]? =w.heap[k]?:=fun k hk=>⟨hk,setRow_other w m' k _ (fun e=>nS (e▸hk))⟩
 have uX:∀ x∈zs++ys,El i.size x:=fun x hx=>by rcases List.mem_append.1 hx with h | h;exact g0 x h;exact k0 x h
 have aa2:=bA g0
 have aa3:=bA k0
 have hH:Holds (w.setRow m' (vs.toList.take (zs.length * i.size)++jc++vs.toList.drop (zs.length * i.size+jc.length)).toArray) S b (.arr i.size (zs++ys)):=by
  refine ⟨uX,by simp;omega,.inr ⟨m',(vs.toList.take (zs.length * i.size)++jc++vs.toList.drop (zs.length * i.size+jc.length)).toArray,E,tz,setRow_heap w m' vs _ E _ g3,by simp;omega,?_⟩⟩
  rw [j8]
  have hA:gC w S (flat zs++flat ys) (vs.toList.take (zs.length * i.size)++jc).toArray:=so (by simp [bA g0];omega) (fun j c' u hc hu=>by
   simp only [List.getElem?_toArray,List.getElem?_take] at hu
   split at hu
   ·exact g5 j c' u hc (by simpa using hu)
   ·cases hu) k2
  intro j c' u hc hu
  have hj:j < (vs.toList.take (zs.length * i.size)++jc).length:=by
   have:=(List.getElem?_eq_some_iff.1 hc).1
   simp only [List.length_append,bA g0,bA k0] at this
   simp;omega
  simp only [List.getElem?_toArray] at hu
  rw [List.getElem?_append_left hj] at hu
  exact (hA j c' u hc (by simpa using hu)).mono ex
 have gb:GB w (w.setRow m' (vs.toList.take (zs.length * i.size)++jc++vs.toList.drop (zs.length * i.size+jc.length)).toArray) b.cy:=⟨⟨rfl,rfl,rfl,by simp,fun k _ hk=>setRow_other w m' k _ (fun e=>hk (by rw [tz,e]))⟩,fun _=>Nat.le_refl _⟩
 obtain ⟨j1,j2,j3⟩:=kj q1 u gb id id hH (.inl rfl)
 refine ⟨.slice (some ⟨m',0,none⟩) (zs.length+ys.length) cap,_,S,_,?_,(r.heap j3 j1).put hn (.raw _),q2.trans j2,kk⟩
 simp [execOp,resolve,invoke,builtin,e1,e2,hr]
theorem CV {t e:TypeId} {i:TypeInfo} {z:Value} {x:Operand} {b:Bk} {L N sz:Nat} {xs:List AV} [ay P t (.slice e)] [aP P e i] (hx:bY tm x=some (.sl sz b L N)) (hz:i.zero=some z) (xR:Nat.beq z.cells.size sz=true) (vY:z.cells.toList.all (fun u=>u.oneCell')=true) (eN:Nat.beq i.size sz=true) (h0:Nat.blt 0 sz=true) (hL:xs.length≤L) (f:iw hp b (.arr sz xs) b (.arr sz xs) hp) (kk:ae P all rest ⟨n,tm,hp⟩ Q):
 ae P all (⟨none,.call {callee:=.builtin .clear,args:=#[x],argTypes:=#[t]},ty,pos,af,none⟩ :: rest) ⟨n,tm,hp⟩ Q:=by
 have eN:=Nat.eq_of_beq_eq_true eN
 have xR:=Nat.eq_of_beq_eq_true xR
 refine ae.Dz rfl fun w S a r=>?_
 obtain ⟨oa,cap,e1,e2⟩:=(aN (σ:=⟨n,tm,hp⟩) r hx).nv
 rcases Nat.eq_zero_or_pos N with hN | hN
 ·subst hN
  refine ⟨.tuple #[],w,S,⟨n,tm,hp⟩,?_,r,ic.refl _ _ _,kk⟩
  cases oa<;>simp [execOp,e1,resolve,invoke,builtin,Builtin.clear_,run_underlying (ay.h (P:=P) (t:=t))]
 ·rcases e2 with ⟨_,_,hl,_,_⟩ | ⟨m,hb,rfl,h1,h2⟩ | ⟨_,_,_,_,hl,_⟩
  ·omega
  ·obtain ⟨g0,g1,⟨g2,_⟩ | ⟨m',vs,E,g2,g3,g4,g5⟩⟩:=jd r.hp (.inl f.lN)
   ·rw [g2] at hb;cases hb
   obtain rfl:m'=m:=by rw [g2] at hb;exact Option.some.inj hb
   have Gt:(Builtin.zeroCells z.cells N).size=N * sz:=by rw [size_zeroCells,xR]
   have Rv:∀ u∈(Builtin.zeroCells z.cells N).toList,u.oneCell'=true:=by
    intro u hu
    unfold Builtin.zeroCells at hu
    simp only [Array.toList_map,List.mem_map] at hu
    obtain ⟨q,hq,rfl⟩:=hu
    have hq':q < N * z.cells.size:=by simpa using hq
    have hpz:0 < z.cells.size:=by
     rcases Nat.eq_zero_or_pos z.cells.size with h | h
     ·rw [h] at hq';omega
     ·exact h
    refine List.all_eq_true.1 vY _ ?_
    rw [getElem!_pos z.cells _ (Nat.mod_lt _ hpz)]
    exact Array.getElem_mem_toList _
   have yJ:(L+N) * sz≤b.cap * sz:=Nat.mul_le_mul_right _ (by omega)
   rw [Nat.add_mul] at yJ
   have yC:=run_storeCells_at (P:=P) m' (L * sz) E (Builtin.zeroCells z.cells N).toList 0 vs w g3 (by simp [Gt];omega) Rv
   simp only [Nat.add_zero] at yC
   have zZ:(vs.toList.take (L * sz)++(Builtin.zeroCells z.cells N).toList++vs.toList.drop (L * sz+(Builtin.zeroCells z.cells N).toList.length)).toArray.size=b.cap * sz:=by
    simp [Gt];omega
   have Rw:∀ (j:Nat),j < L * sz→(vs.toList.take (L * sz)++(Builtin.zeroCells z.cells N).toList++vs.toList.drop (L * sz+(Builtin.zeroCells z.cells N).toList.length)).toArray[j]? =vs[j]?:=by
    intro j hj
    have iv:j < (vs.toList.take (L * sz)).length:=by simp;omega
    simp only [List.getElem?_toArray]
    rw [List.append_assoc,List.getElem?_append_left iv,List.getElem?_take,if_pos hj]
    simp
   generalize (vs.toList.take (L * sz)++(Builtin.zeroCells z.cells N).toList++vs.toList.drop (L * sz+(Builtin.zeroCells z.cells N).toList.length)).toArray=vZ at yC zZ Rw
   have c:GB w (w.setRow m' vZ) b.cy:=⟨⟨rfl,rfl,rfl,by simp,fun k hk tE=>setRow_other w m' k _ (fun e=>tE (by rw [g2,e]))⟩,fun _=>Nat.le_refl _⟩
   have k1:∀ n,S n→S n∧(w.setRow m' vZ).heap[n]? =w.heap[n]?:=by
    intro k hk
    refine ⟨hk,setRow_other w m' k _ (fun e=>?_)⟩
    subst e
    exact (r.hp.sep _ f.lN.mem k (kJ g2)).1 hk
   have Gu:=bA g0
   have WQ:xs.length * sz≤L * sz:=Nat.mul_le_mul_right _ hL
   have hh:=kj r.hp f c id id ⟨g0,g1,.inr ⟨m',vZ,E,g2,setRow_heap w m' vs _ E _ g3,zZ,fun j c' v hc hv=>by
    have hj:=(List.getElem?_eq_some_iff.1 hc).1
    rw [Rw j (by omega)] at hv
    exact (g5 j c' v hc hv).mono k1⟩⟩ (.inl rfl)
   refine ⟨.tuple #[],w.setRow m' vZ,S,⟨n,tm,hp⟩,?_,r.heap hh.2.2 hh.1,hh.2.1,kk⟩
   obtain ⟨N',rfl⟩:∃ k,N=k+1:=⟨N - 1,by omega⟩
   simp [execOp,e1,resolve,invoke,builtin,Builtin.clear_,run_underlying (ay.h (P:=P) (t:=t)),zeroValue,typeInfo,aP.h (P:=P) (t:=e),hz,yC]
  ·omega
theorem En {α:Type} {g:α→AV} {Xs:List α} {I' J:Int} {t e:TypeId} {i:TypeInfo} {x y:Operand} {b:Bk} {sz m cap:Nat} {pj bZ:Heap} [ay P t (.slice e)] [aP P e i] (hI:0≤I') (hIJ:I'≤J) (hJ:J≤Xs.length) (DR:Xs.length≤cap) (hx:bY tm x=some (Fq m I'.toNat cap)) (hy:bY tm y=some (.sl sz b J.toNat (Xs.length - J.toNat))) (eN:Nat.beq i.size sz=true) (h0:Nat.blt 0 sz=true) (hn:Nat.blt d n=true) (tz:b.cy=some m) (WO:cap≤b.cap)
 (u1:iw hp b (.arr sz (Xs.map g)) b (.arr sz ((Xs.take I'.toNat).map g)) pj) (u:iw pj b (.arr sz ((Xs.take I'.toNat).map g)) b (.arr sz ((Xs.take I'.toNat++Xs.drop J.toNat).map g)) bZ)
 (kk:ae P all rest ⟨n,(d,Fq m (Xs.take I'.toNat++Xs.drop J.toNat).length cap) :: tm,bZ⟩ Q):ae P all (⟨some d,.call {callee:=.builtin .append,args:=#[x,y],argTypes:=#[t,t]},ty,pos,af,none⟩ :: rest) ⟨n,tm,hp⟩ Q:=by
 have SZ:((Xs.map g).drop J.toNat).take (Xs.length - J.toNat)=(Xs.drop J.toNat).map g:=by rw [← List.map_drop,List.take_of_length_le (by simp)]
 have hs:Src hp sz (.sl sz b J.toNat (Xs.length - J.toNat)) ((Xs.drop J.toNat).map g):=by
  have:=Src.part (hp:=hp) (sz:=sz) b J.toNat (Xs.length - J.toNat) (Xs.map g) (.inl u1.lN) (by simp;omega)
  rwa [SZ] at this
 have hl:I'.toNat+((Xs.drop J.toNat).map g).length=(Xs.take I'.toNat++Xs.drop J.toNat).length:=by simp;omega
 refine Em (k:=I'.toNat) (xs:=Xs.map g) (ys:=(Xs.drop J.toNat).map g) (pj:=pj) (bZ:=bZ) hx hy eN h0 hn tz WO hs (by simp;omega) (by rw [← List.map_take];exact u1) (by rw [← List.map_take,← List.map_append];exact u) (by simp;omega) ?_
 rw [hl];exact kk
end rules
def Me {α:Type} (xs:List α) (i j:Int):Option (List α):=if 0≤i∧i < j∧j≤xs.length then some (xs.take i.toNat++xs.drop j.toNat) else none
theorem HR {α:Type} {xs r:List α} {i j:Int} (h:Me xs i j=some r):(0≤i∧i < j∧j≤xs.length)∧r=xs.take i.toNat++xs.drop j.toNat:=by
 unfold Me at h
 split at h
 ·rename_i hc;exact ⟨hc,(Option.some.inj h).symm⟩
 ·cases h
def kr (s:List UInt8):List Int:=s.map fun c=>(c.toNat:Int)
theorem HT (w:World) (e:TypeId) (s:ByteArray):Ext w (Lib.bytesWorld w e s):=by
 refine ⟨rfl,rfl,rfl,by rw [Lib.bytesWorld_size];omega,fun n hn=>Lib.bytesWorld_at_old w e s n hn,fun _=>?_⟩
 show w.drawn≤w.drawn+1
 omega
theorem ck.one {w w':World} {S:Nat→Prop} {h:Heap} (r:ck w S h) (e:Ext w w') (hs:w.heap.size < w'.heap.size):ck w' (fun n=>S n∨n=w.heap.size) h∧ic w S h w' (fun n=>S n∨n=w.heap.size) h:=by
 have iv:∀ x∈h,∀ n,n∈eb x→n < w.heap.size:=fun x hx n hn=>r.lt ⟨x,hx,hn⟩
 have hk:∀ n,S n→(S n∨n=w.heap.size)∧w'.heap[n]? =w.heap[n]?:=fun n hn=>⟨.inl hn,e.same n (r.slt n hn)⟩
 refine ⟨⟨r.nodup,fun x hx=>(r.holds x hx).mono hk (fun n hn=>e.same n (iv x hx n hn)),fun x hx n hn=>⟨fun LR=>?_,fun hf=>.inl ((r.sep x hx n hn).2 hf)⟩,fun n hn=>?_,fun g o ho=>⟨.inl (r.gq g o ho).1,BN (e.same g (r.slt g (r.gq g o ho).1)) (r.gq g o ho).2⟩⟩,
  ⟨e.os,e.tape,e.output,e.size,hk,fun n hn _=>⟨e.same n hn,fun LR=>?_⟩,fun n hn=>.inl hn,e.drawn⟩⟩
 ·rcases LR with h' | h'
  ·exact (r.sep x hx n hn).1 h'
  ·have:=iv x hx n hn;omega
 ·rcases hn with h' | h'
  ·exact Nat.lt_of_lt_of_le (r.slt n h') e.size
  ·omega
 ·rcases LR with h' | h'
  ·exact h'
  ·omega
section rules
variable {P:Program} {all:Array Oper} {rest:List Oper} {n:Nat} {tm:List (Nat×AV)} {hp:Heap} {Q:St→Prop} {d:Nat} {ty:TypeId} {pos:String} {af:Array Edge}
theorem Am (k:IntKind) (xs:List Int):flat (xs.map (AV.int k))=xs.map (AV.int k):=x7 (fun _=>rfl) xs
theorem HU {src dst e:TypeId} {D:TypeDesc} {x:Operand} {s:List UInt8} [ay P src D] [ay P dst (.slice e)] [ay P e (.int .u8)] (hx:bY tm x=some (.str s)) (hn:Nat.blt d n=true)
 (kk:ae P all rest ⟨n,(d,.list 1 ((kr s).map (AV.int .u8))) :: tm,hp⟩ Q):ae P all (⟨some d,.convert src dst x,ty,pos,af,none⟩ :: rest) ⟨n,tm,hp⟩ Q:=by
 refine ae.Dz rfl fun w S a r=>?_
 have e1:=(aN (σ:=⟨n,tm,hp⟩) r hx).cI
 have qG:=Lib.run_convert_string_bytes (P:=P) w src dst e ⟨s.toArray⟩ (ay.h (P:=P) (t:=src)) (ay.h (P:=P) (t:=dst)) (ay.h (P:=P) (t:=e))
 have hE:=HT w e ⟨s.toArray⟩
 obtain ⟨g1,g2⟩:=r.hp.one hE (by rw [Lib.bytesWorld_size];omega)
 have eN:(⟨s.toArray⟩:ByteArray).size=s.length:=by simp [ByteArray.size]
 have mO:At (Lib.bytesWorld w e ⟨s.toArray⟩) (fun n=>S n∨n=w.heap.size) (.list 1 ((kr s).map (AV.int .u8))) (.slice (some ⟨w.heap.size,0,none⟩) (⟨s.toArray⟩:ByteArray).size (grownCap w (⟨s.toArray⟩:ByteArray).size 0 e)):=by
  have hl:((kr s).map (AV.int .u8)).length=(⟨s.toArray⟩:ByteArray).size:=by rw [eN];simp [kr]
  rw [← hl]
  refine .list 1 _ _ _ ((kr s).map fun z=>Value.int .u8 z) (fun y hy=>?_) ?_ (fun i c v hc hv=>?_) (fun i v hv=>?_) ?_
  ·obtain ⟨z,_,rfl⟩:=List.mem_map.1 hy
   exact ⟨rfl,fun c hc=>by rw [List.mem_singleton.1 hc];rfl⟩
  ·rw [Am];simp
  ·rw [Am] at hc
   simp only [List.getElem?_map,Option.map_eq_some_iff] at hc hv
   obtain ⟨z,h1,rfl⟩:=hc
   obtain ⟨z',h2,rfl⟩:=hv
   rw [h1] at h2;obtain rfl:=Option.some.inj h2
   exact .int _ _
  ·have hi:i < s.length:=by
    have:=(List.getElem?_eq_some_iff.1 hv).1
    simpa [kr] using this
   refine ⟨_,rfl,rfl,.inr rfl,?_⟩
   rw [Nat.zero_add,Lib.bytesWorld_cell w e ⟨s.toArray⟩ i (by rw [eN];exact hi)]
   simp only [List.getElem?_map,kr,Option.map_eq_some_iff] at hv
   obtain ⟨z,⟨c,h1,rfl⟩,rfl⟩:=hv
   simp [List.getD,h1]
  ·rw [hl];exact grownCap_ge w _ 0 e
 refine ⟨_,Lib.bytesWorld w e ⟨s.toArray⟩,_,_,?_,(r.heap g2.iX g1).put hn mO,g2,kk⟩
 simp only [execOp,e1,Sem.run_bind,qG,Result.andThen_ok]
 rfl
end rules
section
variable {P:Program} {all:Array Oper} {rest:List Oper} {n:Nat} {tm:List (Nat×AV)} {hp:Heap} {Q:St→Prop} {d:Nat} {ty:TypeId} {pos:String} {af:Array Edge}
end
end Go.Eng
namespace Go.Eng
open Go Go.Proofs Go.Shelf Go.RowKit Go.Lib
section
variable {P:Program} (w:World)
end
variable {P:Program} {ρ:Ren}
end Go.Eng
namespace Go.Eng
open Go Go.Proofs Go.Shelf Go.Lib
variable {P:Program} {ρ:Ren} [bt]
end Go.Eng
