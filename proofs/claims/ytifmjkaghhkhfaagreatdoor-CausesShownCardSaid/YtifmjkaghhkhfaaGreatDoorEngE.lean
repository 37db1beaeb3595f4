/- The engine: abstract values, the symbolic heap, one rule for each operation. No program in sight. -/
import Derived.Test.YtifmjkaghhkhfaaGreatDoorEngD
import Derived.Laws.Runes
import Derived.Laws.Concat
import Derived.Lib.LaidU8
import Derived.Lib.LaidTab
import Derived.HandedShaped
import Derived.Lib.ConvBytes
import Derived.Shelf.Strings.BuilderF
set_option linter.unusedVariables false
set_option linter.unusedSimpArgs false
set_option linter.unusedSectionVars false
namespace Go.Eng
open Go
variable [bA]
def y9 {X A:Type} (o:Option X) (a:A) (f:X→A):A:=match o with
 | none=>a
 | some x=>f x
theorem zH {X A:Type} (a:A) (f:X→A):y9 none a f=a:=rfl
theorem zI {X A:Type} (x:X) (a:A) (f:X→A):y9 (some x) a f=f x:=rfl
theorem Of {X A:Type} {o:Option X} {a r:A} {f:X→A} {C:Prop} (h:y9 o a f=r) (kn:o=none→a=r→C) (ks:∀ x,o=some x→f x=r→C):C:=by
 cases o with
 | none=>exact kn rfl h
 | some x=>exact ks x rfl h
@[reducible] def TM {X:Type} (o:Option X) (A:AV→Heap→Prop) (B:X→AV→Heap→Prop):AV→Heap→Prop:=match o with
  | none=>A
  | some x=>B x
def T5 {zF EG JH JI JJ:Type} (H:zF→EG→JH→JI→JJ→Heap) (V:zF→EG→JH→JI→JJ→AV):AV→Heap→Prop:=fun v h=>∃ b0 b1 b2 b3 b4,h=H b0 b1 b2 b3 b4∧v=V b0 b1 b2 b3 b4
def T6 {zF EG JH JI JJ Qa:Type} (H:zF→EG→JH→JI→JJ→Qa→Heap) (V:zF→EG→JH→JI→JJ→Qa→AV):AV→Heap→Prop:=fun v h=>∃ b0 b1 b2 b3 b4 b5,h=H b0 b1 b2 b3 b4 b5∧v=V b0 b1 b2 b3 b4 b5
section rules
variable {P:Program} {all:Array Oper} {rest:List Oper} {n:Nat} {tm:List (Nat×AV)} {hp:Heap} {Q:St→Prop} {d:Nat} {ty:TypeId} {pos:String} {af:Array Edge}
theorem G9 {zF EG JH JI JJ:Type} {f:FuncId} {args:List Operand} {ts:Array TypeId} {l l':List AV} {h0 hr:Heap} {H H':zF→EG→JH→JI→JJ→Heap} {V:zF→EG→JH→JI→JJ→AV} [bq P f] (hl:zZ tm args=some l) (c:aG P f l' h0 (T5 H V)) (co:xZ hp l l') (hs:CA hp h0 hr) (ha:∀ b0 b1 b2 b3 b4,tA (H b0 b1 b2 b3 b4) hr=some (H' b0 b1 b2 b3 b4)) (hn:Nat.blt d n=true)
 (kk:∀ b0 b1 b2 b3 b4,ah P all rest ⟨n,(d,V b0 b1 b2 b3 b4) :: tm,H' b0 b1 b2 b3 b4⟩ Q):ah P all (⟨some d,.call {callee:=.value (.func f),args:=args.toArray,argTypes:=ts},ty,pos,af,none⟩ :: rest) ⟨n,tm,hp⟩ Q:=
 AY hl c co hs hn (fun r h' ⟨b0,b1,b2,b3,b4,e1,e2⟩=>by subst e1;subst e2;rw [og (ha b0 b1 b2 b3 b4)];exact kk b0 b1 b2 b3 b4)
theorem rQ {zF EG JH JI JJ Qa:Type} {f:FuncId} {args:List Operand} {ts:Array TypeId} {l l':List AV} {h0 hr:Heap} {H H':zF→EG→JH→JI→JJ→Qa→Heap} {V:zF→EG→JH→JI→JJ→Qa→AV} [bq P f] (hl:zZ tm args=some l) (c:aG P f l' h0 (T6 H V)) (co:xZ hp l l') (hs:CA hp h0 hr) (ha:∀ b0 b1 b2 b3 b4 b5,tA (H b0 b1 b2 b3 b4 b5) hr=some (H' b0 b1 b2 b3 b4 b5)) (hn:Nat.blt d n=true)
 (kk:∀ b0 b1 b2 b3 b4 b5,ah P all rest ⟨n,(d,V b0 b1 b2 b3 b4 b5) :: tm,H' b0 b1 b2 b3 b4 b5⟩ Q):ah P all (⟨some d,.call {callee:=.value (.func f),args:=args.toArray,argTypes:=ts},ty,pos,af,none⟩ :: rest) ⟨n,tm,hp⟩ Q:=
 AY hl c co hs hn (fun r h' ⟨b0,b1,b2,b3,b4,b5,e1,e2⟩=>by subst e1;subst e2;rw [og (ha b0 b1 b2 b3 b4 b5)];exact kk b0 b1 b2 b3 b4 b5)
theorem Qb {t e:TypeId} [aD P t (.pointer e)] (x:Addr) (w:World):(Op.equal t (.pointer (some x)) (.pointer none)).run P w=.ok false w:=by
 show (Op.equalIn (9999+1) t _ _).run P w=_
 rw [Op.equalIn]
 simp [run_underlying (aD.h (P:=P) (t:=t))]
theorem Qd {t e:TypeId} [aD P t (.pointer e)] (w:World):(Op.equal t (.pointer none) (.pointer none)).run P w=.ok true w:=by
 show (Op.equalIn (9999+1) t _ _).run P w=_
 rw [Op.equalIn]
 simp [run_underlying (aD.h (P:=P) (t:=t))]
theorem Ha {t e yt:TypeId} {x y:Operand} {b:Bk} {o:Nat} [aD P t (.pointer e)] (hx:cZ tm x=some (.ptr b o)) (hy:cZ tm y=some (.raw (.pointer none))):QV P ⟨some d,.binOp .eql t x y yt,ty,pos,af,none⟩ ⟨n,tm,hp⟩ (.bool false):=by
 intro w S a r
 obtain ⟨m,_,hv⟩:=(bj (σ:=⟨n,tm,hp⟩) r hx).rD
 have hu:=(bj (σ:=⟨n,tm,hp⟩) r hy).Df
 refine ⟨.bool false,fun w' _=>?_,.bool _⟩
 have h1:=Qb (P:=P) (t:=t) (e:=e) ⟨m,o,none⟩ w'
 simp [execOp,hv,hu,eqGuard,binOp,h1]
theorem ET {t e yt:TypeId} {x y:Operand} [aD P t (.pointer e)] (hx:cZ tm x=some (.raw (.pointer none))) (hy:cZ tm y=some (.raw (.pointer none))):QV P ⟨some d,.binOp .eql t x y yt,ty,pos,af,none⟩ ⟨n,tm,hp⟩ (.bool true):=by
 intro w S a r
 have hv:=(bj (σ:=⟨n,tm,hp⟩) r hx).Df
 have hu:=(bj (σ:=⟨n,tm,hp⟩) r hy).Df
 refine ⟨.bool true,fun w' _=>?_,.bool _⟩
 have h1:=Qd (P:=P) (t:=t) (e:=e) w'
 simp [execOp,hv,hu,eqGuard,binOp,h1]
end rules
section rules
variable {P:Program} {all:Array Oper} {n:Nat} {B:Heap} {tk:List Tok} {dy:List Nat} {i:Nat} {rest:List Oper} {tm qQ:List (Nat×AV)} {acc:(Nat→Bk)→List (Nat×AV)} {Q:(Nat→Bk)→List (Nat×AV)→Prop} {d:Nat} {ty:TypeId} {pos:String} {af:Array Edge} {op:Op}
end rules
theorem wA (b:Bk) (es:List (Bk×PO)) (n:Nat):n∈eb (b,.cj es)↔b.cd=some n∨∃ e∈es,e.1.cd=some n:=by
 simp [eb,Ob.more,List.mem_filterMap]
theorem Az (e:Bk×PO):eb (e.1,e.2.ob)=e.1.cd.toList:=by
 obtain ⟨b,o⟩:=e
 cases o<;>simp [eb,Ob.more,PO.ob]
theorem HY {w:World} {S:Nat→Prop} {hp de:Heap} {bp:Bk} {es xP:List (Bk×PO)} {x:Bk×PO} (r:cG w S hp) (u:nA hp bp (.cj es) bp (.cj xP) de) (o0:es.Perm (x :: xP)):
 cG w S ((x.1,x.2.ob) :: de)∧lz w S hp w S ((x.1,x.2.ob) :: de):=by
 obtain ⟨p,q,rfl,rfl⟩:=u.split
 obtain ⟨Eb,oM⟩:bp.cd=none∧∀ e∈es,oV w S e.1 e.2:=r.holds (bp,.cj es) (bl.2 (.inl rfl))
 have Ag:∀ e∈xP,e∈es:=fun e he=>o0.mem_iff.2 (List.mem_cons_of_mem _ he)
 have hx:x∈es:=o0.mem_iff.2 (by simp)
 have Og:x.2.ob.zt↔False:=by cases x.2<;>exact Iff.rfl
 have Bd:∀ n,n∈eb (bp,.cj es)↔n∈eb (x.1,x.2.ob)∨n∈eb (bp,.cj xP):=by
  intro n
  rw [wA,wA,Az,Eb]
  constructor
  ·rintro (h | ⟨e,he,hn⟩)
   ·cases h
   ·rcases List.mem_cons.1 (o0.mem_iff.1 he) with rfl | he
    ·exact .inl (by simp [hn])
    ·exact .inr (.inr ⟨e,he,hn⟩)
  ·rintro (h | h | ⟨e,he,hn⟩)
   ·exact .inr ⟨x,hx,by simpa using h⟩
   ·cases h
   ·exact .inr ⟨e,Ag e he,hn⟩
 have JK:∀ n,Has ((x.1,x.2.ob) :: (p++(bp,.cj xP) :: q)) n↔Has (p++(bp,.cj es) :: q) n:=by
  intro n
  constructor
  ·rintro ⟨e,he,hn⟩
   rcases List.mem_cons.1 he with rfl | he
   ·exact ⟨_,bl.2 (.inl rfl),(Bd n).2 (.inl hn)⟩
   ·rcases bl.1 he with rfl | he
    ·exact ⟨_,bl.2 (.inl rfl),(Bd n).2 (.inr hn)⟩
    ·exact ⟨e,bl.2 (.inr he),hn⟩
  ·rintro ⟨e,he,hn⟩
   rcases bl.1 he with rfl | he
   ·rcases (Bd n).1 hn with h | h
    ·exact ⟨_,List.mem_cons_self,h⟩
    ·exact ⟨_,List.mem_cons_of_mem _ (bl.2 (.inl rfl)),h⟩
   ·exact ⟨e,List.mem_cons_of_mem _ (bl.2 (.inr he)),hn⟩
 have SL:(((x.1,x.2.ob) :: (p++(bp,.cj xP) :: q)).flatMap eb).Perm ((p++(bp,.cj es) :: q).flatMap eb):=by
  have e1:(eb (bp,.cj es)).Perm (eb (x.1,x.2.ob)++eb (bp,.cj xP)):=by
   rw [Az]
   simp only [eb,Ob.more,Eb,Option.toList_none,List.nil_append]
   refine (o0.filterMap _).trans ?_
   rw [List.filterMap_cons]
   cases x.1.cd<;>simp
  rw [List.flatMap_cons,List.flatMap_append,List.flatMap_append,List.flatMap_cons,List.flatMap_cons]
  refine List.Perm.trans ?_ ((e1.symm.append_right _).append_left _)
  rw [← List.append_assoc,← List.append_assoc,← List.append_assoc,← List.append_assoc]
  refine (List.Perm.append_right _ ?_)
  exact (List.perm_append_comm.append_right _)
 refine ⟨⟨(SL.nodup_iff).2 r.nodup,?_,?_,r.slt,r.jt⟩,⟨rfl,rfl,rfl,Nat.le_refl _,fun n hn=>⟨hn,rfl⟩,fun n _ _=>⟨rfl,id⟩,fun n hn=>.inl ((JK n).1 hn),fun _=>Nat.le_refl _⟩⟩
 ·intro e he
  rcases List.mem_cons.1 he with rfl | he
  ·exact oV.ob.1 (oM x hx)
  ·rcases bl.1 he with rfl | he
   ·exact ⟨Eb,fun e he=>oM e (Ag e he)⟩
   ·exact r.holds e (bl.2 (.inr he))
 ·intro e he n hn
  rcases List.mem_cons.1 he with rfl | he
  ·have:=r.sep (bp,.cj es) (bl.2 (.inl rfl)) n ((Bd n).2 (.inl hn))
   exact ⟨fun h=>(this.1 h).elim,fun h=>(Og.1 h).elim⟩
  ·rcases bl.1 he with rfl | he
   ·have:=r.sep (bp,.cj es) (bl.2 (.inl rfl)) n ((Bd n).2 (.inr hn))
    exact ⟨fun h=>(this.1 h).elim,fun h=>h.elim⟩
   ·exact r.sep e (bl.2 (.inr he)) n hn
theorem JL {w:World} {S:Nat→Prop} {hp yd de:Heap} {bp:Bk} {es xP:List (Bk×PO)} {x:Bk×PO} (r:cG w S hp) (dl:xU hp x.1 x.2.ob yd) (u:nA yd bp (.cj es) bp (.cj xP) de) (o0:xP.Perm (x :: es)):
 cG w S de∧lz w S hp w S de:=by
 obtain ⟨p0,q0,rfl,rfl⟩:=dl.split
 have r1:cG w S ((x.1,x.2.ob) :: (p0++q0)):=by
  refine ⟨?_,fun e he=>r.holds e (bl.2 (by simpa using he)),fun e he=>r.sep e (bl.2 (by simpa using he)),r.slt,r.jt⟩
  refine ((List.Perm.flatMap_right eb ?_).nodup_iff).1 r.nodup
  exact List.perm_middle
 generalize hq:p0++q0=h1 at u r1
 obtain ⟨p,q,rfl,rfl⟩:=u.split
 obtain ⟨Eb,oM⟩:bp.cd=none∧∀ e∈es,oV w S e.1 e.2:=r1.holds (bp,.cj es) (List.mem_cons_of_mem _ (bl.2 (.inl rfl)))
 have Y1:oV w S x.1 x.2:=oV.ob.2 (r1.holds (x.1,x.2.ob) (by simp))
 have Og:x.2.ob.zt↔False:=by cases x.2<;>exact Iff.rfl
 have Bd:∀ n,n∈eb (bp,.cj xP)↔n∈eb (x.1,x.2.ob)∨n∈eb (bp,.cj es):=by
  intro n
  rw [wA,wA,Az,Eb]
  constructor
  ·rintro (h | ⟨e,he,hn⟩)
   ·cases h
   ·rcases List.mem_cons.1 (o0.mem_iff.1 he) with rfl | he
    ·exact .inl (by simp [hn])
    ·exact .inr (.inr ⟨e,he,hn⟩)
  ·rintro (h | h | ⟨e,he,hn⟩)
   ·exact .inr ⟨x,o0.mem_iff.2 (by simp),by simpa using h⟩
   ·cases h
   ·exact .inr ⟨e,o0.mem_iff.2 (List.mem_cons_of_mem _ he),hn⟩
 have e1:(eb (bp,.cj xP)).Perm (eb (x.1,x.2.ob)++eb (bp,.cj es)):=by
  rw [Az]
  simp only [eb,Ob.more,Eb,Option.toList_none,List.nil_append]
  refine (o0.filterMap _).trans ?_
  rw [List.filterMap_cons]
  cases x.1.cd<;>simp
 have SL:(((x.1,x.2.ob) :: (p++(bp,.cj es) :: q)).flatMap eb).Perm ((p++(bp,.cj xP) :: q).flatMap eb):=by
  rw [List.flatMap_cons,List.flatMap_append,List.flatMap_append,List.flatMap_cons,List.flatMap_cons]
  refine List.Perm.trans ?_ ((e1.symm.append_right _).append_left _)
  rw [← List.append_assoc,← List.append_assoc,← List.append_assoc,← List.append_assoc]
  refine (List.Perm.append_right _ ?_)
  exact (List.perm_append_comm.append_right _)
 have JK:∀ n,Has (p++(bp,.cj xP) :: q) n→Has ((x.1,x.2.ob) :: (p++(bp,.cj es) :: q)) n:=by
  rintro n ⟨e,he,hn⟩
  rcases bl.1 he with rfl | he
  ·rcases (Bd n).1 hn with h | h
   ·exact ⟨_,List.mem_cons_self,h⟩
   ·exact ⟨_,List.mem_cons_of_mem _ (bl.2 (.inl rfl)),h⟩
  ·exact ⟨e,List.mem_cons_of_mem _ (bl.2 (.inr he)),hn⟩
 have Qe:∀ n,Has ((x.1,x.2.ob) :: (p++(bp,.cj es) :: q)) n→Has (p0++(x.1,x.2.ob) :: q0) n:=fun n hn=>by
  obtain ⟨e,he,tO⟩:=hn
  refine ⟨e,bl.2 ?_,tO⟩
  rw [hq]
  simpa using he
 refine ⟨⟨(SL.nodup_iff).1 r1.nodup,?_,?_,r.slt,r.jt⟩,⟨rfl,rfl,rfl,Nat.le_refl _,fun n hn=>⟨hn,rfl⟩,fun n _ _=>⟨rfl,id⟩,fun n hn=>.inl (Qe n (JK n hn)),fun _=>Nat.le_refl _⟩⟩
 ·intro e he
  rcases bl.1 he with rfl | he
  ·refine ⟨Eb,fun e he=>?_⟩
   rcases List.mem_cons.1 (o0.mem_iff.1 he) with rfl | he
   ·exact Y1
   ·exact oM e he
  ·exact r1.holds e (List.mem_cons_of_mem _ (bl.2 (.inr he)))
 ·intro e he n hn
  rcases bl.1 he with rfl | he
  ·refine ⟨fun hs=>?_,fun h=>h.elim⟩
   rcases (Bd n).1 hn with h | h
   ·exact Og.1 ((r1.sep _ (by simp) n h).1 hs)
   ·exact (r1.sep (bp,.cj es) (List.mem_cons_of_mem _ (bl.2 (.inl rfl))) n h).1 hs
  ·exact r1.sep e (List.mem_cons_of_mem _ (bl.2 (.inr he))) n hn
section plain
variable {K V:Type}
variable [DecidableEq K]
variable [x8 K]
end plain
section rules
variable {P:Program} {all:Array Oper} {rest:List Oper} {n:Nat} {tm:List (Nat×AV)} {hp:Heap} {Q:St→Prop} {d:Nat} {ty:TypeId} {pos:String} {af:Array Edge}
end rules
section rules
variable {P:Program} {all:Array Oper} {rest:List Oper} {n:Nat} {tm:List (Nat×AV)} {hp:Heap} {Q:St→Prop} {d:Nat} {ty:TypeId} {pos:String} {af:Array Edge}
end rules
section rules
variable {P:Program} {all:Array Oper} {rest:List Oper} {n:Nat} {tm:List (Nat×AV)} {hp:Heap} {Q:St→Prop} {d:Nat} {ty:TypeId} {pos:String} {af:Array Edge}
end rules
def Hb:List (Nat×(Option Obj→Prop))→Nat→Option (Option Obj→Prop)
 | [],_=>none
 | (k,o) :: r,g=>if g=k then some o else Hb r g
theorem CO:∀ {l:List (Nat×(Option Obj→Prop))} {g:Nat} {o:Option Obj→Prop},Hb l g=some o→(g,o)∈l
 | [],_,_,h=>by cases h
 | (k,o') :: r,g,o,h=>by
   unfold Hb at h
   split at h
   ·rename_i hg
    rw [hg,Option.some.inj h];simp
   ·exact List.mem_cons_of_mem _ (CO h)
end Go.Eng
namespace Go.Eng
open Go
section errs
variable [bA] {P:Program} {all:Array Oper} {rest:List Oper} {n:Nat} {tm:List (Nat×AV)} {hp:Heap} {Q:St→Prop} {d:Nat} {ty:TypeId} {pos:String} {af:Array Edge}
end errs
end Go.Eng
namespace Go.Eng
open Go
variable [bA]
section rules
variable {P:Program} {all:Array Oper} {rest:List Oper} {n:Nat} {tm:List (Nat×AV)} {hp:Heap} {Q:St→Prop} {d:Nat} {ty:TypeId} {pos:String} {af:Array Edge}
end rules
end Go.Eng
namespace Go.Eng
open Go Go.Lib
variable [bA]
end Go.Eng
namespace Go.Eng
open Go
variable {H:Type} {enc:TypeId×Value→H}
theorem EU {a:Assume} {C:Checked} {os:Os} {f:FuncId} {fn:Func} {s:ChangeSpec} {conds:List PathCond} {apart fresh handsOn again:Bool} {X:World→Array Value→Prop}
 (hX:∀ (w w':World) (args:Array Value),w.heap=w'.heap→X w args→X w' args)
 (own:ownKnob C.prog.godebug=none) (started:os.Started) (Oh:C.prog.inits.idxOf? f=none) (Jx:C.prog.funcs[f]? =some fn)
 (witness:∃ (w:World) (tape:Tape) (i:Input),w.os=os∧(w.forCall tape i).Shaped C.prog∧i.vars=[]∧Input.okWide C.prog (w.forCall tape i) .any w.heap.size f i∧
  ((s.pre enc C.prog fn conds apart (w.forCall tape i).memory i.args∧X (w.forCall tape i).memory i.args)∧sizedMet enc C.prog fn (OpenSpec.ofChange s) apart (w.forCall tape i).memory i.args)∧a.holds C.prog (lone (Frame.enter C.prog f i.args .normal) [] (w.forCall tape i)))
 (walk:∀ (W:World) (base:Nat) (args:Array Value) (ds gs:List (DataW H)) (before:List MemPlace),
  (∀ (j:Nat) t v,fn.params[j]? =some t→args[j]? =some v→Value.okWide C.prog W .any base t v)→
  DataW.Whole enc C.prog fn.params.toList s.vars apart W args.toList ds gs before→
  conds.all (PathCond.test C.prog ⟨fn.params.toList,ds,s.plain.varTypes C.prog,gs⟩)=true→
  (DataW.weightsEach C.prog (fn.params.toList++s.plain.varTypes C.prog) (ds++gs)).all (· ≤reachBytes)=true→X W args∧W.ShapedOpen C.prog→
  a.holds C.prog (lone (Frame.enter C.prog f args .normal) [] W)→
  Calls C.prog f args W fun e W'=>∃ v,e=.returned v∧s.post enc C.prog fn apart fresh handsOn again W args v W'):
 ReturnsInHanded a C os f .any (fun w args=>(s.pre enc C.prog fn conds apart w args∧X w args)∧sizedMet enc C.prog fn (OpenSpec.ofChange s) apart w args) (s.post enc C.prog fn apart fresh handsOn again):=by
 refine returnsInHanded_of_calls own started Oh witness ?_
 intro w tape i _ shaped _ ok pre held
 obtain ⟨_,_,_,fn',there,_,_,_,_,SN⟩:=ok
 cases Option.some.inj (there.symm.trans Jx)
 obtain ⟨⟨⟨ds,gs,before,whole,Qf⟩,x⟩,sized⟩:=pre
 have K:=walk (w.forCall tape i) w.heap.size i.args ds gs before SN (DataW.Whole.of_heap (w':=w.forCall tape i) (by rfl) whole) Qf (sized.weights whole) ⟨hX _ _ _ (by rfl) x,shaped⟩ held
 exact K.mono fun e W' ⟨v,he,hp⟩=>by
  subst he
  exact ChangeSpec.post_blind hp
end Go.Eng
namespace Go.Eng
open Go
variable [bA]
section rules
variable {P:Program} {all:Array Oper} {rest:List Oper} {n:Nat} {tm:List (Nat×AV)} {hp:Heap} {Q:St→Prop} {d:Nat} {ty:TypeId} {pos:String} {af:Array Edge}
end rules
section rules
variable {P:Program} {all:Array Oper} {rest:List Oper} {n:Nat} {tm:List (Nat×AV)} {hp:Heap} {Q:St→Prop} {d:Nat} {ty:TypeId} {pos:String} {af:Array Edge}
end rules
section
variable {P:Program} {all:Array Oper} {rest:List Oper} {n:Nat} {tm:List (Nat×AV)} {hp:Heap} {Q:St→Prop} {d:Nat} {ty:TypeId} {pos:String} {af:Array Edge}
end
end Go.Eng
namespace Go.Eng
open Go Go.Proofs Go.Shelf Go.RowKit Go.Lib
section
variable {P:Program} (w:World)
end
variable {P:Program} {ρ:Ren}
end Go.Eng
namespace Go.Eng
open Go Go.Proofs Go.Shelf Go.Lib
variable {P:Program} {ρ:Ren} [bA]
end Go.Eng
