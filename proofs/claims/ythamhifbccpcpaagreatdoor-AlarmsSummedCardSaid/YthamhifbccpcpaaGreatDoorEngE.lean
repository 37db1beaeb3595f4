/- The engine: abstract values, the symbolic heap, one rule for each operation. No program in sight. -/
import Derived.Test.YthamhifbccpcpaaGreatDoorEngD
import Derived.Laws.Runes
import Derived.Laws.Concat
import Derived.Lib.LaidU8
import Derived.Lib.LaidTab
import Derived.HandedShaped
import Derived.Lib.ConvBytes
import Derived.Shelf.Strings.BuilderF
set_option linter.unusedVariables false
set_option linter.unusedSimpArgs false
set_option linter.unusedSectionVars false
namespace Go.Eng
open Go
variable [bF]
def tj {X A:Type} (o:Option X) (a:A) (f:X→A):A:=match o with
 | none=>a
 | some x=>f x
theorem uF {X A:Type} (a:A) (f:X→A):tj none a f=a:=rfl
theorem pv {X A:Type} (x:X) (a:A) (f:X→A):tj (some x) a f=f x:=rfl
theorem Jb {X A:Type} {o:Option X} {a r:A} {f:X→A} {C:Prop} (h:tj o a f=r) (kn:o=none→a=r→C) (ks:∀ x,o=some x→f x=r→C):C:=by
 cases o with
 | none=>exact kn rfl h
 | some x=>exact ks x rfl h
@[reducible] def TM {X:Type} (o:Option X) (A:AV→Heap→Prop) (B:X→AV→Heap→Prop):AV→Heap→Prop:=match o with
  | none=>A
  | some x=>B x
def T6 {Ae KA S9 Ta Tb Tc:Type} (H:Ae→KA→S9→Ta→Tb→Tc→Heap) (V:Ae→KA→S9→Ta→Tb→Tc→AV):AV→Heap→Prop:=fun v h=>∃ b0 b1 b2 b3 b4 b5,h=H b0 b1 b2 b3 b4 b5∧v=V b0 b1 b2 b3 b4 b5
section rules
variable {P:Program} {all:Array Oper} {rest:List Oper} {n:Nat} {tm:List (Nat×AV)} {hp:Heap} {Q:St→Prop} {d:Nat} {ty:TypeId} {pos:String} {af:Array Edge}
theorem qx {Ae KA S9 Ta Tb Tc:Type} {f:FuncId} {args:List Operand} {ts:Array TypeId} {l l':List AV} {h0 hr:Heap} {H H':Ae→KA→S9→Ta→Tb→Tc→Heap} {V:Ae→KA→S9→Ta→Tb→Tc→AV} [bu P f] (hl:x1 tm args=some l) (c:aJ P f l' h0 (T6 H V)) (co:wT hp l l') (hs:B8 hp h0 hr) (ha:∀ b0 b1 b2 b3 b4 b5,sf (H b0 b1 b2 b3 b4 b5) hr=some (H' b0 b1 b2 b3 b4 b5)) (hn:Nat.blt d n=true)
 (kk:∀ b0 b1 b2 b3 b4 b5,ae P all rest ⟨n,(d,V b0 b1 b2 b3 b4 b5) :: tm,H' b0 b1 b2 b3 b4 b5⟩ Q):ae P all (⟨some d,.call {callee:=.value (.func f),args:=args.toArray,argTypes:=ts},ty,pos,af,none⟩ :: rest) ⟨n,tm,hp⟩ Q:=
 Dd hl c co hs hn (fun r h' ⟨b0,b1,b2,b3,b4,b5,e1,e2⟩=>by subst e1;subst e2;rw [nu (ha b0 b1 b2 b3 b4 b5)];exact kk b0 b1 b2 b3 b4 b5)
theorem Td {t e:TypeId} [aE P t (.pointer e)] (x:Addr) (w:World):(Op.equal t (.pointer (some x)) (.pointer none)).run P w=.ok false w:=by
 show (Op.equalIn (9999+1) t _ _).run P w=_
 rw [Op.equalIn]
 simp [run_underlying (aE.h (P:=P) (t:=t))]
theorem Te {t e:TypeId} [aE P t (.pointer e)] (w:World):(Op.equal t (.pointer none) (.pointer none)).run P w=.ok true w:=by
 show (Op.equalIn (9999+1) t _ _).run P w=_
 rw [Op.equalIn]
 simp [run_underlying (aE.h (P:=P) (t:=t))]
theorem Dl {t e yt:TypeId} {x y:Operand} {b:Bk} {o:Nat} [aE P t (.pointer e)] (hx:cG tm x=some (.ptr b o)) (hy:cG tm y=some (.raw (.pointer none))):QV P ⟨some d,.binOp .eql t x y yt,ty,pos,af,none⟩ ⟨n,tm,hp⟩ (.bool false):=by
 intro w S a r
 obtain ⟨m,_,hv⟩:=(bj (σ:=⟨n,tm,hp⟩) r hx).lK
 have hu:=(bj (σ:=⟨n,tm,hp⟩) r hy).zB
 refine ⟨.bool false,fun w' _=>?_,.bool _⟩
 have h1:=Td (P:=P) (t:=t) (e:=e) ⟨m,o,none⟩ w'
 simp [execOp,hv,hu,eqGuard,binOp,h1]
theorem Au {t e yt:TypeId} {x y:Operand} [aE P t (.pointer e)] (hx:cG tm x=some (.raw (.pointer none))) (hy:cG tm y=some (.raw (.pointer none))):QV P ⟨some d,.binOp .eql t x y yt,ty,pos,af,none⟩ ⟨n,tm,hp⟩ (.bool true):=by
 intro w S a r
 have hv:=(bj (σ:=⟨n,tm,hp⟩) r hx).zB
 have hu:=(bj (σ:=⟨n,tm,hp⟩) r hy).zB
 refine ⟨.bool true,fun w' _=>?_,.bool _⟩
 have h1:=Te (P:=P) (t:=t) (e:=e) w'
 simp [execOp,hv,hu,eqGuard,binOp,h1]
end rules
section rules
variable {P:Program} {all:Array Oper} {n:Nat} {B:Heap} {tk:List Tok} {dy:List Nat} {i:Nat} {rest:List Oper} {tm pP:List (Nat×AV)} {acc:(Nat→Bk)→List (Nat×AV)} {Q:(Nat→Bk)→List (Nat×AV)→Prop} {d:Nat} {ty:TypeId} {pos:String} {af:Array Edge} {op:Op}
end rules
theorem vu (b:Bk) (es:List (Bk×PO)) (n:Nat):n∈eb (b,.bU es)↔b.bN=some n∨∃ e∈es,e.1.bN=some n:=by
 simp [eb,Ob.more,List.mem_filterMap]
theorem zG (e:Bk×PO):eb (e.1,e.2.ob)=e.1.bN.toList:=by
 obtain ⟨b,o⟩:=e
 cases o<;>simp [eb,Ob.more,PO.ob]
theorem Jc {w:World} {S:Nat→Prop} {hp cC:Heap} {bp:Bk} {es wU:List (Bk×PO)} {x:Bk×PO} (r:ck w S hp) (u:mT hp bp (.bU es) bp (.bU wU) cC) (nP:es.Perm (x :: wU)):
 ck w S ((x.1,x.2.ob) :: cC)∧iE w S hp w S ((x.1,x.2.ob) :: cC):=by
 obtain ⟨p,q,rfl,rfl⟩:=u.split
 obtain ⟨Bu,gU⟩:bp.bN=none∧∀ e∈es,om w S e.1 e.2:=r.holds (bp,.bU es) (bd.2 (.inl rfl))
 have uc:∀ e∈wU,e∈es:=fun e he=>nP.mem_iff.2 (List.mem_cons_of_mem _ he)
 have hx:x∈es:=nP.mem_iff.2 (by simp)
 have Qp:x.2.ob.yC↔False:=by cases x.2<;>exact Iff.rfl
 have Av:∀ n,n∈eb (bp,.bU es)↔n∈eb (x.1,x.2.ob)∨n∈eb (bp,.bU wU):=by
  intro n
  rw [vu,vu,zG,Bu]
  constructor
  ·rintro (h | ⟨e,he,hn⟩)
   ·cases h
   ·rcases List.mem_cons.1 (nP.mem_iff.1 he) with rfl | he
    ·exact .inl (by simp [hn])
    ·exact .inr (.inr ⟨e,he,hn⟩)
  ·rintro (h | h | ⟨e,he,hn⟩)
   ·exact .inr ⟨x,hx,by simpa using h⟩
   ·cases h
   ·exact .inr ⟨e,uc e he,hn⟩
 have K3:∀ n,Has ((x.1,x.2.ob) :: (p++(bp,.bU wU) :: q)) n↔Has (p++(bp,.bU es) :: q) n:=by
  intro n
  constructor
  ·rintro ⟨e,he,hn⟩
   rcases List.mem_cons.1 he with rfl | he
   ·exact ⟨_,bd.2 (.inl rfl),(Av n).2 (.inl hn)⟩
   ·rcases bd.1 he with rfl | he
    ·exact ⟨_,bd.2 (.inl rfl),(Av n).2 (.inr hn)⟩
    ·exact ⟨e,bd.2 (.inr he),hn⟩
  ·rintro ⟨e,he,hn⟩
   rcases bd.1 he with rfl | he
   ·rcases (Av n).1 hn with h | h
    ·exact ⟨_,List.mem_cons_self,h⟩
    ·exact ⟨_,List.mem_cons_of_mem _ (bd.2 (.inl rfl)),h⟩
   ·exact ⟨e,List.mem_cons_of_mem _ (bd.2 (.inr he)),hn⟩
 have Wy:(((x.1,x.2.ob) :: (p++(bp,.bU wU) :: q)).flatMap eb).Perm ((p++(bp,.bU es) :: q).flatMap eb):=by
  have e1:(eb (bp,.bU es)).Perm (eb (x.1,x.2.ob)++eb (bp,.bU wU)):=by
   rw [zG]
   simp only [eb,Ob.more,Bu,Option.toList_none,List.nil_append]
   refine (nP.filterMap _).trans ?_
   rw [List.filterMap_cons]
   cases x.1.bN<;>simp
  rw [List.flatMap_cons,List.flatMap_append,List.flatMap_append,List.flatMap_cons,List.flatMap_cons]
  refine List.Perm.trans ?_ ((e1.symm.append_right _).append_left _)
  rw [← List.append_assoc,← List.append_assoc,← List.append_assoc,← List.append_assoc]
  refine (List.Perm.append_right _ ?_)
  exact (List.perm_append_comm.append_right _)
 refine ⟨⟨(Wy.nodup_iff).2 r.nodup,?_,?_,r.slt,r.fe⟩,⟨rfl,rfl,rfl,Nat.le_refl _,fun n hn=>⟨hn,rfl⟩,fun n _ _=>⟨rfl,id⟩,fun n hn=>.inl ((K3 n).1 hn),fun _=>Nat.le_refl _⟩⟩
 ·intro e he
  rcases List.mem_cons.1 he with rfl | he
  ·exact om.ob.1 (gU x hx)
  ·rcases bd.1 he with rfl | he
   ·exact ⟨Bu,fun e he=>gU e (uc e he)⟩
   ·exact r.holds e (bd.2 (.inr he))
 ·intro e he n hn
  rcases List.mem_cons.1 he with rfl | he
  ·have:=r.sep (bp,.bU es) (bd.2 (.inl rfl)) n ((Av n).2 (.inl hn))
   exact ⟨fun h=>(this.1 h).elim,fun h=>(Qp.1 h).elim⟩
  ·rcases bd.1 he with rfl | he
   ·have:=r.sep (bp,.bU es) (bd.2 (.inl rfl)) n ((Av n).2 (.inr hn))
    exact ⟨fun h=>(this.1 h).elim,fun h=>h.elim⟩
   ·exact r.sep e (bd.2 (.inr he)) n hn
theorem K4 {w:World} {S:Nat→Prop} {hp xf cC:Heap} {bp:Bk} {es wU:List (Bk×PO)} {x:Bk×PO} (r:ck w S hp) (dl:x2 hp x.1 x.2.ob xf) (u:mT xf bp (.bU es) bp (.bU wU) cC) (nP:wU.Perm (x :: es)):
 ck w S cC∧iE w S hp w S cC:=by
 obtain ⟨p0,q0,rfl,rfl⟩:=dl.split
 have r1:ck w S ((x.1,x.2.ob) :: (p0++q0)):=by
  refine ⟨?_,fun e he=>r.holds e (bd.2 (by simpa using he)),fun e he=>r.sep e (bd.2 (by simpa using he)),r.slt,r.fe⟩
  refine ((List.Perm.flatMap_right eb ?_).nodup_iff).1 r.nodup
  exact List.perm_middle
 generalize hq:p0++q0=h1 at u r1
 obtain ⟨p,q,rfl,rfl⟩:=u.split
 obtain ⟨Bu,gU⟩:bp.bN=none∧∀ e∈es,om w S e.1 e.2:=r1.holds (bp,.bU es) (List.mem_cons_of_mem _ (bd.2 (.inl rfl)))
 have hxh:om w S x.1 x.2:=om.ob.2 (r1.holds (x.1,x.2.ob) (by simp))
 have Qp:x.2.ob.yC↔False:=by cases x.2<;>exact Iff.rfl
 have Av:∀ n,n∈eb (bp,.bU wU)↔n∈eb (x.1,x.2.ob)∨n∈eb (bp,.bU es):=by
  intro n
  rw [vu,vu,zG,Bu]
  constructor
  ·rintro (h | ⟨e,he,hn⟩)
   ·cases h
   ·rcases List.mem_cons.1 (nP.mem_iff.1 he) with rfl | he
    ·exact .inl (by simp [hn])
    ·exact .inr (.inr ⟨e,he,hn⟩)
  ·rintro (h | h | ⟨e,he,hn⟩)
   ·exact .inr ⟨x,nP.mem_iff.2 (by simp),by simpa using h⟩
   ·cases h
   ·exact .inr ⟨e,nP.mem_iff.2 (List.mem_cons_of_mem _ he),hn⟩
 have e1:(eb (bp,.bU wU)).Perm (eb (x.1,x.2.ob)++eb (bp,.bU es)):=by
  rw [zG]
  simp only [eb,Ob.more,Bu,Option.toList_none,List.nil_append]
  refine (nP.filterMap _).trans ?_
  rw [List.filterMap_cons]
  cases x.1.bN<;>simp
 have Wy:(((x.1,x.2.ob) :: (p++(bp,.bU es) :: q)).flatMap eb).Perm ((p++(bp,.bU wU) :: q).flatMap eb):=by
  rw [List.flatMap_cons,List.flatMap_append,List.flatMap_append,List.flatMap_cons,List.flatMap_cons]
  refine List.Perm.trans ?_ ((e1.symm.append_right _).append_left _)
  rw [← List.append_assoc,← List.append_assoc,← List.append_assoc,← List.append_assoc]
  refine (List.Perm.append_right _ ?_)
  exact (List.perm_append_comm.append_right _)
 have K3:∀ n,Has (p++(bp,.bU wU) :: q) n→Has ((x.1,x.2.ob) :: (p++(bp,.bU es) :: q)) n:=by
  rintro n ⟨e,he,hn⟩
  rcases bd.1 he with rfl | he
  ·rcases (Av n).1 hn with h | h
   ·exact ⟨_,List.mem_cons_self,h⟩
   ·exact ⟨_,List.mem_cons_of_mem _ (bd.2 (.inl rfl)),h⟩
  ·exact ⟨e,List.mem_cons_of_mem _ (bd.2 (.inr he)),hn⟩
 have Tf:∀ n,Has ((x.1,x.2.ob) :: (p++(bp,.bU es) :: q)) n→Has (p0++(x.1,x.2.ob) :: q0) n:=fun n hn=>by
  obtain ⟨e,he,qe⟩:=hn
  refine ⟨e,bd.2 ?_,qe⟩
  rw [hq]
  simpa using he
 refine ⟨⟨(Wy.nodup_iff).1 r1.nodup,?_,?_,r.slt,r.fe⟩,⟨rfl,rfl,rfl,Nat.le_refl _,fun n hn=>⟨hn,rfl⟩,fun n _ _=>⟨rfl,id⟩,fun n hn=>.inl (Tf n (K3 n hn)),fun _=>Nat.le_refl _⟩⟩
 ·intro e he
  rcases bd.1 he with rfl | he
  ·refine ⟨Bu,fun e he=>?_⟩
   rcases List.mem_cons.1 (nP.mem_iff.1 he) with rfl | he
   ·exact hxh
   ·exact gU e he
  ·exact r1.holds e (List.mem_cons_of_mem _ (bd.2 (.inr he)))
 ·intro e he n hn
  rcases bd.1 he with rfl | he
  ·refine ⟨fun hs=>?_,fun h=>h.elim⟩
   rcases (Av n).1 hn with h | h
   ·exact Qp.1 ((r1.sep _ (by simp) n h).1 hs)
   ·exact (r1.sep (bp,.bU es) (List.mem_cons_of_mem _ (bd.2 (.inl rfl))) n h).1 hs
  ·exact r1.sep e (List.mem_cons_of_mem _ (bd.2 (.inr he))) n hn
section plain
variable {K V:Type}
variable [DecidableEq K]
variable [wB K]
end plain
section rules
variable {P:Program} {all:Array Oper} {rest:List Oper} {n:Nat} {tm:List (Nat×AV)} {hp:Heap} {Q:St→Prop} {d:Nat} {ty:TypeId} {pos:String} {af:Array Edge}
end rules
section rules
variable {P:Program} {all:Array Oper} {rest:List Oper} {n:Nat} {tm:List (Nat×AV)} {hp:Heap} {Q:St→Prop} {d:Nat} {ty:TypeId} {pos:String} {af:Array Edge}
end rules
section rules
variable {P:Program} {all:Array Oper} {rest:List Oper} {n:Nat} {tm:List (Nat×AV)} {hp:Heap} {Q:St→Prop} {d:Nat} {ty:TypeId} {pos:String} {af:Array Edge}
end rules
def rowOf (o:Option Obj):Option (Array Value):=match o with
 | some (.cells vs _ _)=>some vs
 | _=>none
theorem Dm {P:Program} {w:World} {name:String} {g:Nat} (hg:P.globalNamed name=some g):w.var? P name=rowOf (w.heap[g]?):=by
 unfold World.var?
 rw [hg]
 rfl
theorem Jd (xs:List (List UInt8)):flat (xs.map AV.str)=xs.map AV.str:=qJ (fun _=>rfl) xs
theorem GN {w:World} {S:Nat→Prop} (r:ck w S []) (xs:List (List UInt8)) (E:TypeId) {vs:Array Value} (hv:vs=(xs.map fun s=>Value.string ⟨s.toArray⟩).toArray):
 At (w.alloc (.cells vs E)) S (.sl 1 ⟨some w.heap.size,xs.length⟩ 0 xs.length) (.slice (some ⟨w.heap.size,0,none⟩) xs.length xs.length)∧
  ck (w.alloc (.cells vs E)) S [(⟨some w.heap.size,xs.length⟩,.arr 1 (xs.map AV.str))]∧iE w S [] (w.alloc (.cells vs E)) S [(⟨some w.heap.size,xs.length⟩,.arr 1 (xs.map AV.str))]:=by
 subst hv
 have e0:=Ext.alloc w (.cells (xs.map fun s=>Value.string ⟨s.toArray⟩).toArray E)
 have hh:Holds (w.alloc (.cells (xs.map fun s=>Value.string ⟨s.toArray⟩).toArray E)) S ⟨some w.heap.size,xs.length⟩ (.arr 1 (xs.map AV.str)):=by
  refine ⟨fun x hx=>?_,by simp,.inr ⟨w.heap.size,(xs.map fun s=>Value.string ⟨s.toArray⟩).toArray,E,rfl,?_,by simp,?_⟩⟩
  ·obtain ⟨s,_,rfl⟩:=List.mem_map.1 hx
   exact ⟨rfl,fun c hc=>by rw [List.mem_singleton.1 hc];rfl⟩
  ·show (w.heap.push _)[w.heap.size]? =_
   simp
  ·rw [Jd]
   intro i c v hc hv
   simp only [List.getElem?_map,List.getElem?_toArray,Option.map_eq_some_iff] at hc hv
   obtain ⟨s,h1,rfl⟩:=hc
   obtain ⟨s',h2,rfl⟩:=hv
   rw [h1] at h2
   obtain rfl:=Option.some.inj h2
   exact .str s
 obtain ⟨k1,k2,k3⟩:=qn r e0 id hh (.inr ⟨_,rfl,Nat.le_refl _⟩)
 refine ⟨?_,k1,k2⟩
 have:=At.sl (w:=w.alloc (.cells (xs.map fun s=>Value.string ⟨s.toArray⟩).toArray E)) (S:=S) 1 ⟨some w.heap.size,xs.length⟩ 0 xs.length w.heap.size xs.length rfl (Nat.le_refl _) (by simp)
 simpa using this
def NQ (k:IntKind) (zs:List Int) (o:Option Obj):Prop:=rowOf o=some (zs.map fun z=>Value.int k z).toArray
def NR (k:IntKind) (o:Option Obj):Prop:=∃ vs m,rowOf o=some vs∧vs[0]? =some (.int k m)
def K5 (o:Option Obj):Prop:=∃ vs ev,rowOf o=some vs∧vs[0]? =some ev∧(ev=.nilIface∨∃ te pe,ev=.iface te pe)
theorem xg (w:World) (g i:Nat) {vs:Array Value} (h:rowOf (w.heap[g]?)=some vs):w.cell? ⟨g,i,none⟩=vs[i]?:=by
 unfold World.cell?
 unfold rowOf at h
 split at h
 ·rename_i Bx e f ho
  obtain rfl:=Option.some.inj h
  simp [ho]
 ·cases h
def HY:List (Nat×(Option Obj→Prop))→Nat→Option (Option Obj→Prop)
 | [],_=>none
 | (k,o) :: r,g=>if g=k then some o else HY r g
theorem Ci:∀ {l:List (Nat×(Option Obj→Prop))} {g:Nat} {o:Option Obj→Prop},HY l g=some o→(g,o)∈l
 | [],_,_,h=>by cases h
 | (k,o') :: r,g,o,h=>by
   unfold HY at h
   split at h
   ·rename_i hg
    rw [hg,Option.some.inj h];simp
   ·exact List.mem_cons_of_mem _ (Ci h)
theorem GO {w:World} {g:Nat} {vs:Array Value} (h:rowOf (w.heap[g]?)=some vs):g < w.heap.size:=by
 rcases Nat.lt_or_ge g w.heap.size with h' | h'
 ·exact h'
 ·rw [Array.getElem?_eq_none h'] at h;cases h
end Go.Eng
namespace Go.Eng
open Go
section errs
variable [bF] {P:Program} {all:Array Oper} {rest:List Oper} {n:Nat} {tm:List (Nat×AV)} {hp:Heap} {Q:St→Prop} {d:Nat} {ty:TypeId} {pos:String} {af:Array Edge}
def Qq (e:Value) (ok:Bool):Prop:=(e=.nilIface∧ok=true)∨((∃ te pe,e=.iface te pe)∧ok=false)
def Yl (P:Program) (f:FuncId) (args:List AV) (m:Int) (ok:Bool):Prop:=aJ P f args [] (fun r h=>∃ e,r=.iV [I m,.raw e]∧Qq e ok)
theorem HZ {f:FuncId} {args:List Operand} {ts:Array TypeId} {l l':List AV} {m:Int} {ok:Bool} [bu P f] (hl:x1 tm args=some l) (c:Yl P f l' m ok) (co:wT hp l l') (hn:Nat.blt d n=true)
 (kk:∀ e,Qq e ok→ae P all rest ⟨n,(d,.iV [I m,.raw e]) :: tm,hp⟩ Q):ae P all (⟨some d,.call {callee:=.value (.func f),args:=args.toArray,argTypes:=ts},ty,pos,af,none⟩ :: rest) ⟨n,tm,hp⟩ Q:=by
 refine HD hl c co hn (fun r h' hr=>?_)
 obtain ⟨e,rfl,he⟩:=hr
 exact ae.weaken (aG:=⟨n,(d,.iV [I m,.raw e]) :: tm,hp⟩) ⟨rfl,fun _ _ h=>h,List.sublist_append_right _ _⟩ (kk e he)
theorem Tg {t:TypeId} {ms:Array (String×TypeId)} [aE P t (.interface ms)] (te:TypeId) (pe:Value) (w:World):(Op.equal t (.iface te pe) .nilIface).run P w=.ok false w:=by
 show (Op.equalIn (9999+1) t _ _).run P w=_
 rw [Op.equalIn]
 simp [run_underlying (aE.h (P:=P) (t:=t))]
theorem Th {t:TypeId} {ms:Array (String×TypeId)} [aE P t (.interface ms)] (w:World):(Op.equal t .nilIface .nilIface).run P w=.ok true w:=by
 show (Op.equalIn (9999+1) t _ _).run P w=_
 rw [Op.equalIn]
 simp [run_underlying (aE.h (P:=P) (t:=t))]
theorem Ph {xt yt:TypeId} {ms:Array (String×TypeId)} {x:Operand} {e:Value} {ok:Bool} [aE P xt (.interface ms)] (he:Qq e ok) (hx:cG tm x=some (.raw e)):QV P ⟨some d,.binOp .eql xt x (.const .nilIface) yt,ty,pos,af,none⟩ ⟨n,tm,hp⟩ (.bool ok):=by
 refine fun w S a r=>⟨.bool ok,fun w1 _=>?_,.bool _⟩
 have hr:=(bj (σ:=⟨n,tm,hp⟩) r hx).zB
 have hc:a.eval (.const .nilIface)=.nilIface:=rfl
 rcases he with ⟨rfl,rfl⟩ | ⟨⟨te,pe,rfl⟩,rfl⟩
 ·have h1:=Th (P:=P) (t:=xt) w1
  simp [execOp,hr,hc,eqGuard,binOp,h1]
 ·have h1:=Tg (P:=P) (t:=xt) te pe w1
  simp [execOp,hr,hc,eqGuard,binOp,h1]
def Je (n:Int):List UInt8:=(Utf8.encode n).data.toList
theorem Cj {src dst:TypeId} {D:TypeDesc} {x:Operand} {k:IntKind} {i:Int} [aE P src D] [aE P dst .string] (hx:cG tm x=some (.int k i)):QV P ⟨some d,.convert src dst x,ty,pos,af,none⟩ ⟨n,tm,hp⟩ (.str (Je i)):=by
 intro w S a r
 refine ⟨.string (Utf8.encode i),fun w1 _=>?_,.str (Je i)⟩
 have h:=run_convert_int_string w1 src dst k i (P:=P) (by rw [aE.h (P:=P) (t:=src)];rfl) (aE.h (P:=P) (t:=dst))
 simp only [execOp,(bj (σ:=⟨n,tm,hp⟩) r hx).cO,Sem.run_bind,h,Result.andThen_ok]
 rfl
def ze (a b:List UInt8):Option (List UInt8):=if a.length+b.length≤9223372036854775807 then some (a++b) else none
theorem wC {xt yt:TypeId} {x y:Operand} {s t r:List UInt8} (h:ze s t=some r) (hx:cG tm x=some (.str s)) (hy:cG tm y=some (.str t)):QV P ⟨some d,.binOp .add xt x y yt,ty,pos,af,none⟩ ⟨n,tm,hp⟩ (.str r):=by
 unfold ze at h
 split at h
 ·rename_i hs
  obtain rfl:=Option.some.inj h
  refine fun w S a r=>⟨.string (⟨s.toArray⟩++⟨t.toArray⟩),fun w1 _=>?_,?_⟩
  ·have h1:=run_string_add_sum (P:=P) (w:=w1) (⟨s.toArray⟩:ByteArray) (⟨t.toArray⟩:ByteArray) (by simpa [ByteArray.size] using hs)
   simp [execOp,(bj (σ:=⟨n,tm,hp⟩) r hx).ct,(bj (σ:=⟨n,tm,hp⟩) r hy).ct,eqGuard,binOp,h1]
  ·have:((⟨s.toArray⟩:ByteArray)++⟨t.toArray⟩)=⟨(s++t).toArray⟩:=by apply ByteArray.ext;simp
   rw [this]
   exact .str _
 ·cases h
end errs
end Go.Eng
namespace Go.Eng
open Go
variable [bF]
section rules
variable {P:Program} {all:Array Oper} {rest:List Oper} {n:Nat} {tm:List (Nat×AV)} {hp:Heap} {Q:St→Prop} {d:Nat} {ty:TypeId} {pos:String} {af:Array Edge}
end rules
end Go.Eng
namespace Go.Eng
open Go Go.Lib
variable [bF]
theorem E3 {w:World} {g:Nat} {v:Value} (h:w.cell? ⟨g,0,none⟩=some v):∃ vs,rowOf (w.heap[g]?)=some vs∧vs[0]? =some v:=by
 unfold World.cell? at h
 cases ho:w.heap[g]? with
 | none=>simp [ho] at h
 | some o=>
   cases o with
   | cells vs e f=>exact ⟨vs,rfl,by simpa [ho] using h⟩
   | _=>simp [ho] at h
theorem NS {w:World} {g:Nat} {k:IntKind} {m:Int} (h:w.cell? ⟨g,0,none⟩=some (.int k m)):g < w.heap.size∧NR k (w.heap[g]?):=by
 obtain ⟨vs,h1,h2⟩:=E3 h
 exact ⟨GO h1,vs,m,h1,h2⟩
theorem NT {P:Program} {W:World} {name:String} {k:IntKind} {zs:List Int} {g:Nat} {t e:TypeId} {n:Nat}
 (hg:P.globalNamed name=some g) (Wz:(P.globals[g]?).map (·.type)=some t) (ht:P.underlying t=some (.array n e)) (he:P.underlying e=some (.int k)) (hce:P.cellsOf e=1) (hct:P.cellsOf t=n)
 (h:VarReads P W name (tabData k zs)):g < W.heap.size∧NQ k zs (W.heap[g]?):=by
 obtain ⟨g',t',cs,fuel,p,KX,WA,GP,hd⟩:=h
 obtain rfl:=Option.some.inj (hg.symm.trans KX)
 obtain rfl:=Option.some.inj (Wz.symm.trans WA)
 rw [Dm hg] at GP
 refine ⟨GO GP,?_⟩
 unfold NQ
 rw [GP,← cells_of_tab ht he hce hct hd]
theorem H3 {P:Program} {W:World} {name:String} {d:DataW Unit} {g:Nat} {t:TypeId} {ms:Array (String×TypeId)}
 (hg:P.globalNamed name=some g) (Wz:(P.globals[g]?).map (·.type)=some t) (ht:P.underlying t=some (.interface ms)) (h:VarReads P W name d):g < W.heap.size∧K5 (W.heap[g]?):=by
 obtain ⟨g',t',cs,fuel,p,KX,WA,GP,hd⟩:=h
 obtain rfl:=Option.some.inj (hg.symm.trans KX)
 obtain rfl:=Option.some.inj (Wz.symm.trans WA)
 rw [Dm hg] at GP
 refine ⟨GO GP,?_⟩
 have key:∀ l:List Value,DataW.trod (fun _=>()) P W 0 (fun _=>true) false fuel t l=some (d,p)→∃ ev,l[0]? =some ev∧(ev=.nilIface∨∃ te pe,ev=.iface te pe):=by
  intro l hl
  cases fuel with
  | zero=>simp [DataW.trod] at hl
  | succ fuel=>
    unfold DataW.trod at hl
    simp only [ht] at hl
    split at hl<;>first | (exact ⟨_,rfl,.inl rfl⟩) | (exact ⟨_,rfl,.inr ⟨_,_,rfl⟩⟩) | (simp_all)
 obtain ⟨ev,h1,h2⟩:=key cs.toList hd
 exact ⟨cs,ev,GP,by simpa using h1,h2⟩
end Go.Eng
namespace Go.Eng
open Go
variable {H:Type} {enc:TypeId×Value→H}
theorem E4 {a:Assume} {C:Checked} {os:Os} {f:FuncId} {fn:Func} {s:ChangeSpec} {conds:List PathCond} {apart fresh handsOn again:Bool} {X:World→Array Value→Prop}
 (hX:∀ (w w':World) (args:Array Value),w.heap=w'.heap→X w args→X w' args)
 (own:ownKnob C.prog.godebug=none) (started:os.Started) (Qr:C.prog.inits.idxOf? f=none) (KU:C.prog.funcs[f]? =some fn)
 (witness:∃ (w:World) (tape:Tape) (i:Input),w.os=os∧(w.forCall tape i).Shaped C.prog∧i.vars=[]∧Input.okWide C.prog (w.forCall tape i) .any w.heap.size f i∧
  ((s.pre enc C.prog fn conds apart (w.forCall tape i).memory i.args∧X (w.forCall tape i).memory i.args)∧sizedMet enc C.prog fn (OpenSpec.ofChange s) apart (w.forCall tape i).memory i.args)∧a.holds C.prog (lone (Frame.enter C.prog f i.args .normal) [] (w.forCall tape i)))
 (walk:∀ (W:World) (base:Nat) (args:Array Value) (ds gs:List (DataW H)) (before:List MemPlace),
  (∀ (j:Nat) t v,fn.params[j]? =some t→args[j]? =some v→Value.okWide C.prog W .any base t v)→
  DataW.Whole enc C.prog fn.params.toList s.vars apart W args.toList ds gs before→
  conds.all (PathCond.test C.prog ⟨fn.params.toList,ds,s.plain.varTypes C.prog,gs⟩)=true→
  (DataW.weightsEach C.prog (fn.params.toList++s.plain.varTypes C.prog) (ds++gs)).all (· ≤reachBytes)=true→X W args∧W.ShapedOpen C.prog→
  a.holds C.prog (lone (Frame.enter C.prog f args .normal) [] W)→
  Calls C.prog f args W fun e W'=>∃ v,e=.returned v∧s.post enc C.prog fn apart fresh handsOn again W args v W'):
 ReturnsInHanded a C os f .any (fun w args=>(s.pre enc C.prog fn conds apart w args∧X w args)∧sizedMet enc C.prog fn (OpenSpec.ofChange s) apart w args) (s.post enc C.prog fn apart fresh handsOn again):=by
 refine returnsInHanded_of_calls own started Qr witness ?_
 intro w tape i _ shaped _ ok pre held
 obtain ⟨_,_,_,fn',there,_,_,_,_,WC⟩:=ok
 cases Option.some.inj (there.symm.trans KU)
 obtain ⟨⟨⟨ds,gs,before,whole,Tj⟩,x⟩,sized⟩:=pre
 have K:=walk (w.forCall tape i) w.heap.size i.args ds gs before WC (DataW.Whole.of_heap (w':=w.forCall tape i) (by rfl) whole) Tj (sized.weights whole) ⟨hX _ _ _ (by rfl) x,shaped⟩ held
 exact K.mono fun e W' ⟨v,he,hp⟩=>by
  subst he
  exact ChangeSpec.post_blind hp
end Go.Eng
namespace Go.Eng
open Go
variable [bF]
section rules
variable {P:Program} {all:Array Oper} {rest:List Oper} {n:Nat} {tm:List (Nat×AV)} {hp:Heap} {Q:St→Prop} {d:Nat} {ty:TypeId} {pos:String} {af:Array Edge}
end rules
section rules
variable {P:Program} {all:Array Oper} {rest:List Oper} {n:Nat} {tm:List (Nat×AV)} {hp:Heap} {Q:St→Prop} {d:Nat} {ty:TypeId} {pos:String} {af:Array Edge}
end rules
theorem H4 {w w':World} {S:Nat→Prop} {hp cC:Heap} {b:Bk} {T E:TypeId} {q q':Option Nat} {bs sk:List UInt8} (r:ck w S hp) (u:mT hp b (.qK T E q bs) b (.qK T E q' sk) cC)
 (V1:w'.os=w.os) (htp:w'.tape=w.tape) (hou:w'.output=w.output) (gG:w.heap.size≤w'.heap.size) (hd:bF.dr→w.drawn≤w'.drawn)
 (hk:∀ n,n < w.heap.size→b.bN≠some n→q≠some n→w'.heap[n]? =w.heap[n]?)
 (hh:Holds w' S b (.qK T E q' sk)) (hq:q'=q∨∃ m,q'=some m∧w.heap.size≤m):
 ck w' S cC∧iE w S hp w' S cC:=by
 obtain ⟨p,t,rfl,rfl⟩:=u.split
 have Bw:(b,.qK T E q bs)∈p++(b,.qK T E q bs) :: t:=by simp
 have NU:∀ n,n∈eb (b,.qK T E q bs)↔b.bN=some n∨q=some n:=fun n=>by simp [eb,Ob.more]
 have WD:∀ n,n∈eb (b,.qK T E q' sk)↔b.bN=some n∨q'=some n:=fun n=>by simp [eb,Ob.more]
 have nS:∀ n,n∈eb (b,.qK T E q bs)→¬ S n:=fun n hn hs=>((r.sep _ Bw n hn).1 hs).elim
 have keep:∀ n,S n→S n∧w'.heap[n]? =w.heap[n]?:=fun n hs=>⟨hs,hk n (r.slt n hs) (fun e=>nS n ((NU n).2 (.inl e)) hs) (fun e=>nS n ((NU n).2 (.inr e)) hs)⟩
 have vf:=r.nodup
 rw [List.flatMap_append,List.flatMap_cons,List.nodup_append,List.nodup_append] at vf
 have others:∀ e∈p++t,∀ n,n∈eb e→n < w.heap.size∧b.bN≠some n∧q≠some n:=by
  intro e he n hn
  have JR:¬ n∈eb (b,.qK T E q bs):=fun hb=>by
   rcases List.mem_append.1 he with h | h
   ·exact vf.2.2 n (List.mem_flatMap.2 ⟨e,h,hn⟩) n (List.mem_append_left _ hb) rfl
   ·exact vf.2.1.2.2 n hb n (List.mem_flatMap.2 ⟨e,h,hn⟩) rfl
  exact ⟨r.lt ⟨e,bd.2 (.inr he),hn⟩,fun e=>JR ((NU n).2 (.inl e)),fun e=>JR ((NU n).2 (.inr e))⟩
 have GQ:∀ n,n∈eb (b,.qK T E q' sk)→n∈eb (b,.qK T E q bs)∨w.heap.size≤n:=by
  intro n hn
  rcases (WD n).1 hn with h | h
  ·exact .inl ((NU n).2 (.inl h))
  ·rcases hq with e | ⟨m,e,hm⟩
   ·exact .inl ((NU n).2 (.inr (e▸h)))
   ·rw [e] at h;have:=Option.some.inj h;exact .inr (by omega)
 have Tk:∀ e∈p++t,∀ n,n∈eb e→¬ n∈eb (b,.qK T E q' sk):=by
  intro e he n hn hb
  obtain ⟨h1,h2,h3⟩:=others e he n hn
  rcases GQ n hb with h | h
  ·rcases (NU n).1 h with h | h
   ·exact h2 h
   ·exact h3 h
  ·omega
 have WE:(eb (b,.qK T E q' sk)).Nodup:=by
  have h0:(eb (b,Ob.qK T E q bs)).Nodup:=vf.2.1.1
  show (b.bN.toList++q'.toList).Nodup
  replace h0:(b.bN.toList++q.toList).Nodup:=h0
  rcases hq with e | ⟨m,e,hm⟩
  ·rw [e];exact h0
  ·subst e
   obtain ⟨n,pp,vv,g1,g2,_⟩:=r.holds _ Bw
   have iT:=rP g2
   rw [g1]
   simp
   omega
 refine ⟨⟨?_,?_,?_,fun n hs=>Nat.lt_of_lt_of_le (r.slt n hs) gG,fun g o ho=>⟨(r.fe g o ho).1,wV (keep g (r.fe g o ho).1).2 (r.fe g o ho).2⟩⟩,⟨V1,htp,hou,gG,keep,?_,?_,hd⟩⟩
 ·rw [List.flatMap_append,List.flatMap_cons,List.nodup_append,List.nodup_append]
  refine ⟨vf.1,⟨WE,vf.2.1.2.1,fun x hx y hy BY=>?_⟩,fun x hx y hy BY=>?_⟩
  ·subst BY
   obtain ⟨e,he,qe⟩:=List.mem_flatMap.1 hy
   exact Tk e (List.mem_append_right _ he) x qe hx
  ·subst BY
   rcases List.mem_append.1 hy with hy | hy
   ·obtain ⟨e,he,qe⟩:=List.mem_flatMap.1 hx
    exact Tk e (List.mem_append_left _ he) x qe hy
   ·exact vf.2.2 x hx x (List.mem_append_right _ hy) rfl
 ·intro e he
  rcases bd.1 he with rfl | he
  ·exact hh
  ·exact (r.holds e (bd.2 (.inr he))).mono keep (fun n hn=>hk n (others e he n hn).1 (others e he n hn).2.1 (others e he n hn).2.2)
 ·intro e he n hn
  rcases bd.1 he with rfl | he
  ·refine ⟨fun hs=>?_,fun h=>h.elim⟩
   rcases GQ n hn with h | h
   ·exact (nS n h hs).elim
   ·have:=r.slt n hs;omega
  ·exact r.sep e (bd.2 (.inr he)) n hn
 ·intro n hn M5
  exact ⟨hk n hn (fun h=>M5 ⟨_,Bw,(NU n).2 (.inl h)⟩) (fun h=>M5 ⟨_,Bw,(NU n).2 (.inr h)⟩),id⟩
 ·rintro n ⟨e,he,qe⟩
  rcases bd.1 he with rfl | he
  ·rcases GQ n qe with h | h
   ·exact .inl ⟨_,Bw,h⟩
   ·exact .inr h
  ·exact .inl ⟨e,bd.2 (.inr he),qe⟩
section
variable {P:Program} {all:Array Oper} {rest:List Oper} {n:Nat} {tm:List (Nat×AV)} {hp:Heap} {Q:St→Prop} {d:Nat} {ty:TypeId} {pos:String} {af:Array Edge}
theorem Aw {E:TypeId} {i:TypeInfo} (B:TypeId) [aX P E i] (hz:i.zero=some (.agg #[.pointer none,.slice none 0 0])) (hn:Nat.blt d n=true)
 (kk:∀ b:Bk,ae P all rest ⟨n,(d,.ptr b 0) :: tm,(b,.qK E B none []) :: hp⟩ Q):ae P all (⟨some d,.alloc E,ty,pos,af,none⟩ :: rest) ⟨n,tm,hp⟩ Q:=by
 refine ae.Kb rfl fun w S a r=>?_
 have hE:=Ext.alloc w (.cells #[.pointer none,.slice none 0 0] E)
 have hb:(w.alloc (.cells #[.pointer none,.slice none 0 0] E)).heap[w.heap.size]? =some (.cells #[.pointer none,.slice none 0 0] E (0,0)):=heap_alloc_new w _
 obtain ⟨g1,g2,g3⟩:=qn (b:=⟨some w.heap.size,0⟩) (o:=.qK E B none []) r.hp hE (fun h=>h) ⟨w.heap.size,.pointer none,.slice none 0 0,rfl,hb,.inl rfl,World.ownsRowF_nil _ _ _ _,rfl⟩ (.inr ⟨_,rfl,Nat.le_refl _⟩)
 refine ⟨.pointer (some ⟨w.heap.size,0,none⟩),_,S,_,?_,(r.heap g3 g1).put hn (.ptr ⟨some w.heap.size,0⟩ 0 _ rfl),g2,kk ⟨some w.heap.size,0⟩⟩
 have hi:=aX.h (P:=P) (t:=E)
 simp [execOp,Instr.alloc,newVar,newRow,zeroValue,typeInfo,hi,hz,Value.cells]
end
def zf (x s:List UInt8):Option (List UInt8):=if x.length+s.length≤1000000000000 then some (x++s) else none
theorem Jf {x s y:List UInt8} (h:zf x s=some y):y=x++s∧x.length+s.length≤1000000000000:=by
 unfold zf at h
 split at h
 ·rename_i hl;exact ⟨(Option.some.inj h).symm,hl⟩
 ·cases h
end Go.Eng
namespace Go.Eng
open Go Go.Proofs Go.Shelf Go.RowKit Go.Lib
theorem H5 {w:World} {n:Nat} {o:Obj} (h:w.heap[n]? =some o):n < w.heap.size:=by
 rcases Nat.lt_or_ge n w.heap.size with h' | h'
 ·exact h'
 ·simp [Array.getElem?_eq_none h'] at h
theorem K6 {w w':World} {base:Nat} {e:TypeId} {size:Nat} {v:Value} {n:Nat} {xs:List Value} (h:w.ownsRowF base e size v n xs) (hk:∀ k,v.ownBlock=some k→w'.heap[k]? =w.heap[k]?):w'.ownsRowF base e size v n xs:=by
 refine ⟨h.1,?_⟩
 rcases h.2 with hn | ⟨g,cap,cur,fz,rfl,hb,VV,rest⟩
 ·exact .inl hn
 ·exact .inr ⟨g,cap,cur,fz,rfl,hb,by rw [hk g rfl];exact VV,rest⟩
section
variable {P:Program} (w:World)
theorem K7 (t u ty e:TypeId) (i:TypeInfo) (ht:P.underlying t=some (.slice e)) (hu:P.underlying u=some .string) (hi:P.info? e=some i) (hz:i.zero=some (.int .u8 0))
 (sA:i.size=1) (Gi:i.bytes=1) (v:Value) (n:Nat) (xs:List Value) (GR:w.ownsRowF 0 e 1 v n xs) (s:ByteArray) (MD:n+s.size≤maxLen) (Dn:n+s.size≤140737488355328):
 ∃ v' w',(Builtin.append_ #[t,u] ty #[v,.string s]).run P w=.ok v' w'∧w'.ownsRowF 0 e 1 v' (n+s.size) (xs++strCells s)∧w.grownBy w' v.ownBlock∧
   (v'.ownBlock=v.ownBlock∨∃ m,v'.ownBlock=some m∧w.heap.size≤m):=by
 obtain ⟨v',w',h1,h2,h3,_⟩:=Lib.run_append_own_stringF (P:=P) w 0 t u ty e i ht hu hi hz sA Gi v n xs GR s MD Dn (Nat.zero_le _)
 refine ⟨v',w',h1,h2,h3,?_⟩
 rcases GR.2 with ⟨rfl,rfl⟩ | ⟨g,cap,cur,fz,rfl,hbg,hg,U4,hnc,Ym,HI,Tl⟩
 ·obtain ⟨v2,w2,k1,k2,k3,_⟩:=Lib.run_append_own_string (P:=P) w w.heap.size t u ty e i ht hu hi hz sA Gi (.slice none 0 0) 0 xs ⟨GR.1,.inl ⟨rfl,rfl⟩⟩ s MD Dn (Nat.le_refl _)
  rw [h1] at k1
  injection k1 with e1 e2
  subst e1
  cases hb:v'.ownBlock with
  | none=>exact .inl rfl
  | some m=>exact .inr ⟨m,rfl,(k2.lt m hb).1⟩
 ·have WG:n+s.size≤9223372036854775807:=by simp only [maxLen] at MD;omega
  have hxl:xs.length=n:=by simpa using GR.1
  by_cases B4:n+s.size≤cap
  ·have hr:=Lib.run_append_room_stringF (P:=P) w t u ty e i ht hu hi sA g n cap cur fz hg (by simpa using U4) s B4 (by omega)
   rw [h1] at hr
   injection hr with e1 e2
   subst e1
   exact .inl rfl
  ·have holds:∀ j u,xs[j]? =some u→w.cell? ((⟨g,0,none⟩:Addr).add j)=some u:=GR.cells (g:=g) rfl
   have hr:=Lib.run_append_grow_string (P:=P) w t u ty e i (.int .u8 0) ht hu hi hz ⟨g,0,none⟩ n cap xs (by rw [sA];simpa using hxl) holds s (by omega) (by omega) (by rw [Gi];exact growslice_fits (by omega) (by omega))
   rw [h1] at hr
   injection hr with e1 e2
   subst e1
   exact .inr ⟨_,rfl,Nat.le_refl _⟩
theorem E5 {ops:Array Oper} {rest:List Oper} {o:Oper} {a:Act} {Q:Exit→Act→World→Prop} (hgd:o.guard=none) (sl x:Operand) (t u:TypeId)
 (ho:o.op=.call {callee:=.builtin .append,args:=#[sl,x],argTypes:=#[t,u]})
 (e:TypeId) (i:TypeInfo) (ht:P.underlying t=some (.slice e)) (hu:P.underlying u=some .string) (hi:P.info? e=some i) (hz:i.zero=some (.int .u8 0))
 (sA:i.size=1) (Gi:i.bytes=1)
 (v:Value) (n:Nat) (xs:List Value) (hs:a.eval sl=v) (GR:w.ownsRowF 0 e 1 v n xs) (s:ByteArray) (hx:a.eval x=.string s)
 (MD:n+s.size≤maxLen) (Dn:n+s.size≤140737488355328)
 (h:∀ v' w',w'.ownsRowF 0 e 1 v' (n+s.size) (xs++strCells s)→w.grownBy w' v.ownBlock→(v'.ownBlock=v.ownBlock∨∃ m,v'.ownBlock=some m∧w.heap.size≤m)→wpList P ops Q rest (a.put o.dst v') w'):wpList P ops Q (o :: rest) a w:=by
 refine wpList_plain hgd fun K hK=>?_
 obtain ⟨v',w',hr,h2,h3,h4⟩:=K7 (P:=P) w t u o.type e i ht hu hi hz sA Gi v n xs GR s MD Dn
 unfold Oper.wp execOp
 simp only [ho,resolve,invoke,builtin,Sem.run_bind,Sem.run_pure,Result.andThen_ok,List.map_toArray,List.map_cons,List.map_nil,hs,hx,hr]
 exact hK _ _ (h v' w' h2 h3 h4)
end
variable {P:Program} {ρ:Ren}
structure gD (w w':World) (b:Nat) (row:Option Nat):Prop where
 os:w'.os=w.os
 tape:w'.tape=w.tape
 output:w'.output=w.output
 size:w.heap.size≤w'.heap.size
 keep:∀ n,n < w.heap.size→n≠b→row≠some n→w'.heap[n]? =w.heap[n]?
theorem gD.refl (w:World) (b:Nat) (row:Option Nat):gD w w b row:=⟨rfl,rfl,rfl,Nat.le_refl _,fun _ _ _ _=>rfl⟩
theorem gD.trans {w w1 w2:World} {b:Nat} {row:Option Nat} (h:gD w w1 b row) (k:gD w1 w2 b row):gD w w2 b row:=
 ⟨k.os.trans h.os,k.tape.trans h.tape,k.output.trans h.output,Nat.le_trans h.size k.size,fun n h1 h2 h3=>(k.keep n (Nat.lt_of_lt_of_le h1 h.size) h2 h3).trans (h.keep n h1 h2 h3)⟩
theorem gD.set (w:World) (b:Nat) (row:Option Nat) (j:Nat) (x:Value):gD w (w.setCell ⟨b,j,none⟩ x) b row:=
 ⟨rfl,rfl,rfl,by simp [World.setCell],fun n _ h _=>Below.heap_setCell _ _ _ _ (fun e=>h (by simp [e]))⟩
theorem gD.grown {w w':World} {b:Nat} {row:Option Nat} (h:w.grownBy w' row):gD w w' b row:=
 ⟨h.os,h.tape,h.output,h.size,fun n h1 _ h3=>h.block n h1 (fun e=>h3 e.symm)⟩
theorem Tm {w:World} {b:Nat} {p v x:Value} {T:TypeId} (hb:w.heap[b]? =some (.cells #[p,v] T (0,0))):(w.setCell ⟨b,0,none⟩ x).heap[b]? =some (.cells #[x,v] T (0,0)):=by
 simp [World.setCell,Array.getElem?_modify,hb]
theorem Pj {w:World} {b:Nat} {p v x:Value} {T:TypeId} (hb:w.heap[b]? =some (.cells #[p,v] T (0,0))):(w.setCell ⟨b,1,none⟩ x).heap[b]? =some (.cells #[p,x] T (0,0)):=by
 simp [World.setCell,Array.getElem?_modify,hb]
def Ck (P:Program) (f:FuncId) (T E:TypeId):Prop:=∀ (b:Nat) (p v:Value) (bs:List Value) (s:ByteArray) (w:World),w.heap[b]? =some (.cells #[p,v] T (0,0))→(p=.pointer none∨p=.pointer (some ⟨b,0,none⟩))→
    w.ownsRowF 0 E 1 v bs.length bs→v.ownBlock≠some b→bs.length+s.size≤140737488355328→
    Calls P f #[.pointer (some ⟨b,0,none⟩),.string s] w fun e w'=>e=.returned (.tuple #[.int .i64 s.size,.nilIface])∧
     ∃ v',w'.heap[b]? =some (.cells #[.pointer (some ⟨b,0,none⟩),v'] T (0,0))∧w'.ownsRowF 0 E 1 v' (bs.length+s.size) (bs++strCells s)∧
       (v'.ownBlock=v.ownBlock∨∃ m,v'.ownBlock=some m∧w.heap.size≤m)∧gD w w' b v.ownBlock
theorem gD.freeze (w:World) (b g n:Nat):gD w (w.freeze ⟨g,0,none⟩ n) b (some g):=by
 unfold World.freeze
 split
 ·exact gD.refl w b _
 ·exact ⟨rfl,rfl,rfl,by simp,fun k _ _ hk=>by
   simp only [Array.getElem?_modify]
   rw [if_neg (fun e=>hk (by rw [← e]))]⟩
theorem gD.drew {w w':World} {b:Nat} {row:Option Nat} (h:gD w w' b row):gD w w'.drew b row:=⟨h.os,h.tape,h.output,h.size,h.keep⟩
theorem gD.alloc {w w':World} {b:Nat} {row:Option Nat} (h:gD w w' b row) (o:Obj):gD w (w'.alloc o) b row:=
 ⟨h.os,h.tape,h.output,Nat.le_trans h.size (by simp),fun n h1 h2 h3=>(heap_alloc_old w' o (Nat.lt_of_lt_of_le h1 h.size)).trans (h.keep n h1 h2 h3)⟩
set_option maxHeartbeats 2000000 in
set_option maxRecDepth 100000 in
theorem NV (L:Lays.n169 P ρ) (X:Builder.Extra P ρ) (b:Nat) (p v:Value) (l:List UInt8) (w:World) (hb:w.heap[b]? =some (.cells #[p,v] (ρ.t 72) (0,0))) (hp:p=.pointer none∨p=.pointer (some ⟨b,0,none⟩))
 (ho:w.ownsRowF 0 (ρ.t 5) 1 v l.length (Lib.byteCells l)) (mb:v.ownBlock≠some b):
 Calls P (ρ.f 169) #[.pointer (some ⟨b,0,none⟩)] w fun e w'=>e=.returned (.string ⟨l.toArray⟩)∧gD w w' b v.ownBlock:=by
 have iT:=H5 hb
 have mixed:=L.mixed
 have t72:=L.t72;have a72:=L.a72;have z72:=L.z72;have v72:=L.v72;have u72:=run_underlying L.t72
 have t70:=L.t70;have a70:=L.a70;have z70:=L.z70;have v70:=L.v70;have u70:=run_underlying L.t70
 have t37:=L.t37;have a37:=L.a37;have z37:=L.z37;have v37:=L.v37;have u37:=run_underlying L.t37
 have t127:=L.t127;have a127:=L.a127;have z127:=L.z127;have v127:=L.v127;have acF:=run_underlying L.t127
 have t3:=L.t3;have a3:=L.a3;have z3:=L.z3;have v3:=L.v3;have u3:=run_underlying L.t3
 have t9:=L.t9;have a9:=L.a9;have z9:=L.z9;have v9:=L.v9;have u9:=run_underlying L.t9
 have t5:=X.t5;have a5:=X.a5;have z5:=X.z5;have v5:=X.v5;have u5:=run_underlying X.t5
 have hUN:=Any.unsafeString_none L X
 have c1:w.drew.cell? ⟨b,1,none⟩=some v:=by
  have:w.drew.heap[b]? =some (.cells #[p,v] (ρ.t 72) (0,0)):=hb
  rw [Lib.cell_of_heap this];rfl
 rcases ho.2 with ⟨rfl,hl⟩ | ⟨g,cap,cur,fz,rfl,hbg,hg,U4,hnc,Ym,HI,Tl⟩
 ·obtain rfl:l=[]:=List.length_eq_zero_iff.1 hl
  have WH:(Builtin.unsafeSliceData_ #[(ρ.t 37)] (ρ.t 127) #[.slice none 0 0]).run P w.drew=.ok (.pointer none) w.drew:=rfl
  go_enter L.f169,Body.n169_ntmps ρ
  go_wp2
  go_region_o
  all_goals (go_wp2;go_ret;exact ⟨rfl,(gD.refl w b _).drew⟩)
 ·by_cases h0:l=[]
  ·subst h0
   by_cases Ku:cap=0
   ·subst Ku
    have WH:(Builtin.unsafeSliceData_ #[(ρ.t 37)] (ρ.t 127) #[.slice (some ⟨g,0,none⟩) 0 0]).run P w.drew=.ok (.pointer (some ⟨w.drew.heap.size,0,none⟩)) (w.drew.alloc (.view ⟨g,0,none⟩ (ρ.t 5))):=
     Lib.run_unsafeSliceData_zero w.drew _ _ (ρ.t 5) L.t127 ⟨g,0,none⟩ 0 ((ρ.t 5),cur.size) (by have KX:w.drew.heap[g]? =some (.cells cur (ρ.t 5) fz):=hg;simp [World.shape?,KX])
    have c2:(w.drew.alloc (.view ⟨g,0,none⟩ (ρ.t 5))).cell? ⟨b,1,none⟩=some (.slice (some ⟨g,0,none⟩) 0 0):=by
     have:(w.drew.alloc (.view ⟨g,0,none⟩ (ρ.t 5))).heap[b]? =_:=(heap_alloc_old w.drew _ iT).trans hb
     rw [Lib.cell_of_heap this];rfl
    have c3:(w.alloc (.view ⟨g,0,none⟩ (ρ.t 5))).drew.cell? ⟨b,1,none⟩=some (.slice (some ⟨g,0,none⟩) 0 0):=c2
    have c0:w.cell? ⟨b,1,none⟩=some (.slice (some ⟨g,0,none⟩) 0 0):=c1
    go_enter L.f169,Body.n169_ntmps ρ
    go_wp2
    go_region_o
    all_goals (go_wp2;go_ret;exact ⟨rfl,((gD.refl w b _).drew).alloc _⟩)
   ·have WH:(Builtin.unsafeSliceData_ #[(ρ.t 37)] (ρ.t 127) #[.slice (some ⟨g,0,none⟩) 0 cap]).run P w.drew=.ok (.pointer (some ⟨g,0,none⟩)) w.drew:=
     Lib.run_unsafeSliceData_row _ _ _ _ _ _ Ku
    clear Ku
    go_enter L.f169,Body.n169_ntmps ρ
    go_wp2
    go_region_o
    all_goals (go_wp2;go_ret;exact ⟨rfl,(gD.refl w b _).drew⟩)
  ·have Ni:l.length≠0:=by simpa using h0
   have WH:(Builtin.unsafeSliceData_ #[(ρ.t 37)] (ρ.t 127) #[.slice (some ⟨g,0,none⟩) l.length cap]).run P w.drew=.ok (.pointer (some ⟨g,0,none⟩)) w.drew:=
    Lib.run_unsafeSliceData_row _ _ _ _ _ _ (by omega)
   have hUS:(Builtin.unsafeString_ #[(ρ.t 127),(ρ.t 3)] (ρ.t 9) #[.pointer (some ⟨g,0,none⟩),.int .i64 l.length]).run P w.drew=.ok (.string ⟨l.toArray⟩) (w.drew.freeze ⟨g,0,none⟩ l.length):=by
    refine Lib.run_unsafeString_row w.drew (ρ.t 127) (ρ.t 3) (ρ.t 9) (ρ.t 5) L.t127 X.cellsByte g cur.size (by have KX:w.drew.heap[g]? =some (.cells cur (ρ.t 5) fz):=hg;simp [World.shape?,KX]) l h0 (by omega) (by unfold maxLen at Ym;omega) ?_
    intro j x hx
    exact ho.cells (g:=g) rfl j (.int .u8 x.toNat) (by simp [Lib.byteCells,hx])
   clear hUN
   go_enter L.f169,Body.n169_ntmps ρ
   go_wp2
   go_region_o
   all_goals (go_wp2;go_ret;exact ⟨rfl,(gD.refl w b _).drew.trans (gD.freeze _ b g _)⟩)
end Go.Eng
namespace Go.Eng
open Go Go.Proofs Go.Shelf Go.Lib
variable {P:Program} {ρ:Ren} [bF]
theorem GS {w:World} {S:Nat→Prop} {b:Bk} {T E:TypeId} {q:Option Nat} {x:List UInt8} (r:ck w S [(b,.qK T E q x)]) {n:Nat} (hn:b.bN=some n):q≠some n:=by
 have h:=r.nodup
 intro e
 subst e
 simp [eb,Ob.more,hn] at h
theorem Qs (x:List UInt8):strCells ⟨x.toArray⟩=Lib.byteCells x:=rfl
theorem Jg {f:FuncId} {T E:TypeId} (hd:¬ bF.dr) (hW:Ck P f T E) {b:Bk} {q:Option Nat} {x s y:List UInt8} (h:zf x s=some y):
 aJ P f [.ptr b 0,.str s] [(b,.qK T E q x)] (T1 (fun q':Bk=>[(b,.qK T E q'.bN y)]) (fun _=>.iV [I s.length,.raw .nilIface])):=by
 obtain ⟨rfl,hl⟩:=Jf h
 intro w S vs r hlen ha
 match vs,hlen with
 | ⟨[u0,u1]⟩,_=>
   have hs:=(ha 1 _ _ rfl rfl).ct
   obtain ⟨m,hm,hu⟩:=(ha 0 _ _ rfl rfl).lK
   subst hs hu
   obtain ⟨n,p,v,g1,g2,g3,g4,g5⟩:=r.holds _ (List.mem_singleton.2 rfl)
   obtain rfl:n=m:=by rw [g1] at hm;exact Option.some.inj hm
   have hq:=GS r hm
   have hx:(Lib.byteCells x).length=x.length:=Lib.byteCells_length x
   have gG:(⟨s.toArray⟩:ByteArray).size=s.length:=by simp [ByteArray.size]
   refine (hW n p v (Lib.byteCells x) ⟨s.toArray⟩ w g2 g3 (by rw [hx];exact g4) (by rw [g5];exact hq) (by rw [hx,gG];omega)).mono ?_
   rintro e w' ⟨rfl,v',k1,k2,k3,k4⟩
   rw [g5] at k3 k4
   have hh:Holds w' S b (.qK T E v'.ownBlock (x++s)):=⟨n,_,v',g1,k1,.inr rfl,by
    rw [hx,gG,Qs,← Lib.byteCells_append] at k2
    rw [List.length_append];exact k2,rfl⟩
   obtain ⟨r1,r2⟩:=H4 r .here k4.os k4.tape k4.output k4.size (fun hh=>absurd hh hd) (fun i h1 h2 h3=>k4.keep i h1 (fun e=>h2 (by rw [e];exact g1)) h3) hh k3
   refine ⟨_,_,_,S,rfl,⟨⟨v'.ownBlock,0⟩,rfl,rfl⟩,?_,r1,r2⟩
   rw [gG]
   refine .iV _ _ rfl (fun i c u hc hu=>?_)
   match i with
   | 0=>simp at hc hu;subst hc hu;exact .int _ _
   | 1=>simp at hc hu;subst hc hu;exact .raw _
   | i+2=>simp at hc
theorem NW (L:Lays.n170 P ρ) {b:Bk} {q:Option Nat} {x:List UInt8}:
 aJ P (ρ.f 170) [.ptr b 0] [(b,.qK (ρ.t 72) (ρ.t 5) q x)] (T0 [(b,.qK (ρ.t 72) (ρ.t 5) q x)] (I x.length)):=by
 intro w S vs r hlen ha
 match vs,hlen with
 | ⟨[u0]⟩,_=>
   obtain ⟨m,hm,hu⟩:=(ha 0 _ _ rfl rfl).lK
   subst hu
   obtain ⟨n,p,v,g1,g2,g3,g4,g5⟩:=r.holds _ (List.mem_singleton.2 rfl)
   obtain rfl:n=m:=by rw [g1] at hm;exact Option.some.inj hm
   have hq:=GS r hm
   have hA:Lib.BuilderAtF (ρ.t 72) (ρ.t 5) 0 n p (Lib.byteCells x) w:=⟨Nat.zero_le _,v,g2,by rw [Lib.byteCells_length];exact g4,by rw [g5];exact hq⟩
   have hI:Lib.IsBuilderF (ρ.t 72) (ρ.t 5) 0 n (Lib.byteCells x) w:=by
    rcases g3 with rfl | rfl
    ·exact .inl hA
    ·exact .inr hA
   refine (Any.Builder_Len_f L 0 n (Lib.byteCells x) w hI).mono ?_
   rintro e w' ⟨rfl,rfl⟩
   refine ⟨_,_,_,S,rfl,⟨rfl,rfl⟩,?_,r,iE.refl _ _ _⟩
   rw [Lib.byteCells_length]
   exact .int _ _
theorem GU (hd:¬ bF.dr) (L:Lays.n169 P ρ) (X:Builder.Extra P ρ) {b:Bk} {q:Option Nat} {x:List UInt8}:
 aJ P (ρ.f 169) [.ptr b 0] [(b,.qK (ρ.t 72) (ρ.t 5) q x)] (T0 [] (.str x)):=by
 intro w S vs r hlen ha
 match vs,hlen with
 | ⟨[u0]⟩,_=>
   obtain ⟨m,hm,hu⟩:=(ha 0 _ _ rfl rfl).lK
   subst hu
   obtain ⟨n,p,v,g1,g2,g3,g4,g5⟩:=r.holds _ (List.mem_singleton.2 rfl)
   obtain rfl:n=m:=by rw [g1] at hm;exact Option.some.inj hm
   have hq:=GS r hm
   refine (NV L X n p v x w g2 g3 g4 (by rw [g5];exact hq)).mono ?_
   rintro e w' ⟨rfl,k⟩
   rw [g5] at k
   have Bw:∀ i,b.bN=some i∨q=some i→i∈eb (b,Ob.qK (ρ.t 72) (ρ.t 5) q x):=fun i hi=>by simp [eb,Ob.more];exact hi
   have nS:∀ i,S i→i≠n∧q≠some i:=fun i hi=>⟨fun e=>((r.sep _ (List.mem_singleton.2 rfl) i (Bw i (.inl (by rw [e];exact g1)))).1 hi).elim,fun e=>((r.sep _ (List.mem_singleton.2 rfl) i (Bw i (.inr e))).1 hi).elim⟩
   have keep:∀ i,S i→S i∧w'.heap[i]? =w.heap[i]?:=fun i hi=>⟨hi,k.keep i (r.slt i hi) (nS i hi).1 (nS i hi).2⟩
   refine ⟨_,_,[],S,rfl,⟨rfl,rfl⟩,.str _,⟨by simp,fun e he=>absurd he (by simp),fun e he=>absurd he (by simp),fun i hi=>Nat.lt_of_lt_of_le (r.slt i hi) k.size,fun g o ho=>⟨(r.fe g o ho).1,wV (keep g (r.fe g o ho).1).2 (r.fe g o ho).2⟩⟩,⟨k.os,k.tape,k.output,k.size,keep,?_,?_,fun hh=>absurd hh hd⟩⟩
   ·intro i hi hh
    refine ⟨k.keep i hi (fun e=>hh ⟨_,List.mem_singleton.2 rfl,Bw i (.inl (by rw [e];exact g1))⟩) (fun e=>hh ⟨_,List.mem_singleton.2 rfl,Bw i (.inr e)⟩),id⟩
   ·rintro i ⟨e,he,_⟩
    exact absurd he (by simp)
end Go.Eng
