/- The engine: abstract values, the symbolic heap, one rule for each operation. No program in sight. -/
import Derived.Test.YthamhifbccpcpaaGreatDoorEngE
import Derived.Shelf.SlSortCmp.NoneTotal
import Derived.Lib.Case
import Derived.Lib.Overlaps
import Derived.Lib.AppendZeros
set_option linter.unusedVariables false
set_option linter.unusedSectionVars false
namespace Go.Eng
open Go
variable [bI]
section rules
variable {P:Program} {all:Array Oper} {n:Nat} {B:Heap} {tk:List Tok} {dy:List Nat} {i:Nat} {rest:List Oper} {tm:List (Nat×AV)} {acc:(Nat→Bk)→List (Nat×AV)} {Q:(Nat→Bk)→List (Nat×AV)→Prop} {d:Nat} {ty:TypeId} {pos:String} {af:Array Edge} {op:Op}
end rules
end Go.Eng
namespace Go.Eng
open Go Go.Proofs Go.Shelf Go.Lib
variable {P:Program} [bI]
end Go.Eng
namespace Go.Eng
open Go
variable [bI]
section rules
variable {P:Program} {all:Array Oper} {rest:List Oper} {n:Nat} {tm:List (Nat×AV)} {hp:Heap} {Q:List (Nat×AV)→Prop} {d1 d2 j s x:Nat} {t1 t2:TypeId} {p1 p2:String} {a1 a2:Array Edge} {a b:Bool}
end rules
section rules
variable {P:Program} {all:Array Oper} {rest:List Oper} {n:Nat} {tm:List (Nat×AV)} {hp:Heap} {Q:St→Prop} {d:Nat} {ty:TypeId} {pos:String} {af:Array Edge}
end rules
theorem ak.drop {n:Nat} {tm:List (Nat×AV)} {hp BT:Heap} {T:St→Prop} {b:Bk} {o:Ob} (dl:yW hp b o BT) (k:ak ⟨n,tm,BT⟩ T):ak ⟨n,tm,hp⟩ T:=by
 have hs:BT.Sublist hp:=by
  obtain ⟨p,q,rfl,rfl⟩:=dl.split
  exact List.Sublist.append (List.Sublist.refl _) (List.sublist_cons_self _ _)
 exact ak.step (CK:=⟨n,tm,BT⟩) (fun w S a r=>⟨_,S,rfl,r.less ⟨rfl,fun _ _ h=>h,hs⟩,kT.less (kT.refl w S hp) fun _ hn=>hn.sub hs⟩) k
section rules
variable {P:Program} {all:Array Oper} {rest:List Oper} {n:Nat} {tm:List (Nat×AV)} {hp:Heap} {Q:St→Prop} {d:Nat} {ty:TypeId} {pos:String} {af:Array Edge}
end rules
section rules
variable {P:Program} {all:Array Oper} {rest:List Oper} {n:Nat} {tm:List (Nat×AV)} {hp:Heap} {Q:St→Prop} {d:Nat} {ty:TypeId} {pos:String} {af:Array Edge}
end rules
section rules
variable {P:Program} {all:Array Oper} {rest:List Oper} {n:Nat} {tm:List (Nat×AV)} {hp:Heap} {Q:List (Nat×AV)→Prop} {d:Nat} {ty:TypeId} {pos:String} {af:Array Edge} {op:Op}
theorem AM.Gz {f:FuncId} {x:Operand} {args:List Operand} {ts:Array TypeId} {sy l l':List AV} {R:AV} [bD P f] (hx:dt (Hy (looks all ⟨some d,.call {callee:=.value x,args:=args.toArray,argTypes:=ts},ty,pos,af,none⟩) tm) x=some (.func (.func f) sy)) (hl:BB (Hy (looks all ⟨some d,.call {callee:=.value x,args:=args.toArray,argTypes:=ts},ty,pos,af,none⟩) tm) args=some l) (c:Pu P f l' R) (co:AN hp (l++sy) l') (hn:Nat.blt d n=true)
 (k:AM P all n hp rest ((d,R) :: tm) Q):AM P all n hp (⟨some d,.call {callee:=.value x,args:=args.toArray,argTypes:=ts},ty,pos,af,none⟩ :: rest) tm Q:=by
 refine AM.mv (fun w S a h1 h2 h3 h4 K Q' hK=>?_) hn k
 have r:=qK h1 h2 h3 h4
 obtain ⟨cv,e1,e2,e3⟩:=(bn r hx).zF
 show Oper.upon P _ a K Q' _
 rw [tD a _ e1]
 obtain ⟨g1,g2⟩:=rJ r hl
 obtain ⟨g3,g4⟩:=AN.at r.hp co (vs:=args.map a.eval++cv.toList) (by simp [g1,e2]) (rH g1 g2 (by simpa using e3))
 refine (c w S _ (tE h3.slt h3.jC) (by simpa using g3) g4).mono ?_
 rintro e w' ⟨v,rr,h',S',rfl,rfl,k3,k4,k5⟩
 exact hK v w' S' ⟨k5.Fc,fun m hm=>(k5.keep m hm).1,fun m hm hs=>(k5.other m hm (fun ⟨x,hx,_⟩=>by simp at hx)).2 hs,k4.slt⟩ k3
end rules
section values
variable {P:Program} {n:Nat} {tm:List (Nat×AV)} {hp:Heap} {d:Nat} {ty:TypeId} {pos:String} {af:Array Edge}
end values
section rules
variable {P:Program} {n:Nat} {tm:List (Nat×AV)} {hp:Heap} {d:Nat} {ty:TypeId} {pos:String} {af:Array Edge}
end rules
section
variable {K E:Type}
def yw (sz:Nat) (g:E→AV) (β:K→Bk) (M:List (K×List E)):Heap:=M.map fun e=>(β e.1,.AL sz (e.2.map g))
theorem QU (sz:Nat) (g:E→AV) (β:K→Bk) (M:List (K×List E)):(yw sz g β M).flatMap eb=(cC (bx sz g) β M).filterMap (·.1.cd):=by
 induction M with
 | nil=>rfl
 | cons e r ih=>
   unfold yw cC at ih ⊢
   rw [List.map_cons,List.flatMap_cons,List.map_cons,List.filterMap_cons,ih]
   show (β e.1).cd.toList++_++_=_
   cases (β e.1).cd<;>simp [Ob.more]
theorem Of {w:World} {S:Nat→Prop} {hp dG:Heap} {bp:Bk} {sz:Nat} {g:E→AV} {β:K→Bk} {M:List (K×List E)} (r:du w S hp) (dl:yW hp bp (.da (cC (bx sz g) β M)) dG):
 ∃ S':Nat→Prop,du w S' (yw sz g β M++dG)∧kT w S hp w S' (yw sz g β M++dG)∧∀ m,S m→S' m:=by
 obtain ⟨p,q,rfl,rfl⟩:=dl.split
 have u5:(bp,Ob.da (cC (bx sz g) β M))∈p++(bp,.da (cC (bx sz g) β M)) :: q:=bG.2 (.inl rfl)
 obtain ⟨De,mC⟩:bp.cd=none∧∀ e∈cC (bx sz g) β M,oV w S e.1 e.2:=r.holds _ u5
 have Wf:eb (bp,Ob.da (cC (bx sz g) β M))=(yw sz g β M).flatMap eb:=by
  rw [QU];unfold eb Ob.more;rw [De];rfl
 have hF:∀ e∈yw sz g β M,∀ m,m∈eb e→m∈eb (bp,Ob.da (cC (bx sz g) β M)):=fun e he m hm=>by
  rw [Wf];exact List.mem_flatMap.2 ⟨e,he,hm⟩
 let S':Nat→Prop:=fun m=>S m∨m∈eb (bp,Ob.da (cC (bx sz g) β M))
 have mono:∀ m,S m→S' m∧w.heap[m]? =w.heap[m]?:=fun m hm=>⟨.inl hm,rfl⟩
 have xf:=r.nodup
 have Io:(p++q).Sublist (p++(bp,Ob.da (cC (bx sz g) β M)) :: q):=List.Sublist.append (List.Sublist.refl _) (List.sublist_cons_self _ _)
 have nP:((yw sz g β M++(p++q)).flatMap eb).Perm ((p++(bp,Ob.da (cC (bx sz g) β M)) :: q).flatMap eb):=by
  rw [List.flatMap_append,List.flatMap_append,List.flatMap_append,List.flatMap_cons,Wf,← List.append_assoc,← List.append_assoc]
  exact List.perm_append_comm.append_right _
 have Zd:∀ e∈p++q,∀ m,m∈eb e→m∈eb (bp,Ob.da (cC (bx sz g) β M))→False:=fun e he m hm UY=>by
  rw [List.flatMap_append,List.flatMap_cons,List.nodup_append,List.nodup_append] at xf
  rcases List.mem_append.1 he with h | h
  ·exact xf.2.2 m (List.mem_flatMap.2 ⟨e,h,hm⟩) m (List.mem_append_left _ UY) rfl
  ·exact xf.2.1.2.2 m UY m (List.mem_flatMap.2 ⟨e,h,hm⟩) rfl
 have A0:du w S' (yw sz g β M++(p++q)):=by
  refine ⟨nP.nodup_iff.2 xf,fun e he=>?_,fun e he m hm=>?_,fun m hm=>?_,fun g o ho=>⟨.inl (r.jC g o ho).1,(r.jC g o ho).2⟩⟩
  ·rcases List.mem_append.1 he with h | h
   ·obtain ⟨x,hx,rfl⟩:=List.mem_map.1 h
    exact Holds.mono (o:=.AL sz (x.2.map g)) mono (fun _ _=>rfl) (show Holds w S (β x.1) (.arr sz (x.2.map g)) from oV.ob.1 (mC (β x.1,.arr sz (x.2.map g)) (List.mem_map.2 ⟨x,hx,rfl⟩)))
   ·exact (r.holds e (Io.subset h)).mono mono (fun _ _=>rfl)
  ·rcases List.mem_append.1 he with h | h
   ·have h2:=hF e h m hm
    obtain ⟨x,hx,rfl⟩:=List.mem_map.1 h
    exact ⟨fun _=>trivial,fun _=>.inr h2⟩
   ·rw [← r.sep e (Io.subset h) m hm]
    exact ⟨fun hs=>hs.elim id fun hb=>(Zd e h m hm hb).elim,.inl⟩
  ·rcases hm with h | h
   ·exact r.slt m h
   ·exact r.lt ⟨_,u5,h⟩
 refine ⟨S',A0,⟨rfl,rfl,rfl,Nat.le_refl _,mono,fun m hm hh=>⟨rfl,fun hs=>hs.elim id fun hb=>(hh ⟨_,u5,hb⟩).elim⟩,fun m hm=>.inl ?_,fun _=>Nat.le_refl _⟩,fun m h=>.inl h⟩
 obtain ⟨e,he,hm⟩:=hm
 rcases List.mem_append.1 he with h | h
 ·exact ⟨_,u5,hF e h m hm⟩
 ·exact ⟨e,Io.subset h,hm⟩
theorem KZ {e:Bk×Ob}:∀ {h:Heap},e∈h→nU h e.1 e.2
 | x :: r,he=>by
   rcases List.mem_cons.1 he with rfl | he
   ·exact .here
   ·exact .next (KZ he)
theorem QW {w:World} {S:Nat→Prop} {hp BT:Heap} {bm:Bk} {gk:K→AV} {sz:Nat} {g:E→AV} {β:K→Bk} {M:List (K×List E)} (Ij:∀ a b,gk a=gk b→a=b) (r:du w S (yw sz g β M++hp)) (u:pB hp bm (.mp (kB gk (bx sz g) β M)) bm (.mp (M.map fun e=>(gk e.1,.list sz (e.2.map g)))) BT):
 du w S (yw sz g β M++BT)∧kT w S (yw sz g β M++hp) w S (yw sz g β M++BT):=by
 have u':pB (yw sz g β M++hp) bm (.mp (kB gk (bx sz g) β M)) bm (.mp (M.map fun e=>(gk e.1,.list sz (e.2.map g)))) (yw sz g β M++BT):=.skip u
 have f:=u'.nO
 rw [tI] at f
 obtain ⟨L,c,M2,n,gy,p1,p2,p3,p4,p5,p6,p7,p8⟩:=zU (gv:=fun p:Bk×List E=>(bx sz g).val p.1 p.2) Ij r f
 obtain ⟨n',Wg,g1,g2,g3,g4,g5,g6,g7⟩:=p3
 have hM2:∀ x∈M2,∃ e∈M,x=(e.1,(β e.1,e.2)):=fun x hx=>by
  obtain ⟨e,he,rfl⟩:=List.mem_map.1 (p1.mem_iff.1 hx);exact ⟨e,he,rfl⟩
 let cv:nA×(K×(Bk×List E))→nA:=fun z=>⟨z.1.k,.list sz (z.2.2.2.map g),z.1.born⟩
 have hlen:L.length=M2.length:=by have:=congrArg List.length p2;simpa using this
 have TE:(L.zip M2).map (fun z=>z.1)=L:=List.map_fst_zip (by omega)
 have Og:(L.zip M2).map (fun z=>z.2)=M2:=List.map_snd_zip (by omega)
 have XI:∀ z∈L.zip M2,z.1.k=gk z.2.1∧z.1.v=(bx sz g).val z.2.2.1 z.2.2.2:=fun z hz=>by
  obtain ⟨i,hi,UZ⟩:=List.getElem_of_mem hz
  have Cj:i < L.length:=by simp at hi;omega
  have LM:i < M2.length:=by omega
  have Nj:z=(L[i],M2[i]):=by rw [← UZ,List.getElem_zip]
  have h1:(L.map nA.kv)[i]? =(M2.map fun e=>(gk e.1,(bx sz g).val e.2.1 e.2.2))[i]?:=by rw [p2]
  rw [List.getElem?_map,List.getElem?_map,List.getElem?_eq_getElem Cj,List.getElem?_eq_getElem LM] at h1
  have h2:=Prod.mk.inj (Option.some.inj h1)
  rw [Nj];exact h2
 have hH:Holds w S bm (.mp (M.map fun e=>(gk e.1,.list sz (e.2.map g)))):=by
  refine ⟨(L.zip M2).map cv,c,?_,n',Wg,g1,g2,by rw [g3];simp;omega,fun i e m he hm=>?_,fun e he=>?_,?_,?_⟩
  ·have e1:((L.zip M2).map cv).map nA.kv=M2.map (fun x=>(gk x.1,AV.list sz (x.2.2.map g))):=by
    conv=>rhs;rw [← Og]
    rw [List.map_map,List.map_map]
    refine List.map_congr_left fun z hz=>?_
    show (z.1.k,AV.list sz (z.2.2.2.map g))=(gk (z.2).1,AV.list sz ((z.2).2.2.map g))
    rw [(XI z hz).1]
   rw [e1]
   refine (p1.map _).trans ?_
   unfold oh
   rw [List.map_map]
   exact List.Perm.refl _
  ·rw [List.getElem?_map] at he
   cases UZ:(L.zip M2)[i]? with
   | none=>rw [UZ] at he;cases he
   | some z=>
     rw [UZ] at he
     obtain rfl:=Option.some.inj he
     have hz:z∈L.zip M2:=List.mem_of_getElem? UZ
     have XH:L[i]? =some z.1:=by
      have:((L.zip M2).map (fun z=>z.1))[i]? =some z.1:=by rw [List.getElem?_map,UZ];rfl
      rw [TE] at this;exact this
     obtain ⟨a1,a2,a3⟩:=g4 i z.1 m XH hm
     refine ⟨a1,a2,?_⟩
     obtain ⟨x,hx,Ze⟩:=hM2 z.2 (by rw [← Og];exact List.mem_map.2 ⟨z,hz,rfl⟩)
     rw [(XI z hz).2,Ze] at a3
     show At w S (.list sz (z.2.2.2.map g)) m.val
     rw [Ze]
     have Oe:(β x.1,Ob.AL sz (x.2.map g))∈yw sz g β M++hp:=List.mem_append_left _ (List.mem_map.2 ⟨x,hx,rfl⟩)
     exact (Co.LP (KZ Oe)).at r a3
  ·obtain ⟨z,hz,rfl⟩:=List.mem_map.1 he
   exact g5 z.1 (by rw [← TE];exact List.mem_map.2 ⟨z,hz,rfl⟩)
  ·rw [List.map_map]
   have:(L.zip M2).map ((fun e:nA=>e.born)∘cv)=L.map (·.born):=by
    conv=>rhs;rw [← TE,List.map_map]
    rfl
   rw [this];exact g6
  ·rw [List.map_map]
   have:(L.zip M2).map ((fun e:nA=>e.k)∘cv)=L.map (·.k):=by
    conv=>rhs;rw [← TE,List.map_map]
    rfl
   rw [this];exact g7
 obtain ⟨r1,e1,_⟩:=qY r u' (CP w bm.cd) id id hH (.inl rfl)
 exact ⟨r1,e1⟩
end
theorem ak.TF {n:Nat} {tm:List (Nat×AV)} {hp BT dG:Heap} {T:St→Prop} {K E:Type} {gk:K→AV} {sz:Nat} {g:E→AV} {β:K→Bk} {M:List (K×List E)} {bm bp:Bk} (Ij:∀ a b,gk a=gk b→a=b)
 (dl:yW hp bp (.da (cC (bx sz g) β M)) BT) (u:pB BT bm (.mp (kB gk (bx sz g) β M)) bm (.mp (M.map fun e=>(gk e.1,.list sz (e.2.map g)))) dG) (k:ak ⟨n,tm,dG⟩ T):ak ⟨n,tm,hp⟩ T:=by
 refine ak.step (CK:=⟨n,tm,dG⟩) (fun w S a r=>?_) k
 obtain ⟨S',r1,e1,m1⟩:=Of r.hp dl
 obtain ⟨r2,e2⟩:=QW Ij r1 u
 have hs:dG.Sublist (yw sz g β M++dG):=List.sublist_append_right _ _
 have q:=r.heap (S':=S') (fun m hm=>⟨m1 m hm,rfl⟩) r2
 exact ⟨_,S',rfl,q.less ⟨rfl,fun _ _ h=>h,hs⟩,kT.less (e1.trans e2) fun _ hn=>hn.sub hs⟩
section rules
variable {P:Program} {all:Array Oper} {rest:List Oper} {n:Nat} {tm:List (Nat×AV)} {hp:Heap} {Q:St→Prop} {d:Nat} {ty:TypeId} {pos:String} {af:Array Edge}
end rules
section
variable {P:Program} {R:St→Prop} {k:List It} {σ:St}
end
theorem J {α:Sort _} {a:α}:a=a:=rfl
section rules
variable {P:Program} {all:Array Oper} {n:Nat} {B:Heap} {tk:List Tok} {dy:List Nat} {i:Nat} {rest:List Oper} {tm:List (Nat×AV)} {acc:(Nat→Bk)→List (Nat×AV)} {Q:(Nat→Bk)→List (Nat×AV)→Prop} {d:Nat} {ty:TypeId} {pos:String} {af:Array Edge} {op:Op}
end rules
section
variable {P:Program} {o:Oper} {σ:St}
end
section rules
variable {P:Program} {all:Array Oper} {n:Nat} {B:Heap} {tk:List Tok} {dy:List Nat} {i:Nat} {rest:List Oper} {tm:List (Nat×AV)} {acc:(Nat→Bk)→List (Nat×AV)} {Q:(Nat→Bk)→List (Nat×AV)→Prop} {d:Nat} {ty:TypeId} {pos:String} {af:Array Edge} {op:Op}
end rules
end Go.Eng
set_option linter.unusedSimpArgs false
namespace Go.Eng
open Go
variable [bI]
section rules
variable {P:Program} {all:Array Oper} {rest:List Oper} {n:Nat} {tm:List (Nat×AV)} {hp:Heap} {Q:St→Prop} {d:Nat} {ty:TypeId} {pos:String} {af:Array Edge}
end rules
section ara
variable {V:Type}
variable {kb:Bk→(Nat→Bk)→V→List (Bk×PO)} {bo bo':Nat→Bk} {bs bs':Nat→Nat→Bk}
end ara
theorem ak.TG {n:Nat} {tm:List (Nat×AV)} {hp dG:Heap} {T:St→Prop} {b:Bk} {o o':Ob} (he:o=o') (u:pB hp b o b o' dG) (k:ak ⟨n,tm,dG⟩ T):ak ⟨n,tm,hp⟩ T:=by
 subst he
 rw [Fh u] at k
 exact k
section rules
variable {P:Program} {all:Array Oper} {rest:List Oper} {n:Nat} {tm:List (Nat×AV)} {hp:Heap} {Q:St→Prop} {d:Nat} {ty:TypeId} {pos:String} {af:Array Edge}
end rules
section todo
variable {P:Program} {R:St→Prop} {k:List It} {σ:St}
theorem cD {α:Type} {c:Operand} {x y:Code} {p:Prop} [Decidable p] {a b z:α} (h:(if p then a else b)=z) (hc:dt σ.tm c=some (.bool (decide p))) (h1:a=z→ab P R (.code x :: k) σ) (h2:b=z→ab P R (.code y :: k) σ):ab P R (.code (.cond c x y) :: k) σ:=
 ab.S6 hc (fun hp=>h1 (sC hp h)) (fun hp=>h2 (vq hp h))
theorem cB {α:Type} {c:Operand} {x y:Code} {p:Bool} {a b z:α} (h:(if p=true then a else b)=z) (hc:dt σ.tm c=some (.bool p)) (h1:a=z→ab P R (.code x :: k) σ) (h2:b=z→ab P R (.code y :: k) σ):ab P R (.code (.cond c x y) :: k) σ:=
 ab.cond hc (fun hp=>h1 (sC hp h)) (fun hp=>h2 (H6 hp h))
end todo
section rules
variable {P:Program} {all:Array Oper} {rest:List Oper} {n:Nat} {tm:List (Nat×AV)} {hp:Heap} {Q:St→Prop} {d:Nat} {ty:TypeId} {pos:String} {af:Array Edge} {op:Op} {s:Nat} {j:Nat}
theorem gT {α:Type} {p:Prop} [Decidable p] {a b z:α} (h:(if p then a else b)=z) (hj:(all[j]?).bind (·.dst)=some s) (hs:lk tm s=some (.bool (decide p))) (hn:Nat.blt d n=true) (h1:a=z→ai P all (⟨some d,op,ty,pos,af,none⟩ :: rest) ⟨n,(s,.bool true) :: tm,hp⟩ Q)
 (h2:b=z→ai P all rest ⟨n,(d,.raw undef) :: (s,.bool false) :: tm,hp⟩ Q):ai P all (⟨some d,op,ty,pos,af,some (j,true)⟩ :: rest) ⟨n,tm,hp⟩ Q:=
 ai.ct hj hs hn (fun hp=>h1 (sC hp h)) (fun hp=>h2 (vq hp h))
theorem gF {α:Type} {p:Prop} [Decidable p] {a b z:α} (h:(if p then a else b)=z) (hj:(all[j]?).bind (·.dst)=some s) (hs:lk tm s=some (.bool (decide p))) (hn:Nat.blt d n=true) (h1:b=z→ai P all (⟨some d,op,ty,pos,af,none⟩ :: rest) ⟨n,(s,.bool false) :: tm,hp⟩ Q)
 (h2:a=z→ai P all rest ⟨n,(d,.raw undef) :: (s,.bool true) :: tm,hp⟩ Q):ai P all (⟨some d,op,ty,pos,af,some (j,false)⟩ :: rest) ⟨n,tm,hp⟩ Q:=
 ai.jK hj hs hn (fun hp=>h1 (vq hp h)) (fun hp=>h2 (sC hp h))
end rules
theorem hP {P:Program} {σ:St} {s:Nat} {av:AV} {Q:List AV→St→Prop} (h1:lk σ.tm s=some av) (h2:Q [av] σ):ak σ (fun aL=>∃ rs,Rs P aL [.tmp s] rs∧Q rs aL):=ak.here ⟨[av],.cons (.tmp _ _ h1) .nil,h2⟩
theorem cR {hp:Heap} {l:List AV}:AN hp l l:=AN.refl _
theorem hH {P:Program} {σ:St} {s:Nat} {av:AV} {Q:List AV→Heap→Prop} {dG:Heap} (h1:lk σ.tm s=some av) (is:List Nat) (hs:DP σ.hp is=some dG) (h2:Q [av] dG):ak σ (fun aL=>∃ rs,Rs P aL [.tmp s] rs∧(∃ h',HS aL.hp h'∧Q rs h')):=ak.here ⟨[av],.cons (.tmp _ _ h1) .nil,dG,zV hs,h2⟩
theorem hQ {P:Program} {σ:St} {s t:Nat} {av aw:AV} {Q:List AV→St→Prop} (h1:lk σ.tm s=some av) (Hw:lk σ.tm t=some aw) (h2:Q [av,aw] σ):ak σ (fun aL=>∃ rs,Rs P aL [.tmp s,.tmp t] rs∧Q rs aL):=ak.here ⟨[av,aw],.cons (.tmp _ _ h1) (.cons (.tmp _ _ Hw) .nil),h2⟩
theorem hI {P:Program} {σ:St} {s t:Nat} {av aw:AV} {Q:List AV→Heap→Prop} {dG:Heap} (h1:lk σ.tm s=some av) (Hw:lk σ.tm t=some aw) (is:List Nat) (hs:DP σ.hp is=some dG) (h2:Q [av,aw] dG):ak σ (fun aL=>∃ rs,Rs P aL [.tmp s,.tmp t] rs∧(∃ h',HS aL.hp h'∧Q rs h')):=ak.here ⟨[av,aw],.cons (.tmp _ _ h1) (.cons (.tmp _ _ Hw) .nil),dG,zV hs,h2⟩
end Go.Eng
namespace Go.Eng
open Go
section
variable {K V:Type} [DecidableEq K] [zD K]
end
end Go.Eng
namespace Go.Eng
open Go
variable [bI]
section rules
variable {P:Program} {all:Array Oper} {n:Nat} {B:Heap} {tk:List Tok} {dy:List Nat} {i:Nat} {rest:List Oper} {tm qq:List (Nat×AV)} {acc:(Nat→Bk)→List (Nat×AV)} {Q:(Nat→Bk)→List (Nat×AV)→Prop} {d:Nat} {ty:TypeId} {pos:String} {af:Array Edge} {op:Op}
end rules
section
variable {P:Program} {R:St→Prop} {k:List It} {σ:St}
end
section view
variable {V:Type} {kb:Bk→(Nat→Bk)→V→List (Bk×PO)} {fs:V→List AV} {bo:Nat→Bk} {bs:Nat→Nat→Bk} {M:List V} {i:Int} {v:V} {hp dG Yt:Heap} {b bp:Bk}
end view
end Go.Eng
namespace Go.Eng
open Go Go.Sort Go.Proofs
variable [bI]
end Go.Eng
namespace Go.Eng
open Go
variable [bI]
section rules
variable {P:Program} {all:Array Oper} {rest:List Oper} {n:Nat} {tm:List (Nat×AV)} {hp:Heap} {Q:St→Prop} {d:Nat} {ty:TypeId} {pos:String} {af:Array Edge}
end rules
section rules
variable {P:Program} {all:Array Oper} {rest:List Oper} {n:Nat} {tm:List (Nat×AV)} {hp:Heap} {Q:St→Prop} {d:Nat} {ty:TypeId} {pos:String} {af:Array Edge}
theorem DS {P:Program} {t e E:TypeId} {i:TypeInfo} {w:World} (ht:P.underlying t=some (.slice e)) (hi:P.info? e=some i) (g o vO Dk:Nat) (cur:Array Value) (hg:w.heap[g]? =some (.cells cur E (0,0)))
 (a:Addr) (m c:Nat) (news:List Value) (hl:news.length=m * i.size) (Nn:∀ (j:Nat) u,news[j]? =some u→w.cell? (a.add j)=some u) (h1:∀ u∈news,u.oneCell'=true)
 (xi:vO+m≤Dk) (Gg:(o+vO * i.size)+news.length≤cur.size):
 (Builtin.append_ #[t,t] ty #[.slice (some ⟨g,o,none⟩) vO Dk,.slice (some a) m c]).run P w=
  .ok (.slice (some ⟨g,o,none⟩) (vO+m) Dk) (w.setRow g (cur.toList.take (o+vO * i.size)++news++cur.toList.drop ((o+vO * i.size)+news.length)).toArray):=by
 have hf:=run_firstCells_some (P:=P) w i.size m a m c news hl Nn
 have yX:=run_storeCells_at P g (o+vO * i.size) E news 0 cur w hg (by simpa using Gg) h1
 simp only [Nat.add_zero] at yX
 simp [Builtin.append_,run_underlying ht,sizeOf,typeInfo,hi,Builtin.lenOf,xi,hf,Addr.add_lit,yX]
theorem Iw {w:World} {S:Nat→Prop} {hp:Heap} {t e:TypeId} {i:TypeInfo} {z:Value} {b:Bk} {ps xs ys:List AV} {v1 v2:Value} (r:du w S hp) (ht:P.underlying t=some (.slice e)) (hi:P.info? e=some i) (hz:i.zero=some z) (Hx:z.cells.size=i.size) (h0:0 < i.size)
 (f:nU hp b (.arr i.size (ps++xs))) (SZ:At w S (.sl i.size b ps.length xs.length) v1) (hs:Nk w S i.size ys v2) (hb:(xs.length+ys.length) * i.bytes≤140737488355328) (S3:xs.length+ys.length≤9223372036854775807):
 ∃ v' w' b' qs,((b'=b∧qs=ps)∨(b'≠b∧qs=[]))∧(Builtin.append_ #[t,t] ty #[v1,v2]).run P w=.ok v' w'∧At w' S (.sl i.size b' qs.length (xs.length+ys.length)) v'∧GB w w' b.cd∧Holds w' S b' (.arr i.size (qs++(xs++ys)))∧
   (b'.cd=b.cd∨b'.cd=none∨∃ m,b'.cd=some m∧w.heap.size≤m):=by
 obtain ⟨k0,a,c,lT,rfl,k1,k2,k3⟩:=hs
 have hold:=r.holds _ f.mem
 obtain ⟨g0,g1,g2⟩:=qH r (.inl f)
 have Zf:∀ x∈xs,El i.size x:=fun x hx=>g0 x (List.mem_append_right _ hx)
 have Zg:∀ x∈ps,El i.size x:=fun x hx=>g0 x (List.mem_append_left _ hx)
 have Zh:=SZ
 obtain ⟨oa,cap,rfl,e2⟩:=SZ.uZ
 by_cases hy:ys=[]
 ·subst hy
  have hle:xs.length≤cap:=by
   rcases e2 with ⟨_,_,hl,_,_⟩ | ⟨m,Ci,ha,h1,h2⟩ | ⟨m,ad,Ci,ha,hl,hc⟩<;>omega
  refine ⟨_,w,b,ps,.inl ⟨rfl,rfl⟩,wH ht hi oa a xs.length cap c hle w,by simpa using Zh,⟨⟨rfl,rfl,rfl,Nat.le_refl _,fun _ _ _=>rfl⟩,fun _=>Nat.le_refl _⟩,by simpa using hold,.inl rfl⟩
 ·have hm:0 < ys.length:=List.length_pos_iff.2 hy
  have R6:0 < lT.length:=by rw [k1];exact Nat.mul_pos hm h0
  obtain ⟨ad,rfl,_⟩:=k3 0 lT[0] (by simp [R6])
  have Qm:∀ (j:Nat) u,lT[j]? =some u→w.cell? (ad.add j)=some u:=fun j u hu=>by
   obtain ⟨UJ,h1,h2⟩:=k3 j u hu
   obtain rfl:=Option.some.inj h1
   exact h2
  have AX:∀ u∈lT,u.oneCell'=true:=xg (cs:=flat ys) (vs:=lT.toArray) (by simp [k1,bQ k0]) k2 (HK k0)
  have xj:∀ x∈xs++ys,El i.size x:=fun x hx=>by rcases List.mem_append.1 hx with h | h;exact Zf x h;exact k0 x h
  have ely:∀ x∈ps++(xs++ys),El i.size x:=fun x hx=>by rcases List.mem_append.1 hx with h | h;exact Zg x h;exact xj x h
  have grown:∀ (old:Nat) (sA:List Value) (wr:Option Nat),sA.length=xs.length * i.size→mS w S (flat xs) sA.toArray→
   At (w.drew.alloc (.cells (sA.toArray++lT.toArray++Builtin.zeroCells z.cells (grownCap w (xs.length+ys.length) old e - (xs.length+ys.length))) e)) S (.sl i.size ⟨some w.heap.size,grownCap w (xs.length+ys.length) old e⟩ 0 (xs.length+ys.length))
    (.slice (some ⟨w.heap.size,0,none⟩) (xs.length+ys.length) (grownCap w (xs.length+ys.length) old e))∧
   GB w (w.drew.alloc (.cells (sA.toArray++lT.toArray++Builtin.zeroCells z.cells (grownCap w (xs.length+ys.length) old e - (xs.length+ys.length))) e)) wr∧
   Holds (w.drew.alloc (.cells (sA.toArray++lT.toArray++Builtin.zeroCells z.cells (grownCap w (xs.length+ys.length) old e - (xs.length+ys.length))) e)) S ⟨some w.heap.size,grownCap w (xs.length+ys.length) old e⟩ (.arr i.size (xs++ys)):=by
   intro old sA wr S4 Yy
   have JJ:=grownCap_ge w (xs.length+ys.length) old e
   have ex:Ext w (w.drew.alloc (.cells (sA.toArray++lT.toArray++Builtin.zeroCells z.cells (grownCap w (xs.length+ys.length) old e - (xs.length+ys.length))) e)):=(Ext.HL w _ (Nat.le_succ _)).trans (Ext.alloc w.drew _)
   generalize grownCap w (xs.length+ys.length) old e=cp at *
   refine ⟨?_,⟨⟨ex.os,ex.tape,ex.output,ex.size,fun k hk _=>ex.same k hk⟩,ex.drawn⟩,xj,by simpa using JJ,.inr ⟨w.heap.size,sA.toArray++lT.toArray++Builtin.zeroCells z.cells (cp - (xs.length+ys.length)),e,rfl,?_,?_,?_⟩⟩
   ·have:=At.sl (w:=w.drew.alloc (.cells (sA.toArray++lT.toArray++Builtin.zeroCells z.cells (cp - (xs.length+ys.length))) e)) (S:=S) i.size ⟨some w.heap.size,cp⟩ 0 (xs.length+ys.length) w.heap.size cp rfl JJ (by simp)
    simpa using this
   ·show (w.heap.push _)[w.heap.size]? =_
    simp
   ·simp only [Array.size_append,List.size_toArray,size_zeroCells,Hx,S4,k1]
    rw [← Nat.add_mul,← Nat.add_mul]
    congr 1
    omega
   ·rw [mT]
    have h2:mS w S (flat xs++flat ys) (sA++lT).toArray:=rH (by rw [bQ Zf,S4]) Yy k2
    intro j c' u hc hu
    have hj:j < (sA++lT).length:=by
     have:=(List.getElem?_eq_some_iff.1 hc).1
     simp only [List.length_append,bQ Zf,bQ k0] at this
     simp only [List.length_append,S4,k1]
     exact this
    have Yz:(sA++lT).toArray[j]? =some u:=by
     rw [Array.getElem?_append_left (by simpa using hj)] at hu
     simpa using hu
    exact (h2 j c' u hc Yz).mono fun m UM=>⟨UM,ex.same m (r.slt m UM)⟩
  rcases e2 with ⟨Xw,_,hl,rfl,rfl⟩ | ⟨m,EF,rfl,h1,h2⟩ | ⟨m,UJ,EF,rfl,hl,rfl⟩
  ·have hx:xs=[]:=List.eq_nil_of_length_eq_zero hl
   subst hx
   have hr:=run_append_nil (P:=P) (ty:=ty) w t e i z ht hi hz ad ys.length c lT k1 Qm hm (by simp at S3;omega) (by simp only [List.length_nil,Nat.zero_add] at hb;omega)
   obtain ⟨q1,q2,q3⟩:=grown 0 [] b.cd (by simp) (fun j c' u hc=>by simp [flat] at hc)
   simp only [List.length_nil,Nat.zero_add,Array.empty_append] at q1 q2 q3 ⊢
   exact ⟨_,_,_,[],.inr ⟨fun e=>(by rw [← e] at Xw;cases Xw),rfl⟩,hr,q1,q2,q3,.inr (.inr ⟨_,rfl,Nat.le_refl _⟩)⟩
  ·rcases g2 with ⟨g2,_⟩ | ⟨m',vs,E,g2,g3,g4,g5⟩
   ·rw [g2] at EF;cases EF
   ·obtain rfl:m'=m:=by rw [g2] at EF;exact Option.some.inj EF
    have hpx:ps.length * i.size+xs.length * i.size=(ps++xs).length * i.size:=by rw [List.length_append,Nat.add_mul]
    by_cases xi:xs.length+ys.length≤cap
    ·have hmul:(ps.length+(xs.length+ys.length)) * i.size≤b.cap * i.size:=Nat.mul_le_mul_right _ (by omega)
     have Gg:(ps.length * i.size+xs.length * i.size)+lT.length≤vs.size:=by rw [k1,← Nat.add_mul,← Nat.add_mul,g4,Nat.add_assoc];exact hmul
     have hr:=DS (P:=P) (ty:=ty) ht hi m' (ps.length * i.size) xs.length cap vs g3 ad ys.length c lT k1 Qm AX xi Gg
     rw [hpx] at hr Gg
     have nS:¬ S m':=fun hs=>(r.sep _ f.mem m' (lV EF)).1 hs
     have ex:∀ k,S k→S k∧(w.setRow m' (vs.toList.take ((ps++xs).length * i.size)++lT++vs.toList.drop ((ps++xs).length * i.size+lT.length)).toArray).heap[k]? =w.heap[k]?:=fun k hk=>⟨hk,setRow_other w m' k _ (fun e=>nS (e▸hk))⟩
     refine ⟨_,_,b,ps,.inl ⟨rfl,rfl⟩,hr,?_,⟨⟨rfl,rfl,rfl,by simp,fun k _ hk=>setRow_other w m' k _ (fun e=>hk (by rw [EF,e]))⟩,fun _=>Nat.le_refl _⟩,⟨ely,by simp;omega,.inr ⟨m',(vs.toList.take ((ps++xs).length * i.size)++lT++vs.toList.drop ((ps++xs).length * i.size+lT.length)).toArray,E,EF,setRow_heap w m' vs _ E _ g3,?_,?_⟩⟩,.inl rfl⟩
     ·exact At.sl (w:=w.setRow m' (vs.toList.take ((ps++xs).length * i.size)++lT++vs.toList.drop ((ps++xs).length * i.size+lT.length)).toArray) (S:=S) i.size b ps.length (xs.length+ys.length) m' cap EF xi (by omega)
     ·simp only [List.size_toArray,List.length_append,List.length_take,List.length_drop,Array.length_toList (xs:=vs)] at Gg ⊢
      omega
     ·rw [← List.append_assoc,mT]
      have hA:mS w S (flat (ps++xs)++flat ys) (vs.toList.take ((ps++xs).length * i.size)++lT).toArray:=rH (by rw [bQ g0,List.length_take,Array.length_toList (xs:=vs)];omega) (fun j c' u hc hu=>by
       simp only [List.getElem?_toArray,List.getElem?_take] at hu
       split at hu
       ·exact g5 j c' u hc (by simpa using hu)
       ·cases hu) k2
      intro j c' u hc hu
      have hj:j < (vs.toList.take ((ps++xs).length * i.size)++lT).length:=by
       have:=(List.getElem?_eq_some_iff.1 hc).1
       rw [List.length_append,bQ g0,bQ k0] at this
       rw [List.length_append,List.length_take,Array.length_toList (xs:=vs),k1];omega
      simp only [List.getElem?_toArray] at hu
      rw [List.getElem?_append_left hj] at hu
      exact (hA j c' u hc (by simpa using hu)).mono ex
    ·have UI:ps.length * i.size+xs.length * i.size≤vs.size:=by
      have:=Nat.mul_le_mul_right i.size g1
      rw [hpx,g4];exact this
     have Zi:((vs.toList.drop (ps.length * i.size)).take (xs.length * i.size)).length=xs.length * i.size:=by
      rw [List.length_take,List.length_drop,Array.length_toList (xs:=vs)];omega
     have hr:=run_append_grow (P:=P) (ty:=ty) w t e i z ht hi hz ⟨m',ps.length * i.size,none⟩ xs.length cap ((vs.toList.drop (ps.length * i.size)).take (xs.length * i.size)) Zi (fun j u hu=>by
      rw [nV,pF g3]
      rw [List.getElem?_take] at hu
      split at hu
      ·rw [List.getElem?_drop] at hu;simpa using hu
      ·cases hu) ad ys.length c lT k1 Qm (by omega) (by omega) (growslice_fits (by omega) hb)
     obtain ⟨q1,q2,q3⟩:=grown cap ((vs.toList.drop (ps.length * i.size)).take (xs.length * i.size)) b.cd Zi (fun j c' u hc hu=>by
      simp only [List.getElem?_toArray,List.getElem?_take] at hu
      split at hu
      ·rw [List.getElem?_drop] at hu
       refine g5 (ps.length * i.size+j) c' u ?_ (by simpa using hu)
       rw [mT,List.getElem?_append_right (by rw [bQ Zg];omega),bQ Zg]
       rw [Nat.add_sub_cancel_left];exact hc
      ·cases hu)
     have UM:m' < w.heap.size:=(Array.getElem?_eq_some_iff.1 g3).1
     exact ⟨_,_,_,[],.inr ⟨fun e=>(by rw [← e] at EF;exact absurd (Option.some.inj EF) (by omega)),rfl⟩,hr,q1,q2,q3,.inr (.inr ⟨_,rfl,Nat.le_refl _⟩)⟩
  ·have hx:xs=[]:=List.eq_nil_of_length_eq_zero hl
   subst hx
   have hr:=run_append_grow (P:=P) (ty:=ty) w t e i z ht hi hz UJ 0 0 [] (by simp) (fun j u hu=>by simp at hu) ad ys.length c lT k1 Qm (by omega) (by simp at S3;omega) (growslice_fits (by omega) (by simpa using hb))
   obtain ⟨q1,q2,q3⟩:=grown 0 [] b.cd (by simp) (fun j c' u hc=>by simp [flat] at hc)
   simp only [List.length_nil,Nat.zero_add] at q1 q2 q3 hr ⊢
   exact ⟨_,_,_,[],.inr ⟨fun e=>(by
    rw [← e] at g2
    rcases g2 with ⟨g2,_⟩ | ⟨m',vs,E,g2,g3,_⟩
    ·cases g2
    ·have:=(Array.getElem?_eq_some_iff.1 g3).1
     exact absurd (Option.some.inj g2) (by omega)),rfl⟩,hr,q1,q2,q3,.inr (.inr ⟨_,rfl,Nat.le_refl _⟩)⟩
noncomputable def mL {α:Type} (b b':Bk) (Ps:List α):List α:=open Classical in if b'=b then Ps else []
theorem A7 {α:Type} {g:α→AV} {Ps Xs Ys Zs:List α} {t e:TypeId} {i:TypeInfo} {z:Value} {x y:Operand} {src:AV} {b:Bk} {sz:Nat} {dG:Bk→Heap} [aR P t (.slice e)] [bf P e i] (hx:dt tm x=some (.sl sz b Ps.length Xs.length)) (hy:dt tm y=some src) (hz:i.zero=some z)
 (Hx:Nat.beq z.cells.size i.size=true) (jH:Nat.beq i.size sz=true) (h0:Nat.blt 0 sz=true) (hn:Nat.blt d n=true) (R8:Nat.ble i.bytes 65536=true) (hs:Src hp sz src (Ys.map g)) (hv:app Xs Ys=some Zs) (u:∀ b',pB hp b (.arr sz ((Ps++Xs).map g)) b' (.arr sz ((mL b b' Ps++Zs).map g)) (dG b'))
 (kk:∀ b',ai P all rest ⟨n,(d,.sl sz b' (mL b b' Ps).length Zs.length) :: tm,dG b'⟩ Q):ai P all (⟨some d,.call {callee:=.builtin .append,args:=#[x,y],argTypes:=#[t,t]},ty,pos,af,none⟩ :: rest) ⟨n,tm,hp⟩ Q:=by
 obtain ⟨hb,rfl⟩:=Dw hv
 refine ai.LD rfl fun w S a r=>?_
 obtain rfl:i.size=sz:=Nat.eq_of_beq_eq_true jH
 have R8:=Nat.le_of_ble_eq_true R8
 have hf:=(u b).nO
 rw [List.map_append] at hf
 have Wh:dt tm x=some (.sl i.size b (Ps.map g).length (Xs.map g).length):=by rw [List.length_map,List.length_map];exact hx
 have hmul:((Xs.map g).length+(Ys.map g).length) * i.bytes≤1000000000 * 65536:=Nat.mul_le_mul (by simpa using hb) R8
 obtain ⟨v',w',b',qs,hq,g1,g2,g3,g4,g5⟩:=Iw (P:=P) (ty:=ty) r.hp (aR.h (P:=P) (t:=t)) (bf.h (P:=P) (t:=e)) hz (Nat.eq_of_beq_eq_true Hx) (by simpa using h0) hf (bn (σ:=⟨n,tm,hp⟩) r Wh) (hs.at r.hp (bn (σ:=⟨n,tm,hp⟩) r hy)) (by omega) (by simp;omega)
 obtain rfl:qs=(mL b b' Ps).map g:=by
  rcases hq with ⟨rfl,rfl⟩ | ⟨h1,rfl⟩
  ·simp [mL]
  ·simp [mL,h1]
 rw [← List.map_append,← List.map_append] at g4
 obtain ⟨k1,k2,k3⟩:=qY r.hp (u b') g3 id id g4 g5
 have g2':At w' S (.sl i.size b' (mL b b' Ps).length (Xs++Ys).length) v':=by simpa using g2
 refine ⟨v',w',S,_,?_,(r.heap k3 k1).put hn g2',k2,kk b'⟩
 simp [execOp,resolve,invoke,builtin,g1]
theorem jh {α:Type} {Ps Xs:List α} {el:α} {t e:TypeId} {i:TypeInfo} {x y:Operand} {k:IntKind} {j:Int} {sz:Nat} {b:Bk} [aR P t (.slice e)] [bf P e i] (hx:dt tm x=some (.sl sz b Ps.length Xs.length)) (jH:Nat.beq i.size sz=true) (hy:dt tm y=some (.int k j))
 (hv:idx Xs j=some el):QV P ⟨some d,.indexAddr t x y,ty,pos,af,none⟩ ⟨n,tm,hp⟩ (.qp sz b (Ps.length+j.toNat) 0):=by
 obtain ⟨h0,h1,_⟩:=lZ hv
 exact yZ hx jH hy ⟨h0,h1⟩
theorem Oh {α:Type} {g:α→AV} {Ps Xs:List α} {el:α} {j:Int} (hv:idx Xs j=some el):((Ps++Xs).map g)[Ps.length+j.toNat]? =some (g el):=by
 rw [List.getElem?_map,List.getElem?_append_right (by omega),Nat.add_sub_cancel_left,(lZ hv).2.2];rfl
theorem nC {α:Type} {g:α→AV} {Ps Xs:List α} {el:α} {j:Int} {t:TypeId} {D:TypeDesc} {x:Operand} {b:Bk} {sz o:Nat} {av:AV} [aR P t D] (hD:TypeDesc.lH D=false) (hx:dt tm x=some (.qp sz b (Ps.length+j.toNat) o)) (f:nU hp b (.arr sz ((Ps++Xs).map g)))
 (hv:idx Xs j=some el) (ho:(g el).cells[o]? =some av):QV P ⟨some d,.load t x,ty,pos,af,none⟩ ⟨n,tm,hp⟩ av:=
 BD hD hx (.inl f) (Oh hv) ho
theorem u9 {α:Type} {g:α→AV} {Ps Xs:List α} {el:α} {j:Int} {t:TypeId} {D:TypeDesc} {i:TypeInfo} {x:Operand} {b:Bk} {sz:Nat} {cs:List AV} [aR P t D] [bf P t i] (hD:TypeDesc.lH D=true) (hx:dt tm x=some (.qp sz b (Ps.length+j.toNat) 0)) (f:nU hp b (.arr sz ((Ps++Xs).map g))) (jH:Nat.beq i.size sz=true)
 (hv:idx Xs j=some el) (hc:g el=.agg cs):QV P ⟨some d,.load t x,ty,pos,af,none⟩ ⟨n,tm,hp⟩ (.agg cs):=
 wG hD hx (.inl f) jH (by rw [Oh (g:=g) hv,hc])
theorem tJ {α:Type} {Ps Xs Zs:List α} {t e:TypeId} {i:TypeInfo} {x:Operand} {lo hi:Option Operand} {l h:Option Int} {sz:Nat} {b:Bk} {L H:Int} [aR P t (.slice e)] [bf P e i] (hx:dt tm x=some (.sl sz b Ps.length Xs.length)) (jH:Nat.beq i.size sz=true) (hl:PW tm lo l) (hh:PW tm hi h)
 (eL:sB l=L) (eH:rK Xs.length h=H) (hv:xm Xs L H=some Zs):QV P ⟨some d,.slice t x lo hi none,ty,pos,af,none⟩ ⟨n,tm,hp⟩ (.sl sz b (Ps.length+L.toNat) Zs.length):=by
 obtain ⟨⟨h0,h1,h2⟩,_⟩:=tF hv
 have hlen:=(zR hv).1
 subst eL;subst eH
 have:=Dn (P:=P) (d:=d) (ty:=ty) (pos:=pos) (af:=af) (n:=n) (tm:=tm) (hp:=hp) (t:=t) (e:=e) hx jH hl hh h0 h1 h2
 rw [hlen];exact this
end rules
theorem ak.Oi {α:Type} {g:α→AV} {n:Nat} {tm:List (Nat×AV)} {hp:Heap} {dG:List α→Heap} {T:St→Prop} {b:Bk} {sz:Nat} {Ps Xs Zs:List α} {L:Int} (hv:xm Xs L Xs.length=some Zs) (u:∀ Qs,pB hp b (.arr sz ((Ps++Xs).map g)) b (.arr sz ((Qs++Zs).map g)) (dG Qs))
 (kk:∀ Qs:List α,Qs.length=Ps.length+L.toNat→ak ⟨n,tm,dG Qs⟩ T):ak ⟨n,tm,hp⟩ T:=fun w S a r=>by
 obtain ⟨⟨h0,h1,h2⟩,hz⟩:=tF hv
 have hH:=r.hp.holds _ (u Ps).nO.mem
 have hx:Ps++Xs=(Ps++Xs.take L.toNat)++Zs:=by
  rw [List.append_assoc]
  congr 1
  have Zj:Zs=Xs.drop L.toNat:=by rw [hz,List.take_of_length_le (by rw [List.length_drop];omega)]
  rw [Zj,List.take_append_drop]
 have Tv:Holds w S b (.arr sz (((Ps++Xs.take L.toNat)++Zs).map g)):=by rw [← hx];exact hH
 obtain ⟨r1,e1,_⟩:=qY r.hp (u (Ps++Xs.take L.toNat)) (CP w b.cd) id id Tv (.inl rfl)
 obtain ⟨aL,S',t1,t2,t3⟩:=kk (Ps++Xs.take L.toNat) (by rw [List.length_append,List.length_take];omega) w S a (r.heap (fun m hm=>⟨hm,rfl⟩) r1)
 exact ⟨aL,S',t1,t2,e1.trans t3⟩
theorem ak.Oj {α:Type} {g:α→AV} {n:Nat} {tm:List (Nat×AV)} {hp dG:Heap} {T:St→Prop} {b:Bk} {sz:Nat} {Ps Xs Zs:List α} {H:Int} (hv:xm Xs 0 H=some Zs) (u:pB hp b (.arr sz ((Ps++Xs).map g)) b (.arr sz ((Ps++Zs).map g)) dG)
 (kk:ak ⟨n,tm,dG⟩ T):ak ⟨n,tm,hp⟩ T:=fun w S a r=>by
 obtain ⟨⟨h0,h1,h2⟩,hz⟩:=tF hv
 have hx:(Ps++Zs).map g=((Ps++Xs).map g).take (Ps.length+H.toNat):=by
  rw [← List.map_take,List.take_append]
  congr 2
  ·rw [List.take_of_length_le (by omega)]
  ·rw [hz,Nat.add_sub_cancel_left];simp
 have u':=u
 rw [hx] at u'
 obtain ⟨q1,q2⟩:=Ig r.hp u'
 obtain ⟨aL,S',t1,t2,t3⟩:=kk w S a (r.heap (fun m hm=>⟨hm,rfl⟩) q1)
 exact ⟨aL,S',t1,t2,q2.trans t3⟩
section rules
variable {P:Program} {all:Array Oper} {rest:List Oper} {n:Nat} {tm:List (Nat×AV)} {hp:Heap} {Q:St→Prop} {d:Nat} {ty:TypeId} {pos:String} {af:Array Edge}
end rules
end Go.Eng
namespace Go.Eng
open Go Go.Proofs
variable [bI]
section rules
variable {P:Program} {all:Array Oper} {rest:List Oper} {n:Nat} {tm:List (Nat×AV)} {hp:Heap} {Q:St→Prop} {d:Nat} {ty:TypeId} {pos:String} {af:Array Edge}
end rules
end Go.Eng
namespace Go.Eng
open Go Go.Sort Go.Proofs
variable [bI]
section rules
variable {P:Program} {all:Array Oper} {rest:List Oper} {n:Nat} {tm:List (Nat×AV)} {hp:Heap} {Q:St→Prop} {d:Nat} {ty:TypeId} {pos:String} {af:Array Edge}
end rules
end Go.Eng
namespace Go.Eng
open Go Go.Proofs
variable [bI]
section rules
variable {P:Program} {all:Array Oper} {rest:List Oper} {n:Nat} {tm:List (Nat×AV)} {hp:Heap} {Q:St→Prop} {d:Nat} {ty:TypeId} {pos:String} {af:Array Edge}
end rules
section order
variable {P:Program} {all:Array Oper} {n m:Nat}
variable {mP:Nat→Option AV} {en:Nat→Env} {e:Env} {I:Array Bool→Act→World→(Nat→Prop)→Prop}
end order
section lit
variable {K V:Type} [DecidableEq K] [zD K]
variable {P:Program} {all:Array Oper} {n m:Nat} {hp:Heap} {p:Nat} {al:List (Nat×Nat)} {gk:K→AV} {gv:V→AV} {lit:List (Nat×K×V)}
end lit
section rules
variable {K V:Type} [DecidableEq K] [zD K] {P:Program} {all:Array Oper} {n:Nat} {hp:Heap} {p:Nat} {al:List (Nat×Nat)} {gk:K→AV} {gv:V→AV} {lit:List (Nat×K×V)} {A:List Nat}
variable {i:Nat} {l l1 l2 rest:List Oper} {tm:List (Nat×AV)} {Q:List (Nat×AV)→Prop} {d:Nat} {ty:TypeId} {pos:String} {af:Array Edge} {op:Op}
end rules
end Go.Eng
namespace Go.Eng
open Go
variable [bI]
section rules
variable {P:Program} {all:Array Oper} {rest:List Oper} {n:Nat} {tm:List (Nat×AV)} {hp:Heap} {Q:St→Prop} {d:Nat} {ty:TypeId} {pos:String} {af:Array Edge}
end rules
section
variable {P:Program} {n:Nat} {tm:List (Nat×AV)} {hp:Heap} {d:Nat} {ty:TypeId} {pos:String} {af:Array Edge}
end
section rules
variable {P:Program} {all:Array Oper} {rest:List Oper} {n:Nat} {tm:List (Nat×AV)} {hp:Heap} {Q:St→Prop} {d:Nat} {ty:TypeId} {pos:String} {af:Array Edge}
end rules
section rules
variable {P:Program} {all:Array Oper} {rest:List Oper} {n:Nat} {tm:List (Nat×AV)} {hp:Heap} {Q:St→Prop} {d:Nat} {ty:TypeId} {pos:String} {af:Array Edge}
end rules
section rules
variable {P:Program} {all:Array Oper} {rest:List Oper} {n:Nat} {tm:List (Nat×AV)} {hp:Heap} {Q:St→Prop} {d:Nat} {ty:TypeId} {pos:String} {af:Array Edge}
end rules
section rules
variable {P:Program} {all:Array Oper} {rest:List Oper} {n:Nat} {tm:List (Nat×AV)} {hp:Heap} {Q:St→Prop} {d:Nat} {ty:TypeId} {pos:String} {af:Array Edge}
end rules
section rules
variable {P:Program} {all:Array Oper} {rest:List Oper} {n:Nat} {tm:List (Nat×AV)} {hp:Heap} {Q:St→Prop} {d:Nat} {ty:TypeId} {pos:String} {af:Array Edge}
end rules
section plain
variable {K E:Type} [DecidableEq K]
open Classical in
noncomputable def BU (s:List (K×List E)) (k:K) (n:Nat):Option (List E):=if (s.map Prod.fst).Nodup then (ca s k).bind fun v=>if v.length=n then some v else none else none
open Classical in
noncomputable def K1 (M s:List (K×List E)):Option Unit:=if (M.map fun e=>(e.1,e.2.length)).Perm (s.map fun e=>(e.1,e.2.length)) then some () else none
theorem Me {s:List (K×List E)} {k:K} {n:Nat} {v:List E} (h:BU s k n=some v):(s.map Prod.fst).Nodup∧ca s k=some v∧v.length=n:=by
 unfold BU at h
 split at h
 ·rename_i hn
  refine ⟨hn,?_⟩
  cases hg:ca s k with
  | none=>rw [hg] at h;cases h
  | some u=>
    rw [hg,Option.bind_some] at h
    split at h
    ·rename_i hl
     obtain rfl:=Option.some.inj h
     exact ⟨rfl,hl⟩
    ·cases h
 ·cases h
theorem Mf (β:K→Bk) (k:K):w5 β k (β k)=β:=by
 funext k'
 unfold w5
 split
 ·rename_i h;rw [h]
 ·rfl
theorem Wi {gk:K→AV} {sz:Nat} {g:E→AV} {β:K→Bk} {M s:List (K×List E)} {X:List (AV×AV)} (hL:X.Perm (kB gk (bx sz g) β M)) (h:K1 M s=some ()):X.Perm (kB gk (bx sz g) β s):=by
 unfold K1 at h
 split at h
 ·rename_i hp
  have e:∀ Z:List (K×List E),kB gk (bx sz g) β Z=(Z.map fun e=>(e.1,e.2.length)).map fun p=>(gk p.1,AV.sl sz (β p.1) 0 p.2):=fun Z=>by
   unfold kB
   rw [List.map_map];rfl
  rw [e] at hL ⊢
  exact hL.trans (hp.map _)
 ·cases h
end plain
theorem ak.BU {n d:Nat} {x:AV} {tm:List (Nat×AV)} {hp dG:Heap} {T:St→Prop} {K E:Type} [DecidableEq K] {sz m:Nat} {g:E→AV} {β:K→Bk} {M:List (K×List E)} {key:K} {xs:List E} {bp:Bk} (h:Eng.BU M key m=some xs)
 (u:pB hp bp (.da (cC (bx sz g) β M)) bp (.da (cC (bx sz g) β (lJ M key))) dG) (k:∀ b,b=β key→ak ⟨n,(d,.lA [x,.sl sz b 0 xs.length]) :: tm,(b,.arr sz (xs.map g)) :: dG⟩ T):ak ⟨n,(d,.lA [x,.sl sz (β key) 0 m]) :: tm,hp⟩ T:=by
 obtain ⟨xf,hc,hl⟩:=Me h
 subst hl
 refine ak.step (CK:=⟨n,(d,.lA [x,.sl sz (β key) 0 xs.length]) :: tm,(β key,.arr sz (xs.map g)) :: dG⟩) (fun w S a r=>?_) (k _ rfl)
 have Wc:(cC (bx sz g) β M).Perm ((β key,.arr sz (xs.map g)) :: cC (bx sz g) β (lJ M key)):=((ze xf hc).map _)
 obtain ⟨g1,g2⟩:=Fv r.hp u Wc
 exact ⟨_,S,rfl,r.heap (fun m hm=>⟨hm,rfl⟩) g1,g2⟩
theorem ak.Zk {n:Nat} {tm:List (Nat×AV)} {hp BT dG:Heap} {T:St→Prop} {K E:Type} [DecidableEq K] [zD K] {sz:Nat} {g:E→AV} {β:K→Bk} {M:List (K×List E)} {key:K} {v:List E} {b bp:Bk} (hb:b=β key) (dl:yW hp b (.arr sz (v.map g)) BT)
 (u:pB BT bp (.da (cC (bx sz g) β (lJ M key))) bp (.da (cC (bx sz g) β (rP M key v))) dG) (k:ak ⟨n,tm,dG⟩ T):ak ⟨n,tm,hp⟩ T:=by
 subst hb
 have u':pB BT bp (.da (cC (bx sz g) β (lJ M key))) bp (.da (cC (bx sz g) (w5 β key (β key)) (rP M key v))) dG:=by
  rw [Mf];exact u
 exact ak.CV (kp:=bx sz g) (β:=β) (M:=M) (key:=key) (v:=v) (b:=β key) rfl dl u' k
end Go.Eng
