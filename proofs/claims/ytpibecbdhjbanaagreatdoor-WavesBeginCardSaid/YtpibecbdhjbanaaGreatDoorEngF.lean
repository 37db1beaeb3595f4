/- The engine: abstract values, the symbolic heap, one rule for each operation. No program in sight. -/
import Derived.Test.YtpibecbdhjbanaaGreatDoorEngE
import Derived.Shelf.SlSortCmp.NoneTotal
import Derived.Lib.Case
set_option linter.unusedVariables false
set_option linter.unusedSectionVars false
namespace Go.Eng
open Go
variable [bD]
section rules
variable {P:Program} {all:Array Oper} {n:Nat} {B:Heap} {tk:List Tok} {dy:List Nat} {i:Nat} {rest:List Oper} {tm:List (Nat×AV)} {acc:(Nat→Bk)→List (Nat×AV)} {Q:(Nat→Bk)→List (Nat×AV)→Prop} {d:Nat} {ty:TypeId} {pos:String} {af:Array Edge} {op:Op}
end rules
end Go.Eng
namespace Go.Eng
open Go Go.Proofs Go.Shelf Go.Lib
variable {P:Program} [bD]
end Go.Eng
namespace Go.Eng
open Go
variable [bD]
section rules
variable {P:Program} {all:Array Oper} {rest:List Oper} {n:Nat} {tm:List (Nat×AV)} {hp:Heap} {Q:List (Nat×AV)→Prop} {d1 d2 j s x:Nat} {t1 t2:TypeId} {p1 p2:String} {a1 a2:Array Edge} {a b:Bool}
end rules
section rules
variable {P:Program} {all:Array Oper} {rest:List Oper} {n:Nat} {tm:List (Nat×AV)} {hp:Heap} {Q:St→Prop} {d:Nat} {ty:TypeId} {pos:String} {af:Array Edge}
end rules
section rules
variable {P:Program} {all:Array Oper} {rest:List Oper} {n:Nat} {tm:List (Nat×AV)} {hp:Heap} {Q:St→Prop} {d:Nat} {ty:TypeId} {pos:String} {af:Array Edge}
end rules
section rules
variable {P:Program} {all:Array Oper} {rest:List Oper} {n:Nat} {tm:List (Nat×AV)} {hp:Heap} {Q:St→Prop} {d:Nat} {ty:TypeId} {pos:String} {af:Array Edge}
end rules
section rules
variable {P:Program} {all:Array Oper} {rest:List Oper} {n:Nat} {tm:List (Nat×AV)} {hp:Heap} {Q:List (Nat×AV)→Prop} {d:Nat} {ty:TypeId} {pos:String} {af:Array Edge} {op:Op}
theorem AM.vB {f:FuncId} {x:Operand} {args:List Operand} {ts:Array TypeId} {sW l l':List AV} {R:AV} [bw P f] (hx:cx (CY (looks all ⟨some d,.call {callee:=.value x,args:=args.toArray,argTypes:=ts},ty,pos,af,none⟩) tm) x=some (.func (.func f) sW)) (hl:wZ (CY (looks all ⟨some d,.call {callee:=.value x,args:=args.toArray,argTypes:=ts},ty,pos,af,none⟩) tm) args=some l) (c:Pu P f l' R) (co:vk hp (l++sW) l') (hn:Nat.blt d n=true)
 (k:AM P all n hp rest ((d,R) :: tm) Q):AM P all n hp (⟨some d,.call {callee:=.value x,args:=args.toArray,argTypes:=ts},ty,pos,af,none⟩ :: rest) tm Q:=by
 refine AM.mv (fun w S a h1 h2 h3 h4 K Q' hK=>?_) hn k
 have r:=oH h1 h2 h3 h4
 obtain ⟨cv,e1,e2,e3⟩:=(bf r hx).xj
 show Oper.upon P _ a K Q' _
 rw [r7 a _ e1]
 obtain ⟨g1,g2⟩:=pP r hl
 obtain ⟨g3,g4⟩:=vk.at r.hp co (vs:=args.map a.eval++cv.toList) (by simp [g1,e2]) (r6 g1 g2 (by simpa using e3))
 refine (c w S _ (sb h3.slt h3.fU) (by simpa using g3) g4).mono ?_
 rintro e w' ⟨v,rr,h',S',rfl,rfl,k3,k4,k5⟩
 exact hK v w' S' ⟨k5.D2,fun m hm=>(k5.jX m hm).1,fun m hm hs=>(k5.other m hm (fun ⟨x,hx,_⟩=>by simp at hx)).2 hs,k4.slt⟩ k3
end rules
section values
variable {P:Program} {n:Nat} {tm:List (Nat×AV)} {hp:Heap} {d:Nat} {ty:TypeId} {pos:String} {af:Array Edge}
end values
section rules
variable {P:Program} {n:Nat} {tm:List (Nat×AV)} {hp:Heap} {d:Nat} {ty:TypeId} {pos:String} {af:Array Edge}
end rules
section
variable {K E:Type}
end
section rules
variable {P:Program} {all:Array Oper} {rest:List Oper} {n:Nat} {tm:List (Nat×AV)} {hp:Heap} {Q:St→Prop} {d:Nat} {ty:TypeId} {pos:String} {af:Array Edge}
end rules
section
variable {P:Program} {R:St→Prop} {k:List It} {σ:St}
end
theorem J {α:Sort _} {a:α}:a=a:=rfl
section rules
variable {P:Program} {all:Array Oper} {n:Nat} {B:Heap} {tk:List Tok} {dy:List Nat} {i:Nat} {rest:List Oper} {tm:List (Nat×AV)} {acc:(Nat→Bk)→List (Nat×AV)} {Q:(Nat→Bk)→List (Nat×AV)→Prop} {d:Nat} {ty:TypeId} {pos:String} {af:Array Edge} {op:Op}
end rules
section
variable {P:Program} {o:Oper} {σ:St}
end
section rules
variable {P:Program} {all:Array Oper} {n:Nat} {B:Heap} {tk:List Tok} {dy:List Nat} {i:Nat} {rest:List Oper} {tm:List (Nat×AV)} {acc:(Nat→Bk)→List (Nat×AV)} {Q:(Nat→Bk)→List (Nat×AV)→Prop} {d:Nat} {ty:TypeId} {pos:String} {af:Array Edge} {op:Op}
end rules
end Go.Eng
set_option linter.unusedSimpArgs false
namespace Go.Eng
open Go
variable [bD]
theorem aj.KQ {n:Nat} {tm:List (Nat×AV)} {hp:Heap} {bU:Nat→Heap} {T:St→Prop} {b:Bk} {es:List (AV×AV)} {k:AV} (u:∀ q,jY hp b (.mp es) b (.z8 es q k) (bU q)) (kk:∀ q,aj ⟨n,tm,bU q⟩ T):aj ⟨n,tm,hp⟩ T:=fun w S a r=>by
 obtain ⟨L,c,hL,hH⟩:=r.hp.holds _ (u 0).nU.mem
 have hq:∃ q,(∃ e∈L,e.k=k∧e.born=q)∨((∀ e∈L,e.k≠k)∧q=c):=by
  by_cases h:∃ e∈L,e.k=k
  ·obtain ⟨e,he,hk⟩:=h;exact ⟨e.born,.inl ⟨e,he,hk,rfl⟩⟩
  ·exact ⟨c,.inr ⟨fun e he hk=>h ⟨e,he,hk⟩,rfl⟩⟩
 obtain ⟨q,hq⟩:=hq
 obtain ⟨r1,e1,_⟩:=sD r.hp (u q) (Jt w b.bY) id id ⟨L,c,hL,hH,hq⟩ (.inl rfl)
 obtain ⟨aC,S',t1,t2,t3⟩:=kk q w S a (r.heap (fun m hm=>⟨hm,rfl⟩) r1)
 exact ⟨aC,S',t1,t2,e1.trans t3⟩
theorem B4 {K V:Type} {gk:K→AV} {gv:V→AV} {w:World} {S:Nat→Prop} {hp:Heap} {b:Bk} {M:List (K×V)} {q:Nat} {key:K} (Hj:∀ a b,gk a=gk b→a=b) (r:bZ w S hp) (f:ki hp b (.z8 (M.map fun e=>(gk e.1,gv e.2)) q (gk key))):
 ∃ (L:List mI) (c:Nat) (M':List (K×V)) (n:Nat) (eF:Array MapEntry),M'.Perm M∧L.map mI.kv=M'.map (fun e=>(gk e.1,gv e.2))∧qA w S b L c∧b.bY=some n∧w.heap[n]? =some (.map eF c)∧eF.toList.length=M'.length∧
   (∀ (i:Nat) e m,M'[i]? =some e→eF.toList[i]? =some m→At w S (gk e.1) m.key∧At w S (gv e.2) m.val)∧(M'.map Prod.fst).Nodup∧((∃ e∈L,e.k=gk key∧e.born=q)∨((∀ e∈L,e.k≠gk key)∧q=c)):=by
 obtain ⟨L,c,kr,hH,hq⟩:=r.holds _ f.mem
 obtain ⟨M',h1,h2⟩:=qF _ _ _ kr
 have Qo:=hH
 obtain ⟨n,eF,g1,g2,g3,g4,g5,g6,g7⟩:=hH
 have hlen:L.length=M'.length:=by have:=congrArg List.length h2;simpa using this
 refine ⟨L,c,M',n,eF,h1,h2,Qo,g1,g2,by rw [Array.length_toList,g3,hlen],fun i e m he hm=>?_,?_,hq⟩
 ·have:(L.map mI.kv)[i]? =some (gk e.1,gv e.2):=by rw [h2,List.getElem?_map,he];rfl
  rw [List.getElem?_map] at this
  cases hL:L[i]? with
  | none=>rw [hL] at this;cases this
  | some x=>
    rw [hL] at this
    have hx:(x.k,x.v)=(gk e.1,gv e.2):=Option.some.inj this
    obtain ⟨q1,q2⟩:=Prod.mk.inj hx
    have:=g4 i x m hL (by simpa using hm)
    rw [q1,q2] at this
    exact this.2
 ·have hk:L.map (·.k)=(M'.map Prod.fst).map gk:=by
   have:=congrArg (List.map Prod.fst) h2
   simpa [List.map_map,Function.comp_def,mI.kv] using this
  rw [hk] at g7
  exact (List.pairwise_map.1 g7).imp (fun h e=>h (by rw [e]))
theorem set_perm {K V:Type} [DecidableEq K] {M M':List (K×V)} {j:Nat} {key:K} {v v':V} (p1:M'.Perm M) (p8:(M'.map Prod.fst).Nodup) (q4:M'[j]? =some (key,v)):(M'.set j (key,v')).Perm ((key,v') :: iY M key):=by
 have KO:j < M'.length:=(List.getElem?_eq_some_iff.1 q4).1
 have e2:M'=M'.take j++(key,v) :: M'.drop (j+1):=by
  have:=List.take_append_drop j M'
  rw [List.drop_eq_getElem_cons KO] at this
  have hq:M'[j]=(key,v):=by rw [List.getElem?_eq_getElem KO] at q4;exact Option.some.inj q4
  rw [hq] at this
  exact this.symm
 have e3:M'.set j (key,v')=M'.take j++(key,v') :: M'.drop (j+1):=by
  rw [List.set_eq_take_append_cons_drop,if_pos KO]
 rw [e3]
 refine List.perm_middle.trans (List.Perm.cons _ ?_)
 have e4:iY M' key=M'.take j++M'.drop (j+1):=by
  have LF:=p8
  rw [e2,List.map_append,List.map_cons,List.nodup_append,List.nodup_cons] at LF
  unfold iY
  rw [e2,List.filter_append,List.filter_cons]
  simp only [ne_eq,not_true_eq_false,decide_false,Bool.false_eq_true,if_false]
  rw [← e2]
  congr 1
  ·refine List.filter_eq_self.2 fun e he=>?_
   simp only [decide_not,Bool.not_eq_true',decide_eq_false_iff_not]
   intro hk
   exact LF.2.2 e.1 (List.mem_map.2 ⟨e,he,rfl⟩) key (by simp) hk
  ·refine List.filter_eq_self.2 fun e he=>?_
   simp only [decide_not,Bool.not_eq_true',decide_eq_false_iff_not]
   intro hk
   exact LF.2.1.1 (List.mem_map.2 ⟨e,he,hk⟩)
 rw [← e4]
 exact p1.filter _
theorem Fy {K V:Type} [DecidableEq K] [tu K] (M:List (K×V)) (key:K) (v:V):(iY (bT M key v) key).Perm (iY M key):=by
 refine ((oJ M key v).filter _).trans ?_
 rw [List.filter_cons,if_neg (by simp)]
 have:(iY M key).filter (fun e=>decide (e.1≠key))=iY M key:=List.filter_eq_self.2 fun e he=>by simpa using xQ M key e he
 rw [this]
section rules
variable {P:Program} {all:Array Oper} {rest:List Oper} {n:Nat} {tm:List (Nat×AV)} {hp:Heap} {Q:St→Prop} {d:Nat} {ty:TypeId} {pos:String} {af:Array Edge}
theorem xV {K V:Type} [DecidableEq K] [tu K] {gk:K→AV} {gv:V→AV} {M:List (K×V)} {key:K} {q:Nat} {Z v:V} {t kt vt:TypeId} {i:TypeInfo} {z:Value} {x y:Operand} {b:Bk} {bU:Heap} [ax P t (.map kt vt)] [aV P vt i] [fI P kt gk] (hx:cx tm x=some (.ct b)) (hy:cx tm y=some (gk key)) (hz:i.zero=some z) (Hb:w5 z=gv Z) (h1:iV (w5 z).cells=true) (h:nD M key Z=some v)
 (u:jY hp b (.z8 (M.map fun e=>(gk e.1,gv e.2)) q (gk key)) b (.z8 ((bT M key v).map fun e=>(gk e.1,gv e.2)) q (gk key)) bU) (hn:Nat.blt d n=true)
 (kk:ae P all rest ⟨n,(d,.kj [gv v,.int .i64 (q:Int)]) :: tm,bU⟩ Q):ae P all (⟨some d,.mapEntry t x y,ty,pos,af,none⟩ :: rest) ⟨n,tm,hp⟩ Q:=by
 refine ae.Gr rfl fun w S a r=>?_
 have kx:=bf (σ:=⟨n,tm,hp⟩) r hx
 have ky:=bf (σ:=⟨n,tm,hp⟩) r hy
 obtain ⟨nb,hb,ex⟩:=kx.oT
 obtain ⟨L,c,M',C0,eF,p1,p2,p3,p4,p5,p6,p7,p8,hq⟩:=B4 (fI.inj P kt) r.hp u.nU
 obtain rfl:C0=nb:=by rw [p4] at hb;exact Option.some.inj hb
 unfold nD at h
 have hv:=Option.some.inj h
 rw [← mL p1 p8] at hv
 have oU:=fI.find (P:=P) (t:=kt) (g:=gk) ky eF.toList (M'.map Prod.fst) (by simpa using p6.symm) (fun j k' e h1 h2=>by
  rw [List.getElem?_map] at h1
  cases hm:M'[j]? with
  | none=>rw [hm] at h1;cases h1
  | some q=>rw [hm] at h1;rw [← Option.some.inj h1];exact (p7 j q e hm h2).1)
 obtain ⟨II,ft,g1,g2,g3,g4,g5,g6,g7⟩:=p3
 obtain rfl:II=C0:=by rw [p4] at g1;exact (Option.some.inj g1).symm
 obtain rfl:ft=eF:=by rw [p5] at g2;exact (Obj.map.inj (Option.some.inj g2)).1.symm
 have Pf:L.length=M'.length:=by have:=congrArg List.length p2;simpa using this
 have LD:∀ (j:Nat) (x:mI) (e:K×V),L[j]? =some x→M'[j]? =some e→x.k=gk e.1∧x.v=gv e.2:=by
  intro j x e h1 h2
  have:(L.map mI.kv)[j]? =(M'.map fun e=>(gk e.1,gv e.2))[j]?:=by rw [p2]
  rw [List.getElem?_map,List.getElem?_map,h1,h2] at this
  exact Prod.mk.inj (Option.some.inj this)
 rcases qG (gv:=gv) (w:=w) (S:=S) (k:=key) M' ft.toList 0 p6.symm (fun j e m h1 h2=>(p7 j e m h1 h2).2) with ⟨q1,q2⟩ | ⟨v',j,val,q1,q2,q3,q4⟩
 ·
  have s0:∀ e∈L,e.k≠gk key:=by
   intro e he hk
   obtain ⟨j,hj⟩:=List.getElem?_of_mem he
   have w6:j < M'.length:=by rw [← Pf];exact (List.getElem?_eq_some_iff.1 hj).1
   have:=(LD j e M'[j] hj (List.getElem?_eq_getElem w6)).1
   rw [hk] at this
   exact (oI.1 q1) M'[j] (List.getElem_mem w6) (fI.inj P kt _ _ this.symm)
  have R4:q=c:=by
   rcases hq with ⟨e,he,hk,_⟩ | ⟨_,hc⟩
   ·exact absurd hk (s0 e he)
   ·exact hc
  rw [q1,Option.getD_none] at hv
  subst hv
  have kz:At w S (gv Z) z:=by rw [← Hb];exact Hi w S z h1
  have hw:=pZ (ob:=.map (ft.push ⟨a.eval y,z,c⟩) (c+1)) r.hp u p4 p5 id id (fun k1=>by
   refine ⟨L++[⟨gk key,gv Z,c⟩],c+1,?_,⟨II,ft.push ⟨a.eval y,z,c⟩,p4,pX p5,by simp [g3],?_,?_,?_,?_⟩,.inl ⟨⟨gk key,gv Z,c⟩,by simp,rfl,R4.symm⟩⟩
   ·rw [List.map_append,p2]
    refine List.Perm.trans ?_ ((pW key Z (iY M key)).symm.map _)
    rw [sN (by rw [← mL p1 p8];exact q1)]
    exact List.perm_append_comm.trans (List.Perm.cons _ (p1.map _))
   ·intro i e m he hm
    rw [Array.getElem?_push] at hm
    rcases Nat.lt_or_ge i L.length with hi | hi
    ·rw [List.getElem?_append_left hi] at he
     rw [if_neg (by omega)] at hm
     obtain ⟨s1,s2,s3⟩:=g4 i e m he hm
     exact ⟨s1,s2.mono k1,s3.mono k1⟩
    ·have BB:i=L.length:=by
      have:=(List.getElem?_eq_some_iff.1 he).1
      simp at this;omega
     subst BB
     rw [if_pos g3.symm] at hm
     simp at he
     obtain rfl:=Option.some.inj hm
     subst he
     exact ⟨rfl,ky.mono k1,kz.mono k1⟩
   ·intro e he
    rcases List.mem_append.1 he with h | h
    ·have:=g5 e h;omega
    ·simp at h;subst h;simp
   ·rw [List.map_append,List.nodup_append]
    refine ⟨g6,by simp,fun a1 ha b1 Bt yI=>?_⟩
    simp at Bt
    subst Bt
    obtain ⟨e,he,rfl⟩:=List.mem_map.1 ha
    have:=g5 e he
    omega
   ·rw [List.map_append,List.nodup_append]
    refine ⟨g7,by simp,fun a1 ha b1 Bt yI=>?_⟩
    simp at Bt
    subst Bt
    obtain ⟨e,he,rfl⟩:=List.mem_map.1 ha
    exact s0 e he yI)
  refine ⟨.tuple #[z,goInt c],_,S,_,?_,(r.heap hw.2.2 hw.1).put hn (.kj _ _ rfl (wX (kz.mono hw.2.2) ?_)),hw.2.1,kk⟩
  ·simp [execOp,Instr.mapEntry,ex,run_underlying (ax.h (P:=P) (t:=t)),gM p5,fI.check (P:=P) (t:=kt) ky,oU,q2,zeroValue,typeInfo,aV.h (P:=P) (t:=vt),hz,oS _ p5]
  ·rw [R4];exact .int _ _
 ·
  have w6:j < ft.toList.length:=by rw [p6];exact (List.getElem?_eq_some_iff.1 q4).1
  have Ak:j < ft.size:=by simpa using w6
  have MQ:ft.toList[j]? =some ft[j]:=by simp [Ak]
  have IH:=(p7 j _ _ q4 MQ).1
  have Hk:Instr.sameBits 10000 ft[j].key (a.eval y)=true:=fI.bits (P:=P) (t:=kt) IH ky
  have wi:j < L.length:=by omega
  have Jy:L[j].k=gk key:=(LD j L[j] _ (List.getElem?_eq_getElem wi) q4).1
  have Hr:ft[j].born=L[j].born:=(g4 j L[j] ft[j] (List.getElem?_eq_getElem wi) (Array.getElem?_eq_getElem Ak)).1
  have N4:L[j].born=q:=by
   rcases hq with ⟨e,he,hk,hb⟩ | ⟨yP,_⟩
   ·obtain ⟨i,hi⟩:=List.getElem?_of_mem he
    have o6:=(List.getElem?_eq_some_iff.1 hi).1
    have e1:(L.map (·.k))[i]? =some (gk key):=by rw [List.getElem?_map,hi,Option.map_some,hk]
    have e2:(L.map (·.k))[j]? =some (gk key):=by rw [List.getElem?_map,List.getElem?_eq_getElem wi,Option.map_some,Jy]
    have uk:i=j:=(List.getElem?_inj (by simpa using o6) g7).1 (e1.trans e2.symm)
    subst uk
    rw [← hb]
    exact congrArg mI.born (Option.some.inj ((List.getElem?_eq_getElem wi).symm.trans hi))
   ·exact absurd Jy (yP _ (List.getElem_mem wi))
  rw [q1,Option.getD_some] at hv
  subst hv
  have hw:=pZ (ob:=.map (ft.modify j fun e=>{e with key:=a.eval y}) c) r.hp u p4 p5 id id (fun k1=>by
   refine ⟨L,c,?_,⟨II,_,p4,pX p5,by simp [g3],?_,g5,g6,g7⟩,.inl ⟨L[j],List.getElem_mem wi,Jy,N4⟩⟩
   ·rw [p2]
    refine List.Perm.map _ ?_
    refine List.Perm.trans ?_ (oJ M key v').symm
    have e1:M'.set j (key,v')=M':=pY q4
    rw [← e1]
    exact set_perm p1 p8 q4
   ·intro i e m he hm
    rw [Array.getElem?_modify] at hm
    by_cases uk:j=i
    ·subst uk
     simp only [if_true,Array.getElem?_eq_getElem Ak,Option.map_some] at hm
     obtain rfl:=Option.some.inj hm
     obtain ⟨s1,s2,s3⟩:=g4 j e ft[j] he (Array.getElem?_eq_getElem Ak)
     have:e=L[j]:=Option.some.inj (he.symm.trans (List.getElem?_eq_getElem wi))
     refine ⟨s1,?_,s3.mono k1⟩
     rw [this,Jy];exact ky.mono k1
    ·rw [if_neg uk] at hm
     obtain ⟨s1,s2,s3⟩:=g4 i e m he hm
     exact ⟨s1,s2.mono k1,s3.mono k1⟩)
  refine ⟨.tuple #[val,goInt ft[j].born],_,S,_,?_,(r.heap hw.2.2 hw.1).put hn (.kj _ _ rfl (wX (q3.mono hw.2.2) ?_)),hw.2.1,kk⟩
  ·simp [execOp,Instr.mapEntry,ex,run_underlying (ax.h (P:=P) (t:=t)),gM p5,fI.check (P:=P) (t:=kt) ky,oU,q2,Instr.keyThatStays,Ak,Hk,oS _ p5]
  ·rw [Hr,N4];exact .int _ _
theorem uI {K V:Type} [DecidableEq K] [tu K] {gk:K→AV} {gv:V→AV} {M:List (K×V)} {key:K} {q:Nat} {v v':V} {t kt:TypeId} {x s y:Operand} {b:Bk} {av:AV} {bU:Heap} [fI P kt gk] (hx:cx tm x=some (.ct b)) (hs:cx tm s=some (.int .i64 (q:Int))) (hy:cx tm y=some av) (nz:av=gv v')
 (u:jY hp b (.z8 ((bT M key v).map fun e=>(gk e.1,gv e.2)) q (gk key)) b (.mp ((bT M key v').map fun e=>(gk e.1,gv e.2))) bU)
 (kk:ae P all rest ⟨n,tm,bU⟩ Q):ae P all (⟨none,.entryStore t x s y,ty,pos,af,none⟩ :: rest) ⟨n,tm,hp⟩ Q:=by
 refine ae.act rfl rfl (fun w S a r=>?_) kk
 have kx:=bf (σ:=⟨n,tm,hp⟩) r hx
 have ks:=(bf (σ:=⟨n,tm,hp⟩) r hs).er
 have ky:=bf (σ:=⟨n,tm,hp⟩) r hy
 obtain ⟨nb,hb,ex⟩:=kx.oT
 obtain ⟨L,c,M',C0,eF,p1,p2,p3,p4,p5,p6,p7,p8,hq⟩:=B4 (fI.inj P kt) r.hp u.nU
 obtain rfl:C0=nb:=by rw [p4] at hb;exact Option.some.inj hb
 obtain ⟨II,ft,g1,g2,g3,g4,g5,g6,g7⟩:=p3
 obtain rfl:II=C0:=by rw [p4] at g1;exact (Option.some.inj g1).symm
 obtain rfl:ft=eF:=by rw [p5] at g2;exact (Obj.map.inj (Option.some.inj g2)).1.symm
 have Pf:L.length=M'.length:=by have:=congrArg List.length p2;simpa using this
 have LD:∀ (j:Nat) (x:mI) (e:K×V),L[j]? =some x→M'[j]? =some e→x.k=gk e.1∧x.v=gv e.2:=by
  intro j x e h1 h2
  have:(L.map mI.kv)[j]? =(M'.map fun e=>(gk e.1,gv e.2))[j]?:=by rw [p2]
  rw [List.getElem?_map,List.getElem?_map,h1,h2] at this
  exact Prod.mk.inj (Option.some.inj this)
 have Gv:(key,v)∈M':=p1.mem_iff.2 ((oJ M key v).mem_iff.2 (by simp))
 obtain ⟨j,hj⟩:=List.getElem?_of_mem Gv
 have KO:=(List.getElem?_eq_some_iff.1 hj).1
 have wi:j < L.length:=by omega
 have Ak:j < ft.size:=by omega
 have Jy:L[j].k=gk key:=(LD j L[j] _ (List.getElem?_eq_getElem wi) hj).1
 have Hr:ft[j].born=L[j].born:=(g4 j L[j] ft[j] (List.getElem?_eq_getElem wi) (Array.getElem?_eq_getElem Ak)).1
 have N4:L[j].born=q:=by
  rcases hq with ⟨e,he,hk,hb⟩ | ⟨yP,_⟩
  ·obtain ⟨i,hi⟩:=List.getElem?_of_mem he
   have o6:=(List.getElem?_eq_some_iff.1 hi).1
   have e1:(L.map (·.k))[i]? =some (gk key):=by rw [List.getElem?_map,hi,Option.map_some,hk]
   have e2:(L.map (·.k))[j]? =some (gk key):=by rw [List.getElem?_map,List.getElem?_eq_getElem wi,Option.map_some,Jy]
   have uk:i=j:=(List.getElem?_inj (by simpa using o6) g7).1 (e1.trans e2.symm)
   subst uk
   rw [← hb]
   exact congrArg mI.born (Option.some.inj ((List.getElem?_eq_getElem wi).symm.trans hi))
  ·exact absurd Jy (yP _ (List.getElem_mem wi))
 have Vq:ft.findIdx? (fun e=>(e.born:Int)==(q:Int))=some j:=by
  rw [Array.findIdx?_eq_some_iff_getElem]
  refine ⟨Ak,by simp [Hr,N4],fun i hi=>?_⟩
  have E8:i < ft.size:=by omega
  have BB:i < L.length:=by omega
  have MP:ft[i].born=L[i].born:=(g4 i L[i] ft[i] (List.getElem?_eq_getElem BB) (Array.getElem?_eq_getElem E8)).1
  simp only [beq_iff_eq,Int.natCast_inj,MP]
  intro hc
  have e1:(L.map (·.born))[i]? =some q:=by rw [List.getElem?_map,List.getElem?_eq_getElem BB,Option.map_some,hc]
  have e2:(L.map (·.born))[j]? =some q:=by rw [List.getElem?_map,List.getElem?_eq_getElem wi,Option.map_some,N4]
  have uk:i=j:=(List.getElem?_inj (by simpa using BB) g6).1 (e1.trans e2.symm)
  omega
 have hw:=pZ (ob:=.map (ft.modify j fun e=>{e with val:=a.eval y}) c) r.hp u p4 p5 id id (fun k1=>by
  refine ⟨L.set j ⟨gk key,gv v',L[j].born⟩,c,?_,II,_,p4,pX p5,by simp [g3],?_,?_,?_,?_⟩
  ·rw [List.map_set]
   have e1:(L.map mI.kv).set j (gk key,gv v')=(M'.set j (key,v')).map fun e=>(gk e.1,gv e.2):=by rw [p2,List.map_set]
   show ((L.map mI.kv).set j (gk key,gv v')).Perm _
   rw [e1]
   refine List.Perm.map _ ?_
   refine (set_perm p1 p8 hj).trans ?_
   refine List.Perm.trans ?_ (oJ M key v').symm
   exact List.Perm.cons _ (Fy M key v)
  ·intro i e m he hm
   rw [Array.getElem?_modify] at hm
   rw [List.getElem?_set] at he
   by_cases uk:j=i
   ·subst uk
    simp only [if_true,wi] at he
    simp only [if_true,Array.getElem?_eq_getElem Ak,Option.map_some] at hm
    obtain rfl:=Option.some.inj he
    obtain rfl:=Option.some.inj hm
    obtain ⟨s1,s2,s3⟩:=g4 j L[j] ft[j] (List.getElem?_eq_getElem wi) (Array.getElem?_eq_getElem Ak)
    rw [Jy] at s2
    exact ⟨s1,s2.mono k1,by rw [nz] at ky;exact ky.mono k1⟩
   ·rw [if_neg uk] at he hm
    obtain ⟨s1,s2,s3⟩:=g4 i e m he hm
    exact ⟨s1,s2.mono k1,s3.mono k1⟩
  ·intro e he
   rcases List.mem_or_eq_of_mem_set he with h | h
   ·exact g5 e h
   ·subst h;exact g5 L[j] (List.getElem_mem wi)
  ·rw [List.map_set]
   have:(L.map (·.born)).set j L[j].born=L.map (·.born):=by
    exact pY (by rw [List.getElem?_map,List.getElem?_eq_getElem wi];rfl)
   rw [this];exact g6
  ·rw [List.map_set]
   have:(L.map (·.k)).set j (gk key)=L.map (·.k):=by
    exact pY (by rw [List.getElem?_map,List.getElem?_eq_getElem wi,Option.map_some,Jy])
   rw [this];exact g7)
 refine ⟨_,S,?_,r.heap hw.2.2 hw.1,hw.2.1⟩
 have Dl:∀ w1:World,(asInt (Value.int .i64 (q:Int))).run P w1=.ok (q:Int) w1:=fun w1=>by simp [asInt,asIntOf]
 simp [execOp,Instr.entryStore,ex,ks,gM p5,Dl,Vq,oS _ p5]
end rules
theorem jY.R5 {h h':Heap} {b b':Bk} {o o':Ob} (u:jY h b o b' o' h') (b2:Bk) (o2:Ob):∃ h2,jY h b o b2 o2 h2∧jY h2 b2 o2 b' o' h':=by
 induction u with
 | here=>exact ⟨_,.here,.here⟩
 | next _ ih=>obtain ⟨h2,a,b⟩:=ih;exact ⟨_,.next a,.next b⟩
 | skip _ ih=>obtain ⟨h2,a,b⟩:=ih;exact ⟨_,.skip a,.skip b⟩
theorem zC {w:World} {S:Nat→Prop} {hp bU:Heap} {bp:Bk} {es um:List (Bk×PO)} (r:bZ w S hp) (u:jY hp bp (.bM es) bp (.bM um) bU) (h:es.Perm um):bZ w S bU∧iF w S hp w S bU:=by
 obtain ⟨p,q,rfl,rfl⟩:=u.split
 obtain ⟨zb,iW⟩:bp.bY=none∧∀ e∈es,lx w S e.1 e.2:=r.holds (bp,.bM es) (aY.2 (.inl rfl))
 have xN:∀ n,n∈eb (bp,.bM um)↔n∈eb (bp,.bM es):=by
  intro n
  rw [qH,qH]
  constructor
  ·rintro (k | ⟨e,he,hn⟩)
   ·exact .inl k
   ·exact .inr ⟨e,h.mem_iff.2 he,hn⟩
  ·rintro (k | ⟨e,he,hn⟩)
   ·exact .inl k
   ·exact .inr ⟨e,h.mem_iff.1 he,hn⟩
 have e1:(eb (bp,.bM es)).Perm (eb (bp,.bM um)):=by
  simp only [eb,Ob.more]
  exact List.Perm.append_left _ (h.filterMap _)
 have Dl:∀ n,Has (p++(bp,.bM um) :: q) n→Has (p++(bp,.bM es) :: q) n:=by
  rintro n ⟨e,he,hn⟩
  rcases aY.1 he with rfl | he
  ·exact ⟨_,aY.2 (.inl rfl),(xN n).1 hn⟩
  ·exact ⟨e,aY.2 (.inr he),hn⟩
 refine ⟨⟨?_,?_,?_,r.slt,r.fU⟩,⟨rfl,rfl,rfl,Nat.le_refl _,fun n hn=>⟨hn,rfl⟩,fun n _ _=>⟨rfl,id⟩,fun n hn=>.inl (Dl n hn),fun _=>Nat.le_refl _⟩⟩
 ·have:=r.nodup
  rw [List.flatMap_append,List.flatMap_cons] at this ⊢
  exact ((List.Perm.append_left _ (List.Perm.append_right _ e1)).nodup_iff).1 this
 ·intro e he
  rcases aY.1 he with rfl | he
  ·exact ⟨zb,fun e he=>iW e (h.mem_iff.2 he)⟩
  ·exact r.holds e (aY.2 (.inr he))
 ·intro e he n hn
  rcases aY.1 he with rfl | he
  ·have:=r.sep (bp,.bM es) (aY.2 (.inl rfl)) n ((xN n).1 hn)
   exact ⟨fun h=>(this.1 h).elim,fun h=>h.elim⟩
  ·exact r.sep e (aY.2 (.inr he)) n hn
theorem bZ.same {w:World} {S:Nat→Prop} {h h':Heap} (r:bZ w S h) (hp:h.Perm h'):bZ w S h'∧iF w S h w S h':=
 ⟨r.perm hp,rfl,rfl,rfl,Nat.le_refl _,fun n hn=>⟨hn,rfl⟩,fun n _ _=>⟨rfl,id⟩,fun n ⟨e,he,hn⟩=>.inl ⟨e,hp.mem_iff.2 he,hn⟩,fun _=>Nat.le_refl _⟩
def Dt (xs:List (Bk×PO)):Heap:=xs.map fun e=>(e.1,e.2.ob)
theorem tV {w:World} {S:Nat→Prop} {bp:Bk} {um:List (Bk×PO)}:∀ (xs es:List (Bk×PO)) {hp bU:Heap},bZ w S hp→jY hp bp (.bM es) bp (.bM um) bU→es.Perm (xs++um)→bZ w S (Dt xs++bU)∧iF w S hp w S (Dt xs++bU)
 | [],es,hp,bU,r,u,h=>zC r u h
 | x :: xs,es,hp,bU,r,u,h=>by
   obtain ⟨h2,u1,u2⟩:=u.R5 bp (.bM (xs++um))
   obtain ⟨r1,e1⟩:=zA r u1 h
   obtain ⟨r2,e2⟩:=tV xs (xs++um) r1 (.next u2) (List.Perm.refl _)
   obtain ⟨r3,e3⟩:=r2.same (h':=Dt (x :: xs)++bU) List.perm_middle
   exact ⟨r3,(e1.trans e2).trans e3⟩
theorem vC {w:World} {S:Nat→Prop} {bp:Bk} {es:List (Bk×PO)}:∀ (xs um:List (Bk×PO)) {tc bU:Heap},bZ w S (Dt xs++tc)→jY tc bp (.bM es) bp (.bM um) bU→um.Perm (xs++es)→bZ w S bU∧iF w S (Dt xs++tc) w S bU
 | [],um,tc,bU,r,u,h=>zC r u h.symm
 | x :: xs,um,tc,bU,r,u,h=>by
   obtain ⟨h2,u1,u2⟩:=u.R5 bp (.bM (xs++es))
   obtain ⟨r0,e0⟩:=r.same (h':=Dt xs++(x.1,x.2.ob) :: tc) List.perm_middle.symm
   obtain ⟨r1,e1⟩:=vC xs (xs++es) r0 (.next u1) (List.Perm.refl _)
   obtain ⟨r2,e2⟩:=xO r1 .here u2 h
   exact ⟨r2,(e0.trans e1).trans e2⟩
section ara
variable {V:Type}
def oV (kb:Bk→(Nat→Bk)→V→List (Bk×PO)) (bo:Nat→Bk) (bs:Nat→Nat→Bk):Nat→List (Option V)→List (Bk×PO)
 | _,[]=>[]
 | i,some v :: r=>kb (bo i) (bs i) v++oV kb bo bs (i+1) r
 | i,none :: r=>oV kb bo bs (i+1) r
def iR (kb:Bk→(Nat→Bk)→V→List (Bk×PO)) (bo:Nat→Bk) (bs:Nat→Nat→Bk) (M:List V):List (Bk×PO):=oV kb bo bs 0 (M.map some)
def Aw (kb:Bk→(Nat→Bk)→V→List (Bk×PO)) (bo:Nat→Bk) (bs:Nat→Nat→Bk) (M:List V) (i:Int):List (Bk×PO):=oV kb bo bs 0 ((M.map some).set i.toNat none)
variable {kb:Bk→(Nat→Bk)→V→List (Bk×PO)} {bo sg:Nat→Bk} {bs rS:Nat→Nat→Bk}
theorem qJ:∀ (l:List (Option V)) (i:Nat),(∀ j v,l[j]? =some (some v)→bo (i+j)=sg (i+j)∧bs (i+j)=rS (i+j))→oV kb bo bs i l=oV kb sg rS i l
 | [],_,_=>rfl
 | some v :: r,i,h=>by
   obtain ⟨h1,h2⟩:=h 0 v rfl
   show kb (bo i) (bs i) v++oV kb bo bs (i+1) r=kb (sg i) (rS i) v++oV kb sg rS (i+1) r
   rw [show bo i=sg i from h1,show bs i=rS i from h2,qJ r (i+1) (fun j v hj=>by
    have:=h (j+1) v (by simpa using hj)
    rw [show i+1+j=i+(j+1) by omega];exact this)]
 | none :: r,i,h=>qJ r (i+1) (fun j v hj=>by
  have:=h (j+1) v (by simpa using hj)
  rw [show i+1+j=i+(j+1) by omega];exact this)
theorem xW:∀ (l:List (Option V)) (i j:Nat) (v:V),l[j]? =some none→(oV kb bo bs i (l.set j (some v))).Perm (kb (bo (i+j)) (bs (i+j)) v++oV kb bo bs i l)
 | [],_,_,_,h=>by simp at h
 | o :: r,i,0,v,h=>by
   obtain rfl:o=none:=by simpa using h
   exact List.Perm.refl _
 | some u :: r,i,j+1,v,h=>by
   have:=xW r (i+1) j v (by simpa using h)
   rw [show i+1+j=i+(j+1) by omega] at this
   show (kb (bo i) (bs i) u++oV kb bo bs (i+1) (r.set j (some v))).Perm _
   refine (List.Perm.append_left _ this).trans ?_
   show (kb (bo i) (bs i) u++(kb (bo (i+(j+1))) (bs (i+(j+1))) v++oV kb bo bs (i+1) r)).Perm (kb (bo (i+(j+1))) (bs (i+(j+1))) v++(kb (bo i) (bs i) u++oV kb bo bs (i+1) r))
   rw [← List.append_assoc,← List.append_assoc]
   exact List.Perm.append_right _ List.perm_append_comm
 | none :: r,i,j+1,v,h=>by
   have:=xW r (i+1) j v (by simpa using h)
   rw [show i+1+j=i+(j+1) by omega] at this
   exact this
theorem xX:∀ (l m:List (Option V)) (i:Nat),oV kb bo bs i (l++m)=oV kb bo bs i l++oV kb bo bs (i+l.length) m
 | [],m,i=>rfl
 | some v :: r,m,i=>by
   show kb (bo i) (bs i) v++oV kb bo bs (i+1) (r++m)=(kb (bo i) (bs i) v++oV kb bo bs (i+1) r)++oV kb bo bs (i+(r.length+1)) m
   rw [xX r m (i+1),List.append_assoc,show i+1+r.length=i+(r.length+1) by omega]
 | none :: r,m,i=>by
   show oV kb bo bs (i+1) (r++m)=oV kb bo bs (i+1) r++oV kb bo bs (i+(r.length+1)) m
   rw [xX r m (i+1),show i+1+r.length=i+(r.length+1) by omega]
theorem zD {M M':List V} {i:Int} {v v':V} {s:Nat→Bk} (h:idx M i=some v) (hM:M'=M.set i.toNat v') (hs:rS=fun j=>if j=i.toNat then s else bs j):(iR kb bo rS M').Perm (kb (bo i.toNat) s v'++Aw kb bo bs M i):=by
 obtain ⟨h0,h1,h2⟩:=gK h
 unfold iR Aw
 have hl:(M.map some)[i.toNat]? =some (some v):=by rw [List.getElem?_map,h2];rfl
 have iO:i.toNat < (M.map some).length:=(List.getElem?_eq_some_iff.1 hl).1
 have hn:((M.map some).set i.toNat none)[i.toNat]? =some none:=by rw [List.getElem?_set_self iO]
 have e1:M'.map some=((M.map some).set i.toNat none).set i.toNat (some v'):=by rw [hM,List.map_set,List.set_set]
 rw [e1]
 have:=xW (kb:=kb) (bo:=bo) (bs:=rS) ((M.map some).set i.toNat none) 0 i.toNat v' hn
 rw [Nat.zero_add] at this
 refine this.trans ?_
 rw [show rS i.toNat=s by rw [hs];simp]
 refine List.Perm.append_left _ ?_
 rw [qJ (sg:=bo) (rS:=bs) ((M.map some).set i.toNat none) 0 (fun j u hj=>by
  rw [Nat.zero_add]
  refine ⟨rfl,?_⟩
  have:j≠i.toNat:=fun e=>by rw [e,hn] at hj;simp at hj
  rw [hs];simp [this])]
theorem zE {M:List V} {i:Int} {v:V} (h:idx M i=some v):(iR kb bo bs M).Perm (kb (bo i.toNat) (bs i.toNat) v++Aw kb bo bs M i):=
 zD h (pY (gK h).2.2).symm (by funext j;split<;>simp_all)
theorem Hs {M:List V} {b:Bk} {s:Nat→Bk} {v:V} (h1:∀ j,j < M.length→sg j=bo j) (h2:sg M.length=b) (h3:∀ j,j < M.length→rS j=bs j) (h4:rS M.length=s):(iR kb sg rS (M++[v])).Perm (kb b s v++iR kb bo bs M):=by
 unfold iR
 rw [List.map_append,xX,List.length_map,Nat.zero_add]
 have e1:oV kb sg rS M.length ([v].map some)=kb b s v:=by
  show kb (sg M.length) (rS M.length) v++[]=_
  rw [h2,h4,List.append_nil]
 rw [e1,qJ (sg:=bo) (rS:=bs) (M.map some) 0 (fun j u hj=>by
  have:j < M.length:=by
   have:=(List.getElem?_eq_some_iff.1 hj).1
   simpa using this
  rw [Nat.zero_add]
  exact ⟨h1 j this,h3 j this⟩)]
 exact List.perm_append_comm
end ara
theorem aj.Jz {n:Nat} {tm:List (Nat×AV)} {hp:Heap} {T:St→Prop} {V:Type} {kb:Bk→(Nat→Bk)→V→List (Bk×PO)} (k:∀ (bp:Bk) (bo:Nat→Bk) (bs:Nat→Nat→Bk),aj ⟨n,tm,(bp,.bM (iR kb bo bs [])) :: hp⟩ T):aj ⟨n,tm,hp⟩ T:=by
 refine aj.step (wW:=⟨n,tm,(⟨none,0⟩,.bM (iR kb (fun _=>⟨none,0⟩) (fun _ _=>⟨none,0⟩) [])) :: hp⟩) (fun w S a r=>?_) (k _ _ _)
 obtain ⟨g1,g2,g3⟩:=nf (b:=⟨none,0⟩) (o:=.bM []) r.hp (Ext.refl w) id ⟨rfl,by simp⟩ (.inl rfl)
 exact ⟨_,S,rfl,r.heap g3 g1,g2⟩
theorem aj.JA {n:Nat} {tm:List (Nat×AV)} {hp bU:Heap} {T:St→Prop} {V:Type} {kb:Bk→(Nat→Bk)→V→List (Bk×PO)} {bo:Nat→Bk} {bs:Nat→Nat→Bk} {M:List V} {i:Int} {v:V} {bp:Bk} (h:idx M i=some v) (u:jY hp bp (.bM (iR kb bo bs M)) bp (.bM (Aw kb bo bs M i)) bU)
 (k:aj ⟨n,tm,Dt (kb (bo i.toNat) (bs i.toNat) v)++bU⟩ T):aj ⟨n,tm,hp⟩ T:=by
 refine aj.step (fun w S a r=>?_) k
 obtain ⟨g1,g2⟩:=tV _ _ r.hp u (zE h)
 exact ⟨_,S,rfl,r.heap (fun m hm=>⟨hm,rfl⟩) g1,g2⟩
theorem aj.LM {n:Nat} {tm:List (Nat×AV)} {hp tc h0:Heap} {bU:(Nat→Nat→Bk)→Heap} {T:St→Prop} {V:Type} {kb:Bk→(Nat→Bk)→V→List (Bk×PO)} {bo:Nat→Bk} {bs:Nat→Nat→Bk} {M M':List V} {i:Int} {v v':V} {b0 bp:Bk} {s:Nat→Bk} (h:idx M i=some v) (hb:b0=bo i.toNat) (hM:M'=M.set i.toNat v') (hs:BF hp h0 tc) (ho:h0=Dt (kb b0 s v')) (u:∀ rS,jY tc bp (.bM (Aw kb bo bs M i)) bp (.bM (iR kb bo rS M')) (bU rS))
 (k:∀ rS,aj ⟨n,tm,bU rS⟩ T):aj ⟨n,tm,hp⟩ T:=by
 refine aj.step (wW:=⟨n,tm,bU (fun j=>if j=i.toNat then s else bs j)⟩) (fun w S a r=>?_) (k _)
 obtain ⟨g0,e0⟩:=r.hp.same hs.perm
 rw [ho] at g0 e0
 obtain ⟨g1,g2⟩:=vC _ _ g0 (u (fun j=>if j=i.toNat then s else bs j)) (by rw [hb];exact zD h hM rfl)
 exact ⟨_,S,rfl,r.heap (fun m hm=>⟨hm,rfl⟩) g1,e0.trans g2⟩
theorem aj.LN {n:Nat} {tm:List (Nat×AV)} {hp tc h0:Heap} {bU:(Nat→Bk)→(Nat→Nat→Bk)→Heap} {T:St→Prop} {V:Type} {kb:Bk→(Nat→Bk)→V→List (Bk×PO)} {bo:Nat→Bk} {bs:Nat→Nat→Bk} {M:List V} {v:V} {b bp:Bk} {s:Nat→Bk} (hs:BF hp h0 tc) (ho:h0=Dt (kb b s v)) (u:∀ sg rS,jY tc bp (.bM (iR kb bo bs M)) bp (.bM (iR kb sg rS (M++[v]))) (bU sg rS))
 (k:∀ sg rS,(∀ j,j < M.length→sg j=bo j)→sg M.length=b→aj ⟨n,tm,bU sg rS⟩ T):aj ⟨n,tm,hp⟩ T:=by
 have c1:∀ j,j < M.length→(fun j=>if j=M.length then b else bo j) j=bo j:=fun j hj=>if_neg (by omega)
 have c2:(fun j=>if j=M.length then b else bo j) M.length=b:=if_pos rfl
 refine aj.step (wW:=⟨n,tm,bU (fun j=>if j=M.length then b else bo j) (fun j=>if j=M.length then s else bs j)⟩) (fun w S a r=>?_) (k _ _ c1 c2)
 obtain ⟨g0,e0⟩:=r.hp.same hs.perm
 rw [ho] at g0 e0
 obtain ⟨g1,g2⟩:=vC _ _ g0 (u (fun j=>if j=M.length then b else bo j) (fun j=>if j=M.length then s else bs j)) (Hs c1 c2 (fun j hj=>if_neg (by omega)) (if_pos rfl))
 exact ⟨_,S,rfl,r.heap (fun m hm=>⟨hm,rfl⟩) g1,e0.trans g2⟩
theorem aj.Qu {n:Nat} {tm:List (Nat×AV)} {hp bU:Heap} {T:St→Prop} {b:Bk} {o o':Ob} (he:o=o') (u:jY hp b o b o' bU) (k:aj ⟨n,tm,bU⟩ T):aj ⟨n,tm,hp⟩ T:=by
 subst he
 rw [zm u] at k
 exact k
def LO (n:Nat) (l:List Int):Option Unit:=if ∀ x∈l,0≤x∧x < n then some () else none
theorem Ht {n:Nat} {l:List Int} {u:Unit} (h:LO n l=some u):∀ x∈l,0≤x∧x < n:=by
 unfold LO at h
 split at h
 ·assumption
 ·cases h
def pA (bo:Nat→Bk) (i:Int):AV:=.ptr (bo i.toNat) 0
theorem N5 {bo sg:Nat→Bk} {N:Nat} (h:∀ j,j < N→sg j=bo j) {i:Int} (hi:0≤i∧i < N):pA bo i=pA sg i:=by
 unfold pA;rw [h i.toNat (by omega)]
theorem LP {K:Type} {gk:K→AV} {bo sg:Nat→Bk} {N:Nat} (h:∀ j,j < N→sg j=bo j) {M:List (K×Int)} {u:Unit} (hg:LO N (M.map Prod.snd)=some u):(M.map fun e=>(gk e.1,pA bo e.2))=M.map fun e=>(gk e.1,pA sg e.2):=
 List.map_congr_left fun e he=>by rw [N5 h (Ht hg e.2 (List.mem_map.2 ⟨e,he,rfl⟩))]
theorem LQ {bo:Nat→Bk} {N:Nat} {b:Bk} (h:bo N=b) (o:Nat):AV.ptr (bo (N:Int).toNat) o=AV.ptr b o:=by
 rw [Int.toNat_natCast,h]
section rules
variable {P:Program} {all:Array Oper} {rest:List Oper} {n:Nat} {tm:List (Nat×AV)} {hp:Heap} {Q:St→Prop} {d:Nat} {ty:TypeId} {pos:String} {af:Array Edge}
theorem Du {K:Type} [DecidableEq K] {gk:K→AV} {gv:Int→AV} {M:List (K×Int)} {key:K} {t kt vt:TypeId} {i:TypeInfo} {x y:Operand} {b:Bk} [ax P t (.map kt vt)] [aV P vt i] [fI P kt gk] (hx:cx tm x=some (.ct b)) (hy:cx tm y=some (gk key)) (f:ki hp b (.mp (M.map fun e=>(gk e.1,gv e.2)))) (hz:i.zero=some (.pointer none)) (h:ch M key=none):
 QV P ⟨some d,.lookup t x y true,ty,pos,af,none⟩ ⟨n,tm,hp⟩ (.kj [.raw (.pointer none),.bool false]):=by
 intro w S a r
 have kx:=bf (σ:=⟨n,tm,hp⟩) r hx
 have ky:=bf (σ:=⟨n,tm,hp⟩) r hy
 obtain ⟨nb,hb,ex⟩:=kx.oT
 obtain ⟨L,c,M',C0,eF,p1,p2,p3,p4,p5,p6,p7,p8⟩:=sP (fI.inj P kt) r.hp f
 obtain rfl:C0=nb:=by rw [p4] at hb;exact Option.some.inj hb
 rw [← mL p1 p8] at h
 have oU:=fI.find (P:=P) (t:=kt) (g:=gk) ky eF.toList (M'.map Prod.fst) (by simpa using p6.symm) (fun j k' e h1 h2=>by
  rw [List.getElem?_map] at h1
  cases hm:M'[j]? with
  | none=>rw [hm] at h1;cases h1
  | some q=>rw [hm] at h1;rw [← Option.some.inj h1];exact (p7 j q e hm h2).1)
 rcases qG (gv:=gv) (w:=w) (S:=S) (k:=key) M' eF.toList 0 p6.symm (fun j e m h1 h2=>(p7 j e m h1 h2).2) with ⟨q1,q2⟩ | ⟨v',j,val,q1,q2,q3,_⟩
 ·refine ⟨.tuple #[.pointer none,.bool false],fun w1 e1=>?_,.kj _ _ rfl (wX (.raw _) (.bool _))⟩
  simp [execOp,Instr.lookup,ex,run_underlying (ax.h (P:=P) (t:=t)),gM (e1.heap p5),fI.check (P:=P) (t:=kt) ky,oU,q2,zeroValue,typeInfo,aV.h (P:=P) (t:=vt),hz]
 ·rw [q1] at h;cases h
theorem Dv {K:Type} [DecidableEq K] {gk:K→AV} {gv:Int→AV} {M:List (K×Int)} {key:K} {v:Int} {t kt vt:TypeId} {i:TypeInfo} {x y:Operand} {b:Bk} [ax P t (.map kt vt)] [aV P vt i] [fI P kt gk] (hx:cx tm x=some (.ct b)) (hy:cx tm y=some (gk key)) (f:ki hp b (.mp (M.map fun e=>(gk e.1,gv e.2)))) (h:ch M key=some v):
 QV P ⟨some d,.lookup t x y true,ty,pos,af,none⟩ ⟨n,tm,hp⟩ (.kj [gv v,.bool true]):=by
 intro w S a r
 have kx:=bf (σ:=⟨n,tm,hp⟩) r hx
 have ky:=bf (σ:=⟨n,tm,hp⟩) r hy
 obtain ⟨nb,hb,ex⟩:=kx.oT
 obtain ⟨L,c,M',C0,eF,p1,p2,p3,p4,p5,p6,p7,p8⟩:=sP (fI.inj P kt) r.hp f
 obtain rfl:C0=nb:=by rw [p4] at hb;exact Option.some.inj hb
 rw [← mL p1 p8] at h
 have oU:=fI.find (P:=P) (t:=kt) (g:=gk) ky eF.toList (M'.map Prod.fst) (by simpa using p6.symm) (fun j k' e h1 h2=>by
  rw [List.getElem?_map] at h1
  cases hm:M'[j]? with
  | none=>rw [hm] at h1;cases h1
  | some q=>rw [hm] at h1;rw [← Option.some.inj h1];exact (p7 j q e hm h2).1)
 rcases qG (gv:=gv) (w:=w) (S:=S) (k:=key) M' eF.toList 0 p6.symm (fun j e m h1 h2=>(p7 j e m h1 h2).2) with ⟨q1,q2⟩ | ⟨v',j,val,q1,q2,q3,_⟩
 ·rw [q1] at h;cases h
 ·rw [q1] at h
  obtain rfl:=Option.some.inj h
  refine ⟨.tuple #[val,.bool true],fun w1 e1=>?_,.kj _ _ rfl (wX q3 (.bool _))⟩
  simp [execOp,Instr.lookup,ex,run_underlying (ax.h (P:=P) (t:=t)),gM (e1.heap p5),fI.check (P:=P) (t:=kt) ky,oU,q2]
end rules
section todo
variable {P:Program} {R:St→Prop} {k:List It} {σ:St}
theorem cD {α:Type} {c:Operand} {x y:Code} {p:Prop} [Decidable p] {a b z:α} (h:(if p then a else b)=z) (hc:cx σ.tm c=some (.bool (decide p))) (h1:a=z→ab P R (.code x :: k) σ) (h2:b=z→ab P R (.code y :: k) σ):ab P R (.code (.cond c x y) :: k) σ:=
 ab.Lj hc (fun hp=>h1 (rm hp h)) (fun hp=>h2 (yQ hp h))
theorem cB {α:Type} {c:Operand} {x y:Code} {p:Bool} {a b z:α} (h:(if p=true then a else b)=z) (hc:cx σ.tm c=some (.bool p)) (h1:a=z→ab P R (.code x :: k) σ) (h2:b=z→ab P R (.code y :: k) σ):ab P R (.code (.cond c x y) :: k) σ:=
 ab.cond hc (fun hp=>h1 (rm hp h)) (fun hp=>h2 (wg hp h))
end todo
section rules
variable {P:Program} {all:Array Oper} {rest:List Oper} {n:Nat} {tm:List (Nat×AV)} {hp:Heap} {Q:St→Prop} {d:Nat} {ty:TypeId} {pos:String} {af:Array Edge} {op:Op} {s:Nat} {j:Nat}
theorem gT {α:Type} {p:Prop} [Decidable p] {a b z:α} (h:(if p then a else b)=z) (hj:(all[j]?).bind (·.dst)=some s) (hs:lk tm s=some (.bool (decide p))) (hn:Nat.blt d n=true) (h1:a=z→ae P all (⟨some d,op,ty,pos,af,none⟩ :: rest) ⟨n,(s,.bool true) :: tm,hp⟩ Q)
 (h2:b=z→ae P all rest ⟨n,(d,.raw undef) :: (s,.bool false) :: tm,hp⟩ Q):ae P all (⟨some d,op,ty,pos,af,some (j,true)⟩ :: rest) ⟨n,tm,hp⟩ Q:=
 ae.cy hj hs hn (fun hp=>h1 (rm hp h)) (fun hp=>h2 (yQ hp h))
theorem gF {α:Type} {p:Prop} [Decidable p] {a b z:α} (h:(if p then a else b)=z) (hj:(all[j]?).bind (·.dst)=some s) (hs:lk tm s=some (.bool (decide p))) (hn:Nat.blt d n=true) (h1:b=z→ae P all (⟨some d,op,ty,pos,af,none⟩ :: rest) ⟨n,(s,.bool false) :: tm,hp⟩ Q)
 (h2:a=z→ae P all rest ⟨n,(d,.raw undef) :: (s,.bool true) :: tm,hp⟩ Q):ae P all (⟨some d,op,ty,pos,af,some (j,false)⟩ :: rest) ⟨n,tm,hp⟩ Q:=
 ae.dA hj hs hn (fun hp=>h1 (yQ hp h)) (fun hp=>h2 (rm hp h))
end rules
theorem hP {P:Program} {σ:St} {s:Nat} {av:AV} {Q:List AV→St→Prop} (h1:lk σ.tm s=some av) (h2:Q [av] σ):aj σ (fun aC=>∃ rs,Rs P aC [.tmp s] rs∧Q rs aC):=aj.here ⟨[av],.cons (.tmp _ _ h1) .nil,h2⟩
theorem cR {hp:Heap} {l:List AV}:vk hp l l:=vk.refl _
theorem hH {P:Program} {σ:St} {s:Nat} {av:AV} {Q:List AV→Heap→Prop} {bU:Heap} (h1:lk σ.tm s=some av) (is:List Nat) (hs:xM σ.hp is=some bU) (h2:Q [av] bU):aj σ (fun aC=>∃ rs,Rs P aC [.tmp s] rs∧(∃ h',HS aC.hp h'∧Q rs h')):=aj.here ⟨[av],.cons (.tmp _ _ h1) .nil,bU,uG hs,h2⟩
theorem hQ {P:Program} {σ:St} {s t:Nat} {av aw:AV} {Q:List AV→St→Prop} (h1:lk σ.tm s=some av) (CV:lk σ.tm t=some aw) (h2:Q [av,aw] σ):aj σ (fun aC=>∃ rs,Rs P aC [.tmp s,.tmp t] rs∧Q rs aC):=aj.here ⟨[av,aw],.cons (.tmp _ _ h1) (.cons (.tmp _ _ CV) .nil),h2⟩
theorem hI {P:Program} {σ:St} {s t:Nat} {av aw:AV} {Q:List AV→Heap→Prop} {bU:Heap} (h1:lk σ.tm s=some av) (CV:lk σ.tm t=some aw) (is:List Nat) (hs:xM σ.hp is=some bU) (h2:Q [av,aw] bU):aj σ (fun aC=>∃ rs,Rs P aC [.tmp s,.tmp t] rs∧(∃ h',HS aC.hp h'∧Q rs h')):=aj.here ⟨[av,aw],.cons (.tmp _ _ h1) (.cons (.tmp _ _ CV) .nil),bU,uG hs,h2⟩
end Go.Eng
namespace Go.Eng
open Go
section
variable {K V:Type} [DecidableEq K] [tu K]
end
end Go.Eng
namespace Go.Eng
open Go
variable [bD]
section rules
variable {P:Program} {all:Array Oper} {n:Nat} {B:Heap} {tk:List Tok} {dy:List Nat} {i:Nat} {rest:List Oper} {tm nB:List (Nat×AV)} {acc:(Nat→Bk)→List (Nat×AV)} {Q:(Nat→Bk)→List (Nat×AV)→Prop} {d:Nat} {ty:TypeId} {pos:String} {af:Array Edge} {op:Op}
end rules
section
variable {P:Program} {R:St→Prop} {k:List It} {σ:St}
end
inductive CD:Type 1 where
 | v (a:AV)
 | l {α:Type} (sz:Nat) (g:α→AV) (xs:List α)
def Hu (s:Nat→Bk):Nat→List CD→List AV
 | _,[]=>[]
 | k,.v a :: r=>a :: Hu s k r
 | k,.l sz _ xs :: r=>.sl sz (s k) 0 xs.length :: Hu s (k+1) r
def LR (s:Nat→Bk):Nat→List CD→List (Bk×PO)
 | _,[]=>[]
 | k,.v _ :: r=>LR s k r
 | k,.l sz g xs :: r=>(s k,.arr sz (xs.map g)) :: LR s (k+1) r
def JB:List CD→List AV
 | []=>[]
 | .v a :: r=>a :: JB r
 | .l sz g xs :: r=>.list sz (xs.map g) :: JB r
theorem Dw (s:Nat→Bk):∀ (k:Nat) (D:List CD),(Hu s k D).length=(JB D).length
 | _,[]=>rfl
 | k,.v a :: r=>congrArg (· +1) (Dw s k r)
 | k,.l sz g xs :: r=>congrArg (· +1) (Dw s (k+1) r)
structure KB {V:Type} (kb:Bk→(Nat→Bk)→V→List (Bk×PO)) (fs:V→List AV):Prop where
 ok:∃ D:V→List CD,(∀ b s v,kb b s v=(b,.cells (Hu s 0 (D v))) :: LR s 0 (D v))∧∀ v,fs v=JB (D v)
theorem tW {b:Bk} {o:Ob}:∀ {h:Heap},(b,o)∈h→ki h b o
 | [],h=>by simp at h
 | e :: r,h=>by
   rcases List.mem_cons.1 h with rfl | h
   ·exact .here
   ·exact .next (tW h)
theorem Dx {s:Nat→Bk} {hp:Heap}:∀ (D:List CD) (k:Nat),(∀ e∈LR s k D,ki hp e.1 e.2.ob)→∀ (i:Nat) c c',(Hu s k D)[i]? =some c→(JB D)[i]? =some c'→ln hp c c'
 | [],_,_,i,c,c',h,_=>by simp [Hu] at h
 | .v a :: r,k,hf,i,c,c',h,h'=>by
   match i with
   | 0=>
     simp only [Hu,JB,List.getElem?_cons_zero,Option.some.injEq] at h h'
     subst h;subst h';exact .co (.refl _)
   | i+1=>exact Dx r k (fun e he=>hf e (by simpa [LR] using he)) i c c' (by simpa [Hu] using h) (by simpa [JB] using h')
 | .l sz g xs :: r,k,hf,i,c,c',h,h'=>by
   match i with
   | 0=>
     simp only [Hu,JB,List.getElem?_cons_zero,Option.some.injEq] at h h'
     subst h;subst h'
     exact .arr sz (s k) _ _ (hf (s k,.arr sz (xs.map g)) (by simp [LR])) (by simp)
   | i+1=>exact Dx r (k+1) (fun e he=>hf e (by simp only [LR,List.mem_cons];exact .inr he)) i c c' (by simpa [Hu] using h) (by simpa [JB] using h')
theorem JC {e:Bk×PO} {l:List (Bk×PO)} (h:e∈l):(e.1,e.2.ob)∈Dt l:=List.mem_map.2 ⟨e,h,rfl⟩
theorem KB.Vr {V:Type} {kb:Bk→(Nat→Bk)→V→List (Bk×PO)} {fs:V→List AV} (K:KB kb fs) (b:Bk) (s:Nat→Bk) (v:V) (bU:Heap):ln (Dt (kb b s v)++bU) (.ptr b 0) (.cE (fs v)):=by
 obtain ⟨D,h1,h2⟩:=K.ok
 rw [h2]
 refine .box b (Hu s 0 (D v)) _ (tW (List.mem_append_left _ ?_)) (Dw s 0 (D v)).symm (Dx (D v) 0 fun e he=>tW (List.mem_append_left _ (JC ?_)))
 ·rw [h1];exact List.mem_cons_self ..
 ·rw [h1];exact List.mem_cons_of_mem _ he
def Ax:List (Bk×PO)→Heap→Option Heap
 | [],r=>some r
 | (b,.cells cs) :: l,r=>match Ax l r with
   | some m=>some ((b,.cells cs) :: m)
   | none=>none
 | (b,.arr sz xs) :: l,r=>match Ax l r with
   | some m=>some ((b,.arr sz xs) :: m)
   | none=>none
theorem xa:∀ {l:List (Bk×PO)} {r m:Heap},Ax l r=some m→Dt l++r=m
 | [],r,m,h=>Option.some.inj h
 | (b,.cells cs) :: l,r,m,h=>by
   unfold Ax at h
   split at h
   ·rename_i m' hm
    obtain rfl:=Option.some.inj h
    rw [← xa hm];rfl
   ·cases h
 | (b,.arr sz xs) :: l,r,m,h=>by
   unfold Ax at h
   split at h
   ·rename_i m' hm
    obtain rfl:=Option.some.inj h
    rw [← xa hm];rfl
   ·cases h
theorem B5 {l:List (Bk×PO)} {m:Heap} (h:Ax l []=some m):m=Dt l:=by rw [← xa h,List.append_nil]
section view
variable {V:Type} {kb:Bk→(Nat→Bk)→V→List (Bk×PO)} {fs:V→List AV} {bo:Nat→Bk} {bs:Nat→Nat→Bk} {M:List V} {i:Int} {v:V} {hp bU ME:Heap} {b bp:Bk}
theorem Hv {w:World} {S:Nat→Prop} (r:bZ w S hp) (h:idx M i=some v) (u:jY hp bp (.bM (iR kb bo bs M)) bp (.bM (Aw kb bo bs M i)) bU):bZ w S (Dt (kb (bo i.toNat) (bs i.toNat) v)++bU)∧∀ n,Has (Dt (kb (bo i.toNat) (bs i.toNat) v)++bU) n→Has hp n:=by
 obtain ⟨r1,e1⟩:=tV _ _ r u (zE h)
 refine ⟨r1,fun n hn=>?_⟩
 rcases e1.new n hn with h | h
 ·exact h
 ·have:=r1.lt hn;omega
theorem JD {o:Ob} {hp:Heap} (f:ki hp b o) (o':Ob):∃ bU,jY hp b o b o' bU:=by
 induction f with
 | here=>exact ⟨_,.here⟩
 | next _ ih=>obtain ⟨h,u⟩:=ih;exact ⟨_,.next u⟩
 | skip _ ih=>obtain ⟨h,u⟩:=ih;exact ⟨_,.skip u⟩
theorem ln.Qv (K:KB kb fs) (h:idx M i=some v) (f:ki hp bp (.bM (iR kb bo bs M))):ln hp (pA bo i) (.cE (fs v)):=by
 obtain ⟨bU,u⟩:=JD f (.bM (Aw kb bo bs M i))
 refine .RJ fun w S x r at_=>?_
 obtain ⟨r1,r2⟩:=Hv r h u
 exact ((K.Vr (bo i.toNat) (bs i.toNat) v bU).at r1 at_).mono fun m hm=>⟨hm.imp id (r2 m),rfl⟩
theorem ln.B6 (K:KB kb fs) (h:idx M i=some v) (f:ki hp bp (.bM (iR kb bo bs M))):ln hp (.ptr (bo i.toNat) 0) (.cE (fs v)):=ln.Qv K h f
end view
theorem aj.Hw {n:Nat} {tm:List (Nat×AV)} {hp bU ME:Heap} {T:St→Prop} {V:Type} {kb:Bk→(Nat→Bk)→V→List (Bk×PO)} {bo:Nat→Bk} {bs:Nat→Nat→Bk} {M:List V} {i:Int} {v:V} {bp:Bk} (h:idx M i=some v) (u:jY hp bp (.bM (iR kb bo bs M)) bp (.bM (Aw kb bo bs M i)) bU) (e:Ax (kb (bo i.toNat) (bs i.toNat) v) bU=some ME)
 (k:aj ⟨n,tm,ME⟩ T):aj ⟨n,tm,hp⟩ T:=aj.JA h u (by rw [xa e];exact k)
theorem aj.JE {n:Nat} {tm:List (Nat×AV)} {hp tc h0:Heap} {bU:(Nat→Nat→Bk)→Heap} {T:St→Prop} {V:Type} {kb:Bk→(Nat→Bk)→V→List (Bk×PO)} {bo:Nat→Bk} {bs:Nat→Nat→Bk} {M:List V} {i:Int} {v v':V} {bp:Bk} {s:Nat→Bk} (h:idx M i=some v) (hs:BF hp h0 tc) (ho:Ax (kb (bo i.toNat) s v') []=some h0) (u:∀ rS,jY tc bp (.bM (Aw kb bo bs M i)) bp (.bM (iR kb bo rS (M.set i.toNat v'))) (bU rS))
 (k:∀ rS,aj ⟨n,tm,bU rS⟩ T):aj ⟨n,tm,hp⟩ T:=aj.LM h rfl rfl hs (B5 ho) u k
theorem aj.JF {n:Nat} {tm:List (Nat×AV)} {hp tc h0:Heap} {bU:(Nat→Bk)→(Nat→Nat→Bk)→Heap} {T:St→Prop} {V:Type} {kb:Bk→(Nat→Bk)→V→List (Bk×PO)} {bo:Nat→Bk} {bs:Nat→Nat→Bk} {M:List V} {v:V} {b bp:Bk} {s:Nat→Bk} (hs:BF hp h0 tc) (ho:Ax (kb b s v) []=some h0) (u:∀ sg rS,jY tc bp (.bM (iR kb bo bs M)) bp (.bM (iR kb sg rS (M++[v]))) (bU sg rS))
 (k:∀ sg rS,(∀ j,j < M.length→sg j=bo j)→sg M.length=b→aj ⟨n,tm,bU sg rS⟩ T):aj ⟨n,tm,hp⟩ T:=aj.LN hs (B5 ho) u k
theorem JG {α:Type} (M:List α) (v:α):idx (M++[v]) (M.length:Int)=some v:=by
 unfold idx
 rw [if_pos (Int.natCast_nonneg _),Int.toNat_natCast,List.getElem?_append_right (Nat.le_refl _),Nat.sub_self];rfl
theorem Hx {bo:Nat→Bk} {N:Nat} {b:Bk} (h:bo N=b) (o:Nat):AV.ptr (bo ((N:Nat):Int).toNat) o=AV.ptr b o:=LQ h o
theorem N6 {K:Type} {gk:K→AV} {bo sg:Nat→Bk} {N:Nat} (h:∀ j,j < N→sg j=bo j) {M:List (K×Int)} {u:Unit} (hg:LO N (M.map Prod.snd)=some u):Ob.mp (M.map fun e=>(gk e.1,pA bo e.2))=Ob.mp (M.map fun e=>(gk e.1,pA sg e.2)):=congrArg Ob.mp (LP h hg)
def R6 (l:List Bk) (k:Nat):Bk:=l.getD k ⟨none,0⟩
end Go.Eng
namespace Go.Eng
open Go Go.Sort Go.Proofs
variable [bD]
end Go.Eng
namespace Go.Eng
open Go
variable [bD]
section rules
variable {P:Program} {all:Array Oper} {rest:List Oper} {n:Nat} {tm:List (Nat×AV)} {hp:Heap} {Q:St→Prop} {d:Nat} {ty:TypeId} {pos:String} {af:Array Edge}
end rules
section rules
variable {P:Program} {all:Array Oper} {rest:List Oper} {n:Nat} {tm:List (Nat×AV)} {hp:Heap} {Q:St→Prop} {d:Nat} {ty:TypeId} {pos:String} {af:Array Edge}
end rules
def Hy (cs:List AV):List Nat→List (Nat×AV)→List (Nat×AV)
 | [],tm=>tm
 | s :: r,tm=>(s,.cE cs) :: Hy cs r tm
theorem Ej {cs:List AV} {tm:List (Nat×AV)} {t:Nat} {av:AV}:∀ {ss:List Nat},lk (Hy cs ss tm) t=some av→(t∈ss∧av=.cE cs)∨lk tm t=some av
 | [],h=>.inr h
 | s :: r,h=>by
   simp only [Hy,lk] at h
   split at h
   ·rename_i hb
    obtain rfl:s=t:=by simpa using hb
    exact .inl ⟨by simp,(Option.some.inj h).symm⟩
   ·rcases Ej h with ⟨h1,h2⟩ | h1
    ·exact .inl ⟨List.mem_cons_of_mem _ h1,h2⟩
    ·exact .inr h1
theorem aj.Ek {n:Nat} {ss:List Nat} {tm:List (Nat×AV)} {hp tc:Heap} {T:St→Prop} {b:Bk} {cs:List AV} (hs:∀ s∈ss,lk tm s=some (.ptr b 0)) (dl:ui hp b (.cells cs) tc) (k:aj ⟨n,Hy cs ss tm,tc⟩ T):aj ⟨n,tm,hp⟩ T:=by
 refine aj.step (wW:=⟨n,Hy cs ss tm,tc⟩) (fun w S a r=>?_) k
 obtain ⟨p,q,rfl,rfl⟩:=dl.split
 have nA:(b,Ob.cells cs)∈p++(b,.cells cs) :: q:=aY.2 (.inl rfl)
 obtain ⟨h1,m0,vs,E,zb,hh,hJ,ha⟩:=r.hp.holds _ nA
 have Gv:∀ m,b.bY=some m→m < w.heap.size:=fun m hm=>r.hp.lt ⟨_,nA,iN hm⟩
 let S':Nat→Prop:=fun m=>S m∨b.bY=some m
 have mono:∀ m,S m→S' m∧w.heap[m]? =w.heap[m]?:=fun m hm=>⟨.inl hm,rfl⟩
 have wE:=r.hp.nodup
 have pG:(p++q).Sublist (p++(b,Ob.cells cs) :: q):=List.Sublist.append (List.Sublist.refl _) (List.sublist_cons_self _ _)
 have tM:bZ w S' (p++q):=by
  refine ⟨wE.sublist (vU pG),fun e he=>(r.hp.holds e (pG.subset he)).mono mono (fun _ _=>rfl),fun e he m hm=>?_,fun m hm=>?_,fun g o ho=>⟨.inl (r.hp.fU g o ho).1,(r.hp.fU g o ho).2⟩⟩
  ·rw [← r.hp.sep e (pG.subset he) m hm]
   refine ⟨fun hs=>hs.elim id fun hb=>?_,.inl⟩
   exfalso
   rw [List.flatMap_append,List.flatMap_cons,List.nodup_append,List.nodup_append] at wE
   rcases List.mem_append.1 he with h | h
   ·exact wE.2.2 m (List.mem_flatMap.2 ⟨e,h,hm⟩) m (List.mem_append_left _ (iN hb)) rfl
   ·exact wE.2.1.2.2 m (iN hb) m (List.mem_flatMap.2 ⟨e,h,hm⟩) rfl
  ·rcases hm with h | h
   ·exact r.hp.slt m h
   ·exact Gv m h
 have hr:=r.heap mono tM
 refine ⟨_,S',rfl,⟨hr.size,hr.defers,fun t av h=>?_,hr.hp⟩,rfl,rfl,rfl,Nat.le_refl _,mono,fun m hm hh=>⟨rfl,fun hs=>hs.elim id fun hb=>(hh ⟨_,nA,iN hb⟩).elim⟩,fun m hm=>.inl ?_,fun _=>Nat.le_refl _⟩
 ·rcases Ej h with ⟨ht,rfl⟩ | h
  ·obtain ⟨v,e1,e2⟩:=hr.tm t _ (hs t ht)
   cases e2 with
   | ptr _ _ m hb=>
     obtain rfl:=Option.some.inj (hb.symm.trans zb)
     refine ⟨_,e1,.cE cs ⟨m,0,none⟩ vs.toList (by simp [hJ]) (fun i c v hc hv=>(ha i c v hc (by simpa using hv)).mono mono) rfl (.inr hb) (fun i v hv=>?_)⟩
     rw [ll hh];simpa using hv
  ·exact hr.tm t av h
 ·obtain ⟨e,he,hb⟩:=hm
  exact ⟨e,pG.subset he,hb⟩
def pQ (bo:Nat→Bk):Option Int→AV
 | none=>.raw (.pointer none)
 | some i=>pA bo i
def nE {K:Type} (M:List (K×Int)):List (K×Option Int):=M.map fun e=>(e.1,some e.2)
theorem zF {K:Type} {gk:K→AV} (bo:Nat→Bk) (M:List (K×Int)):((nE M).map fun e=>(gk e.1,pQ bo e.2))=M.map fun e=>(gk e.1,pA bo e.2):=by
 unfold nE;rw [List.map_map];rfl
theorem zG {K:Type} [DecidableEq K] (k:K):∀ (M:List (K×Int)),nD (nE M) k none=some (ch M k)
 | []=>rfl
 | e :: M=>by
   have ih:=zG k M
   unfold nD nE at ih ⊢
   rw [List.map_cons]
   unfold ch
   by_cases h:e.1=k
   ·rw [if_pos h,if_pos h];rfl
   ·rw [if_neg h,if_neg h];exact ih
theorem xY {K:Type} [DecidableEq K] [tu K] (k:K) (v:Int):∀ (M:List (K×Int)),tb k (some v) (nE M)=nE (tb k v M)
 | []=>rfl
 | e :: M=>by
   have ih:=xY k v M
   unfold nE at ih ⊢
   rw [List.map_cons]
   unfold tb
   by_cases h:tu.lt e.1 k=true
   ·rw [if_pos h,if_pos h,List.map_cons,ih]
   ·rw [if_neg h,if_neg h,List.map_cons,List.map_cons]
theorem Dy {K:Type} [DecidableEq K] [tu K] (M:List (K×Int)) (k:K) (v:Int):bT (nE M) k (some v)=nE (bT M k v):=by
 unfold bT
 rw [← xY]
 congr 1
 unfold iY nE
 rw [List.filter_map];rfl
section rules
variable {P:Program} {all:Array Oper} {rest:List Oper} {n:Nat} {tm:List (Nat×AV)} {hp:Heap} {Q:St→Prop} {d:Nat} {ty:TypeId} {pos:String} {af:Array Edge}
theorem B7 {K:Type} [DecidableEq K] [tu K] {gk:K→AV} {bo:Nat→Bk} {M:List (K×Int)} {key:K} {q:Nat} {t kt vt:TypeId} {i:TypeInfo} {z:Value} {x y:Operand} {b:Bk} {bU:Heap} [ax P t (.map kt vt)] [aV P vt i] [fI P kt gk] (hx:cx tm x=some (.ct b)) (hy:cx tm y=some (gk key)) (hz:i.zero=some z) (Hb:w5 z=.raw (.pointer none))
 (u:jY hp b (.z8 (M.map fun e=>(gk e.1,pA bo e.2)) q (gk key)) b (.z8 ((bT (nE M) key (ch M key)).map fun e=>(gk e.1,pQ bo e.2)) q (gk key)) bU) (hn:Nat.blt d n=true)
 (kk:ae P all rest ⟨n,(d,.kj [pQ bo (ch M key),.int .i64 (q:Int)]) :: tm,bU⟩ Q):ae P all (⟨some d,.mapEntry t x y,ty,pos,af,none⟩ :: rest) ⟨n,tm,hp⟩ Q:=by
 rw [← zF bo M] at u
 exact xV (gk:=gk) (gv:=pQ bo) (M:=nE M) (key:=key) (Z:=none) (v:=ch M key) hx hy hz Hb (by rw [Hb];rfl) (zG key M) u hn kk
theorem yT {K:Type} [DecidableEq K] [tu K] {gk:K→AV} {bo:Nat→Bk} {M:List (K×Int)} {key:K} {q:Nat} {v':Int} {t kt:TypeId} {x s y:Operand} {b:Bk} {av:AV} {bU:Heap} [fI P kt gk] (hx:cx tm x=some (.ct b)) (hs:cx tm s=some (.int .i64 (q:Int))) (hy:cx tm y=some av) (nz:av=pA bo v')
 (u:jY hp b (.z8 ((bT (nE M) key (ch M key)).map fun e=>(gk e.1,pQ bo e.2)) q (gk key)) b (.mp ((bT M key v').map fun e=>(gk e.1,pA bo e.2))) bU)
 (kk:ae P all rest ⟨n,tm,bU⟩ Q):ae P all (⟨none,.entryStore t x s y,ty,pos,af,none⟩ :: rest) ⟨n,tm,hp⟩ Q:=by
 rw [← zF bo (bT M key v'),← Dy] at u
 exact uI (gk:=gk) (gv:=pQ bo) (M:=nE M) (key:=key) (v:=ch M key) (v':=some v') (t:=t) (kt:=kt) hx hs hy nz u kk
end rules
end Go.Eng
