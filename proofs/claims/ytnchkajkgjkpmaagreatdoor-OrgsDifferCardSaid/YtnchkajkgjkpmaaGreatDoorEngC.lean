/- The engine: abstract values, the symbolic heap, one rule for each operation. No program in sight. -/
import Derived.Test.YtnchkajkgjkpmaaGreatDoorEngB
import Derived.Laws.StructEq
import Derived.Below
set_option linter.unusedVariables false
set_option linter.unusedSectionVars false
namespace Go.Eng
open Go
variable [bD]
abbrev ai:=List UInt8
def A6 {α:Type} (sz:Nat) (g:α→AV) (l:List α):AV:=.list sz (l.map g)
section rules
variable {P:Program} {all:Array Oper} {rest:List Oper} {n:Nat} {tm:List (Nat×AV)} {hp:Heap} {Q:St→Prop} {d:Nat} {ty:TypeId} {pos:String} {af:Array Edge}
theorem OQ {α:Type} {g:α→AV} {Ys Zs:List α} {t e:TypeId} {i:TypeInfo} {z:Value} {x y:Operand} {src:AV} {sz:Nat} [aC P t (.slice e)] [aU P e i] (hx:dx tm x=some .nil) (hy:dx tm y=some src) (hz:i.zero=some z)
 (Hx:Nat.beq z.cells.size i.size=true) (j9:Nat.beq i.size sz=true) (h0:Nat.blt 0 sz=true) (hn:Nat.blt d n=true) (T7:Nat.ble i.bytes 65536=true) (hs:Src hp sz src (Ys.map g)) (hv:app [] Ys=some Zs)
 (kk:∀ b':Bk,ae P all rest ⟨n,(d,.sl sz b' 0 Zs.length) :: tm,(b',.arr sz (Zs.map g)) :: hp⟩ Q):ae P all (⟨some d,.call {callee:=.builtin .append,args:=#[x,y],argTypes:=#[t,t]},ty,pos,af,none⟩ :: rest) ⟨n,tm,hp⟩ Q:=by
 obtain ⟨hb,rfl⟩:=Fa hv
 refine ae.P2 rfl fun w S a r=>?_
 obtain rfl:i.size=sz:=Nat.eq_of_beq_eq_true j9
 obtain ⟨a1,a2,a3⟩:=rC (b:=⟨none,0⟩) (o:=.arr i.size []) r.hp (Ext.refl w) id ⟨by simp,by simp,.inl ⟨rfl,rfl⟩⟩ (.inl rfl)
 have QI:=(bj (σ:=⟨n,tm,hp⟩) r hx).rB
 have hAt:At w S (.sl i.size ⟨none,0⟩ 0 ([]:List AV).length) (a.eval x):=by rw [QI];exact .CP _ _ rfl
 have h1:=Nat.le_of_ble_eq_true T7
 have hlen:([]:List AV).length+(Zs.map g).length≤1000000000:=by simpa using hb
 have hm:=Nat.mul_le_mul hlen h1
 obtain ⟨v',w',b',g1,g2,g3,g4,g5⟩:=E1 (P:=P) (ty:=ty) a1 (aC.h (P:=P) (t:=t)) (aU.h (P:=P) (t:=e)) hz (Nat.eq_of_beq_eq_true Hx) (by simpa using h0) (oG.here (b:=⟨none,0⟩) (o:=.arr i.size []) (h:=hp)) hAt (hs.at r.hp (bj (σ:=⟨n,tm,hp⟩) r hy)) (by omega) (by omega)
 obtain ⟨k1,k2,k3⟩:=xM a1 (sL.here (b':=b') (o':=.arr i.size ([]++Zs.map g))) g3 id id g4 g5
 refine ⟨v',w',S,⟨n,(d,.sl i.size b' 0 (Zs.length)) :: tm,(b',.arr i.size (Zs.map g)) :: hp⟩,?_,?_,?_,kk b'⟩
 ·simp [execOp,resolve,invoke,builtin,g1]
 ·have:=(r.heap k3 k1).put hn g2
  simpa using this
 ·have:=a2.trans k2
  simpa using this
theorem iu {x:Operand} {t e:TypeId} {sz len:Nat} {b:Bk} [aC P t (.slice e)] (hx:dx tm x=some (.sl sz b 0 len)):QV P ⟨some d,.call {callee:=.builtin .len,args:=#[x],argTypes:=#[t]},ty,pos,af,none⟩ ⟨n,tm,hp⟩ (.int .i64 (len:Nat)):=JY hx
theorem jk {α:Type} {Xs:List α} {el:α} {t e:TypeId} {i:TypeInfo} {x y:Operand} {k:IntKind} {j:Int} {sz:Nat} {b:Bk} [aC P t (.slice e)] [aU P e i] (hx:dx tm x=some (.sl sz b 0 Xs.length)) (j9:Nat.beq i.size sz=true) (hy:dx tm y=some (.int k j))
 (hv:idx Xs j=some el):QV P ⟨some d,.indexAddr t x y,ty,pos,af,none⟩ ⟨n,tm,hp⟩ (.vl sz b j.toNat 0):=by
 obtain ⟨h0,h1,_⟩:=oK hv
 have h:=EY (P:=P) (d:=d) (ty:=ty) (pos:=pos) (af:=af) (n:=n) (tm:=tm) (hp:=hp) (t:=t) (e:=e) hx j9 hy ⟨h0,h1⟩
 rw [Nat.zero_add] at h
 exact h
theorem IK {α:Type} {g:α→AV} {Xs:List α} {el:α} {j:Int} (hv:idx Xs j=some el):(Xs.map g)[j.toNat]? =some (g el):=by
 rw [List.getElem?_map,(oK hv).2.2];rfl
theorem iO {α:Type} {g:α→AV} {Xs:List α} {el:α} {j:Int} {t:TypeId} {D:TypeDesc} {x:Operand} {b:Bk} {sz o:Nat} {av:AV} [aC P t D] (hD:TypeDesc.lZ D=false) (hx:dx tm x=some (.vl sz b j.toNat o)) (f:oG hp b (.arr sz (Xs.map g))∨oG hp b (.By sz (Xs.map g)))
 (hv:idx Xs j=some el) (ho:(g el).cells[o]? =some av):QV P ⟨some d,.load t x,ty,pos,af,none⟩ ⟨n,tm,hp⟩ av:=
 Kc hD hx f (IK hv) ho
theorem D2 {α:Type} {g:α→AV} {Xs:List α} {el:α} {j:Int} {t:TypeId} {D:TypeDesc} {i:TypeInfo} {x:Operand} {b:Bk} {sz:Nat} {cs:List AV} [aC P t D] [aU P t i] (hD:TypeDesc.lZ D=true) (hx:dx tm x=some (.vl sz b j.toNat 0)) (f:oG hp b (.arr sz (Xs.map g))∨oG hp b (.By sz (Xs.map g))) (j9:Nat.beq i.size sz=true)
 (hv:idx Xs j=some el) (hc:g el=.agg cs):QV P ⟨some d,.load t x,ty,pos,af,none⟩ ⟨n,tm,hp⟩ (.agg cs):=
 DY hD hx f j9 (by rw [IK (g:=g) hv,hc])
theorem wq {t:TypeId} {x:Operand} {lo hi:Option Operand} {l h:Option Int} {s zs:List UInt8} {L H:Int} [aC P t .string] (hx:dx tm x=some (.str s)) (hl:NF tm lo l) (hh:NF tm hi h) (eL:pV l=L) (eH:oJ s.length h=H) (hv:BN s L H=some zs):
 QV P ⟨some d,.slice t x lo hi none,ty,pos,af,none⟩ ⟨n,tm,hp⟩ (.str zs):=by
 obtain ⟨⟨h0,h1,h2⟩,rfl⟩:=ug hv
 subst eL;subst eH
 exact Kg hx hl hh h0 h1 h2
def vq:Heap→Heap→Option Heap
 | [],r=>some r
 | x :: l,r=>match vq l r with
   | some m=>some (x :: m)
   | none=>none
theorem qz:∀ {l r m:Heap},vq l r=some m→l++r=m
 | [],r,m,h=>by simpa [vq] using h
 | x :: l,r,m,h=>by
   simp only [vq] at h
   split at h
   ·rename_i m' hm
    obtain rfl:=Option.some.inj h
    rw [List.cons_append,qz hm]
   ·cases h
def T0 (H:Heap) (V:AV):AV→Heap→Prop:=fun v h=>h=H∧v=V
def T1 {DB:Type} (H:DB→Heap) (V:DB→AV):AV→Heap→Prop:=fun v h=>∃ b,h=H b∧v=V b
def T2 {DB Kq:Type} (H:DB→Kq→Heap) (V:DB→Kq→AV):AV→Heap→Prop:=fun v h=>∃ b c,h=H b c∧v=V b c
theorem aR {f:FuncId} {args:List Operand} {ts:Array TypeId} {l l':List AV} {h0 hr H H':Heap} {V:AV} [bh P f] (hl:BI tm args=some l) (c:aI P f l' h0 (T0 H V)) (co:AB hp l l') (hs:Kp hp h0 hr) (ha:vq H hr=some H') (hn:Nat.blt d n=true)
 (kk:ae P all rest ⟨n,(d,V) :: tm,H'⟩ Q):ae P all (⟨some d,.call {callee:=.value (.func f),args:=args.toArray,argTypes:=ts},ty,pos,af,none⟩ :: rest) ⟨n,tm,hp⟩ Q:=
 Fb hl c co hs hn (fun r h' ⟨e1,e2⟩=>by subst e1;subst e2;rw [qz ha];exact kk)
theorem fV {DB:Type} {f:FuncId} {args:List Operand} {ts:Array TypeId} {l l':List AV} {h0 hr:Heap} {H H':DB→Heap} {V:DB→AV} [bh P f] (hl:BI tm args=some l) (c:aI P f l' h0 (T1 H V)) (co:AB hp l l') (hs:Kp hp h0 hr) (ha:∀ b,vq (H b) hr=some (H' b)) (hn:Nat.blt d n=true)
 (kk:∀ b,ae P all rest ⟨n,(d,V b) :: tm,H' b⟩ Q):ae P all (⟨some d,.call {callee:=.value (.func f),args:=args.toArray,argTypes:=ts},ty,pos,af,none⟩ :: rest) ⟨n,tm,hp⟩ Q:=
 Fb hl c co hs hn (fun r h' ⟨b,e1,e2⟩=>by subst e1;subst e2;rw [qz (ha b)];exact kk b)
theorem NI {DB Kq:Type} {f:FuncId} {args:List Operand} {ts:Array TypeId} {l l':List AV} {h0 hr:Heap} {H H':DB→Kq→Heap} {V:DB→Kq→AV} [bh P f] (hl:BI tm args=some l) (c:aI P f l' h0 (T2 H V)) (co:AB hp l l') (hs:Kp hp h0 hr) (ha:∀ b c,vq (H b c) hr=some (H' b c)) (hn:Nat.blt d n=true)
 (kk:∀ b c,ae P all rest ⟨n,(d,V b c) :: tm,H' b c⟩ Q):ae P all (⟨some d,.call {callee:=.value (.func f),args:=args.toArray,argTypes:=ts},ty,pos,af,none⟩ :: rest) ⟨n,tm,hp⟩ Q:=
 Fb hl c co hs hn (fun r h' ⟨b,b2,e1,e2⟩=>by subst e1;subst e2;rw [qz (ha b b2)];exact kk b b2)
theorem rP {f:FuncId} {x:Operand} {args:List Operand} {ts:Array TypeId} {uF l l' lc:List AV} {h0 hr H H':Heap} {V:AV} [bh P f] (hx:dx tm x=some (.func (.func f) uF)) (hl:BI tm args=some l) (hlc:uf (l++uF)=some lc) (c:aI P f l' h0 (T0 H V)) (co:AB hp lc l') (hs:Kp hp h0 hr) (ha:vq H hr=some H') (hn:Nat.blt d n=true)
 (kk:ae P all rest ⟨n,(d,V) :: tm,H'⟩ Q):ae P all (⟨some d,.call {callee:=.value x,args:=args.toArray,argTypes:=ts},ty,pos,af,none⟩ :: rest) ⟨n,tm,hp⟩ Q:=
 Ud hx hl hlc c co hs hn (fun r h' ⟨e1,e2⟩=>by subst e1;subst e2;rw [qz ha];exact kk)
end rules
theorem Co.Ah {hp:Heap} {α:Type} {g:α→AV} {Xs:List α} {sz:Nat} {b:Bk} (f:oG hp b (.By sz (Xs.map g))):Co hp (.sl sz b 0 Xs.length) (.list sz (Xs.map g)):=.By sz b _ _ f (by simp)
theorem w7.wN {hp:Heap} {α:Type} {g:α→AV} {Xs:List α} {sz:Nat} {b:Bk} (f:oG hp b (.arr sz (Xs.map g))):w7 hp (.sl sz b 0 Xs.length) (.list sz (Xs.map g)):=.arr sz b _ _ f (by simp)
section rules
variable {P:Program} {all:Array Oper} {rest:List Oper} {n:Nat} {tm:List (Nat×AV)} {hp:Heap} {Q:St→Prop} {d:Nat} {ty:TypeId} {pos:String} {af:Array Edge}
theorem BO {x:Operand} {s:TypeId} {j off:Nat} {sz:Nat} {b:Bk} {q o o':Nat} [mK P s j off] (hx:dx tm x=some (.vl sz b q o)) (ho:o+off=o'):QV P ⟨some d,.fieldAddr s x j,ty,pos,af,none⟩ ⟨n,tm,hp⟩ (.vl sz b q o'):=by
 subst ho
 exact IB hx
theorem GP {t:TypeId} {i:TypeInfo} {x y:Operand} {b:Bk} {sz q o:Nat} {xs:List AV} {av el P7:AV} {fj:Heap} [aU P t i] (hx:dx tm x=some (.vl sz b q o)) (hy:dx tm y=some av) (h1:lE av.cells=true) (j9:Nat.beq av.cells.length i.size=true)
 (u:sL hp b (.arr sz xs) b (.arr sz (xs.set q P7)) fj) (hq:xs[q]? =some el) (TQ:P7.cells=pR el.cells o av.cells) (ho:Nat.ble (o+av.cells.length) el.cells.length=true) (kk:ae P all rest ⟨n,tm,fj⟩ Q):ae P all (⟨none,.store t x y,ty,pos,af,none⟩ :: rest) ⟨n,tm,hp⟩ Q:=by
 refine ae.act rfl rfl (aE:=⟨n,tm,fj⟩) (fun w S a r=>?_) kk
 obtain ⟨m,e1,e2⟩:=(bj (σ:=⟨n,tm,hp⟩) r hx).BF
 obtain ⟨g0,g1,⟨g2,_⟩ | ⟨m',vs,E,g2,g3,g4,g5⟩⟩:=ve r.hp (.inl u.Qu)
 ·rw [g2] at e1;cases e1
 obtain rfl:m'=m:=by rw [g2] at e1;exact Option.some.inj e1
 have hv:=bj (σ:=⟨n,tm,hp⟩) r hy
 obtain ⟨hl,vX⟩:=xd hv (ea h1)
 have P1:=ea h1
 have j9:=Nat.eq_of_beq_eq_true j9
 have ho:=Nat.le_of_ble_eq_true ho
 clear h1 hv hy
 generalize av.cells=nc at *
 generalize Ue:el.cells=cs at *
 have hle:o+nc.length≤cs.length:=ho
 have yQ:=g0 el (List.mem_of_getElem? hq)
 have Hs:cs.length=sz:=by rw [← Ue];exact yQ.1
 have hqx:q < xs.length:=(List.getElem?_eq_some_iff.1 hq).1
 have hmul:(q+1) * sz≤xs.length * sz:=Nat.mul_le_mul_right _ (by omega)
 have QR:xs.length * sz≤b.cap * sz:=Nat.mul_le_mul_right _ g1
 rw [Nat.add_mul,Nat.one_mul] at hmul
 have EX:=BJ hl vX P1
 have Kb:=run_storeCells_at (P:=P) m' (q * sz+o) E (a.eval y).cells.toList 0 vs w g3 (by simp;omega) EX
 simp only [Nat.add_zero] at Kb
 have Qw:(a.eval y).cells.size=i.size:=by rw [← hl];exact j9
 have Yz:=dt g0
 have VZ:El sz P7:=by
  refine ⟨by rw [TQ];simp [pR];omega,fun c hc=>?_⟩
  rw [TQ] at hc
  simp only [pR,List.mem_append] at hc
  rcases hc with (hc | hc) | hc
  ·exact yQ.2 c (by rw [Ue];exact List.mem_of_mem_take hc)
  ·exact P1 c hc
  ·exact yQ.2 c (by rw [Ue];exact List.mem_of_mem_drop hc)
 have Kr:flat (xs.set q P7)=(flat xs).take (q * sz+o)++nc++(flat xs).drop (q * sz+o+nc.length):=by
  rw [Kh g0 VZ hq]
  rw [TQ];simp only [pR]
  have P6:cs=((flat xs).drop (q * sz)).take sz:=by
   apply List.ext_getElem?
   intro j
   by_cases hj:j < sz
   ·have:=vm g0 hq j hj
    rw [List.getElem?_take,if_pos hj,List.getElem?_drop,this,Ue]
   ·rw [List.getElem?_eq_none (by omega),List.getElem?_eq_none (by simp;omega)]
  have e1:cs.take o=((flat xs).drop (q * sz)).take o:=by rw [P6,List.take_take,Nat.min_eq_left (by omega)]
  have e2:cs.drop (o+nc.length)=(((flat xs).drop (q * sz+o+nc.length)).take (sz - (o+nc.length))):=by
   rw [P6,List.drop_take,List.drop_drop]
   rw [show q * sz+(o+nc.length)=q * sz+o+nc.length from by omega]
  rw [e1,e2]
  have e3:(flat xs).take (q * sz+o)=(flat xs).take (q * sz)++((flat xs).drop (q * sz)).take o:=by rw [List.take_add]
  rw [e3]
  have e4:(flat xs).drop (q * sz+o+nc.length)=((flat xs).drop (q * sz+o+nc.length)).take (sz - (o+nc.length))++(flat xs).drop (q * sz+sz):=by
   conv=>lhs;rw [← List.take_append_drop (sz - (o+nc.length)) ((flat xs).drop (q * sz+o+nc.length))]
   rw [List.drop_drop,show q * sz+o+nc.length+(sz - (o+nc.length))=q * sz+sz from by omega]
  conv=>rhs;rw [e4]
  simp only [List.append_assoc]
 have QT:=fun (w':World) (ha:nK w' S (flat xs) vs) (hb:nK w' S nc (a.eval y).cells)=>NG (q * sz+o) (by rw [Yz,g4];exact QR) ha hl hb (by omega)
 have QU:(vs.toList.take (q * sz+o)++(a.eval y).cells.toList++vs.toList.drop (q * sz+o+(a.eval y).cells.toList.length)).toArray.size=b.cap * sz:=by
  simp;omega
 generalize (vs.toList.take (q * sz+o)++(a.eval y).cells.toList++vs.toList.drop (q * sz+o+(a.eval y).cells.toList.length)).toArray=GM at Kb QT QU
 have c:GB w (w.setRow m' GM) b.bX:=⟨⟨rfl,rfl,rfl,by simp,fun k hk uc=>setRow_other w m' k _ (fun e=>uc (by rw [e1,e]))⟩,fun _=>Nat.le_refl _⟩
 have k1:∀ n,S n→S n∧(w.setRow m' GM).heap[n]? =w.heap[n]?:=by
  intro k hk
  refine ⟨hk,setRow_other w m' k _ (fun e=>?_)⟩
  subst e
  exact (r.hp.sep _ u.Qu.mem k (lS e1)).1 hk
 have hh:=xM r.hp u c id id ⟨?_,by simpa using g1,.inr ⟨m',GM,E,e1,setRow_heap w m' vs _ E _ g3,QU,by rw [Kr];exact QT _ (g5.mono k1) (vX.mono k1)⟩⟩ (.inl rfl)
 ·refine ⟨w.setRow m' GM,S,?_,r.heap hh.2.2 hh.1,hh.2.1⟩
  simp [execOp,e2,Instr.storeAt,Instr.sureAddr,storeVar,sizeOf,typeInfo,aU.h (P:=P) (t:=t),Qw,Kb]
 ·intro z hz
  rcases List.mem_or_eq_of_mem_set hz with h | rfl
  ·exact g0 z h
  ·exact VZ
theorem wO {α:Type} {g:α→AV} {Xs:List α} {el P7:α} {j:Int} {t:TypeId} {i:TypeInfo} {x y:Operand} {b:Bk} {sz o:Nat} {av:AV} {fj:Heap} [aU P t i] (hx:dx tm x=some (.vl sz b j.toNat o)) (hy:dx tm y=some av) (h1:lE av.cells=true) (j9:Nat.beq av.cells.length i.size=true)
 (hv:idx Xs j=some el) (TQ:(g P7).cells=pR (g el).cells o av.cells) (u:sL hp b (.arr sz (Xs.map g)) b (.arr sz ((Xs.set j.toNat P7).map g)) fj) (ho:Nat.ble (o+av.cells.length) (g el).cells.length=true) (kk:ae P all rest ⟨n,tm,fj⟩ Q):
 ae P all (⟨none,.store t x y,ty,pos,af,none⟩ :: rest) ⟨n,tm,hp⟩ Q:=by
 refine GP (xs:=Xs.map g) (el:=g el) (P7:=g P7) hx hy h1 j9 ?_ (IK hv) TQ ho kk
 rw [List.map_set] at u
 exact u
end rules
theorem dO.hs {w:World} {S:Nat→Prop} {h h':Heap} (r:dO w S h) (s:HS h h'):dO w S h':=by
 obtain ⟨q,hq⟩:=s.perm
 exact (r.perm hq).sub (List.sublist_append_left _ _)
theorem Has.hs {h h':Heap} (s:HS h h') {n:Nat} (hh:Has h' n):Has h n:=by
 obtain ⟨q,hq⟩:=s.perm
 obtain ⟨e,he,hb⟩:=hh
 exact ⟨e,hq.mem_iff.2 (List.mem_append_left _ he),hb⟩
theorem aI.fD {P:Program} {f:FuncId} {args:List AV} {h:Heap} {Q:AV→Heap→Prop} (c:aI P f args h (fun r h1=>∃ h',HS h1 h'∧Q r h')):aI P f args h Q:=
 fun w S vs r hl ha=>(c w S vs r hl ha).mono fun _ _ ⟨v,r,_,S',h1,⟨h',hs,hq⟩,h3,h4,h5⟩=>⟨v,r,h',S',h1,hq,h3,h4.hs hs,h5.less fun _ hn=>hn.hs hs⟩
theorem aj.eqs {n s:Nat} {tm:List (Nat×AV)} {hp:Heap} {T:St→Prop} {av rz:AV} (hs:lk tm s=some av) (he:rz=av) (k:aj ⟨n,(s,rz) :: tm,hp⟩ T):aj ⟨n,tm,hp⟩ T:=by
 subst he
 exact aj.co hs (.refl _) k
theorem OR {hp fj:Heap} {b:Bk} {o:Ob} (u:sL hp b o b o fj):fj=hp:=by
 generalize hb:b=b',ho:o=o' at u
 have:∀ {h h':Heap} {b b':Bk} {o o':Ob},sL h b o b' o' h'→b=b'→o=o'→h'=h:=by
  intro h h' b b' o o' u
  induction u with
  | here=>rintro rfl rfl;rfl
  | next _ ih=>intro e1 e2;rw [ih e1 e2]
  | skip _ ih=>intro e1 e2;rw [ih e1 e2]
 subst hb ho
 exact this u rfl rfl
theorem aj.V0 {n j:Nat} {tm:List (Nat×AV)} {hp fj:Heap} {T:St→Prop} {b:Bk} {cs oI:List AV} {av rz:AV} (u:sL hp b (.cells cs) b (.cells oI) fj) (hj:cs[j]? =some av) (he:rz=av) (hc:uf (cs.set j rz)=some oI) (k:aj ⟨n,tm,fj⟩ T):aj ⟨n,tm,hp⟩ T:=by
 subst he
 have P6:cs.set j rz=cs:=by
  apply List.ext_getElem?
  intro i
  by_cases hi:j=i
  ·subst hi
   have lV:=(List.getElem?_eq_some_iff.1 hj).1
   rw [List.getElem?_set_self lV,hj]
  ·rw [List.getElem?_set_ne hi]
 rw [P6] at hc
 obtain rfl:=nf hc
 rw [OR u] at k
 exact k
theorem rQ {p:Prop} [Decidable p] {x:Bool} (h:p):(decide p&&x)=x:=by simp [h]
theorem rR {p:Prop} [Decidable p] {x:Bool} (h:¬ p):(decide p&&x)=false:=by simp [h]
theorem yV {p:Prop} [Decidable p] {x:Bool} (h:p):(decide p||x)=true:=by simp [h]
theorem yW {p:Prop} [Decidable p] {x:Bool} (h:¬ p):(decide p||x)=x:=by simp [h]
theorem AD {b x:Bool} (h:b=true):(b&&x)=x:=by simp [h]
theorem AE {b x:Bool} (h:b=false):(b&&x)=false:=by simp [h]
theorem GQ {b x:Bool} (h:b=true):(b||x)=true:=by simp [h]
theorem GR {b x:Bool} (h:b=false):(b||x)=x:=by simp [h]
def Bz (P:Program) (k:Nat) (t:TypeId) (v u:Value) (b:Bool):Prop:=∀ d w,(Op.equalIn (d+k) t v u).run P w=.ok b w
theorem Bz.up {P:Program} {k:Nat} {t:TypeId} {v u:Value} {b:Bool} (h:Bz P k t v u b) (j:Nat):Bz P (k+j) t v u b:=fun d w=>by
 rw [show d+(k+j)=(d+j)+k from by omega];exact h _ w
theorem Bz.cast {P:Program} {k:Nat} {t:TypeId} {v u:Value} {b b':Bool} (h:Bz P k t v u b) (e:b=b'):Bz P k t v u b':=by rw [← e];exact h
inductive OS (P:Program) (k:Nat) (xs ys:Array Value):List Field→Bool→Prop
 | nil:OS P k xs ys [] true
 | cons {f:Field} {fs:List Field} {px py:Value} {b b':Bool} (hn:f.name≠"_") (hx:∀ w,(part f.type xs f.offset).run P w=.ok px w) (hy:∀ w,(part f.type ys f.offset).run P w=.ok py w) (he:Bz P k f.type px py b) (kk:OS P k xs ys fs b'):OS P k xs ys (f :: fs) (b&&b')
theorem OS.run {P:Program} {k:Nat} {xs ys:Array Value} {fs:List Field} {b:Bool} (h:OS P k xs ys fs b) (d:Nat) (w:World):(Op.eqFields (d+k) xs ys fs).run P w=.ok b w:=by
 induction h with
 | nil=>simp [Op.eqFields]
 | @cons f fs px py b b' hn hx hy he kk ih=>
   simp only [Op.eqFields,hn,ne_eq,not_false_eq_true,if_true,Sem.run_bind,hx,hy,he d w,Result.andThen_ok]
   cases b
   ·simp
   ·simpa using ih
theorem Bz.struct {P:Program} {k:Nat} {t:TypeId} {xs ys:Array Value} {fs:List Field} {b:Bool} (hu:P.underlying t=some (.struct fs.toArray)) (hp:P.stoodInHeld t=false) (h:OS P k xs ys fs b):Bz P (k+1) t (.agg xs) (.agg ys) b:=by
 intro d w
 have hf:P.fieldsOf t=fs.toArray:=by simp [Program.fieldsOf,hu]
 rw [show d+(k+1)=(d+k)+1 from rfl,run_equalIn_struct w (d+k) t xs ys (by rw [hf];exact hu) hp,hf]
 exact h.run d w
theorem ej {P:Program} {t:TypeId} {D:TypeDesc} [aC P t D] (hD:TypeDesc.lZ D=false) {cs:Array Value} {off:Nat} {v:Value} (h:cs[off]? =some v) (w:World):(part t cs off).run P w=.ok v w:=by
 unfold part isAgg
 simp only [Sem.run_bind,run_underlying (aC.h (P:=P) (t:=t)),Result.andThen_ok]
 cases D<;>simp_all [TypeDesc.lZ]
theorem nK.get {w:World} {S:Nat→Prop} {cs:List AV} {vs:Array Value} (hl:cs.length=vs.size) (ha:nK w S cs vs) {off:Nat} {c:AV} (hc:cs[off]? =some c):∃ v,vs[off]? =some v∧At w S c v:=by
 have lV:=(List.getElem?_eq_some_iff.1 hc).1
 have:off < vs.size:=by omega
 exact ⟨vs[off],by simp [this],ha off c _ hc (by simp [this])⟩
class uh (P:Program) (t:TypeId) (k:outParam Nat) {α:Type} [DecidableEq α] (g:α→AV):Prop where
 h:∀ (x y:α) (w:World) (S:Nat→Prop) (v u:Value),At w S (g x) v→At w S (g y) u→Bz P k t v u (decide (x=y))
class Mk (P:Program) (t:TypeId):Prop where
 h:P.eqGuardType P.depth t=false
instance aa0 {P:Program} {t:TypeId} {k:IntKind} [aC P t (.int k)]:uh P t 1 (AV.int k):=⟨fun x y w S v u hv hu d w'=>by
 rw [hv.eU,hu.eU,Op.equalIn]
 simp [run_underlying (aC.h (P:=P) (t:=t))]
 rw [Bool.eq_iff_iff];simp⟩
instance abM {P:Program} {t:TypeId} [aC P t (.int .i64)]:uh P t 1 I:=aa0 (k:=.i64)
instance acP {P:Program} {t:TypeId} [aC P t .bool]:uh P t 1 AV.bool:=⟨fun x y w S v u hv hu d w'=>by
 rw [hv.ke,hu.ke,Op.equalIn]
 simp [run_underlying (aC.h (P:=P) (t:=t))]
 rw [Bool.eq_iff_iff];simp⟩
instance eqStr {P:Program} {t:TypeId} [aC P t .string]:uh P t 1 AV.str:=⟨fun x y w S v u hv hu d w'=>by
 rw [hv.dB,hu.dB,Op.equalIn]
 simp [run_underlying (aC.h (P:=P) (t:=t))]
 rw [Bool.eq_iff_iff]
 rw [beq_toListBytes,ByteArray.toList_eq,ByteArray.toList_eq]
 simp⟩
def GS (k:IntKind) (x y:Int):Int:=x.fdiv (2 ^ min y.toNat k.bits)
section rules
variable {P:Program} {all:Array Oper} {rest:List Oper} {n:Nat} {tm:List (Nat×AV)} {hp:Heap} {Q:St→Prop} {d:Nat} {ty:TypeId} {pos:String} {af:Array Edge}
theorem aa1 {α:Type} [DecidableEq α] {g:α→AV} {X Y:α} {k:Nat} {xt yt:TypeId} {x y:Operand} {cs ds:List AV} [uh P xt k g] [Mk P xt] (hk:Nat.ble k 10000=true) (hx:dx tm x=some (.agg cs)) (hy:dx tm y=some (.agg ds)) (eX:g X=.agg cs) (eY:g Y=.agg ds):
 QV P ⟨some d,.binOp .eql xt x y yt,ty,pos,af,none⟩ ⟨n,tm,hp⟩ (.bool (decide (X=Y))):=by
 intro w S a r
 have hv:=bj (σ:=⟨n,tm,hp⟩) r hx
 have hu:=bj (σ:=⟨n,tm,hp⟩) r hy
 have he:=uh.h (P:=P) (t:=xt) (g:=g) X Y w S _ _ (by rw [eX];exact hv) (by rw [eY];exact hu)
 obtain ⟨vs,e1,_,_⟩:=hv.kW
 obtain ⟨us,e2,_,_⟩:=hu.kW
 refine ⟨.bool (decide (X=Y)),fun w1 _=>?_,.bool _⟩
 have h1:=run_eqGuard_agg (P:=P) w1 .eql xt x y vs us Mk.h
 rw [e1,e2] at he
 have h2:(Op.equal xt (.agg vs) (.agg us)).run P w1=.ok (decide (X=Y)) w1:=by
  have:=he (10000 - k) w1
  rw [Nat.sub_add_cancel (Nat.le_of_ble_eq_true hk)] at this
  exact this
 have h3:(binOp .eql xt (.agg vs) (.agg us)).run P w1=.ok (.bool (decide (X=Y))) w1:=by
  rw [show binOp .eql xt (.agg vs) (.agg us)=(do pure (.bool (← Op.equal xt (.agg vs) (.agg us)))) from rfl]
  simp [h2]
 simp [execOp,e1,e2,h1,h3]
theorem AF {α:Type} [DecidableEq α] {g:α→AV} {X Y:α} {k:Nat} {xt yt:TypeId} {x y:Operand} {cs ds:List AV} [uh P xt k g] [Mk P xt] (hk:Nat.ble k 10000=true) (hx:dx tm x=some (.agg cs)) (hy:dx tm y=some (.agg ds)) (eX:g X=.agg cs) (eY:g Y=.agg ds):
 QV P ⟨some d,.binOp .neq xt x y yt,ty,pos,af,none⟩ ⟨n,tm,hp⟩ (.bool (decide (X≠Y))):=by
 intro w S a r
 have hv:=bj (σ:=⟨n,tm,hp⟩) r hx
 have hu:=bj (σ:=⟨n,tm,hp⟩) r hy
 have he:=uh.h (P:=P) (t:=xt) (g:=g) X Y w S _ _ (by rw [eX];exact hv) (by rw [eY];exact hu)
 obtain ⟨vs,e1,_,_⟩:=hv.kW
 obtain ⟨us,e2,_,_⟩:=hu.kW
 refine ⟨.bool (decide (X≠Y)),fun w1 _=>?_,.bool _⟩
 have h1:=run_eqGuard_agg (P:=P) w1 .neq xt x y vs us Mk.h
 rw [e1,e2] at he
 have h2:(Op.equal xt (.agg vs) (.agg us)).run P w1=.ok (decide (X=Y)) w1:=by
  have:=he (10000 - k) w1
  rw [Nat.sub_add_cancel (Nat.le_of_ble_eq_true hk)] at this
  exact this
 have h3:(binOp .neq xt (.agg vs) (.agg us)).run P w1=.ok (.bool (decide (X≠Y))) w1:=by
  rw [show binOp .neq xt (.agg vs) (.agg us)=(do pure (.bool (!(← Op.equal xt (.agg vs) (.agg us))))) from rfl]
  simp [h2]
 simp [execOp,e1,e2,h1,h3]
theorem QW {xt yt:TypeId} {x y:Operand} {s t:List UInt8} (hx:dx tm x=some (.str s)) (hy:dx tm y=some (.str t)):QV P ⟨some d,.binOp .lss xt x y yt,ty,pos,af,none⟩ ⟨n,tm,hp⟩ (.bool (Op.bytesLess s t)):=by
 refine fun w S a r=>⟨.bool (Op.bytesLess s t),fun w1 _=>?_,.bool _⟩
 simp [execOp,(bj (σ:=⟨n,tm,hp⟩) r hx).dB,(bj (σ:=⟨n,tm,hp⟩) r hy).dB,eqGuard_at_string,binOp,Op.stringOp,ByteArray.toList_eq]
theorem od {xt yt:TypeId} {x y:Operand} {s t:List UInt8} (hx:dx tm x=some (.str s)) (hy:dx tm y=some (.str t)):QV P ⟨some d,.binOp .leq xt x y yt,ty,pos,af,none⟩ ⟨n,tm,hp⟩ (.bool (Op.bytesLess s t||s==t)):=by
 refine fun w S a r=>⟨.bool (Op.bytesLess s t||s==t),fun w1 _=>?_,.bool _⟩
 simp [execOp,(bj (σ:=⟨n,tm,hp⟩) r hx).dB,(bj (σ:=⟨n,tm,hp⟩) r hy).dB,eqGuard_at_string,binOp,Op.stringOp,ByteArray.toList_eq]
theorem aa2 {k k':IntKind} {xt yt:TypeId} {x y:Operand} {i j:Int} (hx:dx tm x=some (.int k i)) (hy:dx tm y=some (.int k' j)) (h0:¬ j < 0):QV P ⟨some d,.binOp .shr xt x y yt,ty,pos,af,none⟩ ⟨n,tm,hp⟩ (.int k (GS k i j)):=by
 refine fun w S a r=>⟨.int k (GS k i j),fun w1 _=>?_,.int _ _⟩
 simp [execOp,(bj (σ:=⟨n,tm,hp⟩) r hx).eU,(bj (σ:=⟨n,tm,hp⟩) r hy).eU,eqGuard_at_int,binOp,Op.shift,h0,GS]
end rules
end Go.Eng
namespace Go.Eng
open Go Go.RowKit
variable [bD]
theorem HB (l:List Int):flat (l.map I)=l.map I:=by
 induction l with
 | nil=>rfl
 | cons x r ih=>rw [List.map_cons,jR,ih];rfl
theorem QX {P:Program} {f:FuncId} {a:Option Addr} {len cap:Nat} {zs:List Int} {w:World}
 (Fc:(a=none∧len=0∧cap=0∧zs=[])∨∃ x,a=some x∧len≤cap∧cap≤maxLen∧zs.length=cap∧(∀ i,i < zs.length→w.cell? (x.add i)=some (.int .i64 (zs.getD i 0)))∧∀ n∈zs,(Lit.int .i64 n).wf=true)
 (hG:∀ g o,bD.ZJ g=some o→g < w.heap.size∧o (w.heap[g]?))
 (c:∀ l:List Int,Pu P f [.list 1 (l.map I)] (.bool true)):
 Calls P f #[.slice a len cap] w fun e w'=>e=.returned (.bool true)∧Below w.heap.size w w':=by
 let S:Nat→Prop:=fun n=>n < w.heap.size
 have vX:∃ l:List Int,At w S (.list 1 (l.map I)) (.slice a len cap):=by
  rcases Fc with ⟨rfl,rfl,rfl,rfl⟩ | ⟨x,rfl,h1,h2,h3,h4,h5⟩
  ·exact ⟨[],.list 1 [] none 0 [] (by simp) rfl (by simp [flat]) (by simp) (by simp)⟩
  ·refine ⟨zs.take len,?_⟩
   have hl:((zs.take len).map I).length=len:=by simp;omega
   have key:=At.list (w:=w) (S:=S) 1 ((zs.take len).map I) (some x) cap ((zs.take len).map (fun n=>Value.int .i64 n)) ?_ ?_ ?_ ?_ ?_
   ·rw [hl] at key;exact key
   ·intro y hy
    obtain ⟨n,_,rfl⟩:=List.mem_map.1 hy
    exact ⟨rfl,fun c hc=>by simp [AV.cells] at hc;subst hc;rfl⟩
   ·rw [HB];simp
   ·intro i c v hc hv
    rw [HB,List.getElem?_map] at hc
    rw [List.getElem?_map] at hv
    cases hn:(zs.take len)[i]? with
    | none=>rw [hn] at hc;cases hc
    | some n=>
      rw [hn] at hc hv
      obtain rfl:=Option.some.inj hc
      obtain rfl:=Option.some.inj hv
      exact .int _ _
   ·intro i v hv
    rw [List.getElem?_map] at hv
    cases hn:(zs.take len)[i]? with
    | none=>rw [hn] at hv;cases hv
    | some n=>
      rw [hn] at hv
      obtain rfl:=Option.some.inj hv
      have hi:i < zs.length:=by
       have:=(List.getElem?_eq_some_iff.1 hn).1
       simp at this;omega
      have hz:zs.getD i 0=n:=by
       rw [List.getElem?_take] at hn
       split at hn
       ·rw [List.getD_eq_getElem?_getD,hn];rfl
       ·cases hn
      have yX:=h4 i hi
      rw [hz] at yX
      obtain ⟨bk,of,sp⟩:=x
      have Tj:sp=none:=by
       cases sp with
       | none=>rfl
       | some q=>
         have h40:=h4 0 (by omega)
         unfold World.cell? Addr.add at h40
         simp only [if_true] at h40
         split at h40
         ·simp at h40
         ·cases h40
      subst Tj
      rw [pQ] at yX
      have hblk:bk < w.heap.size:=by
       rcases Nat.lt_or_ge bk w.heap.size with h | h
       ·exact h
       ·unfold World.cell? at yX
        simp only [Array.getElem?_eq_none h] at yX
        cases yX
      exact ⟨_,rfl,rfl,hblk,yX⟩
   ·rw [hl];exact h1
 obtain ⟨l,vX⟩:=vX
 refine (c l w S #[.slice a len cap] (vp (fun n hn=>hn) hG) rfl ?_).mono ?_
 ·intro i c' v hc hv
  match i with
  | 0=>simp at hc hv;subst hc;subst hv;exact vX
  | i+1=>simp at hc
 ·rintro e w' ⟨v,r,h',S',rfl,rfl,h1,h2,h3⟩
  refine ⟨by rw [h1.ke],h3.os,h3.tape,h3.output,h3.size,fun k hk=>(h3.mZ k hk).2⟩
end Go.Eng
namespace Go.Eng
open Go
variable [bD]
def oL (e:Env) (d:Option Nat) (o:Option AV):Env:=match d with
 | some d=>fun s=>if d=s then o else e s
 | none=>e
theorem kh {e:Env} {d:Option Nat} {o:Option AV} {s:Nat} (h:d≠some s):oL e d o s=e s:=by
 cases d with
 | none=>rfl
 | some d=>simp only [oL];rw [if_neg (fun e=>h (by rw [e]))]
theorem nh {e:Env} {o:Option AV} {s:Nat}:oL e (some s) o s=o:=by simp [oL]
section order
variable {P:Program} {all:Array Oper} {n m:Nat} {hp:Heap}
def yE (all:Array Oper) (ng:Nat→Option AV) (e:Env) (listed:Array Bool):Nat→Env
 | 0=>e
 | k+1=>if listed.getD k false then oL (yE all ng e listed k) ((all[k]?).bind (·.dst)) (ng k) else yE all ng e listed k
variable {ng:Nat→Option AV} {en:Nat→Env} {e:Env}
theorem OT (hB:ym all m) {listed:Array Bool} (L:Tn all m listed) (h0:en 0=e) (hs:∀ i o,i < m→all[i]? =some o→en (i+1)=oL (en i) o.dst (ng i)) (hm:m≤all.size)
 {i:Nat} {o:Oper} (ho:all[i]? =some o) (JO:i < m) (Ag:listed.getD i false=false) (hr:∀ j,Dx all i j→listed.getD j false=true) {s:Nat} (QG:s∈looks all o):∀ k,k≤all.size→yE all ng e listed k s=en (min k i) s:=by
 intro k
 induction k with
 | zero=>intro _;simp [yE,h0]
 | succ k ih=>
   intro hk
   have xJ:=ih (by omega)
   have xK:all[k]? =some all[k]:=by simp [show k < all.size by omega]
   simp only [yE,xK,Option.bind_some]
   rcases Nat.lt_trichotomy k i with lV | heq | QH
   ·rw [Nat.min_eq_left (by omega)] at xJ
    rw [Nat.min_eq_left (by omega),hs k _ (by omega) xK]
    by_cases hd:(all[k]).dst=some s
    ·have hl:listed.getD k false=true:=hr k ((lH hB ho xK lV).1 JO (A5 hd QG))
     rw [if_pos hl,hd,nh,nh]
    ·rw [kh hd]
     split
     ·rw [kh hd];exact xJ
     ·exact xJ
   ·subst heq
    rw [Ag]
    simp only [Bool.false_eq_true,if_false]
    rw [Nat.min_eq_right (by omega)]
    rw [Nat.min_eq_right (by omega)] at xJ
    exact xJ
   ·rw [Nat.min_eq_right (by omega)] at xJ
    rw [Nat.min_eq_right (by omega)]
    by_cases hl:listed.getD k false=true
    ·by_cases hd:(all[k]).dst=some s
     ·exfalso
      have hw:=(lH hB xK ho QH).1 (L.head k hl) (DA hd QG)
      have:=mL.Ua L.closed hw hl
      rw [Ag] at this;cases this
     ·rw [if_pos hl,kh hd];exact xJ
    ·rw [if_neg hl];exact xJ
theorem QY (hB:ym all m) {listed:Array Bool} (L:Tn all m listed) {i:Nat} {o:Oper} (ho:all[i]? =some o) (JO:i < m) (Ag:listed.getD i false=false) (s:Nat):
 ∀ k,k≤all.size→yE all ng e (listed.setIfInBounds i true) k s=(if i < k then oL (yE all ng e listed k) o.dst (ng i) s else yE all ng e listed k s):=by
 have hi:i < listed.size:=by rw [L.size];exact (Array.getElem?_eq_some_iff.1 ho).1
 intro k
 induction k with
 | zero=>intro _;simp [yE]
 | succ k ih=>
   intro hk
   have xJ:=ih (by omega)
   have xK:all[k]? =some all[k]:=by simp [show k < all.size by omega]
   simp only [yE,xK,Option.bind_some,kf hi]
   rcases Nat.lt_trichotomy k i with lV | heq | QH
   ·rw [if_neg (by omega)] at xJ
    have e1:(if k=i then true else listed.getD k false)=listed.getD k false:=if_neg (by omega)
    rw [e1,if_neg (show ¬ i < k+1 by omega)]
    by_cases hl:listed.getD k false=true
    ·rw [if_pos hl,if_pos hl]
     by_cases hd:(all[k]).dst=some s
     ·rw [hd,nh,nh]
     ·rw [kh hd,kh hd];exact xJ
    ·rw [if_neg hl,if_neg hl];exact xJ
   ·subst heq
    rw [if_neg (by omega)] at xJ
    have e1:(if k=k then true else listed.getD k false)=true:=if_pos rfl
    rw [e1,if_pos (show k < k+1 by omega),if_pos rfl,Ag,if_neg Bool.false_ne_true]
    obtain rfl:all[k]=o:=by rw [xK] at ho;exact Option.some.inj ho
    by_cases hd:(all[k]).dst=some s
    ·rw [hd,nh,nh]
    ·rw [kh hd,kh hd];exact xJ
   ·rw [if_pos QH] at xJ
    have e1:(if k=i then true else listed.getD k false)=listed.getD k false:=if_neg (by omega)
    rw [e1,if_pos (show i < k+1 by omega)]
    by_cases hl:listed.getD k false=true
    ·rw [if_pos hl,if_pos hl]
     by_cases hd:(all[k]).dst=some s
     ·by_cases ON:o.dst=some s
      ·exfalso
       have hw:=(lH hB xK ho QH).1 (L.head k hl) (HA ON hd)
       have:=mL.Ua L.closed hw hl
       rw [Ag] at this;cases this
      ·rw [hd,nh,kh ON,nh]
     ·by_cases ON:o.dst=some s
      ·rw [kh hd,xJ,ON,nh,nh]
      ·rw [kh hd,xJ,kh ON,kh ON,kh hd]
    ·rw [if_neg hl,if_neg hl];exact xJ
structure Tok where
 prod:Option Nat
 cons:Option Nat
 rds:List Nat
 ent:Bk→Bk×Ob
 adr:Option Nat
 sft:List Nat
def Tok.ix (t:Tok):Option Nat:=match t.adr with | some a=>some a | none=>t.prod
def Tok.at (t:Tok) (β:Nat→Bk):Bk×Ob:=t.ent (match t.ix with | some i=>β i | none=>⟨none,0⟩)
def A7 (listed:Array Bool) (t:Tok):Bool:=(match t.prod with | none=>true | some i=>listed.getD i false)&&(match t.cons with | none=>true | some i=>!listed.getD i false)
def D3 (i:Nat) (t:Tok):Bool:=match t.cons with | some c=>Nat.beq c i | none=>false
def Uf (i:Nat) (t:Tok):Bool:=match t.prod with | some c=>Nat.beq c i | none=>false
def NJ (i:Nat) (t:Tok):Bool:=t.rds.contains i
def BP (tk:List Tok) (i:Nat) (β:Nat→Bk):Heap:=(tk.filter (NJ i)).map (·.at β)
def Tl (i:Nat) (t:Tok):Bool:=t.sft.contains i
def yY (tk:List Tok) (i:Nat) (β:Nat→Bk):List Heap:=match tk.filter (Tl i) with
 | []=>[BP tk i β]
 | l=>l.map fun t=>t.at β :: BP tk i β
def uS (tk:List Tok) (listed:Array Bool) (β:Nat→Bk):Heap:=(tk.filter (A7 listed)).map (·.at β)
def xO (tk:List Tok) (i:Nat) (β:Nat→Bk):Heap:=(tk.filter (D3 i)).map (·.at β)
def mH (tk:List Tok) (i:Nat) (β:Nat→Bk):Heap:=(tk.filter (Uf i)).map (·.at β)
def rS (β:Nat→Bk) (i:Nat) (b:Bk):Nat→Bk:=fun k=>bif Nat.beq k i then b else β k
theorem Ug (β:Nat→Bk) (i:Nat) (b:Bk):rS β i b i=b:=by simp [rS]
theorem NK {β:Nat→Bk} {i k:Nat} {b:Bk} (h:k≠i):rS β i b k=β k:=by simp [rS,tC h]
def QZ (tk:List Tok) (β:Nat→Bk):Heap:=(tk.filter (fun t=>t.cons.isNone)).map (·.at β)
def aa3 (A:List Nat) (m:Nat) (tk:List Tok):Bool:=tk.all fun t=>
 (match t.prod with | some p=>Nat.blt p m | none=>true)&&(match t.cons with | some c=>Nat.blt c m&&(match t.prod with | some p=>(A.getD c 0).testBit p | none=>true) | none=>true)&&
 (match t.adr with | some a=>(match t.prod with | some p=>(A.getD p 0).testBit a | none=>false) | none=>true)&&
 t.rds.all fun i=>Nat.blt i m&&(match t.prod with | some p=>(A.getD i 0).testBit p | none=>true)&&(match t.cons with | some c=>(A.getD c 0).testBit i | none=>true)
def V1 (A:List Nat) (m:Nat) (tk:List Tok):Bool:=(List.range m).all fun i=>match tk.filter (Tl i) with
 | []=>true
 | [t0,t1]=>(match t0.cons,t1.prod with | some j,some j'=>Nat.beq j j'&&!Nat.beq j i | _,_=>false)&&(match t0.prod with | some p=>(A.getD i 0).testBit p | none=>true)&&(match t1.cons with | some c=>(A.getD c 0).testBit i | none=>true)&&!NJ i t0&&!NJ i t1
 | _=>false
def Ml (all:Array Oper) (m:Nat) (tk:List Tok):Prop:=∀ i,i < m→tk.filter (Tl i)=[]∨∃ t0 t1 j,tk.filter (Tl i)=[t0,t1]∧t0.cons=some j∧t1.prod=some j∧j≠i∧(∀ p,t0.prod=some p→Dx all i p)∧(∀ c,t1.cons=some c→Dx all c i)∧NJ i t0=false∧NJ i t1=false
theorem Mm {A:List Nat} {tk:List Tok} (hA:OM all=A) (h:V1 A m tk=true):Ml all m tk:=by
 intro i hi
 have:=List.all_eq_true.1 h i (List.mem_range.2 hi)
 split at this
 ·rename_i e;exact .inl e
 ·rename_i t0 t1 e
  simp only [Bool.and_eq_true,Bool.not_eq_true'] at this
  obtain ⟨⟨⟨⟨h1,h2⟩,h3⟩,h4⟩,h5⟩:=this
  split at h1
  ·rename_i j j' hj YG
   simp only [Bool.and_eq_true,Bool.not_eq_true'] at h1
   obtain ⟨h6,h7⟩:=h1
   obtain rfl:=Nat.eq_of_beq_eq_true h6
   refine .inr ⟨t0,t1,j,e,hj,YG,fun e=>by rw [e] at h7;simp at h7,fun p hp=>?_,fun c hc=>?_,h4,h5⟩
   ·rw [hp] at h2;subst hA;exact qW h2
   ·rw [hc] at h3;subst hA;exact qW h3
  ·cases h1
 ·cases this
def Fe (all:Array Oper) (m:Nat) (tk:List Tok):Prop:=∀ t∈tk,(∀ p,t.prod=some p→p < m)∧(∀ c,t.cons=some c→c < m∧∀ p,t.prod=some p→Dx all c p)∧(∀ i,NJ i t=true→i < m∧(∀ p,t.prod=some p→Dx all i p)∧∀ c,t.cons=some c→Dx all c i)∧∀ a,t.adr=some a→∃ p,t.prod=some p∧Dx all p a
theorem OU {A:List Nat} {tk:List Tok} (hA:OM all=A) (h:aa3 A m tk=true):Fe all m tk:=by
 intro t ht
 have:=List.all_eq_true.1 h t ht
 rw [Bool.and_eq_true,Bool.and_eq_true,Bool.and_eq_true] at this
 obtain ⟨⟨⟨h1,h2⟩,h9⟩,h4⟩:=this
 subst hA
 refine ⟨fun p hp=>by rw [hp] at h1;simpa using h1,fun c hc=>?_,fun i hi=>?_,fun a ha=>?_⟩
 ·rw [hc] at h2
  simp only [Bool.and_eq_true] at h2
  refine ⟨by simpa using h2.1,fun p hp=>?_⟩
  have h3:=h2.2
  rw [hp] at h3
  exact qW h3
 ·have h5:=List.all_eq_true.1 h4 i (by simpa [NJ] using hi)
  rw [Bool.and_eq_true,Bool.and_eq_true] at h5
  obtain ⟨⟨h6,h7⟩,h8⟩:=h5
  exact ⟨by simpa using h6,fun p hp=>by rw [hp] at h7;exact qW h7,fun c hc=>by rw [hc] at h8;exact qW h8⟩
 ·rw [ha] at h9
  cases hp:t.prod with
  | none=>rw [hp] at h9;cases h9
  | some p=>rw [hp] at h9;exact ⟨p,rfl,qW h9⟩
theorem xP {α:Type} (p q:α→Bool) (l:List α):(l.filter p).Perm (l.filter (fun x=>p x&&q x)++l.filter (fun x=>p x&&!q x)):=by
 induction l with
 | nil=>exact List.Perm.refl _
 | cons x l ih=>
   simp only [List.filter_cons]
   cases hp:p x<;>cases hq:q x
   ·simpa using ih
   ·simpa using ih
   ·simp only [Bool.true_and,Bool.not_false,Bool.false_eq_true,if_false,if_true]
    exact (List.Perm.cons x ih).trans List.perm_middle.symm
   ·simp only [Bool.true_and,Bool.not_true,Bool.false_eq_true,if_false,if_true,List.cons_append]
    exact List.Perm.cons x ih
theorem WT {tk:List Tok} (hT:Fe all m tk) {listed:Array Bool} {i:Nat} (Ag:listed.getD i false=false) (IL:∀ j,Dx all i j→listed.getD j false=true) (β:Nat→Bk):
 (uS tk listed β).Perm (xO tk i β++(tk.filter (fun t=>A7 listed t&&!D3 i t)).map (·.at β)):=by
 unfold uS xO
 rw [← List.map_append]
 refine List.Perm.map _ ?_
 have e:tk.filter (D3 i)=tk.filter (fun t=>A7 listed t&&D3 i t):=by
  apply List.filter_congr
  intro t ht
  cases hc:D3 i t with
  | false=>simp
  | true=>
    unfold D3 at hc
    split at hc
    ·rename_i c OV
     obtain rfl:c=i:=Nat.eq_of_beq_eq_true hc
     have:=(hT t ht).2.1 c OV
     have Z5:A7 listed t=true:=by
      unfold A7
      rw [OV]
      simp only [Ag,Bool.not_false,Bool.and_true]
      split
      ·rfl
      ·rename_i p hp;exact IL p (this.2 p hp)
     rw [Z5];rfl
    ·cases hc
 rw [e]
 exact xP _ _ _
theorem Uh {tk:List Tok} (hT:Fe all m tk) {listed:Array Bool} (Hs:mL all listed) {i:Nat} (hi:i < listed.size) (Ag:listed.getD i false=false) (IM:∀ c,Dx all c i→c≠i) (β:Nat→Bk) (b:Bk):
 (uS tk (listed.setIfInBounds i true) (rS β i b)).Perm (mH tk i (rS β i b)++(tk.filter (fun t=>A7 listed t&&!D3 i t)).map (·.at β)):=by
 unfold uS mH
 have e2:(tk.filter (fun t=>A7 listed t&&!D3 i t)).map (·.at β)=(tk.filter (fun t=>A7 listed t&&!D3 i t)).map (·.at (rS β i b)):=by
  apply List.map_congr_left
  intro t ht
  have h0:=(List.mem_filter.1 ht).1
  have h1:=(List.mem_filter.1 ht).2
  rw [Bool.and_eq_true] at h1
  have hpr:∀ p,t.prod=some p→listed.getD p false=true:=by
   intro p hp
   have:=h1.1
   unfold A7 at this
   rw [hp,Bool.and_eq_true] at this
   exact this.1
  unfold Tok.at
  cases hx:t.ix with
  | none=>rfl
  | some p=>
    have Qy:listed.getD p false=true:=by
     unfold Tok.ix at hx
     cases ha:t.adr with
     | none=>rw [ha] at hx;exact hpr p hx
     | some a=>
       rw [ha] at hx
       obtain rfl:=Option.some.inj hx
       obtain ⟨q,q1,q2⟩:=(hT t h0).2.2.2 a ha
       exact Hs.Ua q2 (hpr q q1)
    have:p≠i:=fun e=>by subst e;rw [Ag] at Qy;cases Qy
    simp only [NK this]
 rw [e2,← List.map_append]
 refine List.Perm.map _ ?_
 refine (xP _ (Uf i) _).trans ?_
 have f1:tk.filter (fun t=>A7 (listed.setIfInBounds i true) t&&Uf i t)=tk.filter (Uf i):=by
  apply List.filter_congr
  intro t ht
  cases hp:Uf i t with
  | false=>simp
  | true=>
    unfold Uf at hp
    split at hp
    ·rename_i p hpp
     obtain rfl:p=i:=Nat.eq_of_beq_eq_true hp
     have Z5:A7 (listed.setIfInBounds p true) t=true:=by
      unfold A7
      rw [hpp]
      simp only [kf hi,if_true,Bool.true_and]
      cases hc:t.cons with
      | none=>rfl
      | some c=>
        have IL:=((hT t ht).2.1 c hc).2 p hpp
        have uc:=IM c IL
        simp only [uc,if_false]
        cases hl:listed.getD c false with
        | false=>rfl
        | true=>have:=Hs.Ua IL hl;rw [Ag] at this;cases this
     rw [Z5];rfl
    ·cases hp
 have f2:tk.filter (fun t=>A7 (listed.setIfInBounds i true) t&&!Uf i t)=tk.filter (fun t=>A7 listed t&&!D3 i t):=by
  apply List.filter_congr
  intro t ht
  unfold A7 Uf D3
  cases hp:t.prod with
  | none=>
    cases hc:t.cons with
    | none=>simp
    | some c=>
      simp only [kf hi]
      by_cases Tp:c=i
      ·subst Tp;simp
      ·have:Nat.beq c i=false:=tC Tp
       simp [Tp,this]
  | some p=>
    by_cases YH:p=i
    ·subst YH
     simp [Ag]
    ·have hb:Nat.beq p i=false:=tC YH
     cases hc:t.cons with
     | none=>simp [kf hi,YH,hb]
     | some c=>
       simp only [kf hi,YH,hb,if_false]
       by_cases Tp:c=i
       ·subst Tp;simp
       ·have:Nat.beq c i=false:=tC Tp
        simp [Tp,this]
 rw [f1,f2]
theorem Q0 {tk:List Tok} (hT:Fe all m tk) {listed:Array Bool} (Hs:mL all listed) {i:Nat} (Ag:listed.getD i false=false) (IL:∀ j,Dx all i j→listed.getD j false=true) (IM:∀ c,Dx all c i→c≠i) (β:Nat→Bk):
 ((tk.filter (fun t=>A7 listed t&&!D3 i t)).map (·.at β)).Perm (BP tk i β++(tk.filter (fun t=>(A7 listed t&&!D3 i t)&&!NJ i t)).map (·.at β)):=by
 unfold BP
 rw [← List.map_append]
 refine List.Perm.map _ ?_
 have e:tk.filter (NJ i)=tk.filter (fun t=>(A7 listed t&&!D3 i t)&&NJ i t):=by
  apply List.filter_congr
  intro t ht
  cases hr:NJ i t with
  | false=>simp
  | true=>
    obtain ⟨_,q2,q3⟩:=(hT t ht).2.2.1 i hr
    have h1:A7 listed t=true:=by
     unfold A7
     have e1:(match t.prod with | none=>true | some i=>listed.getD i false)=true:=by
      cases hp:t.prod with
      | none=>rfl
      | some p=>exact IL p (q2 p hp)
     have e2:(match t.cons with | none=>true | some i=>!listed.getD i false)=true:=by
      cases hc:t.cons with
      | none=>rfl
      | some c=>
        have:=q3 c hc
        show (!listed.getD c false)=true
        cases hl:listed.getD c false with
        | false=>rfl
        | true=>have:=Hs.Ua this hl;rw [Ag] at this;cases this
     rw [e1,e2];rfl
    have h2:D3 i t=false:=by
     unfold D3
     cases hc:t.cons with
     | none=>rfl
     | some c=>exact tC (IM c (q3 c hc))
    rw [h1,h2];rfl
 rw [e]
 exact xP _ _ _
theorem OW {tk:List Tok} (hT:Fe all m tk) (hS:Ml all m tk) {listed:Array Bool} (Hs:mL all listed) {i:Nat} (JO:i < m) (Ag:listed.getD i false=false) (IL:∀ j,Dx all i j→listed.getD j false=true) (IM:∀ c,Dx all c i→c≠i) (β:Nat→Bk):
 ∃ X∈yY tk i β,∃ rest,((tk.filter (fun t=>A7 listed t&&!D3 i t)).map (·.at β)).Perm (X++rest):=by
 have h0:=Q0 hT Hs Ag IL IM β
 rcases hS i JO with e | ⟨t0,t1,j,e,a1,a2,a3,a4,a5,a6,a7⟩
 ·exact ⟨BP tk i β,by unfold yY;rw [e];simp,_,h0⟩
 ·have m0:t0∈tk:=(List.mem_filter.1 (by rw [e];simp:t0∈tk.filter (Tl i))).1
  have m1:t1∈tk:=(List.mem_filter.1 (by rw [e];simp:t1∈tk.filter (Tl i))).1
  have go:∀ t,t∈tk→A7 listed t=true→D3 i t=false→NJ i t=false→∃ rest,((tk.filter (fun t=>A7 listed t&&!D3 i t)).map (·.at β)).Perm ((t.at β :: BP tk i β)++rest):=by
   intro t ht h1 h2 h3
   have hm:t∈tk.filter (fun t=>(A7 listed t&&!D3 i t)&&!NJ i t):=List.mem_filter.2 ⟨ht,by simp [h1,h2,h3]⟩
   obtain ⟨a,b,Ff⟩:=List.append_of_mem hm
   rw [Ff] at h0
   refine ⟨(a++b).map (·.at β),h0.trans ?_⟩
   rw [List.map_append,List.map_cons,List.map_append]
   refine (List.Perm.append_left _ List.perm_middle).trans ?_
   exact List.perm_middle
  have hX:∀ t,t∈[t0,t1]→(t.at β :: BP tk i β)∈yY tk i β:=by
   intro t ht
   unfold yY
   rw [e]
   exact List.mem_map.2 ⟨t,ht,rfl⟩
  cases hj:listed.getD j false with
  | false=>
    have h1:A7 listed t0=true:=by
     unfold A7
     rw [a1]
     simp only [hj,Bool.not_false,Bool.and_true]
     split
     ·rfl
     ·rename_i p hp;exact IL p (a4 p hp)
    have h2:D3 i t0=false:=by unfold D3;rw [a1];exact tC a3
    obtain ⟨rest,hr⟩:=go t0 m0 h1 h2 a6
    exact ⟨_,hX t0 (by simp),rest,hr⟩
  | true=>
    have h1:A7 listed t1=true:=by
     unfold A7
     rw [a2]
     simp only [hj,Bool.true_and]
     split
     ·rfl
     ·rename_i c hc
      cases hl:listed.getD c false with
      | false=>rfl
      | true=>have:=Hs.Ua (a5 c hc) hl;rw [Ag] at this;cases this
    have h2:D3 i t1=false:=by
     unfold D3
     split
     ·rename_i c hc;exact tC (IM c (a5 c hc))
     ·rfl
    obtain ⟨rest,hr⟩:=go t1 m1 h1 h2 a7
    exact ⟨_,hX t1 (by simp),rest,hr⟩
def TV (P:Program) (all:Array Oper) (n:Nat) (B:Heap) (o:Oper) (e:Env) (Ti:Heap) (V:Bk→AV) (Pi:Bk→Heap):Prop:=
 ∀ w S a,a.tmps.size=n→a.defers=[]→dO w S (Ti++B)→IF w S (looks all o) e a→∀ (K:Act→World→Prop) (Q:Exit→Act→World→Prop),
   (∀ b v w' S',lD w S (Ti++B) w' S' (Pi b++B)→dO w' S' (Pi b++B)→At w' S' (V b) v→K (a.put o.dst v) w')→o.wp P a w K Q
def vr (P:Program) (all:Array Oper) (n:Nat) (B:Heap) (o:Oper) (e:Env) (Ti:Heap) (V:Bk→AV) (Pi:Bk→Heap):Prop:=
 (∀ d,o.dst=some d→d < n)∧((qP all o e true∧TV P all n B o e Ti V Pi)∨(qP all o e false∧∀ b,Pi b=Ti∧V b=.raw undef))
def L5 (e c:Env):Env:=fun s=>match e s with | some av=>some av | none=>c s
theorem Q1 {e c:Env} {s:Nat} {av:AV} (h:e s=some av):L5 e c s=some av:=by simp [L5,h]
theorem qP.up {all:Array Oper} {o:Oper} {e c:Env} {b:Bool} (h:qP all o e b):qP all o (L5 e c) b:=by
 unfold qP at *
 cases hg:o.guard with
 | none=>rw [hg] at h;exact h
 | some g=>
   rw [hg] at h
   obtain ⟨s,h1,h2⟩:=h
   refine ⟨s,h1,?_⟩
   rcases h2 with ⟨x,h3,h4⟩ | ⟨h3,h4⟩
   ·exact .inl ⟨x,Q1 h3,h4⟩
   ·exact .inr ⟨Q1 h3,h4⟩
theorem IF.down {w:World} {S:Nat→Prop} {ls:List Nat} {e c:Env} {a:Act} (h:IF w S ls (L5 e c) a):IF w S ls e a:=fun s hs av sJ=>h s hs av (Q1 sJ)
theorem vr.up {P:Program} {all:Array Oper} {n:Nat} {B:Heap} {o:Oper} {e c:Env} {Ti:Heap} {V:Bk→AV} {Pi:Bk→Heap} (h:vr P all n B o e Ti V Pi):vr P all n B o (L5 e c) Ti V Pi:=by
 refine ⟨h.1,h.2.imp (fun x=>⟨x.1.up,fun w S a h1 h2 h3 h4=>x.2 w S a h1 h2 h3 h4.down⟩) (fun x=>⟨x.1.up,x.2⟩)⟩
theorem Q2 {all:Array Oper} {ng:Nat→Option AV} {V:Nat→Bk→AV} {cn:Nat→(Nat→Bk)→Env} {m:Nat} (h0:∀ β s,cn 0 β s=none) (hc:∀ i o,i < m→all[i]? =some o→∀ β,cn (i+1) β=match ng i with | none=>oL (cn i β) o.dst (some (V i (β i))) | some _=>cn i β) (hm:m≤all.size):
 ∀ i,i≤m→∀ β s av,cn i β s=some av→∃ k o,k < i∧all[k]? =some o∧o.dst=some s∧ng k=none∧av=V k (β k):=by
 intro i
 induction i with
 | zero=>intro _ β s av h;rw [h0] at h;cases h
 | succ i ih=>
   intro hi β s av h
   have xK:all[i]? =some all[i]:=by simp [show i < all.size by omega]
   rw [hc i _ (by omega) xK] at h
   cases sJ:ng i with
   | some x=>
     rw [sJ] at h
     obtain ⟨k,o,h1,h2⟩:=ih (by omega) β s av h
     exact ⟨k,o,by omega,h2⟩
   | none=>
     rw [sJ] at h
     by_cases hd:(all[i]).dst=some s
     ·simp only [hd,nh] at h
      exact ⟨i,_,by omega,xK,hd,sJ,(Option.some.inj h).symm⟩
     ·simp only [kh hd] at h
      obtain ⟨k,o,h1,h2⟩:=ih (by omega) β s av h
      exact ⟨k,o,by omega,h2⟩
theorem OX {cn:Nat→(Nat→Bk)→Env} {B:Heap} {tk:List Tok} {V:Nat→Bk→AV} (hB:ym all m) (hT:Fe all m tk) (hSf:Ml all m tk) (hm:m≤all.size) {Q:Exit→Act→World→Prop} (h0:en 0=e)
 (WQ:∀ β s,cn 0 β s=none) (hcn:∀ i o,i < m→all[i]? =some o→∀ β,cn (i+1) β=match ng i with | none=>oL (cn i β) o.dst (some (V i (β i))) | some _=>cn i β)
 (hs:∀ i o,i < m→all[i]? =some o→(∀ β,∀ X∈yY tk i β,vr P all n (X++B) o (L5 (en i) (cn i β)) (xO tk i β) (V i) (fun b=>mH tk i (rS β i b)))∧en (i+1)=oL (en i) o.dst (ng i)∧(∀ av,ng i=some av→∀ b,V i b=av))
 (hU:∀ i j oi oj d,i < m→j < m→i≠j→all[i]? =some oi→all[j]? =some oj→ng i=none→oi.dst=some d→oj.dst≠some d) {w0:World} {S0:Nat→Prop} {hp0:Heap}
 (fin:∀ β a w S,a.tmps.size=n→a.defers=[]→dO w S (QZ tk β++B)→lD w0 S0 hp0 w S (QZ tk β++B)→E7 w S (en m) a→(∀ j o d,j < m→all[j]? =some o→ng j=none→o.dst=some d→∃ v,a.tmps[d]? =some v∧At w S (V j (β j)) v)→wpList P all Q (all.toList.drop m) a w):
 ∀ (fuel:Nat) (listed:Array Bool) (a:Act) (w:World) (S:Nat→Prop) (β:Nat→Bk),Tn all m listed→(listed.toList.count true)+fuel=all.size→a.tmps.size=n→a.defers=[]→dO w S (uS tk listed β++B)→lD w0 S0 hp0 w S (uS tk listed β++B)→E7 w S (yE all ng e listed all.size) a→
   (∀ j o d,listed.getD j false=true→all[j]? =some o→ng j=none→o.dst=some d→∃ v,a.tmps[d]? =some v∧At w S (V j (β j)) v)→
   wpAny P .any all Q fuel listed a w:=by
 have Z7:∀ i o,i < m→all[i]? =some o→en (i+1)=oL (en i) o.dst (ng i):=fun i o h1 h2=>(hs i o h1 h2).2.1
 have IM:∀ c i,Dx all c i→c≠i:=by
  have key:∀ c i,Dx all c i→i < c:=by
   intro c i h
   have one:∀ {j i:Nat} {oj:Oper},all[j]? =some oj→waits oj i=true→i < j:=by
    intro j i oj hj hw
    simp only [waits,List.any_eq_true,Bool.and_eq_true] at hw
    obtain ⟨e',he',EU,WK⟩:=hw
    have:=A4 hB hj (by simpa using he') EU
    obtain rfl:e'.on=i:=Nat.eq_of_beq_eq_true WK
    exact this
   induction h with
   | one hj hw=>exact one hj hw
   | step hj hw _ ih=>have:=one hj hw;omega
  intro c i h e;have:=key c i h;omega
 have done:∀ (fuel:Nat) (listed:Array Bool) (a:Act) (w:World) (S:Nat→Prop) (β:Nat→Bk),Tn all m listed→(listed.toList.count true)+fuel=all.size→a.tmps.size=n→a.defers=[]→dO w S (uS tk listed β++B)→lD w0 S0 hp0 w S (uS tk listed β++B)→E7 w S (yE all ng e listed all.size) a→
  (∀ j o d,listed.getD j false=true→all[j]? =some o→ng j=none→o.dst=some d→∃ v,a.tmps[d]? =some v∧At w S (V j (β j)) v)→
  (∀ i,i < m→listed.getD i false=true)→wpAny P .any all Q fuel listed a w:=by
  intro fuel listed a w S β L hc j9 Mj hr hg yl Mn rj
  have Kl:∀ i,m≤i→listed.getD i false=false:=fun i hi=>by
   cases hv:listed.getD i false with
   | false=>rfl
   | true=>have:=L.head i hv;omega
  have WL:listed.toList.count true=m:=by
   have:listed.toList=List.replicate m true++List.replicate (all.size - m) false:=by
    apply List.ext_getElem?
    intro i
    rcases Nat.lt_or_ge i m with hi | hi
    ·have w8:i < listed.size:=by rw [L.size];omega
     rw [List.getElem?_append_left (by simpa using hi)]
     have:=rj i hi
     simp [w8] at this
     simp [w8,hi,this]
    ·rw [List.getElem?_append_right (by simpa using hi)]
     rcases Nat.lt_or_ge i listed.size with w8 | w8
     ·have:=Kl i hi
      simp [w8] at this
      have h2:i - m < all.size - m:=by rw [L.size] at w8;omega
      simp [w8,h2,this]
     ·have h2:¬ i - m < all.size - m:=by rw [L.size] at w8;omega
      simp [List.getElem?_eq_none (l:=listed.toList) (by simpa using w8),h2]
   rw [this,List.count_append,List.count_replicate,List.count_replicate]
   simp
  have WM:yE all ng e listed all.size=en m:=by
   have key:∀ k,k≤all.size→yE all ng e listed k=en (min k m):=by
    intro k
    induction k with
    | zero=>intro _;simp [yE,h0]
    | succ k ih=>
      intro hk
      have xK:all[k]? =some all[k]:=by simp [show k < all.size by omega]
      simp only [yE,xK,Option.bind_some,ih (by omega)]
      rcases Nat.lt_or_ge k m with h | h
      ·rw [if_pos (rj k h),Nat.min_eq_left (by omega),Nat.min_eq_left (by omega),Z7 k _ h xK]
      ·rw [if_neg (by rw [Kl k h];simp),Nat.min_eq_right (by omega),Nat.min_eq_right (by omega)]
   rw [key all.size (Nat.le_refl _),Nat.min_eq_right hm]
  have aa4:uS tk listed β=QZ tk β:=by
   unfold uS QZ
   congr 1
   apply List.filter_congr
   intro t ht
   obtain ⟨q1,q2,_⟩:=hT t ht
   unfold A7
   cases hp:t.prod with
   | none=>
     cases hc:t.cons with
     | none=>rfl
     | some c=>simp [rj c (q2 c hc).1]
   | some p=>
     cases hc:t.cons with
     | none=>simp [rj p (q1 p hp)]
     | some c=>simp [rj c (q2 c hc).1]
  rw [WM] at yl
  rw [aa4] at hr hg
  exact Kk hB fuel m listed a w (Nat.le_refl _) (by omega) L.size rj Kl (fin β a w S j9 Mj hr hg yl (fun j o d hj ho sJ hd=>Mn j o d (rj j hj) ho sJ hd))
 intro fuel
 induction fuel with
 | zero=>
   intro listed a w S β L hc j9 Mj hr hg yl Mn
   refine done 0 listed a w S β L hc j9 Mj hr hg yl Mn (fun i hi=>?_)
   have Km:listed.toList.count true=listed.toList.length:=by rw [Array.length_toList,L.size];omega
   have rj:=List.count_eq_length.1 Km
   have w8:i < listed.size:=by rw [L.size];omega
   have:=rj listed[i] (by simp)
   simp [w8];exact this.symm
 | succ fuel ih=>
   intro listed a w S β L hc j9 Mj hr hg yl Mn
   by_cases rj:∀ i,i < m→listed.getD i false=true
   ·exact done _ listed a w S β L hc j9 Mj hr hg yl Mn rj
   ·refine ⟨fun QK=>(rj fun i hi=>CT hB L.size QK i (by omega)).elim,fun i hi=>?_⟩
    obtain ⟨L4,Mi⟩:=zH hi
    have Ag:=EC Mi
    have Dz:all[i]? =some all[i]:=by simp [L4]
    have JO:i < m:=by
     rcases Nat.lt_or_ge i m with h | h
     ·exact h
     ·refine (rj fun j hj=>?_).elim
      have Tm:all[j]? =some all[j]:=by simp [show j < all.size by omega]
      exact mL.ready L.closed ((lH hB Dz Tm (by omega)).2 h) hi
    have w8:i < listed.size:=by rw [L.size];exact L4
    obtain ⟨acQ,_,hV⟩:=hs i _ JO Dz
    obtain ⟨X,hX,rest,prd⟩:=OW hT hSf L.closed JO Ag (fun j hj=>mL.ready L.closed hj hi) (fun c h=>IM c i h) β
    obtain ⟨VO,QL⟩:=acQ β X hX
    have A2:IF w S (looks all all[i]) (L5 (en i) (cn i β)) a:=by
     intro s QG av sJ
     rw [L5] at sJ
     cases WU:en i s with
     | none=>
       rw [WU] at sJ
       obtain ⟨k,o,k1,k2,k3,k4,k5⟩:=Q2 WQ hcn hm i (by omega) β s av sJ
       have hkl:listed.getD k false=true:=mL.ready L.closed ((lH hB Dz k2 k1).1 JO (A5 k3 QG)) hi
       rw [k5]
       exact Mn k o s hkl k2 k4 k3
     | some rz=>
     rw [WU] at sJ
     obtain rfl:=Option.some.inj sJ
     have hc:=OT (ng:=ng) (en:=en) (e:=e) hB L h0 Z7 hm Dz JO Ag (fun j hj=>mL.ready L.closed hj hi) QG all.size (Nat.le_refl _)
     rw [Nat.min_eq_right (by omega)] at hc
     exact yl s rz (by rw [hc];exact WU)
    have L':Tn all m (listed.setIfInBounds i true):=by
     refine ⟨by simpa using L.size,fun k hk=>?_,fun k j o hk xK hw=>?_⟩
     ·rw [kf w8] at hk
      split at hk
      ·omega
      ·exact L.head k hk
     ·rw [kf w8] at hk
      rw [kf w8]
      split
      ·rfl
      ·split at hk
       ·rename_i hki
        subst hki
        obtain rfl:all[k]=o:=by rw [Dz] at xK;exact Option.some.inj xK
        exact wo Dz hi hw
       ·exact L.closed k j o hk xK hw
    have Km:(listed.setIfInBounds i true).toList.count true+fuel=all.size:=by
     have QM:listed[i]=false:=by simpa [w8] using Ag
     have:(listed.setIfInBounds i true).toList=listed.toList.set i true:=by simp
     rw [this,List.count_set (by simpa using w8)]
     have Tk:listed.toList[i]'(by simpa using w8)=false:=by simpa using QM
     rw [Tk]
     have e1:(if (false==true)=true then 1 else 0)=0:=rfl
     have e2:(if (true==true)=true then 1 else 0)=1:=rfl
     rw [e1,e2]
     omega
    have aa5:∀ T:Heap,(T++(X++rest)++B).Perm ((T++(X++B))++rest):=fun T=>by
     rw [List.append_assoc,List.append_assoc,List.append_assoc,List.append_assoc]
     exact List.Perm.append_left _ (List.Perm.append_left _ List.perm_append_comm)
    have pin:(uS tk listed β++B).Perm ((xO tk i β++(X++B))++rest):=
     (((WT hT Ag (fun j hj=>mL.ready L.closed hj hi) β).trans (List.Perm.append_left _ prd)).append_right B).trans (aa5 _)
    have aa6:∀ b,((mH tk i (rS β i b)++(X++B))++rest).Perm (uS tk (listed.setIfInBounds i true) (rS β i b)++B):=fun b=>
     List.Perm.symm ((((Uh hT L.closed w8 Ag (fun c h=>IM c i h) β b).trans (List.Perm.append_left _ prd)).append_right B).trans (aa5 _))
    have hrp:dO w S ((xO tk i β++(X++B))++rest):=hr.perm pin
    have psz:∀ v,(a.put (all[i]).dst v).tmps.size=n:=fun v=>by cases (all[i]).dst<;>simp [Act.put,j9]
    have pdf:∀ v,(a.put (all[i]).dst v).defers=[]:=fun v=>by cases (all[i]).dst<;>simp [Act.put,Mj]
    have acR:∀ {w1 w2:World} {S1 S2:Nat→Prop} {h1 h2 P1 ZX:Heap},lD w1 S1 h1 w2 S2 h2→h1.Perm P1→h2.Perm ZX→lD w1 S1 P1 w2 S2 ZX:=by
     intro w1 w2 S1 S2 h1 h2 P1 ZX ev p1 p2
     have has:∀ {g g':Heap} {k:Nat},g.Perm g'→(Has g k↔Has g' k):=fun p=>
      ⟨fun ⟨x,hx,hb⟩=>⟨x,p.mem_iff.1 hx,hb⟩,fun ⟨x,hx,hb⟩=>⟨x,p.mem_iff.2 hx,hb⟩⟩
     exact ⟨ev.os,ev.tape,ev.output,ev.size,ev.mZ,fun k hk hh=>ev.other k hk (fun hc=>hh ((has p1).1 hc)),fun k hk=>((ev.new k ((has p2).2 hk)).imp (has p1).1 id),ev.drawn⟩
    have next:∀ (b:Bk) (v:Value) (w':World) (S':Nat→Prop),lD w S (xO tk i β++(X++B)) w' S' (mH tk i (rS β i b)++(X++B))→dO w' S' (mH tk i (rS β i b)++(X++B))→At w' S' (V i b) v→wpAny P .any all Q fuel (listed.setIfInBounds i true) (a.put (all[i]).dst v) w':=by
     intro b v w' S' Ui WV vX
     have P3:dO w' S' ((mH tk i (rS β i b)++(X++B))++rest):=hrp.frame Ui WV
     have ev2:=Ui.frame rest
     refine ih _ _ _ S' (rS β i b) L' Km (psz v) (pdf v) (P3.perm (aa6 b)) (hg.trans (acR ev2 pin.symm (aa6 b))) ?_ ?_
     ·intro s av sJ
      rw [QY (ng:=ng) (e:=e) hB L Dz JO Ag s all.size (Nat.le_refl _),if_pos (by omega)] at sJ
      by_cases hd:(all[i]).dst=some s
      ·rw [hd,nh] at sJ
       have Z8:=VO s hd
       exact ⟨v,by rw [hd];simp [Act.put,j9,Z8],by rw [← hV av sJ b];exact vX⟩
      ·rw [kh hd] at sJ
       obtain ⟨u,h1,h2⟩:=yl s av sJ
       refine ⟨u,?_,h2.mono Ui.mZ⟩
       cases IH:(all[i]).dst with
       | none=>simpa [Act.put] using h1
       | some d'=>
         have uc:d'≠s:=fun e=>hd (by rw [IH,e])
         simp [Act.put,uc,h1]
     ·intro j o d hj ho sJ hd
      by_cases hji:j=i
      ·subst hji
       rw [Dz] at ho;obtain rfl:=Option.some.inj ho
       have Z8:=VO d hd
       exact ⟨v,by rw [hd];simp [Act.put,j9,Z8],by rw [Ug];exact vX⟩
      ·have NA:listed.getD j false=true:=by rw [kf w8,if_neg hji] at hj;exact hj
       obtain ⟨u,h1,h2⟩:=Mn j o d NA ho sJ hd
       refine ⟨u,?_,by rw [NK hji];exact h2.mono Ui.mZ⟩
       cases IH:(all[i]).dst with
       | none=>simpa [Act.put] using h1
       | some d'=>
         have uc:d'≠d:=fun e=>hU j i o all[i] d (L.head j NA) JO hji ho Dz sJ hd (by rw [IH,e])
         simp [Act.put,uc,h1]
    simp only [wpOp,Dz]
    rcases QL with ⟨hw,hmv⟩ | ⟨hw,sJ⟩
    ·rw [if_pos (zI hw A2)]
     exact .inl (hmv w S a j9 Mj (hrp.sub (List.sublist_append_left _ _)) A2 _ _ (fun b v w' S' Ui WV vX=>next b v w' S' Ui WV vX))
    ·rw [if_neg (by rw [zI hw A2];simp)]
     obtain ⟨e1,e2⟩:=sJ ⟨none,0⟩
     replace e1:mH tk i (rS β i ⟨none,0⟩)=xO tk i β:=e1
     refine next ⟨none,0⟩ _ w S (by rw [e1];exact lD.refl _ _ _) (by rw [e1];exact hrp.sub (List.sublist_append_left _ _)) ?_
     rw [e2];exact .raw _
end order
end Go.Eng
namespace Go.Eng
open Go
variable [bD]
theorem Q3 {P:Program} {o:Oper} {a:Act} {K0 K:Act→World→Prop} {G:Act→World→Prop} {Q':Exit→Act→World→Prop} (hK:∀ v w',K0 (a.put o.dst v) w'→K (a.put o.dst v) w') (hd:∀ a' w',K0 a' w'→a'.defers=[]):
 ∀ r,o.upon P a K0 (AX G) r→o.upon P a K Q' r:=by
 intro r h
 unfold Oper.upon at *
 split at h
 ·exact hK _ _ h
 ·exact hK _ _ h
 ·rename_i d w'
  have:=hd _ _ h
  cases Ks:o.dst<;>simp [Act.put,Ks] at this
 ·refine Calls.mono h ?_
  intro e w' he
  cases e with
  | returned v=>exact hK _ _ he
  | panicked c=>cases he.1
  | outgrown=>obtain ⟨a0,w0,h0⟩:=he;cases h0.1
 ·exact Rows.mono h fun v w' hv=>hK _ _ hv
 ·cases h.1
 ·exact h.elim
theorem Uj {P:Program} {all:Array Oper} {o:Oper} {σ:St} {Q:St→Prop} (hg:o.guard=none) (h:ae P all [o] σ Q) {w:World} {S:Nat→Prop} {a:Act} (r:eD w S σ a) {K:Act→World→Prop} {Q':Exit→Act→World→Prop}
 (hK:∀ v w',Got w S σ.hp Q (a.put o.dst v) w'→K (a.put o.dst v) w'):o.wp P a w K Q':=by
 have:=h w S a r
 unfold wpList at this
 rw [if_pos (by simp [Region.wanted,hg])] at this
 rcases this with h1 | ⟨_,a0,w0,h0,_⟩
 ·refine Q3 (G:=Got w S σ.hp Q) (fun v w' hh=>hK v w' hh.2) (fun a' w' hh=>?_) _ h1
  obtain ⟨_,aE,S',_,hr,_⟩:=hh
  exact hr.defers
 ·cases h0
variable {P:Program} {all:Array Oper} {n:Nat} {B:Heap} {tk:List Tok}
def OY (x:Option AV) (c:(Nat→Bk)→Env) (d:Option Nat) (V:Bk→AV) (i:Nat):(Nat→Bk)→Env:=fun β=>match x with | none=>oL (c β) d (some (V (β i))) | some _=>c β
inductive V2 (P:Program) (all:Array Oper) (n:Nat) (B:Heap) (tk:List Tok) (dy:List Nat):Nat→List Oper→Env→((Nat→Bk)→Env)→List (Option AV×(Bk→AV))→Env→Prop
 | nil (i:Nat) (e:Env) (c:(Nat→Bk)→Env):V2 P all n B tk dy i [] e c [] e
 | cons {i:Nat} {o:Oper} {l:List Oper} {e e':Env} {c:(Nat→Bk)→Env} {D:List (Option AV×(Bk→AV))} {x:Option AV} {V:Bk→AV} (h:∀ β,∀ X∈yY tk i β,vr P all n (X++B) o (L5 e (c β)) (xO tk i β) V (fun b=>mH tk i (rS β i b))) (hv:∀ av,x=some av→∀ b,V b=av) (hx:x=none→dy.contains i=true)
  (k:V2 P all n B tk dy (i+1) l (oL e o.dst x) (OY x c o.dst V i) D e'):V2 P all n B tk dy i (o :: l) e c ((x,V) :: D) e'
def BQ (β:Nat→Bk):Nat→List Oper→List (Option AV×(Bk→AV))→List (Nat×AV)→List (Nat×AV)
 | i,o :: l,(none,V) :: D,a=>match o.dst with
   | some d=>BQ β (i+1) l D ((d,V (β i)) :: a)
   | none=>BQ β (i+1) l D a
 | i,_ :: l,(some _,_) :: D,a=>BQ β (i+1) l D a
 | _,_,_,a=>a
def AT (P:Program) (all:Array Oper) (n:Nat) (B:Heap) (tk:List Tok) (dy:List Nat) (i:Nat) (l:List Oper) (tm:List (Nat×AV)) (acc:(Nat→Bk)→List (Nat×AV)) (Q:(Nat→Bk)→List (Nat×AV)→Prop):Prop:=
 ∃ D tD,V2 P all n B tk dy i l (lk tm) (fun β=>lk (acc β)) D (lk tD)∧∀ β,Q β (BQ β i l D (acc β)++tD)
section rules
variable {dy:List Nat} {i:Nat} {rest:List Oper} {tm:List (Nat×AV)} {acc:(Nat→Bk)→List (Nat×AV)} {Q:(Nat→Bk)→List (Nat×AV)→Prop} {d:Nat} {ty:TypeId} {pos:String} {af:Array Edge} {op:Op}
theorem AT.nil {F:(Nat→Bk)→List (Nat×AV)} (hF:∀ β,F β=acc β++tm) (h:∀ β,Q β (F β)):AT P all n B tk dy i [] tm acc Q:=
 ⟨[],tm,.nil _ _ _,fun β=>by rw [show BQ β i [] [] (acc β)=acc β from rfl,← hF];exact h β⟩
theorem AT.sta {o:Oper} {d:Nat} {av:AV} (hd:o.dst=some d) (h:∀ β,∀ X∈yY tk i β,vr P all n (X++B) o (L5 (lk tm) (lk (acc β))) (xO tk i β) (fun _=>av) (fun b=>mH tk i (rS β i b))) (k:AT P all n B tk dy (i+1) rest ((d,av) :: tm) acc Q):AT P all n B tk dy i (o :: rest) tm acc Q:=by
 obtain ⟨D,tD,k1,k2⟩:=k
 refine ⟨(some av,fun _=>av) :: D,tD,.cons h (fun rz e b=>Option.some.inj e) (fun e=>by cases e) ?_,k2⟩
 have:oL (lk tm) o.dst (some av)=lk ((d,av) :: tm):=by
  rw [zJ,hd];rfl
 rw [this];exact k1
theorem AT.dyn {o:Oper} {d:Nat} {V:Bk→AV} (hd:o.dst=some d) (AZ:lk tm d=none) (WW:dy.contains i=true) (h:∀ β,∀ X∈yY tk i β,vr P all n (X++B) o (L5 (lk tm) (lk (acc β))) (xO tk i β) V (fun b=>mH tk i (rS β i b))) (k:AT P all n B tk dy (i+1) rest tm (fun β=>(d,V (β i)) :: acc β) Q):AT P all n B tk dy i (o :: rest) tm acc Q:=by
 obtain ⟨D,tD,k1,k2⟩:=k
 refine ⟨(none,V) :: D,tD,.cons h (fun rz e b=>by cases e) (fun _=>WW) ?_,fun β=>?_⟩
 ·have:oL (lk tm) o.dst none=lk tm:=by
   funext s
   rw [hd]
   simp only [oL]
   split
   ·rename_i e;subst e;exact AZ.symm
   ·rfl
  rw [this]
  have e2:OY none (fun β=>lk (acc β)) o.dst V i=fun β=>lk ((d,V (β i)) :: acc β):=by
   funext β
   simp only [OY,hd]
   rw [zJ];rfl
  rw [e2];exact k1
 ·have:=k2 β
  simp only [BQ,hd]
  exact this
theorem AT.sto {o:Oper} (hd:o.dst=none) (h:∀ β,∀ X∈yY tk i β,vr P all n (X++B) o (L5 (lk tm) (lk (acc β))) (xO tk i β) (fun _=>.raw undef) (fun b=>mH tk i (rS β i b))) (k:AT P all n B tk dy (i+1) rest tm acc Q):AT P all n B tk dy i (o :: rest) tm acc Q:=by
 obtain ⟨D,tD,k1,k2⟩:=k
 refine ⟨(some (.raw undef),fun _=>.raw undef) :: D,tD,.cons h (fun rz e b=>Option.some.inj e) (fun e=>by cases e) ?_,k2⟩
 rw [hd];exact k1
def wP (tk:List Tok) (i j:Nat):Bool:=tk.all fun t=>(match t.prod with | some p=>Nat.blt p i||Nat.ble j p | none=>true)&&(match t.cons with | some p=>Nat.blt p i||Nat.ble j p | none=>true)&&((t.rds.all fun p=>Nat.blt p i||Nat.ble j p)&&t.sft.all fun p=>Nat.blt p i||Nat.ble j p)
theorem Kt {i j:Nat} (h:wP tk i j=true) {k:Nat} (h1:i≤k) (h2:k < j) (β:Nat→Bk):xO tk k β=[]:=by
 unfold xO
 rw [List.map_eq_nil_iff,List.filter_eq_nil_iff]
 intro t ht hc
 have:=List.all_eq_true.1 h t ht
 rw [Bool.and_eq_true,Bool.and_eq_true] at this
 replace this:=this.1
 unfold D3 at hc
 split at hc
 ·rename_i c OV
  obtain rfl:c=k:=Nat.eq_of_beq_eq_true hc
  have:=this.2
  rw [OV] at this
  simp at this;omega
 ·cases hc
theorem HC {i j:Nat} (h:wP tk i j=true) {k:Nat} (h1:i≤k) (h2:k < j) (β:Nat→Bk):mH tk k β=[]:=by
 unfold mH
 rw [List.map_eq_nil_iff,List.filter_eq_nil_iff]
 intro t ht hc
 have:=List.all_eq_true.1 h t ht
 rw [Bool.and_eq_true,Bool.and_eq_true] at this
 replace this:=this.1
 unfold Uf at hc
 split at hc
 ·rename_i c OV
  obtain rfl:c=k:=Nat.eq_of_beq_eq_true hc
  have:=this.1
  rw [OV] at this
  simp at this;omega
 ·cases hc
theorem Q4 {i j:Nat} (h:wP tk i j=true) {k:Nat} (h1:i≤k) (h2:k < j) (β:Nat→Bk):BP tk k β=[]:=by
 unfold BP
 rw [List.map_eq_nil_iff,List.filter_eq_nil_iff]
 intro t ht hc
 have:=List.all_eq_true.1 h t ht
 rw [Bool.and_eq_true] at this
 have h3:=List.all_eq_true.1 (Bool.and_eq_true_iff.1 this.2).1 k (by simpa [NJ] using hc)
 simp at h3;omega
theorem HD {i j:Nat} (h:wP tk i j=true) {k:Nat} (h1:i≤k) (h2:k < j) (β:Nat→Bk):yY tk k β=[[]]:=by
 have e:tk.filter (Tl k)=[]:=by
  rw [List.filter_eq_nil_iff]
  intro t ht hc
  have:=List.all_eq_true.1 h t ht
  rw [Bool.and_eq_true] at this
  have h3:=List.all_eq_true.1 (Bool.and_eq_true_iff.1 this.2).2 k (by simpa [Tl] using hc)
  simp at h3;omega
 unfold yY
 rw [e,Q4 h h1 h2 β]
theorem Fg (e:Env) (d:Option Nat) (av:AV):oL e d (some av)=Af e d av:=by
 cases d<;>rfl
theorem Q5 {o:Oper} {e:Env} {av:AV} (hd:∀ d,o.dst=some d→d < n) (hg:qP all o e true) (h:MV P all n o e B av):vr P all n B o e [] (fun _=>av) (fun _=>[]):=by
 refine ⟨hd,.inl ⟨hg,fun w S a h1 h2 h3 h4 K Q hK=>?_⟩⟩
 exact h w S a h1 h2 h3 h4 K Q (fun v w' S' VY vX=>hK ⟨none,0⟩ v w' S' (VY.evo h3.slt _) (h3.grow VY) vX)
theorem aa7:∀ {l1:List Oper} {e e':Env} {i:Nat} (h:T9 P all n B l1 e e') (hn:wP tk i (i+l1.length)=true) {l2:List Oper} {c:(Nat→Bk)→Env} {D:List (Option AV×(Bk→AV))} {e2:Env},V2 P all n B tk dy (i+l1.length) l2 e' c D e2→
 ∃ D1,V2 P all n B tk dy i (l1++l2) e c (D1++D) e2∧D1.length=l1.length∧∀ x∈D1,x.1.isSome=true:=by
 intro l1 e e' i h
 induction h generalizing i with
 | nil e=>intro hn l2 c D e2 k;exact ⟨[],by simpa using k,rfl,by simp⟩
 | @run o l e e' av hg hm hd k ih=>
   intro hn l2 c D e2 kk
   have Q6:wP tk (i+1) (i+1+l.length)=true:=by
    unfold wP at hn ⊢
    rw [List.all_eq_true] at hn ⊢
    intro t ht
    have:=hn t ht
    rw [Bool.and_eq_true,Bool.and_eq_true] at this ⊢
    refine ⟨⟨?_,?_⟩,?_⟩
    ·have h1:=this.1.1
     cases hp:t.prod<;>rw [hp] at h1<;>simp_all<;>omega
    ·have h1:=this.1.2
     cases hp:t.cons<;>rw [hp] at h1<;>simp_all<;>omega
    ·have h1:=this.2
     rw [Bool.and_eq_true,List.all_eq_true,List.all_eq_true] at h1 ⊢
     exact ⟨fun p hp=>by have:=h1.1 p hp;simp at this ⊢;omega,fun p hp=>by have:=h1.2 p hp;simp at this ⊢;omega⟩
   obtain ⟨D1,a1,a2,a3⟩:=ih Q6 (l2:=l2) (D:=D) (e2:=e2) (by rw [show i+1+l.length=i+(o :: l).length by simp;omega];exact kk)
   refine ⟨(some av,fun _=>av) :: D1,?_,by simp [a2],?_⟩
   ·refine .cons (fun β X hX=>?_) (fun rz e b=>Option.some.inj e) (fun e=>by cases e) (by rw [Fg];exact a1)
    rw [HD hn (Nat.le_refl _) (by simp)] at hX
    obtain rfl:=List.mem_singleton.1 hX
    rw [Kt hn (Nat.le_refl _) (by simp),show (fun b=>mH tk i (rS β i b))=fun _=>[] from funext fun b=>HC hn (Nat.le_refl _) (by simp) _]
    exact (Q5 hd hg hm).up
   ·intro x hx
    rcases List.mem_cons.1 hx with rfl | hx
    ·rfl
    ·exact a3 x hx
 | @pass o l e e' hg hd k ih=>
   intro hn l2 c D e2 kk
   have Q6:wP tk (i+1) (i+1+l.length)=true:=by
    unfold wP at hn ⊢
    rw [List.all_eq_true] at hn ⊢
    intro t ht
    have:=hn t ht
    rw [Bool.and_eq_true,Bool.and_eq_true] at this ⊢
    refine ⟨⟨?_,?_⟩,?_⟩
    ·have h1:=this.1.1
     cases hp:t.prod<;>rw [hp] at h1<;>simp_all<;>omega
    ·have h1:=this.1.2
     cases hp:t.cons<;>rw [hp] at h1<;>simp_all<;>omega
    ·have h1:=this.2
     rw [Bool.and_eq_true,List.all_eq_true,List.all_eq_true] at h1 ⊢
     exact ⟨fun p hp=>by have:=h1.1 p hp;simp at this ⊢;omega,fun p hp=>by have:=h1.2 p hp;simp at this ⊢;omega⟩
   obtain ⟨D1,a1,a2,a3⟩:=ih Q6 (l2:=l2) (D:=D) (e2:=e2) (by rw [show i+1+l.length=i+(o :: l).length by simp;omega];exact kk)
   refine ⟨(some (.raw undef),fun _=>.raw undef) :: D1,?_,by simp [a2],?_⟩
   ·refine .cons (fun β X hX=>?_) (fun rz e b=>Option.some.inj e) (fun e=>by cases e) (by rw [Fg];exact a1)
    rw [HD hn (Nat.le_refl _) (by simp)] at hX
    obtain rfl:=List.mem_singleton.1 hX
    rw [Kt hn (Nat.le_refl _) (by simp),show (fun b=>mH tk i (rS β i b))=fun _=>[] from funext fun b=>HC hn (Nat.le_refl _) (by simp) _]
    exact ⟨hd,.inr ⟨hg.up,fun b=>⟨rfl,rfl⟩⟩⟩
   ·intro x hx
    rcases List.mem_cons.1 hx with rfl | hx
    ·rfl
    ·exact a3 x hx
theorem HE (β:Nat→Bk):∀ {l1:List Oper} {D1:List (Option AV×(Bk→AV))} (i:Nat) {l2:List Oper} {D:List (Option AV×(Bk→AV))} (a:List (Nat×AV)),D1.length=l1.length→(∀ x∈D1,x.1.isSome=true)→BQ β i (l1++l2) (D1++D) a=BQ β (i+l1.length) l2 D a
 | [],[],i,l2,D,a,_,_=>by simp
 | o :: l1,(some av,V) :: D1,i,l2,D,a,h,hs=>by
   simp only [List.cons_append,BQ]
   rw [HE β (i+1) a (by simpa using h) (fun x hx=>hs x (by simp [hx]))]
   simp [Nat.add_assoc,Nat.add_comm 1]
 | o :: l1,(none,V) :: D1,i,l2,D,a,h,hs=>by have:=hs (none,V) (by simp);cases this
 | [],_ :: _,i,l2,D,a,h,hs=>by cases h
 | _ :: _,[],i,l2,D,a,h,hs=>by cases h
theorem AT.am {l l1 l2:List Oper} (m:Nat) (hs:Kn m l=some (l1,l2)) (hn:wP tk i (i+m)=true) (h:AM P all n B l1 tm (fun tD=>AT P all n B tk dy (i+m) l2 tD acc Q)):AT P all n B tk dy i l tm acc Q:=by
 obtain ⟨rfl,rfl⟩:=zK hs
 obtain ⟨D4,h1,D,tD,h2,h3⟩:=h
 obtain ⟨D1,a1,a2,a3⟩:=aa7 h1 hn h2
 refine ⟨D1++D,tD,a1,fun β=>?_⟩
 rw [HE β i (acc β) a2 a3]
 exact h3 β
theorem zM {o:Oper} {Ti H1:Heap} {V:Bk→AV} {Pi H2:Bk→Heap} (hg:o.guard=none) (hd:∀ d,o.dst=some d→d < n) (h1:vq Ti B=some H1) (h2:∀ b,vq (Pi b) B=some (H2 b))
 (wK:ae P all [o] ⟨n,II (looks all o) tm,H1⟩ (fun aE=>∃ b D4,aE=⟨n,D4,H2 b⟩∧∀ d,o.dst=some d→lk D4 d=some (V b)))
 (hv:o.dst=none→∀ b,V b=.raw undef):vr P all n B o (lk tm) Ti V Pi:=by
 refine ⟨hd,.inl ⟨by simp [qP,hg],fun w S a s1 s2 s3 s4 K Q hK=>?_⟩⟩
 have e1:=qz h1
 rw [e1] at s3 hK
 refine Uj hg wK (sY s1 s2 s3 s4) (fun v w' acS=>?_)
 obtain ⟨aE,S',⟨b,D4,rfl,Uk⟩,hr,Ui⟩:=acS
 have e2:=qz (h2 b)
 cases Ks:o.dst with
 | some d=>
   have VO:=hd d Ks
   obtain ⟨u,g1,g2⟩:=hr.tm d _ (Uk d Ks)
   have hu:u=v:=by
    rw [Ks] at g1
    simp [Act.put,s1,VO] at g1
    exact g1.symm
   rw [hu] at g2
   rw [← Ks]
   exact hK b v w' S' (by rw [e2];exact Ui) (by rw [e2];exact hr.hp) g2
 | none=>
   have:a.put none v=a.put o.dst undef:=by rw [Ks];rfl
   rw [this]
   exact hK b undef w' S' (by rw [e2];exact Ui) (by rw [e2];exact hr.hp) (by rw [hv Ks b];exact .raw _)
theorem AT.rk {av:AV} {Ti H1 Pi H2:Heap} (QK:∀ β,yY tk i β=[[]]) (V3:∀ β,xO tk i β=Ti) (WX:∀ β,mH tk i β=Pi) (h1:vq Ti B=some H1) (h2:vq Pi B=some H2) (hn:Nat.blt d n=true)
 (wK:ae P all [⟨some d,op,ty,pos,af,none⟩] ⟨n,II (looks all ⟨some d,op,ty,pos,af,none⟩) tm,H1⟩ (fun aE=>∃ D4,aE=⟨n,D4,H2⟩∧lk D4 d=some av))
 (k:AT P all n B tk dy (i+1) rest ((d,av) :: tm) acc Q):AT P all n B tk dy i (⟨some d,op,ty,pos,af,none⟩ :: rest) tm acc Q:=by
 refine AT.sta rfl (fun β X hX=>?_) k
 rw [QK β] at hX
 obtain rfl:=List.mem_singleton.1 hX
 rw [List.nil_append,V3 β,show (fun b=>mH tk i (rS β i b))=fun _=>Pi from funext fun b=>WX _]
 refine vr.up ?_
 refine zM rfl (fun d' DC=>by obtain rfl:=Option.some.inj DC;simpa using hn) h1 (fun _=>h2) ?_ (fun e=>by cases e)
 refine fun w S a r=>jJ ?_ _ _ _ (wK w S a r)
 rintro e a' w' ⟨he,aE,S',⟨D4,q1,q2⟩,hh⟩
 exact ⟨he,aE,S',⟨⟨none,0⟩,D4,q1,fun d' DC=>by obtain rfl:=Option.some.inj DC;exact q2⟩,hh⟩
theorem AT.Ul {V:Bk→AV} {Ti H1:Heap} {Pi H2:Bk→Heap} (QK:∀ β,yY tk i β=[[]]) (V3:∀ β,xO tk i β=Ti) (WX:∀ β b,mH tk i (rS β i b)=Pi b) (h1:vq Ti B=some H1) (h2:∀ b,vq (Pi b) B=some (H2 b)) (hn:Nat.blt d n=true) (AZ:lk tm d=none) (WW:dy.contains i=true)
 (wK:ae P all [⟨some d,op,ty,pos,af,none⟩] ⟨n,II (looks all ⟨some d,op,ty,pos,af,none⟩) tm,H1⟩ (fun aE=>∃ b D4,aE=⟨n,D4,H2 b⟩∧lk D4 d=some (V b)))
 (k:AT P all n B tk dy (i+1) rest tm (fun β=>(d,V (β i)) :: acc β) Q):AT P all n B tk dy i (⟨some d,op,ty,pos,af,none⟩ :: rest) tm acc Q:=by
 refine AT.dyn rfl AZ WW (fun β X hX=>?_) k
 rw [QK β] at hX
 obtain rfl:=List.mem_singleton.1 hX
 rw [List.nil_append,V3 β,show (fun b=>mH tk i (rS β i b))=Pi from funext (WX β)]
 refine vr.up ?_
 refine zM rfl (fun d' DC=>by obtain rfl:=Option.some.inj DC;simpa using hn) h1 h2 ?_ (fun e=>by cases e)
 refine fun w S a r=>jJ ?_ _ _ _ (wK w S a r)
 rintro e a' w' ⟨he,aE,S',⟨b,D4,q1,q2⟩,hh⟩
 exact ⟨he,aE,S',⟨b,D4,q1,fun d' DC=>by obtain rfl:=Option.some.inj DC;exact q2⟩,hh⟩
theorem AT.WY {Ti H1 Pi H2:Heap} (QK:∀ β,yY tk i β=[[]]) (V3:∀ β,xO tk i β=Ti) (WX:∀ β,mH tk i β=Pi) (h1:vq Ti B=some H1) (h2:vq Pi B=some H2)
 (wK:ae P all [⟨none,op,ty,pos,af,none⟩] ⟨n,II (looks all ⟨none,op,ty,pos,af,none⟩) tm,H1⟩ (fun aE=>∃ D4,aE=⟨n,D4,H2⟩))
 (k:AT P all n B tk dy (i+1) rest tm acc Q):AT P all n B tk dy i (⟨none,op,ty,pos,af,none⟩ :: rest) tm acc Q:=by
 refine AT.sto rfl (fun β X hX=>?_) k
 rw [QK β] at hX
 obtain rfl:=List.mem_singleton.1 hX
 rw [List.nil_append,V3 β,show (fun b=>mH tk i (rS β i b))=fun _=>Pi from funext fun b=>WX _]
 refine vr.up ?_
 refine zM rfl (fun d' DC=>by cases DC) h1 (fun _=>h2) ?_ (fun _ b=>rfl)
 refine fun w S a r=>jJ ?_ _ _ _ (wK w S a r)
 rintro e a' w' ⟨he,aE,S',⟨D4,q1⟩,hh⟩
 exact ⟨he,aE,S',⟨⟨none,0⟩,D4,q1,fun d' DC=>by cases DC⟩,hh⟩
theorem OZ (a b:List (Nat×AV)):lk (a++b)=L5 (lk a) (lk b):=by
 funext s
 induction a with
 | nil=>rfl
 | cons x a ih=>
   obtain ⟨k,v⟩:=x
   simp only [List.cons_append,lk,L5] at ih ⊢
   split
   ·rfl
   ·exact ih
end rules
end Go.Eng
namespace Go.Eng
open Go
variable [bD]
theorem V2.Mh {P:Program} {all:Array Oper} {n:Nat} {B:Heap} {tk:List Tok} {dy:List Nat} {i:Nat} {l:List Oper} {e e':Env} {c:(Nat→Bk)→Env} {D:List (Option AV×(Bk→AV))} (h:V2 P all n B tk dy i l e c D e'):
 ∃ (en:Nat→Env) (cn:Nat→(Nat→Bk)→Env),en i=e∧cn i=c∧en (i+l.length)=e'∧D.length=l.length∧∀ j o x V,l[j]? =some o→D[j]? =some (x,V)→
   (∀ β,∀ X∈yY tk (i+j) β,vr P all n (X++B) o (L5 (en (i+j)) (cn (i+j) β)) (xO tk (i+j) β) V (fun b=>mH tk (i+j) (rS β (i+j) b)))∧en (i+j+1)=oL (en (i+j)) o.dst x∧(∀ av,x=some av→∀ b,V b=av)∧(x=none→dy.contains (i+j)=true)∧cn (i+j+1)=OY x (cn (i+j)) o.dst V (i+j):=by
 induction h with
 | nil i e c=>exact ⟨fun _=>e,fun _=>c,rfl,rfl,rfl,rfl,fun j o x V h=>by simp at h⟩
 | @cons i o l e e' c D x V h hv hx k ih=>
   obtain ⟨en,cn,h0,WQ,h1,h2,h3⟩:=ih
   refine ⟨fun k=>if k=i then e else en k,fun k=>if k=i then c else cn k,by simp,by simp,?_,by simp [h2],fun j o' x' V' ho hD=>?_⟩
   ·show (if i+(o :: l).length=i then e else en (i+(o :: l).length))=e'
    rw [if_neg (by simp),← h1]
    congr 1
    simp;omega
   ·match j with
    | 0=>
      simp at ho hD
      obtain ⟨rfl,rfl⟩:=hD
      subst ho
      simp only [Nat.add_zero,if_true]
      refine ⟨h,?_,hv,hx,?_⟩
      ·rw [if_neg (by omega),h0]
      ·rw [if_neg (by omega),WQ]
    | j+1=>
      have:=h3 j o' x' V' (by simpa using ho) (by simpa using hD)
      rw [show i+1+j=i+(j+1) by omega] at this
      simp only
      rw [if_neg (show ¬ i+(j+1)=i by omega),if_neg (show ¬ i+(j+1)+1=i by omega),if_neg (show ¬ i+(j+1)=i by omega),if_neg (show ¬ i+(j+1)+1=i by omega)]
      exact this
def V4 (l:List Oper) (dy:List Nat):Bool:=dy.all fun i=>(List.range l.length).all fun j=>Nat.beq i j||(match l[i]?,l[j]? with
 | some oi,some oj=>(match oi.dst,oj.dst with | some d,some d'=>!Nat.beq d d' | _,_=>true)
 | _,_=>true)
theorem Mo {l:List Oper} {dy:List Nat} (h:V4 l dy=true) {i j:Nat} {oi oj:Oper} {d:Nat} (hi:dy.contains i=true) (E6:i≠j) (h1:l[i]? =some oi) (h2:l[j]? =some oj) (hd:oi.dst=some d):oj.dst≠some d:=by
 intro DC
 have hm:i∈dy:=by simpa using hi
 have hj:j < l.length:=(List.getElem?_eq_some_iff.1 h2).1
 have:=List.all_eq_true.1 (List.all_eq_true.1 h i hm) j (List.mem_range.2 hj)
 rw [h1,h2] at this
 simp only [hd,DC] at this
 have hb:Nat.beq i j=false:=tC E6
 rw [hb] at this
 simp at this
def Q7 (tk:List Tok):Heap:=(tk.filter (fun t=>t.prod.isNone)).map (fun t=>t.at (fun _=>⟨none,0⟩))
theorem Q8:∀ (a b:List (Nat×AV)) (s:Nat) (av:AV),lk (a++b) s=some av→lk a s=some av∨lk b s=some av
 | [],b,s,av,h=>.inr h
 | (k,v) :: a,b,s,av,h=>by
   simp only [List.cons_append,lk] at h ⊢
   split at h
   ·exact .inl h
   ·exact Q8 a b s av h
theorem BR (β:Nat→Bk):∀ (l:List Oper) (D:List (Option AV×(Bk→AV))) (i:Nat) (a:List (Nat×AV)) (s:Nat) (av:AV),lk (BQ β i l D a) s=some av→lk a s=some av∨∃ (j:Nat) (o:Oper) (V:Bk→AV),l[j]? =some o∧D[j]? =some (none,V)∧o.dst=some s∧av=V (β (i+j))
 | [],D,i,a,s,av,h=>by
   have:BQ β i [] D a=a:=by cases D<;>rfl
   rw [this] at h;exact .inl h
 | o :: l,[],i,a,s,av,h=>.inl h
 | o :: l,(some x,V) :: D,i,a,s,av,h=>by
   simp only [BQ] at h
   rcases BR β l D (i+1) a s av h with h | ⟨j,o',V',h1,h2,h3,h4⟩
   ·exact .inl h
   ·exact .inr ⟨j+1,o',V',by simpa using h1,by simpa using h2,h3,by rw [h4];congr 2;omega⟩
 | o :: l,(none,V) :: D,i,a,s,av,h=>by
   simp only [BQ] at h
   cases hd:o.dst with
   | none=>
     rw [hd] at h
     rcases BR β l D (i+1) a s av h with h | ⟨j,o',V',h1,h2,h3,h4⟩
     ·exact .inl h
     ·exact .inr ⟨j+1,o',V',by simpa using h1,by simpa using h2,h3,by rw [h4];congr 2;omega⟩
   | some d=>
     rw [hd] at h
     rcases BR β l D (i+1) _ s av h with h5 | ⟨j,o',V',h1,h2,h3,h4⟩
     ·simp only [lk] at h5
      split at h5
      ·rename_i hb
       obtain rfl:d=s:=by simpa using hb
       exact .inr ⟨0,o,V,rfl,rfl,hd,by simpa using (Option.some.inj h5).symm⟩
      ·exact .inl h5
     ·exact .inr ⟨j+1,o',V',by simpa using h1,by simpa using h2,h3,by rw [h4];congr 2;omega⟩
theorem ab.kH {P:Program} {R:St→Prop} {k:List It} {id n:Nat} {tm:List (Nat×AV)} {hp:Heap} {l hd tl:List Oper} (m:Nat) (hm:P.follows .mixedOrders=true) (hs:Kn m l=some (hd,tl)) {A:List Nat} (hA:OM l.toArray=A) (hB0:Kj l.toArray m A=true)
 (tk:List Tok) (dy:List Nat) (hT0:(aa3 A m tk&&V1 A m tk)=true) (hU0:V4 hd dy=true) {B H0:Heap} (Kb:Q7 tk=H0) (WZ:Kp hp H0 B) {HH:(Nat→Bk)→Heap} (acT:∀ β,vq (QZ tk β) B=some (HH β))
 (h:AT P l.toArray n B tk dy 0 hd tm (fun _=>[]) (fun β tD=>ae P l.toArray tl ⟨n,tD,HH β⟩ (ab P R k))):ab P R (.code (.region id l.toArray true) :: k) ⟨n,tm,hp⟩:=by
 have hB:ym l.toArray m:=⟨A,hA,hB0⟩
 have hT:Fe l.toArray m tk:=OU hA (Bool.and_eq_true_iff.1 hT0).1
 intro w S a r
 obtain ⟨hl,Uc⟩:=zK hs
 obtain ⟨D,tD,hAf,wK⟩:=h
 obtain ⟨en,cn,e0,ec0,e1,e2,e3⟩:=hAf.Mh
 rw [Nat.zero_add,Uc] at e1
 have j9:m≤l.toArray.size:=by simp [hl,Uc]
 let ng:Nat→Option AV:=fun j=>(D[j]?).bind (·.1)
 let V:Nat→Bk→AV:=fun j=>match D[j]? with | some x=>x.2 | none=>fun _=>.nil
 have Q9:∀ j o,j < m→l.toArray[j]? =some o→hd[j]? =some o:=by
  intro j o hj ho
  have:l[j]? =some o:=by simpa using ho
  rw [hl,List.getElem?_append_left (by omega)] at this
  exact this
 have hD:∀ j,j < m→∃ x W,D[j]? =some (x,W)∧ng j=x∧V j=W:=by
  intro j hj
  have:j < D.length:=by rw [e2,Uc];exact hj
  refine ⟨D[j].1,D[j].2,by simp [this],?_,?_⟩
  ·simp [ng,this]
  ·simp [V,this]
 refine wp_region_any hm ?_
 have E8:Ext w {w with drawn:=w.drawn+1}:=Ext.Nv w _ (Nat.le_succ _)
 let β0:Nat→Bk:=fun _=>⟨none,0⟩
 have hf:∀ k,(Array.replicate l.toArray.size false).getD k false=false:=by
  intro k
  rcases Nat.lt_or_ge k l.toArray.size with h | h
  ·simp at h;simp [h]
  ·simp at h;simp [Nat.not_lt.2 h]
 have WQ:∀ k,yE l.toArray ng (lk tm) (Array.replicate l.toArray.size false) k=lk tm:=by
  intro k
  induction k with
  | zero=>rfl
  | succ k ih=>simp only [yE,ih];rw [if_neg (by rw [hf k];simp)]
 have VV:uS tk (Array.replicate l.toArray.size false) β0=H0:=by
  rw [← Kb]
  unfold uS Q7
  have e:tk.filter (A7 (Array.replicate l.toArray.size false))=tk.filter (fun t=>t.prod.isNone):=by
   apply List.filter_congr
   intro t ht
   unfold A7
   cases t.prod with
   | none=>
     cases t.cons with
     | none=>rfl
     | some c=>simp only [hf c,Bool.not_false,Bool.and_self,Option.isNone]
   | some p=>simp only [hf p,Bool.false_and,Option.isNone]
  rw [e]
 have pW:=WZ.perm
 have hr0:dO {w with drawn:=w.drawn+1} S (uS tk (Array.replicate l.toArray.size false) β0++B):=by
  rw [VV];exact (r.hp.ext E8).perm pW
 have ev0:lD w S hp {w with drawn:=w.drawn+1} S (uS tk (Array.replicate l.toArray.size false) β0++B):=by
  rw [VV]
  have:=lD.ext (h:=hp) r.hp.slt E8
  exact {this with new:=fun k hk=>this.new k (by
   obtain ⟨x,hx,hb⟩:=hk
   exact ⟨x,pW.mem_iff.2 hx,hb⟩)}
 refine OX (P:=P) (all:=l.toArray) (n:=n) (m:=m) (ng:=ng) (en:=en) (cn:=cn) (e:=lk tm) (V:=V) (B:=B) (tk:=tk) hB hT (Mm hA (Bool.and_eq_true_iff.1 hT0).2) j9 e0 (fun β s=>by rw [ec0];rfl) ?_ ?_ ?_ (w0:=w) (S0:=S) (hp0:=hp) ?_ l.toArray.size (Array.replicate l.toArray.size false) a _ S β0
  ⟨by simp,(fun k hk=>by rw [hf k] at hk;cases hk),(fun k i o hk=>by rw [hf k] at hk;cases hk)⟩ (by simp [List.count_replicate]) r.size r.defers hr0 ev0 (by rw [WQ];exact (r.ext E8).tm) (fun j o d hj=>by rw [hf j] at hj;cases hj)
 ·intro i o hi ho β
  obtain ⟨x,W,d1,d2,d3⟩:=hD i hi
  have:=e3 i o x W (Q9 i o hi ho) d1
  rw [Nat.zero_add] at this
  rw [d2,d3,this.2.2.2.2];rfl
 ·intro i o hi ho
  obtain ⟨x,W,d1,d2,d3⟩:=hD i hi
  have:=e3 i o x W (Q9 i o hi ho) d1
  rw [Nat.zero_add] at this
  rw [d2,d3]
  exact ⟨this.1,this.2.1,this.2.2.1⟩
 ·intro i j oi oj d hi hj E6 Dz Tm sJ IH
  obtain ⟨x,W,d1,d2,d3⟩:=hD i hi
  have:=e3 i oi x W (Q9 i oi hi Dz) d1
  rw [Nat.zero_add] at this
  exact Mo hU0 (this.2.2.2.1 (by rw [← d2];exact sJ)) E6 (Q9 i oi hi Dz) (Q9 j oj hj Tm) IH
 ·intro β a' w' S' h1 h2 h3 h4 h5 h6
  have YE:l.toArray.toList.drop m=tl:=by
   simp only [hl,← Uc]
   exact List.drop_left
  rw [YE]
  rw [qz (acT β)] at h3 h4
  rw [e1] at h5
  refine jJ ?_ _ _ _ ((wK β).go (h:=hp) (w:=w) (S:=S) ⟨h1,h2,fun s av Uk=>?_,h3⟩ h4)
  ·rintro ex a2 w2 ⟨rfl,JX,S2,q1,q2,q3⟩
   exact ⟨JX,S2,q1,q2,q3⟩
  ·rcases Q8 _ _ _ _ Uk with Uk | Uk
   ·rcases BR β hd D 0 [] s av Uk with Uk | ⟨j,o,W,g1,g2,g3,g4⟩
    ·cases Uk
    ·have hj:j < m:=by rw [← Uc];exact (List.getElem?_eq_some_iff.1 g1).1
     obtain ⟨x,W',d1,d2,d3⟩:=hD j hj
     rw [g2] at d1
     obtain ⟨rfl,rfl⟩:=Prod.mk.inj (Option.some.inj d1)
     have Tm:l.toArray[j]? =some o:=by
      have:l[j]? =some o:=by rw [hl,List.getElem?_append_left (by omega)];exact g1
      simpa using this
     obtain ⟨v,k1,k2⟩:=h6 j o s hj Tm d2 g3
     rw [d3] at k2
     rw [g4,Nat.zero_add]
     exact ⟨v,k1,k2⟩
   ·exact h5 s av Uk
def Ra {α:Type}:List α→List α→Option (List α)
 | [],r=>some r
 | x :: l,r=>match Ra l r with
   | some m=>some (x :: m)
   | none=>none
theorem NL {α:Type}:∀ {l r m:List α},Ra l r=some m→l++r=m
 | [],r,m,h=>by simpa [Ra] using h
 | x :: l,r,m,h=>by
   simp only [Ra] at h
   split at h
   ·rename_i m' hm
    obtain rfl:=Option.some.inj h
    rw [List.cons_append,NL hm]
   ·cases h
theorem AT.yF {P:Program} {all:Array Oper} {n:Nat} {B:Heap} {tk:List Tok} {dy:List Nat} {i:Nat} {tm:List (Nat×AV)} {acc F:(Nat→Bk)→List (Nat×AV)} {Q:(Nat→Bk)→List (Nat×AV)→Prop} (hF:∀ β,Ra (acc β) tm=some (F β)) (h:∀ β,Q β (F β)):AT P all n B tk dy i [] tm acc Q:=
 AT.nil (fun β=>(NL (hF β)).symm) h
theorem HF {w:World} {S:Nat→Prop} {hp fj:Heap} {b:Bk} {cs oI:List AV} (r:dO w S hp) (u:sL hp b (.cells cs) b (.cells oI) fj) (hl:oI.length=cs.length) (h1:∀ c∈oI,c.one=true) (vX:∀ (i:Nat) c c' v,cs[i]? =some c→oI[i]? =some c'→At w S c v→At w S c' v):dO w S fj∧lD w S hp w S fj:=by
 obtain ⟨pre,post,e1,e2⟩:=u.split
 subst e1;subst e2
 have hblk:∀ n,Has (pre++(b,Ob.cells oI) :: post) n↔Has (pre++(b,Ob.cells cs) :: post) n:=by
  intro n
  constructor<;>rintro ⟨x,hx,hb⟩<;>rcases bG.1 hx with rfl | hx
  ·exact ⟨(b,.cells cs),bG.2 (.inl rfl),hb⟩
  ·exact ⟨x,bG.2 (.inr hx),hb⟩
  ·exact ⟨(b,.cells oI),bG.2 (.inl rfl),hb⟩
  ·exact ⟨x,bG.2 (.inr hx),hb⟩
 refine ⟨⟨?_,?_,?_,r.slt,r.hJ⟩,⟨rfl,rfl,rfl,Nat.le_refl _,fun n hn=>⟨hn,rfl⟩,fun n _ _=>⟨rfl,id⟩,fun n hn=>.inl ((hblk n).1 hn),fun _=>Nat.le_refl _⟩⟩
 ·have:=r.nodup
  simpa [List.flatMap_append,List.flatMap_cons,eb,Ob.more] using this
 ·intro x hx
  rcases bG.1 hx with rfl | hx
  ·obtain ⟨h0,n,vs,E,g1,g2,g3,g4⟩:=r.holds (b,.cells cs) (bG.2 (.inl rfl))
   refine ⟨h1,n,vs,E,g1,g2,by rw [hl];exact g3,fun i c v hc hv=>?_⟩
   have hi:i < cs.length:=by rw [← hl];exact (List.getElem?_eq_some_iff.1 hc).1
   have Tp:cs[i]? =some cs[i]:=by simp [hi]
   exact vX i cs[i] c v Tp hc (g4 i _ v Tp hv)
  ·exact r.holds x (bG.2 (.inr hx))
 ·intro x hx n hn
  rcases bG.1 hx with rfl | hx
  ·have:=r.sep (b,.cells cs) (bG.2 (.inl rfl)) n hn
   exact ⟨fun h=>(this.1 h).elim,fun h=>h.elim⟩
  ·exact r.sep x (bG.2 (.inr hx)) n hn
theorem aj.BS {n j:Nat} {tm:List (Nat×AV)} {hp fj:Heap} {T:St→Prop} {b:Bk} {cs oI:List AV} {av rz:AV} (u:sL hp b (.cells cs) b (.cells oI) fj) (hj:cs[j]? =some av) (c:Co hp av rz) (hc:uf (cs.set j rz)=some oI) (h1:lE oI=true) (k:aj ⟨n,tm,fj⟩ T):aj ⟨n,tm,hp⟩ T:=by
 refine aj.step (Hp:=⟨n,tm,fj⟩) (fun w S a r=>?_) k
 have e:=nf hc
 obtain ⟨g1,g2⟩:=HF r.hp u (by rw [← e];simp) (ea h1) (fun i c1 c2 v W0 Rb vX=>by
  rw [← e] at Rb
  by_cases E6:j=i
  ·subst E6
   rw [List.getElem?_set_self (List.getElem?_eq_some_iff.1 hj).1] at Rb
   obtain rfl:=Option.some.inj Rb
   rw [hj] at W0
   obtain rfl:=Option.some.inj W0
   exact c.at r.hp vX
  ·rw [List.getElem?_set_ne E6,W0] at Rb
   obtain rfl:=Option.some.inj Rb
   exact vX)
 exact ⟨_,S,rfl,⟨r.size,r.defers,r.tm,g1⟩,g2⟩
theorem aj.yZ {n j:Nat} {tm:List (Nat×AV)} {hp fj:Heap} {T:St→Prop} {b:Bk} {cs oI:List AV} (sz:Nat) (u:sL hp b (.cells cs) b (.cells oI) fj) (hj:cs[j]? =some .nil) (hc:uf (cs.set j (.list sz []))=some oI) (h1:lE oI=true) (k:aj ⟨n,tm,fj⟩ T):aj ⟨n,tm,hp⟩ T:=
 aj.BS u hj (.nil sz) hc h1 k
theorem aj.Fh {n j:Nat} {tm:List (Nat×AV)} {hp:Heap} {fj:Bk→Heap} {T:St→Prop} {b:Bk} {cs:List AV} {oI:Bk→List AV} (sz:Nat) (u:∀ q,sL hp b (.cells cs) b (.cells (oI q)) (fj q)) (hj:cs[j]? =some .nil) (hc:∀ q,uf (cs.set j (.sl sz q 0 0))=some (oI q)) (h1:∀ q,lE (oI q)=true)
 (k:∀ q,aj ⟨n,tm,(q,.arr sz []) :: fj q⟩ T):aj ⟨n,tm,hp⟩ T:=by
 refine aj.step (Hp:=⟨n,tm,(⟨none,0⟩,.arr sz []) :: fj ⟨none,0⟩⟩) (fun w S a r=>?_) (k ⟨none,0⟩)
 have e:=nf (hc ⟨none,0⟩)
 obtain ⟨g1,g2⟩:=HF r.hp (u ⟨none,0⟩) (by rw [← e];simp) (ea (h1 _)) (fun i c1 c2 v W0 Rb vX=>by
  rw [← e] at Rb
  by_cases E6:j=i
  ·subst E6
   rw [List.getElem?_set_self (List.getElem?_eq_some_iff.1 hj).1] at Rb
   obtain rfl:=Option.some.inj Rb
   rw [hj] at W0
   obtain rfl:=Option.some.inj W0
   cases vX
   exact .CP sz _ rfl
  ·rw [List.getElem?_set_ne E6,W0] at Rb
   obtain rfl:=Option.some.inj Rb
   exact vX)
 obtain ⟨q1,q2,q3⟩:=rC (b:=⟨none,0⟩) (o:=.arr sz []) g1 (Ext.refl w) id ⟨by simp,by simp,.inl ⟨rfl,rfl⟩⟩ (.inl rfl)
 exact ⟨_,S,rfl,⟨r.size,r.defers,r.tm,q1⟩,g2.trans q2⟩
section rules
variable {P:Program} {all:Array Oper} {rest:List Oper} {n:Nat} {tm:List (Nat×AV)} {hp:Heap} {Q:St→Prop} {d:Nat} {ty:TypeId} {pos:String} {af:Array Edge}
theorem NM {t e yt:TypeId} {x y:Operand} {sz:Nat} {xs:List AV} [aC P t (.slice e)] (hx:dx tm x=some (.list sz xs)) (hy:dx tm y=some .nil) (h0:Nat.blt 0 sz=true) (hn:Nat.blt d n=true)
 (kk:∀ c:Bool,(c=true→xs=[])→ae P all rest ⟨n,(d,.bool c) :: tm,hp⟩ Q):ae P all (⟨some d,.binOp .eql t x y yt,ty,pos,af,none⟩ :: rest) ⟨n,tm,hp⟩ Q:=by
 refine ae.P2 rfl fun w S a r=>?_
 obtain ⟨oa,cap,vs,e1,e2,e3,e4,e5,e6⟩:=(bj (σ:=⟨n,tm,hp⟩) r hx).BH
 have e7:=(bj (σ:=⟨n,tm,hp⟩) r hy).rB
 refine ⟨.bool oa.isNone,w,S,⟨n,(d,.bool oa.isNone) :: tm,hp⟩,?_,r.put hn (.bool _),lD.refl _ _ _,kk _ (fun hc=>?_)⟩
 ·have h2:(Op.equal t (.slice oa xs.length cap) (.slice none 0 0)).run P w=.ok oa.isNone w:=by
   show (Op.equalIn (9999+1) t _ _).run P w=_
   rw [Op.equalIn]
   cases oa with
   | none=>simp [run_underlying (aC.h (P:=P) (t:=t))]
   | some ad=>simp [run_underlying (aC.h (P:=P) (t:=t))]
  have h3:(binOp .eql t (.slice oa xs.length cap) (.slice none 0 0)).run P w=.ok (.bool oa.isNone) w:=by
   rw [show binOp .eql t (.slice oa xs.length cap) (.slice none 0 0)=(do pure (.bool (← Op.equal t (.slice oa xs.length cap) (.slice none 0 0)))) from rfl]
   simp [h2]
  simp [execOp,e1,e7,eqGuard_at_slice,h3]
 ·have hoa:oa=none:=by simpa using hc
  have hvs:vs=[]:=by
   cases vs with
   | nil=>rfl
   | cons v vs=>
     obtain ⟨ad,h1,_⟩:=e5 0 v rfl
     rw [hoa] at h1;cases h1
  rw [hvs,dt e2] at e3
  have h0':0 < sz:=by simpa using h0
  have:xs.length=0:=by
   rcases Nat.eq_zero_or_pos xs.length with h | h
   ·exact h
   ·have:=Nat.mul_pos h h0';simp at e3;omega
  exact List.length_eq_zero_iff.1 this
end rules
theorem BT {α:Type} {p r:List α} (h:app [] p=some r) (hp:p=[]):r=[]:=by
 subst hp
 obtain ⟨_,e⟩:=Fa h
 simpa using e
end Go.Eng
