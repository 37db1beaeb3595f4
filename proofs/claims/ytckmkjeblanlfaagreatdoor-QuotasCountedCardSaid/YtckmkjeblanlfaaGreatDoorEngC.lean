/- The engine: abstract values, the symbolic heap, one rule for each operation. No program in sight. -/
import Derived.Test.YtckmkjeblanlfaaGreatDoorEngB
import Derived.Laws.StructEq
import Derived.Below
set_option linter.unusedVariables false
set_option linter.unusedSectionVars false
namespace Go.Eng
open Go
variable [bx]
abbrev al:=List UInt8
def Df {α:Type} (sz:Nat) (g:α→AV) (l:List α):AV:=.list sz (l.map g)
section rules
variable {P:Program} {all:Array Oper} {rest:List Oper} {n:Nat} {tm:List (Nat×AV)} {hp:Heap} {Q:St→Prop} {d:Nat} {ty:TypeId} {pos:String} {af:Array Edge}
theorem Jv {α:Type} {g:α→AV} {Ys Zs:List α} {t e:TypeId} {i:TypeInfo} {z:Value} {x y:Operand} {src:AV} {sz:Nat} [aA P t (.slice e)] [aN P e i] (hx:dk tm x=some .nil) (hy:dk tm y=some src) (hz:i.zero=some z)
 (DW:Nat.beq z.cells.size i.size=true) (kM:Nat.beq i.size sz=true) (h0:Nat.blt 0 sz=true) (hn:Nat.blt d n=true) (Nz:Nat.ble i.bytes 65536=true) (hs:Src hp sz src (Ys.map g)) (hv:app [] Ys=some Zs)
 (kk:∀ b':Bk,ae P all rest ⟨n,(d,.sl sz b' 0 Zs.length) :: tm,(b',.arr sz (Zs.map g)) :: hp⟩ Q):ae P all (⟨some d,.call {callee:=.builtin .append,args:=#[x,y],argTypes:=#[t,t]},ty,pos,af,none⟩ :: rest) ⟨n,tm,hp⟩ Q:=by
 obtain ⟨hb,rfl⟩:=BX hv
 refine ae.Iq rfl fun w S a r=>?_
 obtain rfl:i.size=sz:=Nat.eq_of_beq_eq_true kM
 obtain ⟨a1,a2,a3⟩:=oX (b:=⟨none,0⟩) (o:=.arr i.size []) r.hp (Ext.refl w) id ⟨by simp,by simp,.inl ⟨rfl,rfl⟩⟩ (.inl rfl)
 have PY:=(aV (σ:=⟨n,tm,hp⟩) r hx).pE
 have hAt:At w S (.sl i.size ⟨none,0⟩ 0 ([]:List AV).length) (a.eval x):=by rw [PY];exact .zw _ _ rfl
 have h1:=Nat.le_of_ble_eq_true Nz
 have hlen:([]:List AV).length+(Zs.map g).length≤1000000000:=by simpa using hb
 have hm:=Nat.mul_le_mul hlen h1
 obtain ⟨v',w',b',g1,g2,g3,g4,g5⟩:=BP (P:=P) (ty:=ty) a1 (aA.h (P:=P) (t:=t)) (aN.h (P:=P) (t:=e)) hz (Nat.eq_of_beq_eq_true DW) (by simpa using h0) (mf.here (b:=⟨none,0⟩) (o:=.arr i.size []) (h:=hp)) hAt (hs.at r.hp (aV (σ:=⟨n,tm,hp⟩) r hy)) (by omega) (by omega)
 obtain ⟨k1,k2,k3⟩:=rD a1 (oW.here (b':=b') (o':=.arr i.size ([]++Zs.map g))) g3 id id g4 g5
 refine ⟨v',w',S,⟨n,(d,.sl i.size b' 0 (Zs.length)) :: tm,(b',.arr i.size (Zs.map g)) :: hp⟩,?_,?_,?_,kk b'⟩
 ·simp [execOp,resolve,invoke,builtin,g1]
 ·have:=(r.heap k3 k1).put hn g2
  simpa using this
 ·have:=a2.trans k2
  simpa using this
theorem ot {x:Operand} {t e:TypeId} {sz len:Nat} {b:Bk} [aA P t (.slice e)] (hx:dk tm x=some (.sl sz b 0 len)):QV P ⟨some d,.call {callee:=.builtin .len,args:=#[x],argTypes:=#[t]},ty,pos,af,none⟩ ⟨n,tm,hp⟩ (.int .i64 (len:Nat)):=KU hx
theorem kE {α:Type} {Xs:List α} {el:α} {t e:TypeId} {i:TypeInfo} {x y:Operand} {k:IntKind} {j:Int} {sz:Nat} {b:Bk} [aA P t (.slice e)] [aN P e i] (hx:dk tm x=some (.sl sz b 0 Xs.length)) (kM:Nat.beq i.size sz=true) (hy:dk tm y=some (.int k j))
 (hv:idx Xs j=some el):QV P ⟨some d,.indexAddr t x y,ty,pos,af,none⟩ ⟨n,tm,hp⟩ (.uc sz b j.toNat 0):=by
 obtain ⟨h0,h1,_⟩:=tw hv
 have h:=Hl (P:=P) (d:=d) (ty:=ty) (pos:=pos) (af:=af) (n:=n) (tm:=tm) (hp:=hp) (t:=t) (e:=e) hx kM hy ⟨h0,h1⟩
 rw [Nat.zero_add] at h
 exact h
theorem EU {α:Type} {g:α→AV} {Xs:List α} {el:α} {j:Int} (hv:idx Xs j=some el):(Xs.map g)[j.toNat]? =some (g el):=by
 rw [List.getElem?_map,(tw hv).2.2];rfl
theorem ui {α:Type} {g:α→AV} {Xs:List α} {el:α} {j:Int} {t:TypeId} {D:TypeDesc} {x:Operand} {b:Bk} {sz o:Nat} {av:AV} [aA P t D] (hD:TypeDesc.lv D=false) (hx:dk tm x=some (.uc sz b j.toNat o)) (f:mf hp b (.arr sz (Xs.map g))∨mf hp b (.yG sz (Xs.map g)))
 (hv:idx Xs j=some el) (ho:(g el).cells[o]? =some av):QV P ⟨some d,.load t x,ty,pos,af,none⟩ ⟨n,tm,hp⟩ av:=
 FR hD hx f (EU hv) ho
theorem A9 {α:Type} {g:α→AV} {Xs:List α} {el:α} {j:Int} {t:TypeId} {D:TypeDesc} {i:TypeInfo} {x:Operand} {b:Bk} {sz:Nat} {cs:List AV} [aA P t D] [aN P t i] (hD:TypeDesc.lv D=true) (hx:dk tm x=some (.uc sz b j.toNat 0)) (f:mf hp b (.arr sz (Xs.map g))∨mf hp b (.yG sz (Xs.map g))) (kM:Nat.beq i.size sz=true)
 (hv:idx Xs j=some el) (hc:g el=.agg cs):QV P ⟨some d,.load t x,ty,pos,af,none⟩ ⟨n,tm,hp⟩ (.agg cs):=
 A5 hD hx f kM (by rw [EU (g:=g) hv,hc])
theorem uj {t:TypeId} {x:Operand} {lo hi:Option Operand} {l h:Option Int} {s zs:List UInt8} {L H:Int} [aA P t .string] (hx:dk tm x=some (.str s)) (hl:IB tm lo l) (hh:IB tm hi h) (eL:oq l=L) (eH:mW s.length h=H) (hv:yD s L H=some zs):
 QV P ⟨some d,.slice t x lo hi none,ty,pos,af,none⟩ ⟨n,tm,hp⟩ (.str zs):=by
 obtain ⟨⟨h0,h1,h2⟩,rfl⟩:=sb hv
 subst eL;subst eH
 exact FW hx hl hh h0 h1 h2
def sc:Heap→Heap→Option Heap
 | [],r=>some r
 | x :: l,r=>match sc l r with
   | some m=>some (x :: m)
   | none=>none
theorem nK:∀ {l r m:Heap},sc l r=some m→l++r=m
 | [],r,m,h=>by simpa [sc] using h
 | x :: l,r,m,h=>by
   simp only [sc] at h
   split at h
   ·rename_i m' hm
    obtain rfl:=Option.some.inj h
    rw [List.cons_append,nK hm]
   ·cases h
def T0 (H:Heap) (V:AV):AV→Heap→Prop:=fun v h=>h=H∧v=V
def T1 {DZ:Type} (H:DZ→Heap) (V:DZ→AV):AV→Heap→Prop:=fun v h=>∃ b,h=H b∧v=V b
theorem aK {f:FuncId} {args:List Operand} {ts:Array TypeId} {l l':List AV} {h0 hr H H':Heap} {V:AV} [bb P f] (hl:Au tm args=some l) (c:aB P f l' h0 (T0 H V)) (co:yP hp l l') (hs:Hc hp h0 hr) (ha:sc H hr=some H') (hn:Nat.blt d n=true)
 (kk:ae P all rest ⟨n,(d,V) :: tm,H'⟩ Q):ae P all (⟨some d,.call {callee:=.value (.func f),args:=args.toArray,argTypes:=ts},ty,pos,af,none⟩ :: rest) ⟨n,tm,hp⟩ Q:=
 ET hl c co hs hn (fun r h' ⟨e1,e2⟩=>by subst e1;subst e2;rw [nK ha];exact kk)
theorem de {DZ:Type} {f:FuncId} {args:List Operand} {ts:Array TypeId} {l l':List AV} {h0 hr:Heap} {H H':DZ→Heap} {V:DZ→AV} [bb P f] (hl:Au tm args=some l) (c:aB P f l' h0 (T1 H V)) (co:yP hp l l') (hs:Hc hp h0 hr) (ha:∀ b,sc (H b) hr=some (H' b)) (hn:Nat.blt d n=true)
 (kk:∀ b,ae P all rest ⟨n,(d,V b) :: tm,H' b⟩ Q):ae P all (⟨some d,.call {callee:=.value (.func f),args:=args.toArray,argTypes:=ts},ty,pos,af,none⟩ :: rest) ⟨n,tm,hp⟩ Q:=
 ET hl c co hs hn (fun r h' ⟨b,e1,e2⟩=>by subst e1;subst e2;rw [nK (ha b)];exact kk b)
theorem pP {f:FuncId} {x:Operand} {args:List Operand} {ts:Array TypeId} {vw l l' lc:List AV} {h0 hr H H':Heap} {V:AV} [bb P f] (hx:dk tm x=some (.func (.func f) vw)) (hl:Au tm args=some l) (VQ:sa (l++vw)=some lc) (c:aB P f l' h0 (T0 H V)) (co:yP hp lc l') (hs:Hc hp h0 hr) (ha:sc H hr=some H') (hn:Nat.blt d n=true)
 (kk:ae P all rest ⟨n,(d,V) :: tm,H'⟩ Q):ae P all (⟨some d,.call {callee:=.value x,args:=args.toArray,argTypes:=ts},ty,pos,af,none⟩ :: rest) ⟨n,tm,hp⟩ Q:=
 NF hx hl VQ c co hs hn (fun r h' ⟨e1,e2⟩=>by subst e1;subst e2;rw [nK ha];exact kk)
end rules
theorem Co.sx {hp:Heap} {α:Type} {g:α→AV} {Xs:List α} {sz:Nat} {b:Bk} (f:mf hp b (.yG sz (Xs.map g))):Co hp (.sl sz b 0 Xs.length) (.list sz (Xs.map g)):=.yG sz b _ _ f (by simp)
theorem qO.nL {hp:Heap} {α:Type} {g:α→AV} {Xs:List α} {sz:Nat} {b:Bk} (f:mf hp b (.arr sz (Xs.map g))):qO hp (.sl sz b 0 Xs.length) (.list sz (Xs.map g)):=.arr sz b _ _ f (by simp)
section rules
variable {P:Program} {all:Array Oper} {rest:List Oper} {n:Nat} {tm:List (Nat×AV)} {hp:Heap} {Q:St→Prop} {d:Nat} {ty:TypeId} {pos:String} {af:Array Edge}
theorem pQ {x:Operand} {s:TypeId} {j off:Nat} {sz:Nat} {b:Bk} {q o o':Nat} [oY P s j off] (hx:dk tm x=some (.uc sz b q o)) (ho:o+off=o'):QV P ⟨some d,.fieldAddr s x j,ty,pos,af,none⟩ ⟨n,tm,hp⟩ (.uc sz b q o'):=by
 subst ho
 exact EK hx
theorem Dg {t:TypeId} {i:TypeInfo} {x y:Operand} {b:Bk} {sz q o:Nat} {xs:List AV} {av el IE:AV} {dR:Heap} [aN P t i] (hx:dk tm x=some (.uc sz b q o)) (hy:dk tm y=some av) (h1:jl av.cells=true) (kM:Nat.beq av.cells.length i.size=true)
 (u:oW hp b (.arr sz xs) b (.arr sz (xs.set q IE)) dR) (hq:xs[q]? =some el) (KV:IE.cells=oc el.cells o av.cells) (ho:Nat.ble (o+av.cells.length) el.cells.length=true) (kk:ae P all rest ⟨n,tm,dR⟩ Q):ae P all (⟨none,.store t x y,ty,pos,af,none⟩ :: rest) ⟨n,tm,hp⟩ Q:=by
 refine ae.act rfl rfl (aE:=⟨n,tm,dR⟩) (fun w S a r=>?_) kk
 obtain ⟨m,e1,e2⟩:=(aV (σ:=⟨n,tm,hp⟩) r hx).yJ
 obtain ⟨g0,g1,⟨g2,_⟩ | ⟨m',vs,E,g2,g3,g4,g5⟩⟩:=tc r.hp (.inl u.FN)
 ·rw [g2] at e1;cases e1
 obtain rfl:m'=m:=by rw [g2] at e1;exact Option.some.inj e1
 have hv:=aV (σ:=⟨n,tm,hp⟩) r hy
 obtain ⟨hl,uW⟩:=uY hv (dK h1)
 have Hh:=dK h1
 have kM:=Nat.eq_of_beq_eq_true kM
 have ho:=Nat.le_of_ble_eq_true ho
 clear h1 hv hy
 generalize av.cells=nc at *
 generalize NG:el.cells=cs at *
 have hle:o+nc.length≤cs.length:=ho
 have wA:=g0 el (List.mem_of_getElem? hq)
 have Iw:cs.length=sz:=by rw [← NG];exact wA.1
 have XA:q < xs.length:=(List.getElem?_eq_some_iff.1 hq).1
 have hmul:(q+1) * sz≤xs.length * sz:=Nat.mul_le_mul_right _ (by omega)
 have Lg:xs.length * sz≤b.cap * sz:=Nat.mul_le_mul_right _ g1
 rw [Nat.add_mul,Nat.one_mul] at hmul
 have Hj:=yL hl uW Hh
 have FQ:=run_storeCells_at (P:=P) m' (q * sz+o) E (a.eval y).cells.toList 0 vs w g3 (by simp;omega) Hj
 simp only [Nat.add_zero] at FQ
 have KX:(a.eval y).cells.size=i.size:=by rw [← hl];exact kM
 have Rj:=dj g0
 have Pg:El sz IE:=by
  refine ⟨by rw [KV];simp [oc];omega,fun c hc=>?_⟩
  rw [KV] at hc
  simp only [oc,List.mem_append] at hc
  rcases hc with (hc | hc) | hc
  ·exact wA.2 c (by rw [NG];exact List.mem_of_mem_take hc)
  ·exact Hh c hc
  ·exact wA.2 c (by rw [NG];exact List.mem_of_mem_drop hc)
 have Lh:flat (xs.set q IE)=(flat xs).take (q * sz+o)++nc++(flat xs).drop (q * sz+o+nc.length):=by
  rw [FX g0 Pg hq]
  rw [KV];simp only [oc]
  have KC:cs=((flat xs).drop (q * sz)).take sz:=by
   apply List.ext_getElem?
   intro j
   by_cases hj:j < sz
   ·have:=wv g0 hq j hj
    rw [List.getElem?_take,if_pos hj,List.getElem?_drop,this,NG]
   ·rw [List.getElem?_eq_none (by omega),List.getElem?_eq_none (by simp;omega)]
  have e1:cs.take o=((flat xs).drop (q * sz)).take o:=by rw [KC,List.take_take,Nat.min_eq_left (by omega)]
  have e2:cs.drop (o+nc.length)=(((flat xs).drop (q * sz+o+nc.length)).take (sz - (o+nc.length))):=by
   rw [KC,List.drop_take,List.drop_drop]
   rw [show q * sz+(o+nc.length)=q * sz+o+nc.length from by omega]
  rw [e1,e2]
  have e3:(flat xs).take (q * sz+o)=(flat xs).take (q * sz)++((flat xs).drop (q * sz)).take o:=by rw [List.take_add]
  rw [e3]
  have e4:(flat xs).drop (q * sz+o+nc.length)=((flat xs).drop (q * sz+o+nc.length)).take (sz - (o+nc.length))++(flat xs).drop (q * sz+sz):=by
   conv=>lhs;rw [← List.take_append_drop (sz - (o+nc.length)) ((flat xs).drop (q * sz+o+nc.length))]
   rw [List.drop_drop,show q * sz+o+nc.length+(sz - (o+nc.length))=q * sz+sz from by omega]
  conv=>rhs;rw [e4]
  simp only [List.append_assoc]
 have Li:=fun (w':World) (ha:kB w' S (flat xs) vs) (hb:kB w' S nc (a.eval y).cells)=>IC (q * sz+o) (by rw [Rj,g4];exact Lg) ha hl hb (by omega)
 have Lj:(vs.toList.take (q * sz+o)++(a.eval y).cells.toList++vs.toList.drop (q * sz+o+(a.eval y).cells.toList.length)).toArray.size=b.cap * sz:=by
  simp;omega
 generalize (vs.toList.take (q * sz+o)++(a.eval y).cells.toList++vs.toList.drop (q * sz+o+(a.eval y).cells.toList.length)).toArray=C7 at FQ Li Lj
 have c:GB w (w.setRow m' C7) b.cF:=⟨⟨rfl,rfl,rfl,by simp,fun k hk sw=>setRow_other w m' k _ (fun e=>sw (by rw [e1,e]))⟩,fun _=>Nat.le_refl _⟩
 have k1:∀ n,S n→S n∧(w.setRow m' C7).heap[n]? =w.heap[n]?:=by
  intro k hk
  refine ⟨hk,setRow_other w m' k _ (fun e=>?_)⟩
  subst e
  exact (r.hp.sep _ u.FN.mem k (mz e1)).1 hk
 have hh:=rD r.hp u c id id ⟨?_,by simpa using g1,.inr ⟨m',C7,E,e1,setRow_heap w m' vs _ E _ g3,Lj,by rw [Lh];exact Li _ (g5.mono k1) (uW.mono k1)⟩⟩ (.inl rfl)
 ·refine ⟨w.setRow m' C7,S,?_,r.heap hh.2.2 hh.1,hh.2.1⟩
  simp [execOp,e2,Instr.storeAt,Instr.sureAddr,storeVar,sizeOf,typeInfo,aN.h (P:=P) (t:=t),KX,FQ]
 ·intro z hz
  rcases List.mem_or_eq_of_mem_set hz with h | rfl
  ·exact g0 z h
  ·exact Pg
theorem ou {α:Type} {g:α→AV} {Xs:List α} {el IE:α} {j:Int} {t:TypeId} {i:TypeInfo} {x y:Operand} {b:Bk} {sz o:Nat} {av:AV} {dR:Heap} [aN P t i] (hx:dk tm x=some (.uc sz b j.toNat o)) (hy:dk tm y=some av) (h1:jl av.cells=true) (kM:Nat.beq av.cells.length i.size=true)
 (hv:idx Xs j=some el) (KV:(g IE).cells=oc (g el).cells o av.cells) (u:oW hp b (.arr sz (Xs.map g)) b (.arr sz ((Xs.set j.toNat IE).map g)) dR) (ho:Nat.ble (o+av.cells.length) (g el).cells.length=true) (kk:ae P all rest ⟨n,tm,dR⟩ Q):
 ae P all (⟨none,.store t x y,ty,pos,af,none⟩ :: rest) ⟨n,tm,hp⟩ Q:=by
 refine Dg (xs:=Xs.map g) (el:=g el) (IE:=g IE) hx hy h1 kM ?_ (EU hv) KV ho kk
 rw [List.map_set] at u
 exact u
end rules
theorem dv.hs {w:World} {S:Nat→Prop} {h h':Heap} (r:dv w S h) (s:HS h h'):dv w S h':=by
 obtain ⟨q,hq⟩:=s.perm
 exact (r.perm hq).sub (List.sublist_append_left _ _)
theorem Has.hs {h h':Heap} (s:HS h h') {n:Nat} (hh:Has h' n):Has h n:=by
 obtain ⟨q,hq⟩:=s.perm
 obtain ⟨e,he,hb⟩:=hh
 exact ⟨e,hq.mem_iff.2 (List.mem_append_left _ he),hb⟩
theorem aB.dS {P:Program} {f:FuncId} {args:List AV} {h:Heap} {Q:AV→Heap→Prop} (c:aB P f args h (fun r h1=>∃ h',HS h1 h'∧Q r h')):aB P f args h Q:=
 fun w S vs r hl ha=>(c w S vs r hl ha).mono fun _ _ ⟨v,r,_,S',h1,⟨h',hs,hq⟩,h3,h4,h5⟩=>⟨v,r,h',S',h1,hq,h3,h4.hs hs,h5.less fun _ hn=>hn.hs hs⟩
theorem ai.eqs {n s:Nat} {tm:List (Nat×AV)} {hp:Heap} {T:St→Prop} {av r7:AV} (hs:lk tm s=some av) (he:r7=av) (k:ai ⟨n,(s,r7) :: tm,hp⟩ T):ai ⟨n,tm,hp⟩ T:=by
 subst he
 exact ai.co hs (.refl _) k
theorem Jw {hp dR:Heap} {b:Bk} {o:Ob} (u:oW hp b o b o dR):dR=hp:=by
 generalize hb:b=b',ho:o=o' at u
 have:∀ {h h':Heap} {b b':Bk} {o o':Ob},oW h b o b' o' h'→b=b'→o=o'→h'=h:=by
  intro h h' b b' o o' u
  induction u with
  | here=>rintro rfl rfl;rfl
  | next _ ih=>intro e1 e2;rw [ih e1 e2]
  | skip _ ih=>intro e1 e2;rw [ih e1 e2]
 subst hb ho
 exact this u rfl rfl
theorem ai.IF {n j:Nat} {tm:List (Nat×AV)} {hp dR:Heap} {T:St→Prop} {b:Bk} {cs ly:List AV} {av r7:AV} (u:oW hp b (.cells cs) b (.cells ly) dR) (hj:cs[j]? =some av) (he:r7=av) (hc:sa (cs.set j r7)=some ly) (k:ai ⟨n,tm,dR⟩ T):ai ⟨n,tm,hp⟩ T:=by
 subst he
 have KC:cs.set j r7=cs:=by
  apply List.ext_getElem?
  intro i
  by_cases hi:j=i
  ·subst hi
   have pB:=(List.getElem?_eq_some_iff.1 hj).1
   rw [List.getElem?_set_self pB,hj]
  ·rw [List.getElem?_set_ne hi]
 rw [KC] at hc
 obtain rfl:=lJ hc
 rw [Jw u] at k
 exact k
theorem sK {p:Prop} [Decidable p] {x:Bool} (h:p):(decide p&&x)=x:=by simp [h]
theorem sL {p:Prop} [Decidable p] {x:Bool} (h:¬ p):(decide p&&x)=false:=by simp [h]
theorem zJ {p:Prop} [Decidable p] {x:Bool} (h:p):(decide p||x)=true:=by simp [h]
theorem zK {p:Prop} [Decidable p] {x:Bool} (h:¬ p):(decide p||x)=x:=by simp [h]
theorem wF {b x:Bool} (h:b=true):(b&&x)=x:=by simp [h]
theorem wG {b x:Bool} (h:b=false):(b&&x)=false:=by simp [h]
theorem Lk {b x:Bool} (h:b=true):(b||x)=true:=by simp [h]
theorem Ll {b x:Bool} (h:b=false):(b||x)=x:=by simp [h]
def uL (P:Program) (k:Nat) (t:TypeId) (v u:Value) (b:Bool):Prop:=∀ d w,(Op.equalIn (d+k) t v u).run P w=.ok b w
theorem uL.up {P:Program} {k:Nat} {t:TypeId} {v u:Value} {b:Bool} (h:uL P k t v u b) (j:Nat):uL P (k+j) t v u b:=fun d w=>by
 rw [show d+(k+j)=(d+j)+k from by omega];exact h _ w
theorem uL.cast {P:Program} {k:Nat} {t:TypeId} {v u:Value} {b b':Bool} (h:uL P k t v u b) (e:b=b'):uL P k t v u b':=by rw [← e];exact h
inductive Jx (P:Program) (k:Nat) (xs ys:Array Value):List Field→Bool→Prop
 | nil:Jx P k xs ys [] true
 | cons {f:Field} {fs:List Field} {px py:Value} {b b':Bool} (hn:f.name≠"_") (hx:∀ w,(part f.type xs f.offset).run P w=.ok px w) (hy:∀ w,(part f.type ys f.offset).run P w=.ok py w) (he:uL P k f.type px py b) (kk:Jx P k xs ys fs b'):Jx P k xs ys (f :: fs) (b&&b')
theorem Jx.run {P:Program} {k:Nat} {xs ys:Array Value} {fs:List Field} {b:Bool} (h:Jx P k xs ys fs b) (d:Nat) (w:World):(Op.eqFields (d+k) xs ys fs).run P w=.ok b w:=by
 induction h with
 | nil=>simp [Op.eqFields]
 | @cons f fs px py b b' hn hx hy he kk ih=>
   simp only [Op.eqFields,hn,ne_eq,not_false_eq_true,if_true,Sem.run_bind,hx,hy,he d w,Result.andThen_ok]
   cases b
   ·simp
   ·simpa using ih
theorem uL.struct {P:Program} {k:Nat} {t:TypeId} {xs ys:Array Value} {fs:List Field} {b:Bool} (hu:P.underlying t=some (.struct fs.toArray)) (hp:P.stoodInHeld t=false) (h:Jx P k xs ys fs b):uL P (k+1) t (.agg xs) (.agg ys) b:=by
 intro d w
 have hf:P.fieldsOf t=fs.toArray:=by simp [Program.fieldsOf,hu]
 rw [show d+(k+1)=(d+k)+1 from rfl,run_equalIn_struct w (d+k) t xs ys (by rw [hf];exact hu) hp,hf]
 exact h.run d w
theorem bZ {P:Program} {t:TypeId} {D:TypeDesc} [aA P t D] (hD:TypeDesc.lv D=false) {cs:Array Value} {off:Nat} {v:Value} (h:cs[off]? =some v) (w:World):(part t cs off).run P w=.ok v w:=by
 unfold part isAgg
 simp only [Sem.run_bind,run_underlying (aA.h (P:=P) (t:=t)),Result.andThen_ok]
 cases D<;>simp_all [TypeDesc.lv]
theorem kB.get {w:World} {S:Nat→Prop} {cs:List AV} {vs:Array Value} (hl:cs.length=vs.size) (ha:kB w S cs vs) {off:Nat} {c:AV} (hc:cs[off]? =some c):∃ v,vs[off]? =some v∧At w S c v:=by
 have pB:=(List.getElem?_eq_some_iff.1 hc).1
 have:off < vs.size:=by omega
 exact ⟨vs[off],by simp [this],ha off c _ hc (by simp [this])⟩
class mP (P:Program) (t:TypeId) (k:outParam Nat) {α:Type} [DecidableEq α] (g:α→AV):Prop where
 h:∀ (x y:α) (w:World) (S:Nat→Prop) (v u:Value),At w S (g x) v→At w S (g y) u→uL P k t v u (decide (x=y))
class Dh (P:Program) (t:TypeId):Prop where
 h:P.eqGuardType P.depth t=false
instance SR {P:Program} {t:TypeId} {k:IntKind} [aA P t (.int k)]:mP P t 1 (AV.int k):=⟨fun x y w S v u hv hu d w'=>by
 rw [hv.fK,hu.fK,Op.equalIn]
 simp [run_underlying (aA.h (P:=P) (t:=t))]
 rw [Bool.eq_iff_iff];simp⟩
instance Um {P:Program} {t:TypeId} [aA P t (.int .i64)]:mP P t 1 I:=SR (k:=.i64)
instance VR {P:Program} {t:TypeId} [aA P t .bool]:mP P t 1 AV.bool:=⟨fun x y w S v u hv hu d w'=>by
 rw [hv.kR,hu.kR,Op.equalIn]
 simp [run_underlying (aA.h (P:=P) (t:=t))]
 rw [Bool.eq_iff_iff];simp⟩
instance eqStr {P:Program} {t:TypeId} [aA P t .string]:mP P t 1 AV.str:=⟨fun x y w S v u hv hu d w'=>by
 rw [hv.eI,hu.eI,Op.equalIn]
 simp [run_underlying (aA.h (P:=P) (t:=t))]
 rw [Bool.eq_iff_iff]
 rw [beq_toListBytes,ByteArray.toList_eq,ByteArray.toList_eq]
 simp⟩
section rules
variable {P:Program} {all:Array Oper} {rest:List Oper} {n:Nat} {tm:List (Nat×AV)} {hp:Heap} {Q:St→Prop} {d:Nat} {ty:TypeId} {pos:String} {af:Array Edge}
theorem F4 {α:Type} [DecidableEq α] {g:α→AV} {X Y:α} {k:Nat} {xt yt:TypeId} {x y:Operand} {cs ds:List AV} [mP P xt k g] [Dh P xt] (hk:Nat.ble k 10000=true) (hx:dk tm x=some (.agg cs)) (hy:dk tm y=some (.agg ds)) (eX:g X=.agg cs) (eY:g Y=.agg ds):
 QV P ⟨some d,.binOp .eql xt x y yt,ty,pos,af,none⟩ ⟨n,tm,hp⟩ (.bool (decide (X=Y))):=by
 intro w S a r
 have hv:=aV (σ:=⟨n,tm,hp⟩) r hx
 have hu:=aV (σ:=⟨n,tm,hp⟩) r hy
 have he:=mP.h (P:=P) (t:=xt) (g:=g) X Y w S _ _ (by rw [eX];exact hv) (by rw [eY];exact hu)
 obtain ⟨vs,e1,_,_⟩:=hv.gR
 obtain ⟨us,e2,_,_⟩:=hu.gR
 refine ⟨.bool (decide (X=Y)),fun w1 _=>?_,.bool _⟩
 have h1:=run_eqGuard_agg (P:=P) w1 .eql xt x y vs us Dh.h
 rw [e1,e2] at he
 have h2:(Op.equal xt (.agg vs) (.agg us)).run P w1=.ok (decide (X=Y)) w1:=by
  have:=he (10000 - k) w1
  rw [Nat.sub_add_cancel (Nat.le_of_ble_eq_true hk)] at this
  exact this
 have h3:(binOp .eql xt (.agg vs) (.agg us)).run P w1=.ok (.bool (decide (X=Y))) w1:=by
  rw [show binOp .eql xt (.agg vs) (.agg us)=(do pure (.bool (← Op.equal xt (.agg vs) (.agg us)))) from rfl]
  simp [h2]
 simp [execOp,e1,e2,h1,h3]
theorem wH {α:Type} [DecidableEq α] {g:α→AV} {X Y:α} {k:Nat} {xt yt:TypeId} {x y:Operand} {cs ds:List AV} [mP P xt k g] [Dh P xt] (hk:Nat.ble k 10000=true) (hx:dk tm x=some (.agg cs)) (hy:dk tm y=some (.agg ds)) (eX:g X=.agg cs) (eY:g Y=.agg ds):
 QV P ⟨some d,.binOp .neq xt x y yt,ty,pos,af,none⟩ ⟨n,tm,hp⟩ (.bool (decide (X≠Y))):=by
 intro w S a r
 have hv:=aV (σ:=⟨n,tm,hp⟩) r hx
 have hu:=aV (σ:=⟨n,tm,hp⟩) r hy
 have he:=mP.h (P:=P) (t:=xt) (g:=g) X Y w S _ _ (by rw [eX];exact hv) (by rw [eY];exact hu)
 obtain ⟨vs,e1,_,_⟩:=hv.gR
 obtain ⟨us,e2,_,_⟩:=hu.gR
 refine ⟨.bool (decide (X≠Y)),fun w1 _=>?_,.bool _⟩
 have h1:=run_eqGuard_agg (P:=P) w1 .neq xt x y vs us Dh.h
 rw [e1,e2] at he
 have h2:(Op.equal xt (.agg vs) (.agg us)).run P w1=.ok (decide (X=Y)) w1:=by
  have:=he (10000 - k) w1
  rw [Nat.sub_add_cancel (Nat.le_of_ble_eq_true hk)] at this
  exact this
 have h3:(binOp .neq xt (.agg vs) (.agg us)).run P w1=.ok (.bool (decide (X≠Y))) w1:=by
  rw [show binOp .neq xt (.agg vs) (.agg us)=(do pure (.bool (!(← Op.equal xt (.agg vs) (.agg us))))) from rfl]
  simp [h2]
 simp [execOp,e1,e2,h1,h3]
theorem wI {xt yt:TypeId} {x y:Operand} {s t:List UInt8} (hx:dk tm x=some (.str s)) (hy:dk tm y=some (.str t)):QV P ⟨some d,.binOp .leq xt x y yt,ty,pos,af,none⟩ ⟨n,tm,hp⟩ (.bool (Op.bytesLess s t||s==t)):=by
 refine fun w S a r=>⟨.bool (Op.bytesLess s t||s==t),fun w1 _=>?_,.bool _⟩
 simp [execOp,(aV (σ:=⟨n,tm,hp⟩) r hx).eI,(aV (σ:=⟨n,tm,hp⟩) r hy).eI,eqGuard_at_string,binOp,Op.stringOp,ByteArray.toList_eq]
end rules
end Go.Eng
namespace Go.Eng
open Go Go.RowKit
variable [bx]
theorem D0 (l:List Int):flat (l.map I)=l.map I:=by
 induction l with
 | nil=>rfl
 | cons x r ih=>rw [List.map_cons,jg,ih];rfl
theorem Lm {P:Program} {f:FuncId} {a:Option Addr} {len cap:Nat} {zs:List Int} {w:World}
 (VS:(a=none∧len=0∧cap=0∧zs=[])∨∃ x,a=some x∧len≤cap∧cap≤maxLen∧zs.length=cap∧(∀ i,i < zs.length→w.cell? (x.add i)=some (.int .i64 (zs.getD i 0)))∧∀ n∈zs,(Lit.int .i64 n).wf=true)
 (hG:∀ g o,bx.Sp g=some o→g < w.heap.size∧o (w.heap[g]?))
 (c:∀ l:List Int,Pu P f [.list 1 (l.map I)] (.bool true)):
 Calls P f #[.slice a len cap] w fun e w'=>e=.returned (.bool true)∧Below w.heap.size w w':=by
 let S:Nat→Prop:=fun n=>n < w.heap.size
 have uW:∃ l:List Int,At w S (.list 1 (l.map I)) (.slice a len cap):=by
  rcases VS with ⟨rfl,rfl,rfl,rfl⟩ | ⟨x,rfl,h1,h2,h3,h4,h5⟩
  ·exact ⟨[],.list 1 [] none 0 [] (by simp) rfl (by simp [flat]) (by simp) (by simp)⟩
  ·refine ⟨zs.take len,?_⟩
   have hl:((zs.take len).map I).length=len:=by simp;omega
   have key:=At.list (w:=w) (S:=S) 1 ((zs.take len).map I) (some x) cap ((zs.take len).map (fun n=>Value.int .i64 n)) ?_ ?_ ?_ ?_ ?_
   ·rw [hl] at key;exact key
   ·intro y hy
    obtain ⟨n,_,rfl⟩:=List.mem_map.1 hy
    exact ⟨rfl,fun c hc=>by simp [AV.cells] at hc;subst hc;rfl⟩
   ·rw [D0];simp
   ·intro i c v hc hv
    rw [D0,List.getElem?_map] at hc
    rw [List.getElem?_map] at hv
    cases hn:(zs.take len)[i]? with
    | none=>rw [hn] at hc;cases hc
    | some n=>
      rw [hn] at hc hv
      obtain rfl:=Option.some.inj hc
      obtain rfl:=Option.some.inj hv
      exact .int _ _
   ·intro i v hv
    rw [List.getElem?_map] at hv
    cases hn:(zs.take len)[i]? with
    | none=>rw [hn] at hv;cases hv
    | some n=>
      rw [hn] at hv
      obtain rfl:=Option.some.inj hv
      have hi:i < zs.length:=by
       have:=(List.getElem?_eq_some_iff.1 hn).1
       simp at this;omega
      have hz:zs.getD i 0=n:=by
       rw [List.getElem?_take] at hn
       split at hn
       ·rw [List.getD_eq_getElem?_getD,hn];rfl
       ·cases hn
      have AD:=h4 i hi
      rw [hz] at AD
      obtain ⟨bk,of,sp⟩:=x
      have M1:sp=none:=by
       cases sp with
       | none=>rfl
       | some q=>
         have SS:=h4 0 (by omega)
         unfold World.cell? Addr.add at SS
         simp only [if_true] at SS
         split at SS
         ·simp at SS
         ·cases SS
      subst M1
      rw [nZ] at AD
      have hblk:bk < w.heap.size:=by
       rcases Nat.lt_or_ge bk w.heap.size with h | h
       ·exact h
       ·unfold World.cell? at AD
        simp only [Array.getElem?_eq_none h] at AD
        cases AD
      exact ⟨_,rfl,rfl,hblk,AD⟩
   ·rw [hl];exact h1
 obtain ⟨l,uW⟩:=uW
 refine (c l w S #[.slice a len cap] (yQ (fun n hn=>hn) hG) rfl ?_).mono ?_
 ·intro i c' v hc hv
  match i with
  | 0=>simp at hc hv;subst hc;subst hv;exact uW
  | i+1=>simp at hc
 ·rintro e w' ⟨v,r,h',S',rfl,rfl,h1,h2,h3⟩
  refine ⟨by rw [h1.kR],h3.os,h3.tape,h3.output,h3.size,fun k hk=>(h3.mO k hk).2⟩
end Go.Eng
namespace Go.Eng
open Go
variable [bx]
def mX (e:Env) (d:Option Nat) (o:Option AV):Env:=match d with
 | some d=>fun s=>if d=s then o else e s
 | none=>e
theorem jn {e:Env} {d:Option Nat} {o:Option AV} {s:Nat} (h:d≠some s):mX e d o s=e s:=by
 cases d with
 | none=>rfl
 | some d=>simp only [mX];rw [if_neg (fun e=>h (by rw [e]))]
theorem lN {e:Env} {o:Option AV} {s:Nat}:mX e (some s) o s=o:=by simp [mX]
section order
variable {P:Program} {all:Array Oper} {n m:Nat} {hp:Heap}
def wh (all:Array Oper) (lK:Nat→Option AV) (e:Env) (listed:Array Bool):Nat→Env
 | 0=>e
 | k+1=>if listed.getD k false then mX (wh all lK e listed k) ((all[k]?).bind (·.dst)) (lK k) else wh all lK e listed k
variable {lK:Nat→Option AV} {en:Nat→Env} {e:Env}
theorem Jy (hB:vU all m) {listed:Array Bool} (L:M5 all m listed) (h0:en 0=e) (hs:∀ i o,i < m→all[i]? =some o→en (i+1)=mX (en i) o.dst (lK i)) (hm:m≤all.size)
 {i:Nat} {o:Oper} (ho:all[i]? =some o) (FB:i < m) (xM:listed.getD i false=false) (hr:∀ j,Ay all i j→listed.getD j false=true) {s:Nat} (M6:s∈looks all o):∀ k,k≤all.size→wh all lK e listed k s=en (min k i) s:=by
 intro k
 induction k with
 | zero=>intro _;simp [wh,h0]
 | succ k ih=>
   intro hk
   have wg:=ih (by omega)
   have vu:all[k]? =some all[k]:=by simp [show k < all.size by omega]
   simp only [wh,vu,Option.bind_some]
   rcases Nat.lt_trichotomy k i with pB | heq | K8
   ·rw [Nat.min_eq_left (by omega)] at wg
    rw [Nat.min_eq_left (by omega),hs k _ (by omega) vu]
    by_cases hd:(all[k]).dst=some s
    ·have hl:listed.getD k false=true:=hr k ((kD hB ho vu pB).1 FB (ye hd M6))
     rw [if_pos hl,hd,lN,lN]
    ·rw [jn hd]
     split
     ·rw [jn hd];exact wg
     ·exact wg
   ·subst heq
    rw [xM]
    simp only [Bool.false_eq_true,if_false]
    rw [Nat.min_eq_right (by omega)]
    rw [Nat.min_eq_right (by omega)] at wg
    exact wg
   ·rw [Nat.min_eq_right (by omega)] at wg
    rw [Nat.min_eq_right (by omega)]
    by_cases hl:listed.getD k false=true
    ·by_cases hd:(all[k]).dst=some s
     ·exfalso
      have hw:=(kD hB vu ho K8).1 (L.head k hl) (AB hd M6)
      have:=lz.NB L.closed hw hl
      rw [xM] at this;cases this
     ·rw [if_pos hl,jn hd];exact wg
    ·rw [if_neg hl];exact wg
theorem Ln (hB:vU all m) {listed:Array Bool} (L:M5 all m listed) {i:Nat} {o:Oper} (ho:all[i]? =some o) (FB:i < m) (xM:listed.getD i false=false) (s:Nat):
 ∀ k,k≤all.size→wh all lK e (listed.setIfInBounds i true) k s=(if i < k then mX (wh all lK e listed k) o.dst (lK i) s else wh all lK e listed k s):=by
 have hi:i < listed.size:=by rw [L.size];exact (Array.getElem?_eq_some_iff.1 ho).1
 intro k
 induction k with
 | zero=>intro _;simp [wh]
 | succ k ih=>
   intro hk
   have wg:=ih (by omega)
   have vu:all[k]? =some all[k]:=by simp [show k < all.size by omega]
   simp only [wh,vu,Option.bind_some,jm hi]
   rcases Nat.lt_trichotomy k i with pB | heq | K8
   ·rw [if_neg (by omega)] at wg
    have e1:(if k=i then true else listed.getD k false)=listed.getD k false:=if_neg (by omega)
    rw [e1,if_neg (show ¬ i < k+1 by omega)]
    by_cases hl:listed.getD k false=true
    ·rw [if_pos hl,if_pos hl]
     by_cases hd:(all[k]).dst=some s
     ·rw [hd,lN,lN]
     ·rw [jn hd,jn hd];exact wg
    ·rw [if_neg hl,if_neg hl];exact wg
   ·subst heq
    rw [if_neg (by omega)] at wg
    have e1:(if k=k then true else listed.getD k false)=true:=if_pos rfl
    rw [e1,if_pos (show k < k+1 by omega),if_pos rfl,xM,if_neg Bool.false_ne_true]
    obtain rfl:all[k]=o:=by rw [vu] at ho;exact Option.some.inj ho
    by_cases hd:(all[k]).dst=some s
    ·rw [hd,lN,lN]
    ·rw [jn hd,jn hd];exact wg
   ·rw [if_pos K8] at wg
    have e1:(if k=i then true else listed.getD k false)=listed.getD k false:=if_neg (by omega)
    rw [e1,if_pos (show i < k+1 by omega)]
    by_cases hl:listed.getD k false=true
    ·rw [if_pos hl,if_pos hl]
     by_cases hd:(all[k]).dst=some s
     ·by_cases Jq:o.dst=some s
      ·exfalso
       have hw:=(kD hB vu ho K8).1 (L.head k hl) (DY Jq hd)
       have:=lz.NB L.closed hw hl
       rw [xM] at this;cases this
      ·rw [hd,lN,jn Jq,lN]
     ·by_cases Jq:o.dst=some s
      ·rw [jn hd,wg,Jq,lN,lN]
      ·rw [jn hd,wg,jn Jq,jn Jq,jn hd]
    ·rw [if_neg hl,if_neg hl];exact wg
structure Tok where
 prod:Option Nat
 cons:Option Nat
 VT:List Nat
 ent:Bk→Bk×Ob
 Un:Option Nat
 XH:List Nat
def Tok.ix (t:Tok):Option Nat:=match t.Un with | some a=>some a | none=>t.prod
def Tok.at (t:Tok) (β:Nat→Bk):Bk×Ob:=t.ent (match t.ix with | some i=>β i | none=>⟨none,0⟩)
def yf (listed:Array Bool) (t:Tok):Bool:=(match t.prod with | none=>true | some i=>listed.getD i false)&&(match t.cons with | none=>true | some i=>!listed.getD i false)
def Ba (i:Nat) (t:Tok):Bool:=match t.cons with | some c=>Nat.beq c i | none=>false
def NH (i:Nat) (t:Tok):Bool:=match t.prod with | some c=>Nat.beq c i | none=>false
def IG (i:Nat) (t:Tok):Bool:=t.VT.contains i
def yR (tk:List Tok) (i:Nat) (β:Nat→Bk):Heap:=(tk.filter (IG i)).map (·.at β)
def M3 (i:Nat) (t:Tok):Bool:=t.XH.contains i
def vz (tk:List Tok) (i:Nat) (β:Nat→Bk):List Heap:=match tk.filter (M3 i) with
 | []=>[yR tk i β]
 | l=>l.map fun t=>t.at β :: yR tk i β
def sM (tk:List Tok) (listed:Array Bool) (β:Nat→Bk):Heap:=(tk.filter (yf listed)).map (·.at β)
def uM (tk:List Tok) (i:Nat) (β:Nat→Bk):Heap:=(tk.filter (Ba i)).map (·.at β)
def jL (tk:List Tok) (i:Nat) (β:Nat→Bk):Heap:=(tk.filter (NH i)).map (·.at β)
def pd (β:Nat→Bk) (i:Nat) (b:Bk):Nat→Bk:=fun k=>bif Nat.beq k i then b else β k
theorem NI (β:Nat→Bk) (i:Nat) (b:Bk):pd β i b i=b:=by simp [pd]
theorem IH {β:Nat→Bk} {i k:Nat} {b:Bk} (h:k≠i):pd β i b k=β k:=by simp [pd,rC h]
def Lo (tk:List Tok) (β:Nat→Bk):Heap:=(tk.filter (fun t=>t.cons.isNone)).map (·.at β)
def SU (A:List Nat) (m:Nat) (tk:List Tok):Bool:=tk.all fun t=>
 (match t.prod with | some p=>Nat.blt p m | none=>true)&&(match t.cons with | some c=>Nat.blt c m&&(match t.prod with | some p=>(A.getD c 0).testBit p | none=>true) | none=>true)&&
 (match t.Un with | some a=>(match t.prod with | some p=>(A.getD p 0).testBit a | none=>false) | none=>true)&&
 t.VT.all fun i=>Nat.blt i m&&(match t.prod with | some p=>(A.getD i 0).testBit p | none=>true)&&(match t.cons with | some c=>(A.getD c 0).testBit i | none=>true)
def Ph (A:List Nat) (m:Nat) (tk:List Tok):Bool:=(List.range m).all fun i=>match tk.filter (M3 i) with
 | []=>true
 | [t0,t1]=>(match t0.cons,t1.prod with | some j,some j'=>Nat.beq j j'&&!Nat.beq j i | _,_=>false)&&(match t0.prod with | some p=>(A.getD i 0).testBit p | none=>true)&&(match t1.cons with | some c=>(A.getD c 0).testBit i | none=>true)&&!IG i t0&&!IG i t1
 | _=>false
def Hs (all:Array Oper) (m:Nat) (tk:List Tok):Prop:=∀ i,i < m→tk.filter (M3 i)=[]∨∃ t0 t1 j,tk.filter (M3 i)=[t0,t1]∧t0.cons=some j∧t1.prod=some j∧j≠i∧(∀ p,t0.prod=some p→Ay all i p)∧(∀ c,t1.cons=some c→Ay all c i)∧IG i t0=false∧IG i t1=false
theorem Ht {A:List Nat} {tk:List Tok} (hA:Jp all=A) (h:Ph A m tk=true):Hs all m tk:=by
 intro i hi
 have:=List.all_eq_true.1 h i (List.mem_range.2 hi)
 split at this
 ·rename_i e;exact .inl e
 ·rename_i t0 t1 e
  simp only [Bool.and_eq_true,Bool.not_eq_true'] at this
  obtain ⟨⟨⟨⟨h1,h2⟩,h3⟩,h4⟩,h5⟩:=this
  split at h1
  ·rename_i j j' hj hj'
   simp only [Bool.and_eq_true,Bool.not_eq_true'] at h1
   obtain ⟨h6,h7⟩:=h1
   obtain rfl:=Nat.eq_of_beq_eq_true h6
   refine .inr ⟨t0,t1,j,e,hj,hj',fun e=>by rw [e] at h7;simp at h7,fun p hp=>?_,fun c hc=>?_,h4,h5⟩
   ·rw [hp] at h2;subst hA;exact pr h2
   ·rw [hc] at h3;subst hA;exact pr h3
  ·cases h1
 ·cases this
def BY (all:Array Oper) (m:Nat) (tk:List Tok):Prop:=∀ t∈tk,(∀ p,t.prod=some p→p < m)∧(∀ c,t.cons=some c→c < m∧∀ p,t.prod=some p→Ay all c p)∧(∀ i,IG i t=true→i < m∧(∀ p,t.prod=some p→Ay all i p)∧∀ c,t.cons=some c→Ay all c i)∧∀ a,t.Un=some a→∃ p,t.prod=some p∧Ay all p a
theorem Jz {A:List Nat} {tk:List Tok} (hA:Jp all=A) (h:SU A m tk=true):BY all m tk:=by
 intro t ht
 have:=List.all_eq_true.1 h t ht
 rw [Bool.and_eq_true,Bool.and_eq_true,Bool.and_eq_true] at this
 obtain ⟨⟨⟨h1,h2⟩,h9⟩,h4⟩:=this
 subst hA
 refine ⟨fun p hp=>by rw [hp] at h1;simpa using h1,fun c hc=>?_,fun i hi=>?_,fun a ha=>?_⟩
 ·rw [hc] at h2
  simp only [Bool.and_eq_true] at h2
  refine ⟨by simpa using h2.1,fun p hp=>?_⟩
  have h3:=h2.2
  rw [hp] at h3
  exact pr h3
 ·have h5:=List.all_eq_true.1 h4 i (by simpa [IG] using hi)
  rw [Bool.and_eq_true,Bool.and_eq_true] at h5
  obtain ⟨⟨h6,h7⟩,h8⟩:=h5
  exact ⟨by simpa using h6,fun p hp=>by rw [hp] at h7;exact pr h7,fun c hc=>by rw [hc] at h8;exact pr h8⟩
 ·rw [ha] at h9
  cases hp:t.prod with
  | none=>rw [hp] at h9;cases h9
  | some p=>rw [hp] at h9;exact ⟨p,rfl,pr h9⟩
theorem vA {α:Type} (p q:α→Bool) (l:List α):(l.filter p).Perm (l.filter (fun x=>p x&&q x)++l.filter (fun x=>p x&&!q x)):=by
 induction l with
 | nil=>exact List.Perm.refl _
 | cons x l ih=>
   simp only [List.filter_cons]
   cases hp:p x<;>cases hq:q x
   ·simpa using ih
   ·simpa using ih
   ·simp only [Bool.true_and,Bool.not_false,Bool.false_eq_true,if_false,if_true]
    exact (List.Perm.cons x ih).trans List.perm_middle.symm
   ·simp only [Bool.true_and,Bool.not_true,Bool.false_eq_true,if_false,if_true,List.cons_append]
    exact List.Perm.cons x ih
theorem P5 {tk:List Tok} (hT:BY all m tk) {listed:Array Bool} {i:Nat} (xM:listed.getD i false=false) (EV:∀ j,Ay all i j→listed.getD j false=true) (β:Nat→Bk):
 (sM tk listed β).Perm (uM tk i β++(tk.filter (fun t=>yf listed t&&!Ba i t)).map (·.at β)):=by
 unfold sM uM
 rw [← List.map_append]
 refine List.Perm.map _ ?_
 have e:tk.filter (Ba i)=tk.filter (fun t=>yf listed t&&Ba i t):=by
  apply List.filter_congr
  intro t ht
  cases hc:Ba i t with
  | false=>simp
  | true=>
    unfold Ba at hc
    split at hc
    ·rename_i c Ro
     obtain rfl:c=i:=Nat.eq_of_beq_eq_true hc
     have:=(hT t ht).2.1 c Ro
     have SJ:yf listed t=true:=by
      unfold yf
      rw [Ro]
      simp only [xM,Bool.not_false,Bool.and_true]
      split
      ·rfl
      ·rename_i p hp;exact EV p (this.2 p hp)
     rw [SJ];rfl
    ·cases hc
 rw [e]
 exact vA _ _ _
theorem NJ {tk:List Tok} (hT:BY all m tk) {listed:Array Bool} (Iw:lz all listed) {i:Nat} (hi:i < listed.size) (xM:listed.getD i false=false) (EW:∀ c,Ay all c i→c≠i) (β:Nat→Bk) (b:Bk):
 (sM tk (listed.setIfInBounds i true) (pd β i b)).Perm (jL tk i (pd β i b)++(tk.filter (fun t=>yf listed t&&!Ba i t)).map (·.at β)):=by
 unfold sM jL
 have e2:(tk.filter (fun t=>yf listed t&&!Ba i t)).map (·.at β)=(tk.filter (fun t=>yf listed t&&!Ba i t)).map (·.at (pd β i b)):=by
  apply List.map_congr_left
  intro t ht
  have h0:=(List.mem_filter.1 ht).1
  have h1:=(List.mem_filter.1 ht).2
  rw [Bool.and_eq_true] at h1
  have Ue:∀ p,t.prod=some p→listed.getD p false=true:=by
   intro p hp
   have:=h1.1
   unfold yf at this
   rw [hp,Bool.and_eq_true] at this
   exact this.1
  unfold Tok.at
  cases hx:t.ix with
  | none=>rfl
  | some p=>
    have Pa:listed.getD p false=true:=by
     unfold Tok.ix at hx
     cases ha:t.Un with
     | none=>rw [ha] at hx;exact Ue p hx
     | some a=>
       rw [ha] at hx
       obtain rfl:=Option.some.inj hx
       obtain ⟨q,q1,q2⟩:=(hT t h0).2.2.2 a ha
       exact Iw.NB q2 (Ue q q1)
    have:p≠i:=fun e=>by subst e;rw [xM] at Pa;cases Pa
    simp only [IH this]
 rw [e2,← List.map_append]
 refine List.Perm.map _ ?_
 refine (vA _ (NH i) _).trans ?_
 have f1:tk.filter (fun t=>yf (listed.setIfInBounds i true) t&&NH i t)=tk.filter (NH i):=by
  apply List.filter_congr
  intro t ht
  cases hp:NH i t with
  | false=>simp
  | true=>
    unfold NH at hp
    split at hp
    ·rename_i p Pj
     obtain rfl:p=i:=Nat.eq_of_beq_eq_true hp
     have SJ:yf (listed.setIfInBounds p true) t=true:=by
      unfold yf
      rw [Pj]
      simp only [jm hi,if_true,Bool.true_and]
      cases hc:t.cons with
      | none=>rfl
      | some c=>
        have EV:=((hT t ht).2.1 c hc).2 p Pj
        have sw:=EW c EV
        simp only [sw,if_false]
        cases hl:listed.getD c false with
        | false=>rfl
        | true=>have:=Iw.NB EV hl;rw [xM] at this;cases this
     rw [SJ];rfl
    ·cases hp
 have f2:tk.filter (fun t=>yf (listed.setIfInBounds i true) t&&!NH i t)=tk.filter (fun t=>yf listed t&&!Ba i t):=by
  apply List.filter_congr
  intro t ht
  unfold yf NH Ba
  cases hp:t.prod with
  | none=>
    cases hc:t.cons with
    | none=>simp
    | some c=>
      simp only [jm hi]
      by_cases M7:c=i
      ·subst M7;simp
      ·have:Nat.beq c i=false:=rC M7
       simp [M7,this]
  | some p=>
    by_cases Uo:p=i
    ·subst Uo
     simp [xM]
    ·have hb:Nat.beq p i=false:=rC Uo
     cases hc:t.cons with
     | none=>simp [jm hi,Uo,hb]
     | some c=>
       simp only [jm hi,Uo,hb,if_false]
       by_cases M7:c=i
       ·subst M7;simp
       ·have:Nat.beq c i=false:=rC M7
        simp [M7,this]
 rw [f1,f2]
theorem Lp {tk:List Tok} (hT:BY all m tk) {listed:Array Bool} (Iw:lz all listed) {i:Nat} (xM:listed.getD i false=false) (EV:∀ j,Ay all i j→listed.getD j false=true) (EW:∀ c,Ay all c i→c≠i) (β:Nat→Bk):
 ((tk.filter (fun t=>yf listed t&&!Ba i t)).map (·.at β)).Perm (yR tk i β++(tk.filter (fun t=>(yf listed t&&!Ba i t)&&!IG i t)).map (·.at β)):=by
 unfold yR
 rw [← List.map_append]
 refine List.Perm.map _ ?_
 have e:tk.filter (IG i)=tk.filter (fun t=>(yf listed t&&!Ba i t)&&IG i t):=by
  apply List.filter_congr
  intro t ht
  cases hr:IG i t with
  | false=>simp
  | true=>
    obtain ⟨_,q2,q3⟩:=(hT t ht).2.2.1 i hr
    have h1:yf listed t=true:=by
     unfold yf
     have e1:(match t.prod with | none=>true | some i=>listed.getD i false)=true:=by
      cases hp:t.prod with
      | none=>rfl
      | some p=>exact EV p (q2 p hp)
     have e2:(match t.cons with | none=>true | some i=>!listed.getD i false)=true:=by
      cases hc:t.cons with
      | none=>rfl
      | some c=>
        have:=q3 c hc
        show (!listed.getD c false)=true
        cases hl:listed.getD c false with
        | false=>rfl
        | true=>have:=Iw.NB this hl;rw [xM] at this;cases this
     rw [e1,e2];rfl
    have h2:Ba i t=false:=by
     unfold Ba
     cases hc:t.cons with
     | none=>rfl
     | some c=>exact rC (EW c (q3 c hc))
    rw [h1,h2];rfl
 rw [e]
 exact vA _ _ _
theorem JA {tk:List Tok} (hT:BY all m tk) (hS:Hs all m tk) {listed:Array Bool} (Iw:lz all listed) {i:Nat} (FB:i < m) (xM:listed.getD i false=false) (EV:∀ j,Ay all i j→listed.getD j false=true) (EW:∀ c,Ay all c i→c≠i) (β:Nat→Bk):
 ∃ X∈vz tk i β,∃ rest,((tk.filter (fun t=>yf listed t&&!Ba i t)).map (·.at β)).Perm (X++rest):=by
 have h0:=Lp hT Iw xM EV EW β
 rcases hS i FB with e | ⟨t0,t1,j,e,a1,a2,a3,a4,a5,a6,a7⟩
 ·exact ⟨yR tk i β,by unfold vz;rw [e];simp,_,h0⟩
 ·have m0:t0∈tk:=(List.mem_filter.1 (by rw [e];simp:t0∈tk.filter (M3 i))).1
  have m1:t1∈tk:=(List.mem_filter.1 (by rw [e];simp:t1∈tk.filter (M3 i))).1
  have go:∀ t,t∈tk→yf listed t=true→Ba i t=false→IG i t=false→∃ rest,((tk.filter (fun t=>yf listed t&&!Ba i t)).map (·.at β)).Perm ((t.at β :: yR tk i β)++rest):=by
   intro t ht h1 h2 h3
   have hm:t∈tk.filter (fun t=>(yf listed t&&!Ba i t)&&!IG i t):=List.mem_filter.2 ⟨ht,by simp [h1,h2,h3]⟩
   obtain ⟨a,b,JB⟩:=List.append_of_mem hm
   rw [JB] at h0
   refine ⟨(a++b).map (·.at β),h0.trans ?_⟩
   rw [List.map_append,List.map_cons,List.map_append]
   refine (List.Perm.append_left _ List.perm_middle).trans ?_
   exact List.perm_middle
  have hX:∀ t,t∈[t0,t1]→(t.at β :: yR tk i β)∈vz tk i β:=by
   intro t ht
   unfold vz
   rw [e]
   exact List.mem_map.2 ⟨t,ht,rfl⟩
  cases hj:listed.getD j false with
  | false=>
    have h1:yf listed t0=true:=by
     unfold yf
     rw [a1]
     simp only [hj,Bool.not_false,Bool.and_true]
     split
     ·rfl
     ·rename_i p hp;exact EV p (a4 p hp)
    have h2:Ba i t0=false:=by unfold Ba;rw [a1];exact rC a3
    obtain ⟨rest,hr⟩:=go t0 m0 h1 h2 a6
    exact ⟨_,hX t0 (by simp),rest,hr⟩
  | true=>
    have h1:yf listed t1=true:=by
     unfold yf
     rw [a2]
     simp only [hj,Bool.true_and]
     split
     ·rfl
     ·rename_i c hc
      cases hl:listed.getD c false with
      | false=>rfl
      | true=>have:=Iw.NB (a5 c hc) hl;rw [xM] at this;cases this
    have h2:Ba i t1=false:=by
     unfold Ba
     split
     ·rename_i c hc;exact rC (EW c (a5 c hc))
     ·rfl
    obtain ⟨rest,hr⟩:=go t1 m1 h1 h2 a7
    exact ⟨_,hX t1 (by simp),rest,hr⟩
def TV (P:Program) (all:Array Oper) (n:Nat) (B:Heap) (o:Oper) (e:Env) (Ti:Heap) (V:Bk→AV) (Pi:Bk→Heap):Prop:=
 ∀ w S a,a.tmps.size=n→a.defers=[]→dv w S (Ti++B)→EP w S (looks all o) e a→∀ (K:Act→World→Prop) (Q:Exit→Act→World→Prop),
   (∀ b v w' S',kP w S (Ti++B) w' S' (Pi b++B)→dv w' S' (Pi b++B)→At w' S' (V b) v→K (a.put o.dst v) w')→o.wp P a w K Q
def sd (P:Program) (all:Array Oper) (n:Nat) (B:Heap) (o:Oper) (e:Env) (Ti:Heap) (V:Bk→AV) (Pi:Bk→Heap):Prop:=
 (∀ d,o.dst=some d→d < n)∧((pc all o e true∧TV P all n B o e Ti V Pi)∨(pc all o e false∧∀ b,Pi b=Ti∧V b=.raw undef))
def Hd (e c:Env):Env:=fun s=>match e s with | some av=>some av | none=>c s
theorem Lq {e c:Env} {s:Nat} {av:AV} (h:e s=some av):Hd e c s=some av:=by simp [Hd,h]
theorem pc.up {all:Array Oper} {o:Oper} {e c:Env} {b:Bool} (h:pc all o e b):pc all o (Hd e c) b:=by
 unfold pc at *
 cases hg:o.guard with
 | none=>rw [hg] at h;exact h
 | some g=>
   rw [hg] at h
   obtain ⟨s,h1,h2⟩:=h
   refine ⟨s,h1,?_⟩
   rcases h2 with ⟨x,h3,h4⟩ | ⟨h3,h4⟩
   ·exact .inl ⟨x,Lq h3,h4⟩
   ·exact .inr ⟨Lq h3,h4⟩
theorem EP.down {w:World} {S:Nat→Prop} {ls:List Nat} {e c:Env} {a:Act} (h:EP w S ls (Hd e c) a):EP w S ls e a:=fun s hs av qN=>h s hs av (Lq qN)
theorem sd.up {P:Program} {all:Array Oper} {n:Nat} {B:Heap} {o:Oper} {e c:Env} {Ti:Heap} {V:Bk→AV} {Pi:Bk→Heap} (h:sd P all n B o e Ti V Pi):sd P all n B o (Hd e c) Ti V Pi:=by
 refine ⟨h.1,h.2.imp (fun x=>⟨x.1.up,fun w S a h1 h2 h3 h4=>x.2 w S a h1 h2 h3 h4.down⟩) (fun x=>⟨x.1.up,x.2⟩)⟩
theorem Lr {all:Array Oper} {lK:Nat→Option AV} {V:Nat→Bk→AV} {cn:Nat→(Nat→Bk)→Env} {m:Nat} (h0:∀ β s,cn 0 β s=none) (hc:∀ i o,i < m→all[i]? =some o→∀ β,cn (i+1) β=match lK i with | none=>mX (cn i β) o.dst (some (V i (β i))) | some _=>cn i β) (hm:m≤all.size):
 ∀ i,i≤m→∀ β s av,cn i β s=some av→∃ k o,k < i∧all[k]? =some o∧o.dst=some s∧lK k=none∧av=V k (β k):=by
 intro i
 induction i with
 | zero=>intro _ β s av h;rw [h0] at h;cases h
 | succ i ih=>
   intro hi β s av h
   have vu:all[i]? =some all[i]:=by simp [show i < all.size by omega]
   rw [hc i _ (by omega) vu] at h
   cases qN:lK i with
   | some x=>
     rw [qN] at h
     obtain ⟨k,o,h1,h2⟩:=ih (by omega) β s av h
     exact ⟨k,o,by omega,h2⟩
   | none=>
     rw [qN] at h
     by_cases hd:(all[i]).dst=some s
     ·simp only [hd,lN] at h
      exact ⟨i,_,by omega,vu,hd,qN,(Option.some.inj h).symm⟩
     ·simp only [jn hd] at h
      obtain ⟨k,o,h1,h2⟩:=ih (by omega) β s av h
      exact ⟨k,o,by omega,h2⟩
theorem JC {cn:Nat→(Nat→Bk)→Env} {B:Heap} {tk:List Tok} {V:Nat→Bk→AV} (hB:vU all m) (hT:BY all m tk) (hSf:Hs all m tk) (hm:m≤all.size) {Q:Exit→Act→World→Prop} (h0:en 0=e)
 (P3:∀ β s,cn 0 β s=none) (hcn:∀ i o,i < m→all[i]? =some o→∀ β,cn (i+1) β=match lK i with | none=>mX (cn i β) o.dst (some (V i (β i))) | some _=>cn i β)
 (hs:∀ i o,i < m→all[i]? =some o→(∀ β,∀ X∈vz tk i β,sd P all n (X++B) o (Hd (en i) (cn i β)) (uM tk i β) (V i) (fun b=>jL tk i (pd β i b)))∧en (i+1)=mX (en i) o.dst (lK i)∧(∀ av,lK i=some av→∀ b,V i b=av))
 (hU:∀ i j oi oj d,i < m→j < m→i≠j→all[i]? =some oi→all[j]? =some oj→lK i=none→oi.dst=some d→oj.dst≠some d) {w0:World} {S0:Nat→Prop} {Up:Heap}
 (fin:∀ β a w S,a.tmps.size=n→a.defers=[]→dv w S (Lo tk β++B)→kP w0 S0 Up w S (Lo tk β++B)→BU w S (en m) a→(∀ j o d,j < m→all[j]? =some o→lK j=none→o.dst=some d→∃ v,a.tmps[d]? =some v∧At w S (V j (β j)) v)→wpList P all Q (all.toList.drop m) a w):
 ∀ (fuel:Nat) (listed:Array Bool) (a:Act) (w:World) (S:Nat→Prop) (β:Nat→Bk),M5 all m listed→(listed.toList.count true)+fuel=all.size→a.tmps.size=n→a.defers=[]→dv w S (sM tk listed β++B)→kP w0 S0 Up w S (sM tk listed β++B)→BU w S (wh all lK e listed all.size) a→
   (∀ j o d,listed.getD j false=true→all[j]? =some o→lK j=none→o.dst=some d→∃ v,a.tmps[d]? =some v∧At w S (V j (β j)) v)→
   wpAny P .any all Q fuel listed a w:=by
 have SL:∀ i o,i < m→all[i]? =some o→en (i+1)=mX (en i) o.dst (lK i):=fun i o h1 h2=>(hs i o h1 h2).2.1
 have EW:∀ c i,Ay all c i→c≠i:=by
  have key:∀ c i,Ay all c i→i < c:=by
   intro c i h
   have one:∀ {j i:Nat} {oj:Oper},all[j]? =some oj→waits oj i=true→i < j:=by
    intro j i oj hj hw
    simp only [waits,List.any_eq_true,Bool.and_eq_true] at hw
    obtain ⟨e',Rn,Bx,PZ⟩:=hw
    have:=yd hB hj (by simpa using Rn) Bx
    obtain rfl:e'.on=i:=Nat.eq_of_beq_eq_true PZ
    exact this
   induction h with
   | one hj hw=>exact one hj hw
   | step hj hw _ ih=>have:=one hj hw;omega
  intro c i h e;have:=key c i h;omega
 have done:∀ (fuel:Nat) (listed:Array Bool) (a:Act) (w:World) (S:Nat→Prop) (β:Nat→Bk),M5 all m listed→(listed.toList.count true)+fuel=all.size→a.tmps.size=n→a.defers=[]→dv w S (sM tk listed β++B)→kP w0 S0 Up w S (sM tk listed β++B)→BU w S (wh all lK e listed all.size) a→
  (∀ j o d,listed.getD j false=true→all[j]? =some o→lK j=none→o.dst=some d→∃ v,a.tmps[d]? =some v∧At w S (V j (β j)) v)→
  (∀ i,i < m→listed.getD i false=true)→wpAny P .any all Q fuel listed a w:=by
  intro fuel listed a w S β L hc kM Hq hr hg xn Hu od
  have Dc:∀ i,m≤i→listed.getD i false=false:=fun i hi=>by
   cases hv:listed.getD i false with
   | false=>rfl
   | true=>have:=L.head i hv;omega
  have P0:listed.toList.count true=m:=by
   have:listed.toList=List.replicate m true++List.replicate (all.size - m) false:=by
    apply List.ext_getElem?
    intro i
    rcases Nat.lt_or_ge i m with hi | hi
    ·have pL:i < listed.size:=by rw [L.size];omega
     rw [List.getElem?_append_left (by simpa using hi)]
     have:=od i hi
     simp [pL] at this
     simp [pL,hi,this]
    ·rw [List.getElem?_append_right (by simpa using hi)]
     rcases Nat.lt_or_ge i listed.size with pL | pL
     ·have:=Dc i hi
      simp [pL] at this
      have h2:i - m < all.size - m:=by rw [L.size] at pL;omega
      simp [pL,h2,this]
     ·have h2:¬ i - m < all.size - m:=by rw [L.size] at pL;omega
      simp [List.getElem?_eq_none (l:=listed.toList) (by simpa using pL),h2]
   rw [this,List.count_append,List.count_replicate,List.count_replicate]
   simp
  have P1:wh all lK e listed all.size=en m:=by
   have key:∀ k,k≤all.size→wh all lK e listed k=en (min k m):=by
    intro k
    induction k with
    | zero=>intro _;simp [wh,h0]
    | succ k ih=>
      intro hk
      have vu:all[k]? =some all[k]:=by simp [show k < all.size by omega]
      simp only [wh,vu,Option.bind_some,ih (by omega)]
      rcases Nat.lt_or_ge k m with h | h
      ·rw [if_pos (od k h),Nat.min_eq_left (by omega),Nat.min_eq_left (by omega),SL k _ h vu]
      ·rw [if_neg (by rw [Dc k h];simp),Nat.min_eq_right (by omega),Nat.min_eq_right (by omega)]
   rw [key all.size (Nat.le_refl _),Nat.min_eq_right hm]
  have SV:sM tk listed β=Lo tk β:=by
   unfold sM Lo
   congr 1
   apply List.filter_congr
   intro t ht
   obtain ⟨q1,q2,_⟩:=hT t ht
   unfold yf
   cases hp:t.prod with
   | none=>
     cases hc:t.cons with
     | none=>rfl
     | some c=>simp [od c (q2 c hc).1]
   | some p=>
     cases hc:t.cons with
     | none=>simp [od p (q1 p hp)]
     | some c=>simp [od c (q2 c hc).1]
  rw [P1] at xn
  rw [SV] at hr hg
  exact F0 hB fuel m listed a w (Nat.le_refl _) (by omega) L.size od Dc (fin β a w S kM Hq hr hg xn (fun j o d hj ho qN hd=>Hu j o d (od j hj) ho qN hd))
 intro fuel
 induction fuel with
 | zero=>
   intro listed a w S β L hc kM Hq hr hg xn Hu
   refine done 0 listed a w S β L hc kM Hq hr hg xn Hu (fun i hi=>?_)
   have F1:listed.toList.count true=listed.toList.length:=by rw [Array.length_toList,L.size];omega
   have od:=List.count_eq_length.1 F1
   have pL:i < listed.size:=by rw [L.size];omega
   have:=od listed[i] (by simp)
   simp [pL];exact this.symm
 | succ fuel ih=>
   intro listed a w S β L hc kM Hq hr hg xn Hu
   by_cases od:∀ i,i < m→listed.getD i false=true
   ·exact done _ listed a w S β L hc kM Hq hr hg xn Hu od
   ·refine ⟨fun Jr=>(od fun i hi=>zH hB L.size Jr i (by omega)).elim,fun i hi=>?_⟩
    obtain ⟨FC,Db⟩:=xo hi
    have xM:=Bz Db
    have AA:all[i]? =some all[i]:=by simp [FC]
    have FB:i < m:=by
     rcases Nat.lt_or_ge i m with h | h
     ·exact h
     ·refine (od fun j hj=>?_).elim
      have M4:all[j]? =some all[j]:=by simp [show j < all.size by omega]
      exact lz.ready L.closed ((kD hB AA M4 (by omega)).2 h) hi
    have pL:i < listed.size:=by rw [L.size];exact FC
    obtain ⟨VU,_,hV⟩:=hs i _ FB AA
    obtain ⟨X,hX,rest,XI⟩:=JA hT hSf L.closed FB xM (fun j hj=>lz.ready L.closed hj hi) (fun c h=>EW c i h) β
    obtain ⟨O5,La⟩:=VU β X hX
    have yb:EP w S (looks all all[i]) (Hd (en i) (cn i β)) a:=by
     intro s M6 av qN
     rw [Hd] at qN
     cases P6:en i s with
     | none=>
       rw [P6] at qN
       obtain ⟨k,o,k1,k2,k3,k4,k5⟩:=Lr P3 hcn hm i (by omega) β s av qN
       have SX:listed.getD k false=true:=lz.ready L.closed ((kD hB AA k2 k1).1 FB (ye k3 M6)) hi
       rw [k5]
       exact Hu k o s SX k2 k4 k3
     | some r7=>
     rw [P6] at qN
     obtain rfl:=Option.some.inj qN
     have hc:=Jy (lK:=lK) (en:=en) (e:=e) hB L h0 SL hm AA FB xM (fun j hj=>lz.ready L.closed hj hi) M6 all.size (Nat.le_refl _)
     rw [Nat.min_eq_right (by omega)] at hc
     exact xn s r7 (by rw [hc];exact P6)
    have L':M5 all m (listed.setIfInBounds i true):=by
     refine ⟨by simpa using L.size,fun k hk=>?_,fun k j o hk vu hw=>?_⟩
     ·rw [jm pL] at hk
      split at hk
      ·omega
      ·exact L.head k hk
     ·rw [jm pL] at hk
      rw [jm pL]
      split
      ·rfl
      ·split at hk
       ·rename_i VM
        subst VM
        obtain rfl:all[k]=o:=by rw [AA] at vu;exact Option.some.inj vu
        exact ug AA hi hw
       ·exact L.closed k j o hk vu hw
    have F1:(listed.setIfInBounds i true).toList.count true+fuel=all.size:=by
     have Lb:listed[i]=false:=by simpa [pL] using xM
     have:(listed.setIfInBounds i true).toList=listed.toList.set i true:=by simp
     rw [this,List.count_set (by simpa using pL)]
     have PS:listed.toList[i]'(by simpa using pL)=false:=by simpa using Lb
     rw [PS]
     have e1:(if (false==true)=true then 1 else 0)=0:=rfl
     have e2:(if (true==true)=true then 1 else 0)=1:=rfl
     rw [e1,e2]
     omega
    have SY:∀ T:Heap,(T++(X++rest)++B).Perm ((T++(X++B))++rest):=fun T=>by
     rw [List.append_assoc,List.append_assoc,List.append_assoc,List.append_assoc]
     exact List.Perm.append_left _ (List.Perm.append_left _ List.perm_append_comm)
    have XJ:(sM tk listed β++B).Perm ((uM tk i β++(X++B))++rest):=
     (((P5 hT xM (fun j hj=>lz.ready L.closed hj hi) β).trans (List.Perm.append_left _ XI)).append_right B).trans (SY _)
    have SZ:∀ b,((jL tk i (pd β i b)++(X++B))++rest).Perm (sM tk (listed.setIfInBounds i true) (pd β i b)++B):=fun b=>
     List.Perm.symm ((((NJ hT L.closed pL xM (fun c h=>EW c i h) β b).trans (List.Perm.append_left _ XI)).append_right B).trans (SY _))
    have VV:dv w S ((uM tk i β++(X++B))++rest):=hr.perm XJ
    have Uk:∀ v,(a.put (all[i]).dst v).tmps.size=n:=fun v=>by cases (all[i]).dst<;>simp [Act.put,kM]
    have Ul:∀ v,(a.put (all[i]).dst v).defers=[]:=fun v=>by cases (all[i]).dst<;>simp [Act.put,Hq]
    have VW:∀ {w1 w2:World} {S1 S2:Nat→Prop} {h1 h2 Hh Pc:Heap},kP w1 S1 h1 w2 S2 h2→h1.Perm Hh→h2.Perm Pc→kP w1 S1 Hh w2 S2 Pc:=by
     intro w1 w2 S1 S2 h1 h2 Hh Pc ev p1 p2
     have has:∀ {g g':Heap} {k:Nat},g.Perm g'→(Has g k↔Has g' k):=fun p=>
      ⟨fun ⟨x,hx,hb⟩=>⟨x,p.mem_iff.1 hx,hb⟩,fun ⟨x,hx,hb⟩=>⟨x,p.mem_iff.2 hx,hb⟩⟩
     exact ⟨ev.os,ev.tape,ev.output,ev.size,ev.mO,fun k hk hh=>ev.other k hk (fun hc=>hh ((has p1).1 hc)),fun k hk=>((ev.new k ((has p2).2 hk)).imp (has p1).1 id),ev.drawn⟩
    have next:∀ (b:Bk) (v:Value) (w':World) (S':Nat→Prop),kP w S (uM tk i β++(X++B)) w' S' (jL tk i (pd β i b)++(X++B))→dv w' S' (jL tk i (pd β i b)++(X++B))→At w' S' (V i b) v→wpAny P .any all Q fuel (listed.setIfInBounds i true) (a.put (all[i]).dst v) w':=by
     intro b v w' S' NK VX uW
     have Ir:dv w' S' ((jL tk i (pd β i b)++(X++B))++rest):=VV.frame NK VX
     have ev2:=NK.frame rest
     refine ih _ _ _ S' (pd β i b) L' F1 (Uk v) (Ul v) (Ir.perm (SZ b)) (hg.trans (VW ev2 XJ.symm (SZ b))) ?_ ?_
     ·intro s av qN
      rw [Ln (lK:=lK) (e:=e) hB L AA FB xM s all.size (Nat.le_refl _),if_pos (by omega)] at qN
      by_cases hd:(all[i]).dst=some s
      ·rw [hd,lN] at qN
       have SN:=O5 s hd
       exact ⟨v,by rw [hd];simp [Act.put,kM,SN],by rw [← hV av qN b];exact uW⟩
      ·rw [jn hd] at qN
       obtain ⟨u,h1,h2⟩:=xn s av qN
       refine ⟨u,?_,h2.mono NK.mO⟩
       cases P2:(all[i]).dst with
       | none=>simpa [Act.put] using h1
       | some d'=>
         have sw:d'≠s:=fun e=>hd (by rw [P2,e])
         simp [Act.put,sw,h1]
     ·intro j o d hj ho qN hd
      by_cases Uq:j=i
      ·subst Uq
       rw [AA] at ho;obtain rfl:=Option.some.inj ho
       have SN:=O5 d hd
       exact ⟨v,by rw [hd];simp [Act.put,kM,SN],by rw [NI];exact uW⟩
      ·have Hk:listed.getD j false=true:=by rw [jm pL,if_neg Uq] at hj;exact hj
       obtain ⟨u,h1,h2⟩:=Hu j o d Hk ho qN hd
       refine ⟨u,?_,by rw [IH Uq];exact h2.mono NK.mO⟩
       cases P2:(all[i]).dst with
       | none=>simpa [Act.put] using h1
       | some d'=>
         have sw:d'≠d:=fun e=>hU j i o all[i] d (L.head j Hk) FB Uq ho AA qN hd (by rw [P2,e])
         simp [Act.put,sw,h1]
    simp only [wpOp,AA]
    rcases La with ⟨hw,VN⟩ | ⟨hw,qN⟩
    ·rw [if_pos (xp hw yb)]
     exact .inl (VN w S a kM Hq (VV.sub (List.sublist_append_left _ _)) yb _ _ (fun b v w' S' NK VX uW=>next b v w' S' NK VX uW))
    ·rw [if_neg (by rw [xp hw yb];simp)]
     obtain ⟨e1,e2⟩:=qN ⟨none,0⟩
     replace e1:jL tk i (pd β i ⟨none,0⟩)=uM tk i β:=e1
     refine next ⟨none,0⟩ _ w S (by rw [e1];exact kP.refl _ _ _) (by rw [e1];exact VV.sub (List.sublist_append_left _ _)) ?_
     rw [e2];exact .raw _
end order
end Go.Eng
namespace Go.Eng
open Go
variable [bx]
theorem Ls {P:Program} {o:Oper} {a:Act} {K0 K:Act→World→Prop} {G:Act→World→Prop} {Q':Exit→Act→World→Prop} (hK:∀ v w',K0 (a.put o.dst v) w'→K (a.put o.dst v) w') (hd:∀ a' w',K0 a' w'→a'.defers=[]):
 ∀ r,o.upon P a K0 (x9 G) r→o.upon P a K Q' r:=by
 intro r h
 unfold Oper.upon at *
 split at h
 ·exact hK _ _ h
 ·exact hK _ _ h
 ·rename_i d w'
  have:=hd _ _ h
  cases F5:o.dst<;>simp [Act.put,F5] at this
 ·refine Calls.mono h ?_
  intro e w' he
  cases e with
  | returned v=>exact hK _ _ he
  | panicked c=>cases he.1
  | outgrown=>obtain ⟨a0,w0,h0⟩:=he;cases h0.1
 ·exact Rows.mono h fun v w' hv=>hK _ _ hv
 ·cases h.1
 ·exact h.elim
theorem NL {P:Program} {all:Array Oper} {o:Oper} {σ:St} {Q:St→Prop} (hg:o.guard=none) (h:ae P all [o] σ Q) {w:World} {S:Nat→Prop} {a:Act} (r:ee w S σ a) {K:Act→World→Prop} {Q':Exit→Act→World→Prop}
 (hK:∀ v w',Ud w S σ.hp Q (a.put o.dst v) w'→K (a.put o.dst v) w'):o.wp P a w K Q':=by
 have:=h w S a r
 unfold wpList at this
 rw [if_pos (by simp [Region.wanted,hg])] at this
 rcases this with h1 | ⟨_,a0,w0,h0,_⟩
 ·refine Ls (G:=Ud w S σ.hp Q) (fun v w' hh=>hK v w' hh.2) (fun a' w' hh=>?_) _ h1
  obtain ⟨_,aE,S',_,hr,_⟩:=hh
  exact hr.defers
 ·cases h0
variable {P:Program} {all:Array Oper} {n:Nat} {B:Heap} {tk:List Tok}
def JD (x:Option AV) (c:(Nat→Bk)→Env) (d:Option Nat) (V:Bk→AV) (i:Nat):(Nat→Bk)→Env:=fun β=>match x with | none=>mX (c β) d (some (V (β i))) | some _=>c β
inductive Pk (P:Program) (all:Array Oper) (n:Nat) (B:Heap) (tk:List Tok) (dy:List Nat):Nat→List Oper→Env→((Nat→Bk)→Env)→List (Option AV×(Bk→AV))→Env→Prop
 | nil (i:Nat) (e:Env) (c:(Nat→Bk)→Env):Pk P all n B tk dy i [] e c [] e
 | cons {i:Nat} {o:Oper} {l:List Oper} {e e':Env} {c:(Nat→Bk)→Env} {D:List (Option AV×(Bk→AV))} {x:Option AV} {V:Bk→AV} (h:∀ β,∀ X∈vz tk i β,sd P all n (X++B) o (Hd e (c β)) (uM tk i β) V (fun b=>jL tk i (pd β i b))) (hv:∀ av,x=some av→∀ b,V b=av) (hx:x=none→dy.contains i=true)
  (k:Pk P all n B tk dy (i+1) l (mX e o.dst x) (JD x c o.dst V i) D e'):Pk P all n B tk dy i (o :: l) e c ((x,V) :: D) e'
def yS (β:Nat→Bk):Nat→List Oper→List (Option AV×(Bk→AV))→List (Nat×AV)→List (Nat×AV)
 | i,o :: l,(none,V) :: D,a=>match o.dst with
   | some d=>yS β (i+1) l D ((d,V (β i)) :: a)
   | none=>yS β (i+1) l D a
 | i,_ :: l,(some _,_) :: D,a=>yS β (i+1) l D a
 | _,_,_,a=>a
def AT (P:Program) (all:Array Oper) (n:Nat) (B:Heap) (tk:List Tok) (dy:List Nat) (i:Nat) (l:List Oper) (tm:List (Nat×AV)) (acc:(Nat→Bk)→List (Nat×AV)) (Q:(Nat→Bk)→List (Nat×AV)→Prop):Prop:=
 ∃ D qP,Pk P all n B tk dy i l (lk tm) (fun β=>lk (acc β)) D (lk qP)∧∀ β,Q β (yS β i l D (acc β)++qP)
section rules
variable {dy:List Nat} {i:Nat} {rest:List Oper} {tm:List (Nat×AV)} {acc:(Nat→Bk)→List (Nat×AV)} {Q:(Nat→Bk)→List (Nat×AV)→Prop} {d:Nat} {ty:TypeId} {pos:String} {af:Array Edge} {op:Op}
theorem AT.nil {F:(Nat→Bk)→List (Nat×AV)} (hF:∀ β,F β=acc β++tm) (h:∀ β,Q β (F β)):AT P all n B tk dy i [] tm acc Q:=
 ⟨[],tm,.nil _ _ _,fun β=>by rw [show yS β i [] [] (acc β)=acc β from rfl,← hF];exact h β⟩
theorem AT.XK {o:Oper} {d:Nat} {av:AV} (hd:o.dst=some d) (h:∀ β,∀ X∈vz tk i β,sd P all n (X++B) o (Hd (lk tm) (lk (acc β))) (uM tk i β) (fun _=>av) (fun b=>jL tk i (pd β i b))) (k:AT P all n B tk dy (i+1) rest ((d,av) :: tm) acc Q):AT P all n B tk dy i (o :: rest) tm acc Q:=by
 obtain ⟨D,qP,k1,k2⟩:=k
 refine ⟨(some av,fun _=>av) :: D,qP,.cons h (fun r7 e b=>Option.some.inj e) (fun e=>by cases e) ?_,k2⟩
 have:mX (lk tm) o.dst (some av)=lk ((d,av) :: tm):=by
  rw [xq,hd];rfl
 rw [this];exact k1
theorem AT.dyn {o:Oper} {d:Nat} {V:Bk→AV} (hd:o.dst=some d) (xZ:lk tm d=none) (NM:dy.contains i=true) (h:∀ β,∀ X∈vz tk i β,sd P all n (X++B) o (Hd (lk tm) (lk (acc β))) (uM tk i β) V (fun b=>jL tk i (pd β i b))) (k:AT P all n B tk dy (i+1) rest tm (fun β=>(d,V (β i)) :: acc β) Q):AT P all n B tk dy i (o :: rest) tm acc Q:=by
 obtain ⟨D,qP,k1,k2⟩:=k
 refine ⟨(none,V) :: D,qP,.cons h (fun r7 e b=>by cases e) (fun _=>NM) ?_,fun β=>?_⟩
 ·have:mX (lk tm) o.dst none=lk tm:=by
   funext s
   rw [hd]
   simp only [mX]
   split
   ·rename_i e;subst e;exact xZ.symm
   ·rfl
  rw [this]
  have e2:JD none (fun β=>lk (acc β)) o.dst V i=fun β=>lk ((d,V (β i)) :: acc β):=by
   funext β
   simp only [JD,hd]
   rw [xq];rfl
  rw [e2];exact k1
 ·have:=k2 β
  simp only [yS,hd]
  exact this
theorem AT.sto {o:Oper} (hd:o.dst=none) (h:∀ β,∀ X∈vz tk i β,sd P all n (X++B) o (Hd (lk tm) (lk (acc β))) (uM tk i β) (fun _=>.raw undef) (fun b=>jL tk i (pd β i b))) (k:AT P all n B tk dy (i+1) rest tm acc Q):AT P all n B tk dy i (o :: rest) tm acc Q:=by
 obtain ⟨D,qP,k1,k2⟩:=k
 refine ⟨(some (.raw undef),fun _=>.raw undef) :: D,qP,.cons h (fun r7 e b=>Option.some.inj e) (fun e=>by cases e) ?_,k2⟩
 rw [hd];exact k1
def uN (tk:List Tok) (i j:Nat):Bool:=tk.all fun t=>(match t.prod with | some p=>Nat.blt p i||Nat.ble j p | none=>true)&&(match t.cons with | some p=>Nat.blt p i||Nat.ble j p | none=>true)&&((t.VT.all fun p=>Nat.blt p i||Nat.ble j p)&&t.XH.all fun p=>Nat.blt p i||Nat.ble j p)
theorem F6 {i j:Nat} (h:uN tk i j=true) {k:Nat} (h1:i≤k) (h2:k < j) (β:Nat→Bk):uM tk k β=[]:=by
 unfold uM
 rw [List.map_eq_nil_iff,List.filter_eq_nil_iff]
 intro t ht hc
 have:=List.all_eq_true.1 h t ht
 rw [Bool.and_eq_true,Bool.and_eq_true] at this
 replace this:=this.1
 unfold Ba at hc
 split at hc
 ·rename_i c Ro
  obtain rfl:c=k:=Nat.eq_of_beq_eq_true hc
  have:=this.2
  rw [Ro] at this
  simp at this;omega
 ·cases hc
theorem D2 {i j:Nat} (h:uN tk i j=true) {k:Nat} (h1:i≤k) (h2:k < j) (β:Nat→Bk):jL tk k β=[]:=by
 unfold jL
 rw [List.map_eq_nil_iff,List.filter_eq_nil_iff]
 intro t ht hc
 have:=List.all_eq_true.1 h t ht
 rw [Bool.and_eq_true,Bool.and_eq_true] at this
 replace this:=this.1
 unfold NH at hc
 split at hc
 ·rename_i c Ro
  obtain rfl:c=k:=Nat.eq_of_beq_eq_true hc
  have:=this.1
  rw [Ro] at this
  simp at this;omega
 ·cases hc
theorem Lt {i j:Nat} (h:uN tk i j=true) {k:Nat} (h1:i≤k) (h2:k < j) (β:Nat→Bk):yR tk k β=[]:=by
 unfold yR
 rw [List.map_eq_nil_iff,List.filter_eq_nil_iff]
 intro t ht hc
 have:=List.all_eq_true.1 h t ht
 rw [Bool.and_eq_true] at this
 have h3:=List.all_eq_true.1 (Bool.and_eq_true_iff.1 this.2).1 k (by simpa [IG] using hc)
 simp at h3;omega
theorem D3 {i j:Nat} (h:uN tk i j=true) {k:Nat} (h1:i≤k) (h2:k < j) (β:Nat→Bk):vz tk k β=[[]]:=by
 have e:tk.filter (M3 k)=[]:=by
  rw [List.filter_eq_nil_iff]
  intro t ht hc
  have:=List.all_eq_true.1 h t ht
  rw [Bool.and_eq_true] at this
  have h3:=List.all_eq_true.1 (Bool.and_eq_true_iff.1 this.2).2 k (by simpa [M3] using hc)
  simp at h3;omega
 unfold vz
 rw [e,Lt h h1 h2 β]
theorem BZ (e:Env) (d:Option Nat) (av:AV):mX e d (some av)=xL e d av:=by
 cases d<;>rfl
theorem F7 {o:Oper} {e:Env} {av:AV} (hd:∀ d,o.dst=some d→d < n) (hg:pc all o e true) (h:MV P all n o e B av):sd P all n B o e [] (fun _=>av) (fun _=>[]):=by
 refine ⟨hd,.inl ⟨hg,fun w S a h1 h2 h3 h4 K Q hK=>?_⟩⟩
 exact h w S a h1 h2 h3 h4 K Q (fun v w' S' Pf uW=>hK ⟨none,0⟩ v w' S' (Pf.XD h3.slt _) (h3.grow Pf) uW)
theorem S3:∀ {l1:List Oper} {e e':Env} {i:Nat} (h:NA P all n B l1 e e') (hn:uN tk i (i+l1.length)=true) {l2:List Oper} {c:(Nat→Bk)→Env} {D:List (Option AV×(Bk→AV))} {e2:Env},Pk P all n B tk dy (i+l1.length) l2 e' c D e2→
 ∃ D1,Pk P all n B tk dy i (l1++l2) e c (D1++D) e2∧D1.length=l1.length∧∀ x∈D1,x.1.isSome=true:=by
 intro l1 e e' i h
 induction h generalizing i with
 | nil e=>intro hn l2 c D e2 k;exact ⟨[],by simpa using k,rfl,by simp⟩
 | @run o l e e' av hg hm hd k ih=>
   intro hn l2 c D e2 kk
   have P7:uN tk (i+1) (i+1+l.length)=true:=by
    unfold uN at hn ⊢
    rw [List.all_eq_true] at hn ⊢
    intro t ht
    have:=hn t ht
    rw [Bool.and_eq_true,Bool.and_eq_true] at this ⊢
    refine ⟨⟨?_,?_⟩,?_⟩
    ·have h1:=this.1.1
     cases hp:t.prod<;>rw [hp] at h1<;>simp_all<;>omega
    ·have h1:=this.1.2
     cases hp:t.cons<;>rw [hp] at h1<;>simp_all<;>omega
    ·have h1:=this.2
     rw [Bool.and_eq_true,List.all_eq_true,List.all_eq_true] at h1 ⊢
     exact ⟨fun p hp=>by have:=h1.1 p hp;simp at this ⊢;omega,fun p hp=>by have:=h1.2 p hp;simp at this ⊢;omega⟩
   obtain ⟨D1,a1,a2,a3⟩:=ih P7 (l2:=l2) (D:=D) (e2:=e2) (by rw [show i+1+l.length=i+(o :: l).length by simp;omega];exact kk)
   refine ⟨(some av,fun _=>av) :: D1,?_,by simp [a2],?_⟩
   ·refine .cons (fun β X hX=>?_) (fun r7 e b=>Option.some.inj e) (fun e=>by cases e) (by rw [BZ];exact a1)
    rw [D3 hn (Nat.le_refl _) (by simp)] at hX
    obtain rfl:=List.mem_singleton.1 hX
    rw [F6 hn (Nat.le_refl _) (by simp),show (fun b=>jL tk i (pd β i b))=fun _=>[] from funext fun b=>D2 hn (Nat.le_refl _) (by simp) _]
    exact (F7 hd hg hm).up
   ·intro x hx
    rcases List.mem_cons.1 hx with rfl | hx
    ·rfl
    ·exact a3 x hx
 | @pass o l e e' hg hd k ih=>
   intro hn l2 c D e2 kk
   have P7:uN tk (i+1) (i+1+l.length)=true:=by
    unfold uN at hn ⊢
    rw [List.all_eq_true] at hn ⊢
    intro t ht
    have:=hn t ht
    rw [Bool.and_eq_true,Bool.and_eq_true] at this ⊢
    refine ⟨⟨?_,?_⟩,?_⟩
    ·have h1:=this.1.1
     cases hp:t.prod<;>rw [hp] at h1<;>simp_all<;>omega
    ·have h1:=this.1.2
     cases hp:t.cons<;>rw [hp] at h1<;>simp_all<;>omega
    ·have h1:=this.2
     rw [Bool.and_eq_true,List.all_eq_true,List.all_eq_true] at h1 ⊢
     exact ⟨fun p hp=>by have:=h1.1 p hp;simp at this ⊢;omega,fun p hp=>by have:=h1.2 p hp;simp at this ⊢;omega⟩
   obtain ⟨D1,a1,a2,a3⟩:=ih P7 (l2:=l2) (D:=D) (e2:=e2) (by rw [show i+1+l.length=i+(o :: l).length by simp;omega];exact kk)
   refine ⟨(some (.raw undef),fun _=>.raw undef) :: D1,?_,by simp [a2],?_⟩
   ·refine .cons (fun β X hX=>?_) (fun r7 e b=>Option.some.inj e) (fun e=>by cases e) (by rw [BZ];exact a1)
    rw [D3 hn (Nat.le_refl _) (by simp)] at hX
    obtain rfl:=List.mem_singleton.1 hX
    rw [F6 hn (Nat.le_refl _) (by simp),show (fun b=>jL tk i (pd β i b))=fun _=>[] from funext fun b=>D2 hn (Nat.le_refl _) (by simp) _]
    exact ⟨hd,.inr ⟨hg.up,fun b=>⟨rfl,rfl⟩⟩⟩
   ·intro x hx
    rcases List.mem_cons.1 hx with rfl | hx
    ·rfl
    ·exact a3 x hx
theorem D4 (β:Nat→Bk):∀ {l1:List Oper} {D1:List (Option AV×(Bk→AV))} (i:Nat) {l2:List Oper} {D:List (Option AV×(Bk→AV))} (a:List (Nat×AV)),D1.length=l1.length→(∀ x∈D1,x.1.isSome=true)→yS β i (l1++l2) (D1++D) a=yS β (i+l1.length) l2 D a
 | [],[],i,l2,D,a,_,_=>by simp
 | o :: l1,(some av,V) :: D1,i,l2,D,a,h,hs=>by
   simp only [List.cons_append,yS]
   rw [D4 β (i+1) a (by simpa using h) (fun x hx=>hs x (by simp [hx]))]
   simp [Nat.add_assoc,Nat.add_comm 1]
 | o :: l1,(none,V) :: D1,i,l2,D,a,h,hs=>by have:=hs (none,V) (by simp);cases this
 | [],_ :: _,i,l2,D,a,h,hs=>by cases h
 | _ :: _,[],i,l2,D,a,h,hs=>by cases h
theorem AT.am {l l1 l2:List Oper} (m:Nat) (hs:F2 m l=some (l1,l2)) (hn:uN tk i (i+m)=true) (h:AM P all n B l1 tm (fun qP=>AT P all n B tk dy (i+m) l2 qP acc Q)):AT P all n B tk dy i l tm acc Q:=by
 obtain ⟨rfl,rfl⟩:=xr hs
 obtain ⟨yE,h1,D,qP,h2,h3⟩:=h
 obtain ⟨D1,a1,a2,a3⟩:=S3 h1 hn h2
 refine ⟨D1++D,qP,a1,fun β=>?_⟩
 rw [D4 β i (acc β) a2 a3]
 exact h3 β
theorem xu {o:Oper} {Ti H1:Heap} {V:Bk→AV} {Pi H2:Bk→Heap} (hg:o.guard=none) (hd:∀ d,o.dst=some d→d < n) (h1:sc Ti B=some H1) (h2:∀ b,sc (Pi b) B=some (H2 b))
 (uK:ae P all [o] ⟨n,Dd (looks all o) tm,H1⟩ (fun aE=>∃ b yE,aE=⟨n,yE,H2 b⟩∧∀ d,o.dst=some d→lk yE d=some (V b)))
 (hv:o.dst=none→∀ b,V b=.raw undef):sd P all n B o (lk tm) Ti V Pi:=by
 refine ⟨hd,.inl ⟨by simp [pc,hg],fun w S a s1 s2 s3 s4 K Q hK=>?_⟩⟩
 have e1:=nK h1
 rw [e1] at s3 hK
 refine NL hg uK (qZ s1 s2 s3 s4) (fun v w' VY=>?_)
 obtain ⟨aE,S',⟨b,yE,rfl,NN⟩,hr,NK⟩:=VY
 have e2:=nK (h2 b)
 cases F5:o.dst with
 | some d=>
   have O5:=hd d F5
   obtain ⟨u,g1,g2⟩:=hr.tm d _ (NN d F5)
   have hu:u=v:=by
    rw [F5] at g1
    simp [Act.put,s1,O5] at g1
    exact g1.symm
   rw [hu] at g2
   rw [← F5]
   exact hK b v w' S' (by rw [e2];exact NK) (by rw [e2];exact hr.hp) g2
 | none=>
   have:a.put none v=a.put o.dst undef:=by rw [F5];rfl
   rw [this]
   exact hK b undef w' S' (by rw [e2];exact NK) (by rw [e2];exact hr.hp) (by rw [hv F5 b];exact .raw _)
theorem AT.tx {av:AV} {Ti H1 Pi H2:Heap} (Jr:∀ β,vz tk i β=[[]]) (Lu:∀ β,uM tk i β=Ti) (Lv:∀ β,jL tk i β=Pi) (h1:sc Ti B=some H1) (h2:sc Pi B=some H2) (hn:Nat.blt d n=true)
 (uK:ae P all [⟨some d,op,ty,pos,af,none⟩] ⟨n,Dd (looks all ⟨some d,op,ty,pos,af,none⟩) tm,H1⟩ (fun aE=>∃ yE,aE=⟨n,yE,H2⟩∧lk yE d=some av))
 (k:AT P all n B tk dy (i+1) rest ((d,av) :: tm) acc Q):AT P all n B tk dy i (⟨some d,op,ty,pos,af,none⟩ :: rest) tm acc Q:=by
 refine AT.XK rfl (fun β X hX=>?_) k
 rw [Jr β] at hX
 obtain rfl:=List.mem_singleton.1 hX
 rw [List.nil_append,Lu β,show (fun b=>jL tk i (pd β i b))=fun _=>Pi from funext fun b=>Lv _]
 refine sd.up ?_
 refine xu rfl (fun d' Bb=>by obtain rfl:=Option.some.inj Bb;simpa using hn) h1 (fun _=>h2) ?_ (fun e=>by cases e)
 refine fun w S a r=>il ?_ _ _ _ (uK w S a r)
 rintro e a' w' ⟨he,aE,S',⟨yE,q1,q2⟩,hh⟩
 exact ⟨he,aE,S',⟨⟨none,0⟩,yE,q1,fun d' Bb=>by obtain rfl:=Option.some.inj Bb;exact q2⟩,hh⟩
theorem AT.Hv {V:Bk→AV} {Ti H1:Heap} {Pi H2:Bk→Heap} (Jr:∀ β,vz tk i β=[[]]) (Lu:∀ β,uM tk i β=Ti) (Lv:∀ β b,jL tk i (pd β i b)=Pi b) (h1:sc Ti B=some H1) (h2:∀ b,sc (Pi b) B=some (H2 b)) (hn:Nat.blt d n=true) (xZ:lk tm d=none) (NM:dy.contains i=true)
 (uK:ae P all [⟨some d,op,ty,pos,af,none⟩] ⟨n,Dd (looks all ⟨some d,op,ty,pos,af,none⟩) tm,H1⟩ (fun aE=>∃ b yE,aE=⟨n,yE,H2 b⟩∧lk yE d=some (V b)))
 (k:AT P all n B tk dy (i+1) rest tm (fun β=>(d,V (β i)) :: acc β) Q):AT P all n B tk dy i (⟨some d,op,ty,pos,af,none⟩ :: rest) tm acc Q:=by
 refine AT.dyn rfl xZ NM (fun β X hX=>?_) k
 rw [Jr β] at hX
 obtain rfl:=List.mem_singleton.1 hX
 rw [List.nil_append,Lu β,show (fun b=>jL tk i (pd β i b))=Pi from funext (Lv β)]
 refine sd.up ?_
 refine xu rfl (fun d' Bb=>by obtain rfl:=Option.some.inj Bb;simpa using hn) h1 h2 ?_ (fun e=>by cases e)
 refine fun w S a r=>il ?_ _ _ _ (uK w S a r)
 rintro e a' w' ⟨he,aE,S',⟨b,yE,q1,q2⟩,hh⟩
 exact ⟨he,aE,S',⟨b,yE,q1,fun d' Bb=>by obtain rfl:=Option.some.inj Bb;exact q2⟩,hh⟩
theorem AT.P8 {Ti H1 Pi H2:Heap} (Jr:∀ β,vz tk i β=[[]]) (Lu:∀ β,uM tk i β=Ti) (Lv:∀ β,jL tk i β=Pi) (h1:sc Ti B=some H1) (h2:sc Pi B=some H2)
 (uK:ae P all [⟨none,op,ty,pos,af,none⟩] ⟨n,Dd (looks all ⟨none,op,ty,pos,af,none⟩) tm,H1⟩ (fun aE=>∃ yE,aE=⟨n,yE,H2⟩))
 (k:AT P all n B tk dy (i+1) rest tm acc Q):AT P all n B tk dy i (⟨none,op,ty,pos,af,none⟩ :: rest) tm acc Q:=by
 refine AT.sto rfl (fun β X hX=>?_) k
 rw [Jr β] at hX
 obtain rfl:=List.mem_singleton.1 hX
 rw [List.nil_append,Lu β,show (fun b=>jL tk i (pd β i b))=fun _=>Pi from funext fun b=>Lv _]
 refine sd.up ?_
 refine xu rfl (fun d' Bb=>by cases Bb) h1 (fun _=>h2) ?_ (fun _ b=>rfl)
 refine fun w S a r=>il ?_ _ _ _ (uK w S a r)
 rintro e a' w' ⟨he,aE,S',⟨yE,q1⟩,hh⟩
 exact ⟨he,aE,S',⟨⟨none,0⟩,yE,q1,fun d' Bb=>by cases Bb⟩,hh⟩
theorem JE (a b:List (Nat×AV)):lk (a++b)=Hd (lk a) (lk b):=by
 funext s
 induction a with
 | nil=>rfl
 | cons x a ih=>
   obtain ⟨k,v⟩:=x
   simp only [List.cons_append,lk,Hd] at ih ⊢
   split
   ·rfl
   ·exact ih
end rules
end Go.Eng
namespace Go.Eng
open Go
variable [bx]
theorem Pk.Hp {P:Program} {all:Array Oper} {n:Nat} {B:Heap} {tk:List Tok} {dy:List Nat} {i:Nat} {l:List Oper} {e e':Env} {c:(Nat→Bk)→Env} {D:List (Option AV×(Bk→AV))} (h:Pk P all n B tk dy i l e c D e'):
 ∃ (en:Nat→Env) (cn:Nat→(Nat→Bk)→Env),en i=e∧cn i=c∧en (i+l.length)=e'∧D.length=l.length∧∀ j o x V,l[j]? =some o→D[j]? =some (x,V)→
   (∀ β,∀ X∈vz tk (i+j) β,sd P all n (X++B) o (Hd (en (i+j)) (cn (i+j) β)) (uM tk (i+j) β) V (fun b=>jL tk (i+j) (pd β (i+j) b)))∧en (i+j+1)=mX (en (i+j)) o.dst x∧(∀ av,x=some av→∀ b,V b=av)∧(x=none→dy.contains (i+j)=true)∧cn (i+j+1)=JD x (cn (i+j)) o.dst V (i+j):=by
 induction h with
 | nil i e c=>exact ⟨fun _=>e,fun _=>c,rfl,rfl,rfl,rfl,fun j o x V h=>by simp at h⟩
 | @cons i o l e e' c D x V h hv hx k ih=>
   obtain ⟨en,cn,h0,P3,h1,h2,h3⟩:=ih
   refine ⟨fun k=>if k=i then e else en k,fun k=>if k=i then c else cn k,by simp,by simp,?_,by simp [h2],fun j o' x' V' ho hD=>?_⟩
   ·show (if i+(o :: l).length=i then e else en (i+(o :: l).length))=e'
    rw [if_neg (by simp),← h1]
    congr 1
    simp;omega
   ·match j with
    | 0=>
      simp at ho hD
      obtain ⟨rfl,rfl⟩:=hD
      subst ho
      simp only [Nat.add_zero,if_true]
      refine ⟨h,?_,hv,hx,?_⟩
      ·rw [if_neg (by omega),h0]
      ·rw [if_neg (by omega),P3]
    | j+1=>
      have:=h3 j o' x' V' (by simpa using ho) (by simpa using hD)
      rw [show i+1+j=i+(j+1) by omega] at this
      simp only
      rw [if_neg (show ¬ i+(j+1)=i by omega),if_neg (show ¬ i+(j+1)+1=i by omega),if_neg (show ¬ i+(j+1)=i by omega),if_neg (show ¬ i+(j+1)+1=i by omega)]
      exact this
def Pl (l:List Oper) (dy:List Nat):Bool:=dy.all fun i=>(List.range l.length).all fun j=>Nat.beq i j||(match l[i]?,l[j]? with
 | some oi,some oj=>(match oi.dst,oj.dst with | some d,some d'=>!Nat.beq d d' | _,_=>true)
 | _,_=>true)
theorem Hw {l:List Oper} {dy:List Nat} (h:Pl l dy=true) {i j:Nat} {oi oj:Oper} {d:Nat} (hi:dy.contains i=true) (yC:i≠j) (h1:l[i]? =some oi) (h2:l[j]? =some oj) (hd:oi.dst=some d):oj.dst≠some d:=by
 intro Bb
 have hm:i∈dy:=by simpa using hi
 have hj:j < l.length:=(List.getElem?_eq_some_iff.1 h2).1
 have:=List.all_eq_true.1 (List.all_eq_true.1 h i hm) j (List.mem_range.2 hj)
 rw [h1,h2] at this
 simp only [hd,Bb] at this
 have hb:Nat.beq i j=false:=rC yC
 rw [hb] at this
 simp at this
def Lw (tk:List Tok):Heap:=(tk.filter (fun t=>t.prod.isNone)).map (fun t=>t.at (fun _=>⟨none,0⟩))
theorem Lx:∀ (a b:List (Nat×AV)) (s:Nat) (av:AV),lk (a++b) s=some av→lk a s=some av∨lk b s=some av
 | [],b,s,av,h=>.inr h
 | (k,v) :: a,b,s,av,h=>by
   simp only [List.cons_append,lk] at h ⊢
   split at h
   ·exact .inl h
   ·exact Lx a b s av h
theorem yT (β:Nat→Bk):∀ (l:List Oper) (D:List (Option AV×(Bk→AV))) (i:Nat) (a:List (Nat×AV)) (s:Nat) (av:AV),lk (yS β i l D a) s=some av→lk a s=some av∨∃ (j:Nat) (o:Oper) (V:Bk→AV),l[j]? =some o∧D[j]? =some (none,V)∧o.dst=some s∧av=V (β (i+j))
 | [],D,i,a,s,av,h=>by
   have:yS β i [] D a=a:=by cases D<;>rfl
   rw [this] at h;exact .inl h
 | o :: l,[],i,a,s,av,h=>.inl h
 | o :: l,(some x,V) :: D,i,a,s,av,h=>by
   simp only [yS] at h
   rcases yT β l D (i+1) a s av h with h | ⟨j,o',V',h1,h2,h3,h4⟩
   ·exact .inl h
   ·exact .inr ⟨j+1,o',V',by simpa using h1,by simpa using h2,h3,by rw [h4];congr 2;omega⟩
 | o :: l,(none,V) :: D,i,a,s,av,h=>by
   simp only [yS] at h
   cases hd:o.dst with
   | none=>
     rw [hd] at h
     rcases yT β l D (i+1) a s av h with h | ⟨j,o',V',h1,h2,h3,h4⟩
     ·exact .inl h
     ·exact .inr ⟨j+1,o',V',by simpa using h1,by simpa using h2,h3,by rw [h4];congr 2;omega⟩
   | some d=>
     rw [hd] at h
     rcases yT β l D (i+1) _ s av h with h5 | ⟨j,o',V',h1,h2,h3,h4⟩
     ·simp only [lk] at h5
      split at h5
      ·rename_i hb
       obtain rfl:d=s:=by simpa using hb
       exact .inr ⟨0,o,V,rfl,rfl,hd,by simpa using (Option.some.inj h5).symm⟩
      ·exact .inl h5
     ·exact .inr ⟨j+1,o',V',by simpa using h1,by simpa using h2,h3,by rw [h4];congr 2;omega⟩
theorem ab.jM {P:Program} {R:St→Prop} {k:List It} {id n:Nat} {tm:List (Nat×AV)} {hp:Heap} {l hd tl:List Oper} (m:Nat) (hm:P.follows .mixedOrders=true) (hs:F2 m l=some (hd,tl)) {A:List Nat} (hA:Jp l.toArray=A) (VO:FZ l.toArray m A=true)
 (tk:List Tok) (dy:List Nat) (XL:(SU A m tk&&Ph A m tk)=true) (hU0:Pl hd dy=true) {B H0:Heap} (FQ:Lw tk=H0) (P9:Hc hp H0 B) {HH:(Nat→Bk)→Heap} (VZ:∀ β,sc (Lo tk β) B=some (HH β))
 (h:AT P l.toArray n B tk dy 0 hd tm (fun _=>[]) (fun β qP=>ae P l.toArray tl ⟨n,qP,HH β⟩ (ab P R k))):ab P R (.code (.region id l.toArray true) :: k) ⟨n,tm,hp⟩:=by
 have hB:vU l.toArray m:=⟨A,hA,VO⟩
 have hT:BY l.toArray m tk:=Jz hA (Bool.and_eq_true_iff.1 XL).1
 intro w S a r
 obtain ⟨hl,ND⟩:=xr hs
 obtain ⟨D,qP,hAf,uK⟩:=h
 obtain ⟨en,cn,e0,ec0,e1,e2,e3⟩:=hAf.Hp
 rw [Nat.zero_add,ND] at e1
 have kM:m≤l.toArray.size:=by simp [hl,ND]
 let lK:Nat→Option AV:=fun j=>(D[j]?).bind (·.1)
 let V:Nat→Bk→AV:=fun j=>match D[j]? with | some x=>x.2 | none=>fun _=>.nil
 have Ly:∀ j o,j < m→l.toArray[j]? =some o→hd[j]? =some o:=by
  intro j o hj ho
  have:l[j]? =some o:=by simpa using ho
  rw [hl,List.getElem?_append_left (by omega)] at this
  exact this
 have hD:∀ j,j < m→∃ x W,D[j]? =some (x,W)∧lK j=x∧V j=W:=by
  intro j hj
  have:j < D.length:=by rw [e2,ND];exact hj
  refine ⟨D[j].1,D[j].2,by simp [this],?_,?_⟩
  ·simp [lK,this]
  ·simp [V,this]
 refine wp_region_any hm ?_
 have BV:Ext w {w with drawn:=w.drawn+1}:=Ext.FI w _ (Nat.le_succ _)
 let Ur:Nat→Bk:=fun _=>⟨none,0⟩
 have hf:∀ k,(Array.replicate l.toArray.size false).getD k false=false:=by
  intro k
  rcases Nat.lt_or_ge k l.toArray.size with h | h
  ·simp at h;simp [h]
  ·simp at h;simp [Nat.not_lt.2 h]
 have P3:∀ k,wh l.toArray lK (lk tm) (Array.replicate l.toArray.size false) k=lk tm:=by
  intro k
  induction k with
  | zero=>rfl
  | succ k ih=>simp only [wh,ih];rw [if_neg (by rw [hf k];simp)]
 have Pd:sM tk (Array.replicate l.toArray.size false) Ur=H0:=by
  rw [← FQ]
  unfold sM Lw
  have e:tk.filter (yf (Array.replicate l.toArray.size false))=tk.filter (fun t=>t.prod.isNone):=by
   apply List.filter_congr
   intro t ht
   unfold yf
   cases t.prod with
   | none=>
     cases t.cons with
     | none=>rfl
     | some c=>simp only [hf c,Bool.not_false,Bool.and_self,Option.isNone]
   | some p=>simp only [hf p,Bool.false_and,Option.isNone]
  rw [e]
 have mB:=P9.perm
 have hr0:dv {w with drawn:=w.drawn+1} S (sM tk (Array.replicate l.toArray.size false) Ur++B):=by
  rw [Pd];exact (r.hp.ext BV).perm mB
 have ev0:kP w S hp {w with drawn:=w.drawn+1} S (sM tk (Array.replicate l.toArray.size false) Ur++B):=by
  rw [Pd]
  have:=kP.ext (h:=hp) r.hp.slt BV
  exact {this with new:=fun k hk=>this.new k (by
   obtain ⟨x,hx,hb⟩:=hk
   exact ⟨x,mB.mem_iff.2 hx,hb⟩)}
 refine JC (P:=P) (all:=l.toArray) (n:=n) (m:=m) (lK:=lK) (en:=en) (cn:=cn) (e:=lk tm) (V:=V) (B:=B) (tk:=tk) hB hT (Ht hA (Bool.and_eq_true_iff.1 XL).2) kM e0 (fun β s=>by rw [ec0];rfl) ?_ ?_ ?_ (w0:=w) (S0:=S) (Up:=hp) ?_ l.toArray.size (Array.replicate l.toArray.size false) a _ S Ur
  ⟨by simp,(fun k hk=>by rw [hf k] at hk;cases hk),(fun k i o hk=>by rw [hf k] at hk;cases hk)⟩ (by simp [List.count_replicate]) r.size r.defers hr0 ev0 (by rw [P3];exact (r.ext BV).tm) (fun j o d hj=>by rw [hf j] at hj;cases hj)
 ·intro i o hi ho β
  obtain ⟨x,W,d1,d2,d3⟩:=hD i hi
  have:=e3 i o x W (Ly i o hi ho) d1
  rw [Nat.zero_add] at this
  rw [d2,d3,this.2.2.2.2];rfl
 ·intro i o hi ho
  obtain ⟨x,W,d1,d2,d3⟩:=hD i hi
  have:=e3 i o x W (Ly i o hi ho) d1
  rw [Nat.zero_add] at this
  rw [d2,d3]
  exact ⟨this.1,this.2.1,this.2.2.1⟩
 ·intro i j oi oj d hi hj yC AA M4 qN P2
  obtain ⟨x,W,d1,d2,d3⟩:=hD i hi
  have:=e3 i oi x W (Ly i oi hi AA) d1
  rw [Nat.zero_add] at this
  exact Hw hU0 (this.2.2.2.1 (by rw [← d2];exact qN)) yC (Ly i oi hi AA) (Ly j oj hj M4) P2
 ·intro β a' w' S' h1 h2 h3 h4 h5 h6
  have SO:l.toArray.toList.drop m=tl:=by
   simp only [hl,← ND]
   exact List.drop_left
  rw [SO]
  rw [nK (VZ β)] at h3 h4
  rw [e1] at h5
  refine il ?_ _ _ _ ((uK β).go (h:=hp) (w:=w) (S:=S) ⟨h1,h2,fun s av NN=>?_,h3⟩ h4)
  ·rintro ex a2 w2 ⟨rfl,FL,S2,q1,q2,q3⟩
   exact ⟨FL,S2,q1,q2,q3⟩
  ·rcases Lx _ _ _ _ NN with NN | NN
   ·rcases yT β hd D 0 [] s av NN with NN | ⟨j,o,W,g1,g2,g3,g4⟩
    ·cases NN
    ·have hj:j < m:=by rw [← ND];exact (List.getElem?_eq_some_iff.1 g1).1
     obtain ⟨x,W',d1,d2,d3⟩:=hD j hj
     rw [g2] at d1
     obtain ⟨rfl,rfl⟩:=Prod.mk.inj (Option.some.inj d1)
     have M4:l.toArray[j]? =some o:=by
      have:l[j]? =some o:=by rw [hl,List.getElem?_append_left (by omega)];exact g1
      simpa using this
     obtain ⟨v,k1,k2⟩:=h6 j o s hj M4 d2 g3
     rw [d3] at k2
     rw [g4,Nat.zero_add]
     exact ⟨v,k1,k2⟩
   ·exact h5 s av NN
def Lz {α:Type}:List α→List α→Option (List α)
 | [],r=>some r
 | x :: l,r=>match Lz l r with
   | some m=>some (x :: m)
   | none=>none
theorem II {α:Type}:∀ {l r m:List α},Lz l r=some m→l++r=m
 | [],r,m,h=>by simpa [Lz] using h
 | x :: l,r,m,h=>by
   simp only [Lz] at h
   split at h
   ·rename_i m' hm
    obtain rfl:=Option.some.inj h
    rw [List.cons_append,II hm]
   ·cases h
theorem AT.wJ {P:Program} {all:Array Oper} {n:Nat} {B:Heap} {tk:List Tok} {dy:List Nat} {i:Nat} {tm:List (Nat×AV)} {acc F:(Nat→Bk)→List (Nat×AV)} {Q:(Nat→Bk)→List (Nat×AV)→Prop} (hF:∀ β,Lz (acc β) tm=some (F β)) (h:∀ β,Q β (F β)):AT P all n B tk dy i [] tm acc Q:=
 AT.nil (fun β=>(II (hF β)).symm) h
theorem D5 {w:World} {S:Nat→Prop} {hp dR:Heap} {b:Bk} {cs ly:List AV} (r:dv w S hp) (u:oW hp b (.cells cs) b (.cells ly) dR) (hl:ly.length=cs.length) (h1:∀ c∈ly,c.one=true) (uW:∀ (i:Nat) c c' v,cs[i]? =some c→ly[i]? =some c'→At w S c v→At w S c' v):dv w S dR∧kP w S hp w S dR:=by
 obtain ⟨pre,post,e1,e2⟩:=u.split
 subst e1;subst e2
 have hblk:∀ n,Has (pre++(b,Ob.cells ly) :: post) n↔Has (pre++(b,Ob.cells cs) :: post) n:=by
  intro n
  constructor<;>rintro ⟨x,hx,hb⟩<;>rcases bB.1 hx with rfl | hx
  ·exact ⟨(b,.cells cs),bB.2 (.inl rfl),hb⟩
  ·exact ⟨x,bB.2 (.inr hx),hb⟩
  ·exact ⟨(b,.cells ly),bB.2 (.inl rfl),hb⟩
  ·exact ⟨x,bB.2 (.inr hx),hb⟩
 refine ⟨⟨?_,?_,?_,r.slt,r.kN⟩,⟨rfl,rfl,rfl,Nat.le_refl _,fun n hn=>⟨hn,rfl⟩,fun n _ _=>⟨rfl,id⟩,fun n hn=>.inl ((hblk n).1 hn),fun _=>Nat.le_refl _⟩⟩
 ·have:=r.nodup
  simpa [List.flatMap_append,List.flatMap_cons,eb,Ob.more] using this
 ·intro x hx
  rcases bB.1 hx with rfl | hx
  ·obtain ⟨h0,n,vs,E,g1,g2,g3,g4⟩:=r.holds (b,.cells cs) (bB.2 (.inl rfl))
   refine ⟨h1,n,vs,E,g1,g2,by rw [hl];exact g3,fun i c v hc hv=>?_⟩
   have hi:i < cs.length:=by rw [← hl];exact (List.getElem?_eq_some_iff.1 hc).1
   have M7:cs[i]? =some cs[i]:=by simp [hi]
   exact uW i cs[i] c v M7 hc (g4 i _ v M7 hv)
  ·exact r.holds x (bB.2 (.inr hx))
 ·intro x hx n hn
  rcases bB.1 hx with rfl | hx
  ·have:=r.sep (b,.cells cs) (bB.2 (.inl rfl)) n hn
   exact ⟨fun h=>(this.1 h).elim,fun h=>h.elim⟩
  ·exact r.sep x (bB.2 (.inr hx)) n hn
theorem ai.u6 {n j:Nat} {tm:List (Nat×AV)} {hp dR:Heap} {T:St→Prop} {b:Bk} {cs ly:List AV} {av r7:AV} (u:oW hp b (.cells cs) b (.cells ly) dR) (hj:cs[j]? =some av) (c:Co hp av r7) (hc:sa (cs.set j r7)=some ly) (h1:jl ly=true) (k:ai ⟨n,tm,dR⟩ T):ai ⟨n,tm,hp⟩ T:=by
 refine ai.step (yI:=⟨n,tm,dR⟩) (fun w S a r=>?_) k
 have e:=lJ hc
 obtain ⟨g1,g2⟩:=D5 r.hp u (by rw [← e];simp) (dK h1) (fun i c1 c2 v Qa LA uW=>by
  rw [← e] at LA
  by_cases yC:j=i
  ·subst yC
   rw [List.getElem?_set_self (List.getElem?_eq_some_iff.1 hj).1] at LA
   obtain rfl:=Option.some.inj LA
   rw [hj] at Qa
   obtain rfl:=Option.some.inj Qa
   exact c.at r.hp uW
  ·rw [List.getElem?_set_ne yC,Qa] at LA
   obtain rfl:=Option.some.inj LA
   exact uW)
 exact ⟨_,S,rfl,⟨r.size,r.defers,r.tm,g1⟩,g2⟩
theorem ai.cd {n j:Nat} {tm:List (Nat×AV)} {hp dR:Heap} {T:St→Prop} {b:Bk} {cs ly:List AV} (sz:Nat) (u:oW hp b (.cells cs) b (.cells ly) dR) (hj:cs[j]? =some .nil) (hc:sa (cs.set j (.list sz []))=some ly) (h1:jl ly=true) (k:ai ⟨n,tm,dR⟩ T):ai ⟨n,tm,hp⟩ T:=
 ai.u6 u hj (.nil sz) hc h1 k
theorem ai.zL {n j:Nat} {tm:List (Nat×AV)} {hp:Heap} {dR:Bk→Heap} {T:St→Prop} {b:Bk} {cs:List AV} {ly:Bk→List AV} (sz:Nat) (u:∀ q,oW hp b (.cells cs) b (.cells (ly q)) (dR q)) (hj:cs[j]? =some .nil) (hc:∀ q,sa (cs.set j (.sl sz q 0 0))=some (ly q)) (h1:∀ q,jl (ly q)=true)
 (k:∀ q,ai ⟨n,tm,(q,.arr sz []) :: dR q⟩ T):ai ⟨n,tm,hp⟩ T:=by
 refine ai.step (yI:=⟨n,tm,(⟨none,0⟩,.arr sz []) :: dR ⟨none,0⟩⟩) (fun w S a r=>?_) (k ⟨none,0⟩)
 have e:=lJ (hc ⟨none,0⟩)
 obtain ⟨g1,g2⟩:=D5 r.hp (u ⟨none,0⟩) (by rw [← e];simp) (dK (h1 _)) (fun i c1 c2 v Qa LA uW=>by
  rw [← e] at LA
  by_cases yC:j=i
  ·subst yC
   rw [List.getElem?_set_self (List.getElem?_eq_some_iff.1 hj).1] at LA
   obtain rfl:=Option.some.inj LA
   rw [hj] at Qa
   obtain rfl:=Option.some.inj Qa
   cases uW
   exact .zw sz _ rfl
  ·rw [List.getElem?_set_ne yC,Qa] at LA
   obtain rfl:=Option.some.inj LA
   exact uW)
 obtain ⟨q1,q2,q3⟩:=oX (b:=⟨none,0⟩) (o:=.arr sz []) g1 (Ext.refl w) id ⟨by simp,by simp,.inl ⟨rfl,rfl⟩⟩ (.inl rfl)
 exact ⟨_,S,rfl,⟨r.size,r.defers,r.tm,q1⟩,g2.trans q2⟩
section rules
variable {P:Program} {all:Array Oper} {rest:List Oper} {n:Nat} {tm:List (Nat×AV)} {hp:Heap} {Q:St→Prop} {d:Nat} {ty:TypeId} {pos:String} {af:Array Edge}
theorem yU {t e yt:TypeId} {x y:Operand} {sz:Nat} {xs:List AV} [aA P t (.slice e)] (hx:dk tm x=some (.list sz xs)) (hy:dk tm y=some .nil) (h0:Nat.blt 0 sz=true) (hn:Nat.blt d n=true)
 (kk:∀ c:Bool,(c=true→xs=[])→ae P all rest ⟨n,(d,.bool c) :: tm,hp⟩ Q):ae P all (⟨some d,.binOp .eql t x y yt,ty,pos,af,none⟩ :: rest) ⟨n,tm,hp⟩ Q:=by
 refine ae.Iq rfl fun w S a r=>?_
 obtain ⟨oa,cap,vs,e1,e2,e3,e4,e5,e6⟩:=(aV (σ:=⟨n,tm,hp⟩) r hx).yK
 have e7:=(aV (σ:=⟨n,tm,hp⟩) r hy).pE
 refine ⟨.bool oa.isNone,w,S,⟨n,(d,.bool oa.isNone) :: tm,hp⟩,?_,r.put hn (.bool _),kP.refl _ _ _,kk _ (fun hc=>?_)⟩
 ·have h2:(Op.equal t (.slice oa xs.length cap) (.slice none 0 0)).run P w=.ok oa.isNone w:=by
   show (Op.equalIn (9999+1) t _ _).run P w=_
   rw [Op.equalIn]
   cases oa with
   | none=>simp [run_underlying (aA.h (P:=P) (t:=t))]
   | some ad=>simp [run_underlying (aA.h (P:=P) (t:=t))]
  have h3:(binOp .eql t (.slice oa xs.length cap) (.slice none 0 0)).run P w=.ok (.bool oa.isNone) w:=by
   rw [show binOp .eql t (.slice oa xs.length cap) (.slice none 0 0)=(do pure (.bool (← Op.equal t (.slice oa xs.length cap) (.slice none 0 0)))) from rfl]
   simp [h2]
  simp [execOp,e1,e7,eqGuard_at_slice,h3]
 ·have hoa:oa=none:=by simpa using hc
  have S4:vs=[]:=by
   cases vs with
   | nil=>rfl
   | cons v vs=>
     obtain ⟨ad,h1,_⟩:=e5 0 v rfl
     rw [hoa] at h1;cases h1
  rw [S4,dj e2] at e3
  have h0':0 < sz:=by simpa using h0
  have:xs.length=0:=by
   rcases Nat.eq_zero_or_pos xs.length with h | h
   ·exact h
   ·have:=Nat.mul_pos h h0';simp at e3;omega
  exact List.length_eq_zero_iff.1 this
end rules
theorem pR {α:Type} {p r:List α} (h:app [] p=some r) (hp:p=[]):r=[]:=by
 subst hp
 obtain ⟨_,e⟩:=BX h
 simpa using e
end Go.Eng
