/- The engine: abstract values, the symbolic heap, one rule for each operation. No program in sight. -/
import Derived.Test.YthamhifbccpcpaaGreatDoorEngB
import Derived.Laws.StructEq
import Derived.Below
set_option linter.unusedVariables false
set_option linter.unusedSectionVars false
namespace Go.Eng
open Go
variable [bF]
abbrev aI:=List UInt8
section rules
variable {P:Program} {all:Array Oper} {rest:List Oper} {n:Nat} {tm:List (Nat×AV)} {hp:Heap} {Q:St→Prop} {d:Nat} {ty:TypeId} {pos:String} {af:Array Edge}
theorem cH {x:Operand} {t e:TypeId} {sz len:Nat} {b:Bk} [aE P t (.slice e)] (hx:cG tm x=some (.sl sz b 0 len)):QV P ⟨some d,.call {callee:=.builtin .len,args:=#[x],argTypes:=#[t]},ty,pos,af,none⟩ ⟨n,tm,hp⟩ (.int .i64 (len:Nat)):=Et hx
theorem aS {α:Type} {Xs:List α} {el:α} {t e:TypeId} {i:TypeInfo} {x y:Operand} {k:IntKind} {j:Int} {sz:Nat} {b:Bk} [aE P t (.slice e)] [aX P e i] (hx:cG tm x=some (.sl sz b 0 Xs.length)) (gG:Nat.beq i.size sz=true) (hy:cG tm y=some (.int k j))
 (hv:idx Xs j=some el):QV P ⟨some d,.indexAddr t x y,ty,pos,af,none⟩ ⟨n,tm,hp⟩ (.pr sz b j.toNat 0):=by
 obtain ⟨h0,h1,_⟩:=cV hv
 have h:=Aa (P:=P) (d:=d) (ty:=ty) (pos:=pos) (af:=af) (n:=n) (tm:=tm) (hp:=hp) (t:=t) (e:=e) hx gG hy ⟨h0,h1⟩
 rw [Nat.zero_add] at h
 exact h
theorem Dj {α:Type} {g:α→AV} {Xs:List α} {el:α} {j:Int} (hv:idx Xs j=some el):(Xs.map g)[j.toNat]? =some (g el):=by
 rw [List.getElem?_map,(cV hv).2.2];rfl
theorem bl {α:Type} {g:α→AV} {Xs:List α} {el:α} {j:Int} {t:TypeId} {D:TypeDesc} {x:Operand} {b:Bk} {sz o:Nat} {av:AV} [aE P t D] (hD:TypeDesc.kH D=false) (hx:cG tm x=some (.pr sz b j.toNat o)) (f:mE hp b (.arr sz (Xs.map g))∨mE hp b (.zE sz (Xs.map g)))
 (hv:idx Xs j=some el) (ho:(g el).cells[o]? =some av):QV P ⟨some d,.load t x,ty,pos,af,none⟩ ⟨n,tm,hp⟩ av:=
 Ex hD hx f (Dj hv) ho
theorem bx {α:Type} {g:α→AV} {Xs:List α} {el:α} {j:Int} {t:TypeId} {D:TypeDesc} {i:TypeInfo} {x:Operand} {b:Bk} {sz:Nat} {cs:List AV} [aE P t D] [aX P t i] (hD:TypeDesc.kH D=true) (hx:cG tm x=some (.pr sz b j.toNat 0)) (f:mE hp b (.arr sz (Xs.map g))∨mE hp b (.zE sz (Xs.map g))) (gG:Nat.beq i.size sz=true)
 (hv:idx Xs j=some el) (hc:g el=.agg cs):QV P ⟨some d,.load t x,ty,pos,af,none⟩ ⟨n,tm,hp⟩ (.agg cs):=
 zd hD hx f gG (by rw [Dj (g:=g) hv,hc])
theorem Dk {α:Type} {g:α→AV} {Xs Zs:List α} {t e:TypeId} {i:TypeInfo} {x:Operand} {lo hi:Option Operand} {l h:Option Int} {sz:Nat} {L H:Int} [aE P t (.slice e)] [aX P e i] (hx:cG tm x=some (.list sz (Xs.map g))) (gG:Nat.beq i.size sz=true) (hl:Gn tm lo l) (hh:Gn tm hi h)
 (eL:fO l=L) (eH:gC Xs.length h=H) (hv:sy Xs L H=some Zs):QV P ⟨some d,.slice t x lo hi none,ty,pos,af,none⟩ ⟨n,tm,hp⟩ (.list sz (Zs.map g)):=by
 obtain ⟨⟨h0,h1,h2⟩,rfl⟩:=sG hv
 subst eL;subst eH
 have:=Db (P:=P) (d:=d) (ty:=ty) (pos:=pos) (af:=af) (n:=n) (tm:=tm) (hp:=hp) (t:=t) (e:=e) (xs:=Xs.map g) hx gG hl hh h0 (by simpa using h1) (by simpa using h2)
 simpa [List.map_take,List.map_drop] using this
theorem kC {t:TypeId} {x:Operand} {lo hi:Option Operand} {l h:Option Int} {s zs:List UInt8} {L H:Int} [aE P t .string] (hx:cG tm x=some (.str s)) (hl:Gn tm lo l) (hh:Gn tm hi h) (eL:fO l=L) (eH:gC s.length h=H) (hv:sy s L H=some zs):
 QV P ⟨some d,.slice t x lo hi none,ty,pos,af,none⟩ ⟨n,tm,hp⟩ (.str zs):=by
 obtain ⟨⟨h0,h1,h2⟩,rfl⟩:=sG hv
 subst eL;subst eH
 exact EE hx hl hh h0 h1 h2
def sj:Heap→Heap→Option Heap
 | [],r=>some r
 | x :: l,r=>match sj l r with
   | some m=>some (x :: m)
   | none=>none
theorem nv:∀ {l r m:Heap},sj l r=some m→l++r=m
 | [],r,m,h=>by simpa [sj] using h
 | x :: l,r,m,h=>by
   simp only [sj] at h
   split at h
   ·rename_i m' hm
    obtain rfl:=Option.some.inj h
    rw [List.cons_append,nv hm]
   ·cases h
def T0 (H:Heap) (V:AV):AV→Heap→Prop:=fun v h=>h=H∧v=V
def T1 {Aj:Type} (H:Aj→Heap) (V:Aj→AV):AV→Heap→Prop:=fun v h=>∃ b,h=H b∧v=V b
def T2 {Aj KI:Type} (H:Aj→KI→Heap) (V:Aj→KI→AV):AV→Heap→Prop:=fun v h=>∃ b c,h=H b c∧v=V b c
theorem bz {f:FuncId} {args:List Operand} {ts:Array TypeId} {l l':List AV} {h0 hr H H':Heap} {V:AV} [bu P f] (hl:x5 tm args=some l) (c:aJ P f l' h0 (T0 H V)) (co:wX hp l l') (hs:Cd hp h0 hr) (ha:sj H hr=some H') (hn:Nat.blt d n=true)
 (kk:ae P all rest ⟨n,(d,V) :: tm,H'⟩ Q):ae P all (⟨some d,.call {callee:=.value (.func f),args:=args.toArray,argTypes:=ts},ty,pos,af,none⟩ :: rest) ⟨n,tm,hp⟩ Q:=
 Di hl c co hs hn (fun r h' ⟨e1,e2⟩=>by subst e1;subst e2;rw [nv ha];exact kk)
theorem ep {Aj:Type} {f:FuncId} {args:List Operand} {ts:Array TypeId} {l l':List AV} {h0 hr:Heap} {H H':Aj→Heap} {V:Aj→AV} [bu P f] (hl:x5 tm args=some l) (c:aJ P f l' h0 (T1 H V)) (co:wX hp l l') (hs:Cd hp h0 hr) (ha:∀ b,sj (H b) hr=some (H' b)) (hn:Nat.blt d n=true)
 (kk:∀ b,ae P all rest ⟨n,(d,V b) :: tm,H' b⟩ Q):ae P all (⟨some d,.call {callee:=.value (.func f),args:=args.toArray,argTypes:=ts},ty,pos,af,none⟩ :: rest) ⟨n,tm,hp⟩ Q:=
 Di hl c co hs hn (fun r h' ⟨b,e1,e2⟩=>by subst e1;subst e2;rw [nv (ha b)];exact kk b)
theorem Nu {Aj KI:Type} {f:FuncId} {args:List Operand} {ts:Array TypeId} {l l':List AV} {h0 hr:Heap} {H H':Aj→KI→Heap} {V:Aj→KI→AV} [bu P f] (hl:x5 tm args=some l) (c:aJ P f l' h0 (T2 H V)) (co:wX hp l l') (hs:Cd hp h0 hr) (ha:∀ b c,sj (H b c) hr=some (H' b c)) (hn:Nat.blt d n=true)
 (kk:∀ b c,ae P all rest ⟨n,(d,V b c) :: tm,H' b c⟩ Q):ae P all (⟨some d,.call {callee:=.value (.func f),args:=args.toArray,argTypes:=ts},ty,pos,af,none⟩ :: rest) ⟨n,tm,hp⟩ Q:=
 Di hl c co hs hn (fun r h' ⟨b,b2,e1,e2⟩=>by subst e1;subst e2;rw [nv (ha b b2)];exact kk b b2)
theorem ER {f:FuncId} {x:Operand} {args:List Operand} {ts:Array TypeId} {oM l l' lc:List AV} {h0 hr H H':Heap} {V:AV} [bu P f] (hx:cG tm x=some (.func (.func f) oM)) (hl:x5 tm args=some l) (SQ:qm (l++oM)=some lc) (c:aJ P f l' h0 (T0 H V)) (co:wX hp lc l') (hs:Cd hp h0 hr) (ha:sj H hr=some H') (hn:Nat.blt d n=true)
 (kk:ae P all rest ⟨n,(d,V) :: tm,H'⟩ Q):ae P all (⟨some d,.call {callee:=.value x,args:=args.toArray,argTypes:=ts},ty,pos,af,none⟩ :: rest) ⟨n,tm,hp⟩ Q:=
 HR hx hl SQ c co hs hn (fun r h' ⟨e1,e2⟩=>by subst e1;subst e2;rw [nv ha];exact kk)
theorem Ak {Aj:Type} {f:FuncId} {x:Operand} {args:List Operand} {ts:Array TypeId} {oM l l' lc:List AV} {h0 hr:Heap} {H H':Aj→Heap} {V:Aj→AV} [bu P f] (hx:cG tm x=some (.func (.func f) oM)) (hl:x5 tm args=some l) (SQ:qm (l++oM)=some lc) (c:aJ P f l' h0 (T1 H V)) (co:wX hp lc l') (hs:Cd hp h0 hr) (ha:∀ b,sj (H b) hr=some (H' b)) (hn:Nat.blt d n=true)
 (kk:∀ b,ae P all rest ⟨n,(d,V b) :: tm,H' b⟩ Q):ae P all (⟨some d,.call {callee:=.value x,args:=args.toArray,argTypes:=ts},ty,pos,af,none⟩ :: rest) ⟨n,tm,hp⟩ Q:=
 HR hx hl SQ c co hs hn (fun r h' ⟨b,e1,e2⟩=>by subst e1;subst e2;rw [nv (ha b)];exact kk b)
end rules
theorem ot.sk {hp:Heap} {α:Type} {g:α→AV} {Xs:List α} {sz:Nat} {b:Bk} (f:mE hp b (.arr sz (Xs.map g))):ot hp (.sl sz b 0 Xs.length) (.list sz (Xs.map g)):=.arr sz b _ _ f (by simp)
section rules
variable {P:Program} {all:Array Oper} {rest:List Oper} {n:Nat} {tm:List (Nat×AV)} {hp:Heap} {Q:St→Prop} {d:Nat} {ty:TypeId} {pos:String} {af:Array Edge}
theorem dB {x:Operand} {s:TypeId} {j off:Nat} {sz:Nat} {b:Bk} {q o o':Nat} [nO P s j off] (hx:cG tm x=some (.pr sz b q o)) (ho:o+off=o'):QV P ⟨some d,.fieldAddr s x j,ty,pos,af,none⟩ ⟨n,tm,hp⟩ (.pr sz b q o'):=by
 subst ho
 exact C5 hx
theorem BH {t:TypeId} {i:TypeInfo} {x y:Operand} {b:Bk} {sz q o:Nat} {xs:List AV} {av el xZ:AV} {cC:Heap} [aX P t i] (hx:cG tm x=some (.pr sz b q o)) (hy:cG tm y=some av) (h1:lG av.cells=true) (gG:Nat.beq av.cells.length i.size=true)
 (u:mU hp b (.arr sz xs) b (.arr sz (xs.set q xZ)) cC) (hq:xs[q]? =some el) (HJ:xZ.cells=mP el.cells o av.cells) (ho:Nat.ble (o+av.cells.length) el.cells.length=true) (kk:ae P all rest ⟨n,tm,cC⟩ Q):ae P all (⟨none,.store t x y,ty,pos,af,none⟩ :: rest) ⟨n,tm,hp⟩ Q:=by
 refine ae.act rfl rfl (aG:=⟨n,tm,cC⟩) (fun w S a r=>?_) kk
 obtain ⟨m,e1,e2⟩:=(bj (σ:=⟨n,tm,hp⟩) r hx).uq
 obtain ⟨g0,g1,⟨g2,_⟩ | ⟨m',vs,E,g2,g3,g4,g5⟩⟩:=qK r.hp (.inl u.mB)
 ·rw [g2] at e1;cases e1
 obtain rfl:m'=m:=by rw [g2] at e1;exact Option.some.inj e1
 have hv:=bj (σ:=⟨n,tm,hp⟩) r hy
 obtain ⟨hl,pR⟩:=sB hv (dp h1)
 have HD:=dp h1
 have gG:=Nat.eq_of_beq_eq_true gG
 have ho:=Nat.le_of_ble_eq_true ho
 clear h1 hv hy
 generalize av.cells=nc at *
 generalize Nv:el.cells=cs at *
 have hle:o+nc.length≤cs.length:=ho
 have x8:=g0 el (List.mem_of_getElem? hq)
 have BE:cs.length=sz:=by rw [← Nv];exact x8.1
 have Yg:q < xs.length:=(List.getElem?_eq_some_iff.1 hq).1
 have hmul:(q+1) * sz≤xs.length * sz:=Nat.mul_le_mul_right _ (by omega)
 have KJ:xs.length * sz≤b.cap * sz:=Nat.mul_le_mul_right _ g1
 rw [Nat.add_mul,Nat.one_mul] at hmul
 have tZ:=w6 hl pR HD
 have wy:=run_storeCells_at (P:=P) m' (q * sz+o) E (a.eval y).cells.toList 0 vs w g3 (by simp;omega) tZ
 simp only [Nat.add_zero] at wy
 have sD:(a.eval y).cells.size=i.size:=by rw [← hl];exact gG
 have I1:=cA g0
 have Pd:El sz xZ:=by
  refine ⟨by rw [HJ];simp [mP];omega,fun c hc=>?_⟩
  rw [HJ] at hc
  simp only [mP,List.mem_append] at hc
  rcases hc with (hc | hc) | hc
  ·exact x8.2 c (by rw [Nv];exact List.mem_of_mem_take hc)
  ·exact HD c hc
  ·exact x8.2 c (by rw [Nv];exact List.mem_of_mem_drop hc)
 have ES:flat (xs.set q xZ)=(flat xs).take (q * sz+o)++nc++(flat xs).drop (q * sz+o+nc.length):=by
  rw [EF g0 Pd hq]
  rw [HJ];simp only [mP]
  have HQ:cs=((flat xs).drop (q * sz)).take sz:=by
   apply List.ext_getElem?
   intro j
   by_cases hj:j < sz
   ·have:=qO g0 hq j hj
    rw [List.getElem?_take,if_pos hj,List.getElem?_drop,this,Nv]
   ·rw [List.getElem?_eq_none (by omega),List.getElem?_eq_none (by simp;omega)]
  have e1:cs.take o=((flat xs).drop (q * sz)).take o:=by rw [HQ,List.take_take,Nat.min_eq_left (by omega)]
  have e2:cs.drop (o+nc.length)=(((flat xs).drop (q * sz+o+nc.length)).take (sz - (o+nc.length))):=by
   rw [HQ,List.drop_take,List.drop_drop]
   rw [show q * sz+(o+nc.length)=q * sz+o+nc.length from by omega]
  rw [e1,e2]
  have e3:(flat xs).take (q * sz+o)=(flat xs).take (q * sz)++((flat xs).drop (q * sz)).take o:=by rw [List.take_add]
  rw [e3]
  have e4:(flat xs).drop (q * sz+o+nc.length)=((flat xs).drop (q * sz+o+nc.length)).take (sz - (o+nc.length))++(flat xs).drop (q * sz+sz):=by
   conv=>lhs;rw [← List.take_append_drop (sz - (o+nc.length)) ((flat xs).drop (q * sz+o+nc.length))]
   rw [List.drop_drop,show q * sz+o+nc.length+(sz - (o+nc.length))=q * sz+sz from by omega]
  conv=>rhs;rw [e4]
  simp only [List.append_assoc]
 have KK:=fun (w':World) (ha:kG w' S (flat xs) vs) (hb:kG w' S nc (a.eval y).cells)=>HO (q * sz+o) (by rw [I1,g4];exact KJ) ha hl hb (by omega)
 have KL:(vs.toList.take (q * sz+o)++(a.eval y).cells.toList++vs.toList.drop (q * sz+o+(a.eval y).cells.toList.length)).toArray.size=b.cap * sz:=by
  simp;omega
 generalize (vs.toList.take (q * sz+o)++(a.eval y).cells.toList++vs.toList.drop (q * sz+o+(a.eval y).cells.toList.length)).toArray=BD at wy KK KL
 have c:GB w (w.setRow m' BD) b.bN:=⟨⟨rfl,rfl,rfl,by simp,fun k hk mb=>setRow_other w m' k _ (fun e=>mb (by rw [e1,e]))⟩,fun _=>Nat.le_refl _⟩
 have k1:∀ n,S n→S n∧(w.setRow m' BD).heap[n]? =w.heap[n]?:=by
  intro k hk
  refine ⟨hk,setRow_other w m' k _ (fun e=>?_)⟩
  subst e
  exact (r.hp.sep _ u.mB.mem k (jT e1)).1 hk
 have hh:=tf r.hp u c id id ⟨?_,by simpa using g1,.inr ⟨m',BD,E,e1,setRow_heap w m' vs _ E _ g3,KL,by rw [ES];exact KK _ (g5.mono k1) (pR.mono k1)⟩⟩ (.inl rfl)
 ·refine ⟨w.setRow m' BD,S,?_,r.heap hh.2.2 hh.1,hh.2.1⟩
  simp [execOp,e2,Instr.storeAt,Instr.sureAddr,storeVar,sizeOf,typeInfo,aX.h (P:=P) (t:=t),sD,wy]
 ·intro z hz
  rcases List.mem_or_eq_of_mem_set hz with h | rfl
  ·exact g0 z h
  ·exact Pd
theorem bQ {α:Type} {g:α→AV} {Xs:List α} {el xZ:α} {j:Int} {t:TypeId} {i:TypeInfo} {x y:Operand} {b:Bk} {sz o:Nat} {av:AV} {cC:Heap} [aX P t i] (hx:cG tm x=some (.pr sz b j.toNat o)) (hy:cG tm y=some av) (h1:lG av.cells=true) (gG:Nat.beq av.cells.length i.size=true)
 (hv:idx Xs j=some el) (HJ:(g xZ).cells=mP (g el).cells o av.cells) (u:mU hp b (.arr sz (Xs.map g)) b (.arr sz ((Xs.set j.toNat xZ).map g)) cC) (ho:Nat.ble (o+av.cells.length) (g el).cells.length=true) (kk:ae P all rest ⟨n,tm,cC⟩ Q):
 ae P all (⟨none,.store t x y,ty,pos,af,none⟩ :: rest) ⟨n,tm,hp⟩ Q:=by
 refine BH (xs:=Xs.map g) (el:=g el) (xZ:=g xZ) hx hy h1 gG ?_ (Dj hv) HJ ho kk
 rw [List.map_set] at u
 exact u
end rules
theorem fA {α:Type} {xs:List α} {i:Int} {el v:α} (h:idx xs i=some el):idx (xs.set i.toNat v) i=some v:=by
 obtain ⟨h0,h1,_⟩:=cV h
 unfold idx;rw [if_pos h0,List.getElem?_set_self (by omega)]
theorem ck.hs {w:World} {S:Nat→Prop} {h h':Heap} (r:ck w S h) (s:HS h h'):ck w S h':=by
 obtain ⟨q,hq⟩:=s.perm
 exact (r.perm hq).sub (List.sublist_append_left _ _)
theorem Has.hs {h h':Heap} (s:HS h h') {n:Nat} (hh:Has h' n):Has h n:=by
 obtain ⟨q,hq⟩:=s.perm
 obtain ⟨e,he,hb⟩:=hh
 exact ⟨e,hq.mem_iff.2 (List.mem_append_left _ he),hb⟩
theorem aJ.fa {P:Program} {f:FuncId} {args:List AV} {h:Heap} {Q:AV→Heap→Prop} (c:aJ P f args h (fun r h1=>∃ h',HS h1 h'∧Q r h')):aJ P f args h Q:=
 fun w S vs r hl ha=>(c w S vs r hl ha).mono fun _ _ ⟨v,r,_,S',h1,⟨h',hs,hq⟩,h3,h4,h5⟩=>⟨v,r,h',S',h1,hq,h3,h4.hs hs,h5.less fun _ hn=>hn.hs hs⟩
theorem ai.eqs {n s:Nat} {tm:List (Nat×AV)} {hp:Heap} {T:St→Prop} {av eW:AV} (hs:lk tm s=some av) (he:eW=av) (k:ai ⟨n,(s,eW) :: tm,hp⟩ T):ai ⟨n,tm,hp⟩ T:=by
 subst he
 exact ai.co hs (.refl _) k
theorem Ce {hp cC:Heap} {b:Bk} {o:Ob} (u:mU hp b o b o cC):cC=hp:=by
 generalize hb:b=b',ho:o=o' at u
 have:∀ {h h':Heap} {b b':Bk} {o o':Ob},mU h b o b' o' h'→b=b'→o=o'→h'=h:=by
  intro h h' b b' o o' u
  induction u with
  | here=>rintro rfl rfl;rfl
  | next _ ih=>intro e1 e2;rw [ih e1 e2]
  | skip _ ih=>intro e1 e2;rw [ih e1 e2]
 subst hb ho
 exact this u rfl rfl
theorem ai.HT {n j:Nat} {tm:List (Nat×AV)} {hp cC:Heap} {T:St→Prop} {b:Bk} {cs pT:List AV} {av eW:AV} (u:mU hp b (.cells cs) b (.cells pT) cC) (hj:cs[j]? =some av) (he:eW=av) (hc:qm (cs.set j eW)=some pT) (k:ai ⟨n,tm,cC⟩ T):ai ⟨n,tm,hp⟩ T:=by
 subst he
 have HQ:cs.set j eW=cs:=by
  apply List.ext_getElem?
  intro i
  by_cases hi:j=i
  ·subst hi
   have iT:=(List.getElem?_eq_some_iff.1 hj).1
   rw [List.getElem?_set_self iT,hj]
  ·rw [List.getElem?_set_ne hi]
 rw [HQ] at hc
 obtain rfl:=mg hc
 rw [Ce u] at k
 exact k
theorem lM {p:Prop} [Decidable p] {x:Bool} (h:p):(decide p&&x)=x:=by simp [h]
theorem lN {p:Prop} [Decidable p] {x:Bool} (h:¬ p):(decide p&&x)=false:=by simp [h]
theorem BI {p:Prop} [Decidable p] {x:Bool} (h:p):(decide p||x)=true:=by simp [h]
theorem BJ {p:Prop} [Decidable p] {x:Bool} (h:¬ p):(decide p||x)=x:=by simp [h]
theorem ET {b x:Bool} (h:b=true):(b&&x)=x:=by simp [h]
theorem EU {b x:Bool} (h:b=false):(b&&x)=false:=by simp [h]
theorem Qb {b x:Bool} (h:b=true):(b||x)=true:=by simp [h]
theorem Qd {b x:Bool} (h:b=false):(b||x)=x:=by simp [h]
def xa (P:Program) (k:Nat) (t:TypeId) (v u:Value) (b:Bool):Prop:=∀ d w,(Op.equalIn (d+k) t v u).run P w=.ok b w
theorem xa.up {P:Program} {k:Nat} {t:TypeId} {v u:Value} {b:Bool} (h:xa P k t v u b) (j:Nat):xa P (k+j) t v u b:=fun d w=>by
 rw [show d+(k+j)=(d+j)+k from by omega];exact h _ w
theorem xa.cast {P:Program} {k:Nat} {t:TypeId} {v u:Value} {b b':Bool} (h:xa P k t v u b) (e:b=b'):xa P k t v u b':=by rw [← e];exact h
inductive I8 (P:Program) (k:Nat) (xs ys:Array Value):List Field→Bool→Prop
 | nil:I8 P k xs ys [] true
 | cons {f:Field} {fs:List Field} {px py:Value} {b b':Bool} (hn:f.name≠"_") (hx:∀ w,(part f.type xs f.offset).run P w=.ok px w) (hy:∀ w,(part f.type ys f.offset).run P w=.ok py w) (he:xa P k f.type px py b) (kk:I8 P k xs ys fs b'):I8 P k xs ys (f :: fs) (b&&b')
theorem I8.run {P:Program} {k:Nat} {xs ys:Array Value} {fs:List Field} {b:Bool} (h:I8 P k xs ys fs b) (d:Nat) (w:World):(Op.eqFields (d+k) xs ys fs).run P w=.ok b w:=by
 induction h with
 | nil=>simp [Op.eqFields]
 | @cons f fs px py b b' hn hx hy he kk ih=>
   simp only [Op.eqFields,hn,ne_eq,not_false_eq_true,if_true,Sem.run_bind,hx,hy,he d w,Result.andThen_ok]
   cases b
   ·simp
   ·simpa using ih
theorem xa.struct {P:Program} {k:Nat} {t:TypeId} {xs ys:Array Value} {fs:List Field} {b:Bool} (hu:P.underlying t=some (.struct fs.toArray)) (hp:P.stoodInHeld t=false) (h:I8 P k xs ys fs b):xa P (k+1) t (.agg xs) (.agg ys) b:=by
 intro d w
 have hf:P.fieldsOf t=fs.toArray:=by simp [Program.fieldsOf,hu]
 rw [show d+(k+1)=(d+k)+1 from rfl,run_equalIn_struct w (d+k) t xs ys (by rw [hf];exact hu) hp,hf]
 exact h.run d w
theorem cW {P:Program} {t:TypeId} {D:TypeDesc} [aE P t D] (hD:TypeDesc.kH D=false) {cs:Array Value} {off:Nat} {v:Value} (h:cs[off]? =some v) (w:World):(part t cs off).run P w=.ok v w:=by
 unfold part isAgg
 simp only [Sem.run_bind,run_underlying (aE.h (P:=P) (t:=t)),Result.andThen_ok]
 cases D<;>simp_all [TypeDesc.kH]
theorem kG.get {w:World} {S:Nat→Prop} {cs:List AV} {vs:Array Value} (hl:cs.length=vs.size) (ha:kG w S cs vs) {off:Nat} {c:AV} (hc:cs[off]? =some c):∃ v,vs[off]? =some v∧At w S c v:=by
 have iT:=(List.getElem?_eq_some_iff.1 hc).1
 have:off < vs.size:=by omega
 exact ⟨vs[off],by simp [this],ha off c _ hc (by simp [this])⟩
class qT (P:Program) (t:TypeId) (k:outParam Nat) {α:Type} [DecidableEq α] (g:α→AV):Prop where
 h:∀ (x y:α) (w:World) (S:Nat→Prop) (v u:Value),At w S (g x) v→At w S (g y) u→xa P k t v u (decide (x=y))
class Nw (P:Program) (t:TypeId):Prop where
 h:P.eqGuardType P.depth t=false
instance SU {P:Program} {t:TypeId} {k:IntKind} [aE P t (.int k)]:qT P t 1 (AV.int k):=⟨fun x y w S v u hv hu d w'=>by
 rw [hv.cO,hu.cO,Op.equalIn]
 simp [run_underlying (aE.h (P:=P) (t:=t))]
 rw [Bool.eq_iff_iff];simp⟩
instance U4 {P:Program} {t:TypeId} [aE P t (.int .i64)]:qT P t 1 I:=SU (k:=.i64)
instance eqStr {P:Program} {t:TypeId} [aE P t .string]:qT P t 1 AV.str:=⟨fun x y w S v u hv hu d w'=>by
 rw [hv.ct,hu.ct,Op.equalIn]
 simp [run_underlying (aE.h (P:=P) (t:=t))]
 rw [Bool.eq_iff_iff]
 rw [beq_toListBytes,ByteArray.toList_eq,ByteArray.toList_eq]
 simp⟩
def gj (k:IntKind) (x y:Int):Int:=x.fdiv (2 ^ min y.toNat k.bits)
section rules
variable {P:Program} {all:Array Oper} {rest:List Oper} {n:Nat} {tm:List (Nat×AV)} {hp:Heap} {Q:St→Prop} {d:Nat} {ty:TypeId} {pos:String} {af:Array Edge}
theorem Pe {α:Type} [DecidableEq α] {g:α→AV} {X Y:α} {k:Nat} {xt yt:TypeId} {x y:Operand} {cs ds:List AV} [qT P xt k g] [Nw P xt] (hk:Nat.ble k 10000=true) (hx:cG tm x=some (.agg cs)) (hy:cG tm y=some (.agg ds)) (eX:g X=.agg cs) (eY:g Y=.agg ds):
 QV P ⟨some d,.binOp .neq xt x y yt,ty,pos,af,none⟩ ⟨n,tm,hp⟩ (.bool (decide (X≠Y))):=by
 intro w S a r
 have hv:=bj (σ:=⟨n,tm,hp⟩) r hx
 have hu:=bj (σ:=⟨n,tm,hp⟩) r hy
 have he:=qT.h (P:=P) (t:=xt) (g:=g) X Y w S _ _ (by rw [eX];exact hv) (by rw [eY];exact hu)
 obtain ⟨vs,e1,_,_⟩:=hv.nt
 obtain ⟨us,e2,_,_⟩:=hu.nt
 refine ⟨.bool (decide (X≠Y)),fun w1 _=>?_,.bool _⟩
 have h1:=run_eqGuard_agg (P:=P) w1 .neq xt x y vs us Nw.h
 rw [e1,e2] at he
 have h2:(Op.equal xt (.agg vs) (.agg us)).run P w1=.ok (decide (X=Y)) w1:=by
  have:=he (10000 - k) w1
  rw [Nat.sub_add_cancel (Nat.le_of_ble_eq_true hk)] at this
  exact this
 have h3:(binOp .neq xt (.agg vs) (.agg us)).run P w1=.ok (.bool (decide (X≠Y))) w1:=by
  rw [show binOp .neq xt (.agg vs) (.agg us)=(do pure (.bool (!(← Op.equal xt (.agg vs) (.agg us))))) from rfl]
  simp [h2]
 simp [execOp,e1,e2,h1,h3]
theorem HU {k k':IntKind} {xt yt:TypeId} {x y:Operand} {i j:Int} (hx:cG tm x=some (.int k i)) (hy:cG tm y=some (.int k' j)) (h0:¬ j < 0):QV P ⟨some d,.binOp .shr xt x y yt,ty,pos,af,none⟩ ⟨n,tm,hp⟩ (.int k (gj k i j)):=by
 refine fun w S a r=>⟨.int k (gj k i j),fun w1 _=>?_,.int _ _⟩
 simp [execOp,(bj (σ:=⟨n,tm,hp⟩) r hx).cO,(bj (σ:=⟨n,tm,hp⟩) r hy).cO,eqGuard_at_int,binOp,Op.shift,h0,gj]
end rules
end Go.Eng
namespace Go.Eng
open Go Go.RowKit
variable [bF]
theorem Cf (l:List Int):flat (l.map I)=l.map I:=by
 induction l with
 | nil=>rfl
 | cons x r ih=>rw [List.map_cons,gH,ih];rfl
theorem KM {P:Program} {f:FuncId} {a:Option Addr} {len cap:Nat} {zs:List Int} {w:World}
 (ti:(a=none∧len=0∧cap=0∧zs=[])∨∃ x,a=some x∧len≤cap∧cap≤maxLen∧zs.length=cap∧(∀ i,i < zs.length→w.cell? (x.add i)=some (.int .i64 (zs.getD i 0)))∧∀ n∈zs,(Lit.int .i64 n).wf=true)
 (hG:∀ g o,bF.Sk g=some o→g < w.heap.size∧o (w.heap[g]?))
 (c:∀ l:List Int,Pu P f [.list 1 (l.map I)] (.bool true)):
 Calls P f #[.slice a len cap] w fun e w'=>e=.returned (.bool true)∧Below w.heap.size w w':=by
 let S:Nat→Prop:=fun n=>n < w.heap.size
 have pR:∃ l:List Int,At w S (.list 1 (l.map I)) (.slice a len cap):=by
  rcases ti with ⟨rfl,rfl,rfl,rfl⟩ | ⟨x,rfl,h1,h2,h3,h4,h5⟩
  ·exact ⟨[],.list 1 [] none 0 [] (by simp) rfl (by simp [flat]) (by simp) (by simp)⟩
  ·refine ⟨zs.take len,?_⟩
   have hl:((zs.take len).map I).length=len:=by simp;omega
   have key:=At.list (w:=w) (S:=S) 1 ((zs.take len).map I) (some x) cap ((zs.take len).map (fun n=>Value.int .i64 n)) ?_ ?_ ?_ ?_ ?_
   ·rw [hl] at key;exact key
   ·intro y hy
    obtain ⟨n,_,rfl⟩:=List.mem_map.1 hy
    exact ⟨rfl,fun c hc=>by simp [AV.cells] at hc;subst hc;rfl⟩
   ·rw [Cf];simp
   ·intro i c v hc hv
    rw [Cf,List.getElem?_map] at hc
    rw [List.getElem?_map] at hv
    cases hn:(zs.take len)[i]? with
    | none=>rw [hn] at hc;cases hc
    | some n=>
      rw [hn] at hc hv
      obtain rfl:=Option.some.inj hc
      obtain rfl:=Option.some.inj hv
      exact .int _ _
   ·intro i v hv
    rw [List.getElem?_map] at hv
    cases hn:(zs.take len)[i]? with
    | none=>rw [hn] at hv;cases hv
    | some n=>
      rw [hn] at hv
      obtain rfl:=Option.some.inj hv
      have hi:i < zs.length:=by
       have:=(List.getElem?_eq_some_iff.1 hn).1
       simp at this;omega
      have hz:zs.getD i 0=n:=by
       rw [List.getElem?_take] at hn
       split at hn
       ·rw [List.getD_eq_getElem?_getD,hn];rfl
       ·cases hn
      have uC:=h4 i hi
      rw [hz] at uC
      obtain ⟨bk,of,sp⟩:=x
      have O3:sp=none:=by
       cases sp with
       | none=>rfl
       | some q=>
         have SV:=h4 0 (by omega)
         unfold World.cell? Addr.add at SV
         simp only [if_true] at SV
         split at SV
         ·simp at SV
         ·cases SV
      subst O3
      rw [mf] at uC
      have hblk:bk < w.heap.size:=by
       rcases Nat.lt_or_ge bk w.heap.size with h | h
       ·exact h
       ·unfold World.cell? at uC
        simp only [Array.getElem?_eq_none h] at uC
        cases uC
      exact ⟨_,rfl,rfl,hblk,uC⟩
   ·rw [hl];exact h1
 obtain ⟨l,pR⟩:=pR
 refine (c l w S #[.slice a len cap] (qS (fun n hn=>hn) hG) rfl ?_).mono ?_
 ·intro i c' v hc hv
  match i with
  | 0=>simp at hc hv;subst hc;subst hv;exact pR
  | i+1=>simp at hc
 ·rintro e w' ⟨v,r,h',S',rfl,rfl,h1,h2,h3⟩
  refine ⟨by rw [h1.me],h3.os,h3.tape,h3.output,h3.size,fun k hk=>(h3.keep k hk).2⟩
end Go.Eng
namespace Go.Eng
open Go
variable [bF]
def oU (e:Env) (d:Option Nat) (o:Option AV):Env:=match d with
 | some d=>fun s=>if d=s then o else e s
 | none=>e
theorem iH {e:Env} {d:Option Nat} {o:Option AV} {s:Nat} (h:d≠some s):oU e d o s=e s:=by
 cases d with
 | none=>rfl
 | some d=>simp only [oU];rw [if_neg (fun e=>h (by rw [e]))]
theorem kZ {e:Env} {o:Option AV} {s:Nat}:oU e (some s) o s=o:=by simp [oU]
section order
variable {P:Program} {all:Array Oper} {n m:Nat} {hp:Heap}
def uc (all:Array Oper) (mc:Nat→Option AV) (e:Env) (listed:Array Bool):Nat→Env
 | 0=>e
 | k+1=>if listed.getD k false then oU (uc all mc e listed k) ((all[k]?).bind (·.dst)) (mc k) else uc all mc e listed k
variable {mc:Nat→Option AV} {en:Nat→Env} {e:Env}
theorem I9 (hB:tM all m) {listed:Array Bool} (L:MO all m listed) (h0:en 0=e) (hs:∀ i o,i < m→all[i]? =some o→en (i+1)=oU (en i) o.dst (mc i)) (hm:m≤all.size)
 {i:Nat} {o:Oper} (ho:all[i]? =some o) (Ei:i < m) (vO:listed.getD i false=false) (hr:∀ j,yL all i j→listed.getD j false=true) {s:Nat} (Gr:s∈looks all o):∀ k,k≤all.size→uc all mc e listed k s=en (min k i) s:=by
 intro k
 induction k with
 | zero=>intro _;simp [uc,h0]
 | succ k ih=>
   intro hk
   have ua:=ih (by omega)
   have ub:all[k]? =some all[k]:=by simp [show k < all.size by omega]
   simp only [uc,ub,Option.bind_some]
   rcases Nat.lt_trichotomy k i with iT | heq | Ku
   ·rw [Nat.min_eq_left (by omega)] at ua
    rw [Nat.min_eq_left (by omega),hs k _ (by omega) ub]
    by_cases hd:(all[k]).dst=some s
    ·have hl:listed.getD k false=true:=hr k ((jD hB ho ub iT).1 Ei (wC hd Gr))
     rw [if_pos hl,hd,kZ,kZ]
    ·rw [iH hd]
     split
     ·rw [iH hd];exact ua
     ·exact ua
   ·subst heq
    rw [vO]
    simp only [Bool.false_eq_true,if_false]
    rw [Nat.min_eq_right (by omega)]
    rw [Nat.min_eq_right (by omega)] at ua
    exact ua
   ·rw [Nat.min_eq_right (by omega)] at ua
    rw [Nat.min_eq_right (by omega)]
    by_cases hl:listed.getD k false=true
    ·by_cases hd:(all[k]).dst=some s
     ·exfalso
      have hw:=(jD hB ub ho Ku).1 (L.head k hl) (yO hd Gr)
      have:=kJ.Ns L.closed hw hl
      rw [vO] at this;cases this
     ·rw [if_pos hl,iH hd];exact ua
    ·rw [if_neg hl];exact ua
theorem KN (hB:tM all m) {listed:Array Bool} (L:MO all m listed) {i:Nat} {o:Oper} (ho:all[i]? =some o) (Ei:i < m) (vO:listed.getD i false=false) (s:Nat):
 ∀ k,k≤all.size→uc all mc e (listed.setIfInBounds i true) k s=(if i < k then oU (uc all mc e listed k) o.dst (mc i) s else uc all mc e listed k s):=by
 have hi:i < listed.size:=by rw [L.size];exact (Array.getElem?_eq_some_iff.1 ho).1
 intro k
 induction k with
 | zero=>intro _;simp [uc]
 | succ k ih=>
   intro hk
   have ua:=ih (by omega)
   have ub:all[k]? =some all[k]:=by simp [show k < all.size by omega]
   simp only [uc,ub,Option.bind_some,iG hi]
   rcases Nat.lt_trichotomy k i with iT | heq | Ku
   ·rw [if_neg (by omega)] at ua
    have e1:(if k=i then true else listed.getD k false)=listed.getD k false:=if_neg (by omega)
    rw [e1,if_neg (show ¬ i < k+1 by omega)]
    by_cases hl:listed.getD k false=true
    ·rw [if_pos hl,if_pos hl]
     by_cases hd:(all[k]).dst=some s
     ·rw [hd,kZ,kZ]
     ·rw [iH hd,iH hd];exact ua
    ·rw [if_neg hl,if_neg hl];exact ua
   ·subst heq
    rw [if_neg (by omega)] at ua
    have e1:(if k=k then true else listed.getD k false)=true:=if_pos rfl
    rw [e1,if_pos (show k < k+1 by omega),if_pos rfl,vO,if_neg Bool.false_ne_true]
    obtain rfl:all[k]=o:=by rw [ub] at ho;exact Option.some.inj ho
    by_cases hd:(all[k]).dst=some s
    ·rw [hd,kZ,kZ]
    ·rw [iH hd,iH hd];exact ua
   ·rw [if_pos Ku] at ua
    have e1:(if k=i then true else listed.getD k false)=listed.getD k false:=if_neg (by omega)
    rw [e1,if_pos (show i < k+1 by omega)]
    by_cases hl:listed.getD k false=true
    ·rw [if_pos hl,if_pos hl]
     by_cases hd:(all[k]).dst=some s
     ·by_cases I4:o.dst=some s
      ·exfalso
       have hw:=(jD hB ub ho Ku).1 (L.head k hl) (Cc I4 hd)
       have:=kJ.Ns L.closed hw hl
       rw [vO] at this;cases this
      ·rw [hd,kZ,iH I4,kZ]
     ·by_cases I4:o.dst=some s
      ·rw [iH hd,ua,I4,kZ,kZ]
      ·rw [iH hd,ua,iH I4,iH I4,iH hd]
    ·rw [if_neg hl,if_neg hl];exact ua
structure Tok where
 prod:Option Nat
 cons:Option Nat
 Wm:List Nat
 ent:Bk→Bk×Ob
 U5:Option Nat
 Yl:List Nat
def Tok.ix (t:Tok):Option Nat:=match t.U5 with | some a=>some a | none=>t.prod
def Tok.at (t:Tok) (β:Nat→Bk):Bk×Ob:=t.ent (match t.ix with | some i=>β i | none=>⟨none,0⟩)
def wD (listed:Array Bool) (t:Tok):Bool:=(match t.prod with | none=>true | some i=>listed.getD i false)&&(match t.cons with | none=>true | some i=>!listed.getD i false)
def zg (i:Nat) (t:Tok):Bool:=match t.cons with | some c=>Nat.beq c i | none=>false
def Nx (i:Nat) (t:Tok):Bool:=match t.prod with | some c=>Nat.beq c i | none=>false
def HV (i:Nat) (t:Tok):Bool:=t.Wm.contains i
def xb (tk:List Tok) (i:Nat) (β:Nat→Bk):Heap:=(tk.filter (HV i)).map (·.at β)
def ML (i:Nat) (t:Tok):Bool:=t.Yl.contains i
def vP (tk:List Tok) (i:Nat) (β:Nat→Bk):List Heap:=match tk.filter (ML i) with
 | []=>[xb tk i β]
 | l=>l.map fun t=>t.at β :: xb tk i β
def qo (tk:List Tok) (listed:Array Bool) (β:Nat→Bk):Heap:=(tk.filter (wD listed)).map (·.at β)
def ud (tk:List Tok) (i:Nat) (β:Nat→Bk):Heap:=(tk.filter (zg i)).map (·.at β)
def k6 (tk:List Tok) (i:Nat) (β:Nat→Bk):Heap:=(tk.filter (Nx i)).map (·.at β)
def oZ (β:Nat→Bk) (i:Nat) (b:Bk):Nat→Bk:=fun k=>bif Nat.beq k i then b else β k
theorem Ny (β:Nat→Bk) (i:Nat) (b:Bk):oZ β i b i=b:=by simp [oZ]
theorem HW {β:Nat→Bk} {i k:Nat} {b:Bk} (h:k≠i):oZ β i b k=β k:=by simp [oZ,pd h]
def KO (tk:List Tok) (β:Nat→Bk):Heap:=(tk.filter (fun t=>t.cons.isNone)).map (·.at β)
def SX (A:List Nat) (m:Nat) (tk:List Tok):Bool:=tk.all fun t=>
 (match t.prod with | some p=>Nat.blt p m | none=>true)&&(match t.cons with | some c=>Nat.blt c m&&(match t.prod with | some p=>(A.getD c 0).testBit p | none=>true) | none=>true)&&
 (match t.U5 with | some a=>(match t.prod with | some p=>(A.getD p 0).testBit a | none=>false) | none=>true)&&
 t.Wm.all fun i=>Nat.blt i m&&(match t.prod with | some p=>(A.getD i 0).testBit p | none=>true)&&(match t.cons with | some c=>(A.getD c 0).testBit i | none=>true)
def Pf (A:List Nat) (m:Nat) (tk:List Tok):Bool:=(List.range m).all fun i=>match tk.filter (ML i) with
 | []=>true
 | [t0,t1]=>(match t0.cons,t1.prod with | some j,some j'=>Nat.beq j j'&&!Nat.beq j i | _,_=>false)&&(match t0.prod with | some p=>(A.getD i 0).testBit p | none=>true)&&(match t1.cons with | some c=>(A.getD c 0).testBit i | none=>true)&&!HV i t0&&!HV i t1
 | _=>false
def GL (all:Array Oper) (m:Nat) (tk:List Tok):Prop:=∀ i,i < m→tk.filter (ML i)=[]∨∃ t0 t1 j,tk.filter (ML i)=[t0,t1]∧t0.cons=some j∧t1.prod=some j∧j≠i∧(∀ p,t0.prod=some p→yL all i p)∧(∀ c,t1.cons=some c→yL all c i)∧HV i t0=false∧HV i t1=false
theorem GM {A:List Nat} {tk:List Tok} (hA:I3 all=A) (h:Pf A m tk=true):GL all m tk:=by
 intro i hi
 have:=List.all_eq_true.1 h i (List.mem_range.2 hi)
 split at this
 ·rename_i e;exact .inl e
 ·rename_i t0 t1 e
  simp only [Bool.and_eq_true,Bool.not_eq_true'] at this
  obtain ⟨⟨⟨⟨h1,h2⟩,h3⟩,h4⟩,h5⟩:=this
  split at h1
  ·rename_i j j' hj RR
   simp only [Bool.and_eq_true,Bool.not_eq_true'] at h1
   obtain ⟨h6,h7⟩:=h1
   obtain rfl:=Nat.eq_of_beq_eq_true h6
   refine .inr ⟨t0,t1,j,e,hj,RR,fun e=>by rw [e] at h7;simp at h7,fun p hp=>?_,fun c hc=>?_,h4,h5⟩
   ·rw [hp] at h2;subst hA;exact nP h2
   ·rw [hc] at h3;subst hA;exact nP h3
  ·cases h1
 ·cases this
def Al (all:Array Oper) (m:Nat) (tk:List Tok):Prop:=∀ t∈tk,(∀ p,t.prod=some p→p < m)∧(∀ c,t.cons=some c→c < m∧∀ p,t.prod=some p→yL all c p)∧(∀ i,HV i t=true→i < m∧(∀ p,t.prod=some p→yL all i p)∧∀ c,t.cons=some c→yL all c i)∧∀ a,t.U5=some a→∃ p,t.prod=some p∧yL all p a
theorem Ja {A:List Nat} {tk:List Tok} (hA:I3 all=A) (h:SX A m tk=true):Al all m tk:=by
 intro t ht
 have:=List.all_eq_true.1 h t ht
 rw [Bool.and_eq_true,Bool.and_eq_true,Bool.and_eq_true] at this
 obtain ⟨⟨⟨h1,h2⟩,h9⟩,h4⟩:=this
 subst hA
 refine ⟨fun p hp=>by rw [hp] at h1;simpa using h1,fun c hc=>?_,fun i hi=>?_,fun a ha=>?_⟩
 ·rw [hc] at h2
  simp only [Bool.and_eq_true] at h2
  refine ⟨by simpa using h2.1,fun p hp=>?_⟩
  have h3:=h2.2
  rw [hp] at h3
  exact nP h3
 ·have h5:=List.all_eq_true.1 h4 i (by simpa [HV] using hi)
  rw [Bool.and_eq_true,Bool.and_eq_true] at h5
  obtain ⟨⟨h6,h7⟩,h8⟩:=h5
  exact ⟨by simpa using h6,fun p hp=>by rw [hp] at h7;exact nP h7,fun c hc=>by rw [hc] at h8;exact nP h8⟩
 ·rw [ha] at h9
  cases hp:t.prod with
  | none=>rw [hp] at h9;cases h9
  | some p=>rw [hp] at h9;exact ⟨p,rfl,nP h9⟩
theorem tj {α:Type} (p q:α→Bool) (l:List α):(l.filter p).Perm (l.filter (fun x=>p x&&q x)++l.filter (fun x=>p x&&!q x)):=by
 induction l with
 | nil=>exact List.Perm.refl _
 | cons x l ih=>
   simp only [List.filter_cons]
   cases hp:p x<;>cases hq:q x
   ·simpa using ih
   ·simpa using ih
   ·simp only [Bool.true_and,Bool.not_false,Bool.false_eq_true,if_false,if_true]
    exact (List.Perm.cons x ih).trans List.perm_middle.symm
   ·simp only [Bool.true_and,Bool.not_true,Bool.false_eq_true,if_false,if_true,List.cons_append]
    exact List.Perm.cons x ih
theorem Qe {tk:List Tok} (hT:Al all m tk) {listed:Array Bool} {i:Nat} (vO:listed.getD i false=false) (Dl:∀ j,yL all i j→listed.getD j false=true) (β:Nat→Bk):
 (qo tk listed β).Perm (ud tk i β++(tk.filter (fun t=>wD listed t&&!zg i t)).map (·.at β)):=by
 unfold qo ud
 rw [← List.map_append]
 refine List.Perm.map _ ?_
 have e:tk.filter (zg i)=tk.filter (fun t=>wD listed t&&zg i t):=by
  apply List.filter_congr
  intro t ht
  cases hc:zg i t with
  | false=>simp
  | true=>
    unfold zg at hc
    split at hc
    ·rename_i c Nz
     obtain rfl:c=i:=Nat.eq_of_beq_eq_true hc
     have:=(hT t ht).2.1 c Nz
     have MN:wD listed t=true:=by
      unfold wD
      rw [Nz]
      simp only [vO,Bool.not_false,Bool.and_true]
      split
      ·rfl
      ·rename_i p hp;exact Dl p (this.2 p hp)
     rw [MN];rfl
    ·cases hc
 rw [e]
 exact tj _ _ _
theorem NA {tk:List Tok} (hT:Al all m tk) {listed:Array Bool} (BE:kJ all listed) {i:Nat} (hi:i < listed.size) (vO:listed.getD i false=false) (Dm:∀ c,yL all c i→c≠i) (β:Nat→Bk) (b:Bk):
 (qo tk (listed.setIfInBounds i true) (oZ β i b)).Perm (k6 tk i (oZ β i b)++(tk.filter (fun t=>wD listed t&&!zg i t)).map (·.at β)):=by
 unfold qo k6
 have e2:(tk.filter (fun t=>wD listed t&&!zg i t)).map (·.at β)=(tk.filter (fun t=>wD listed t&&!zg i t)).map (·.at (oZ β i b)):=by
  apply List.map_congr_left
  intro t ht
  have h0:=(List.mem_filter.1 ht).1
  have h1:=(List.mem_filter.1 ht).2
  rw [Bool.and_eq_true] at h1
  have UZ:∀ p,t.prod=some p→listed.getD p false=true:=by
   intro p hp
   have:=h1.1
   unfold wD at this
   rw [hp,Bool.and_eq_true] at this
   exact this.1
  unfold Tok.at
  cases hx:t.ix with
  | none=>rfl
  | some p=>
    have MJ:listed.getD p false=true:=by
     unfold Tok.ix at hx
     cases ha:t.U5 with
     | none=>rw [ha] at hx;exact UZ p hx
     | some a=>
       rw [ha] at hx
       obtain rfl:=Option.some.inj hx
       obtain ⟨q,q1,q2⟩:=(hT t h0).2.2.2 a ha
       exact BE.Ns q2 (UZ q q1)
    have:p≠i:=fun e=>by subst e;rw [vO] at MJ;cases MJ
    simp only [HW this]
 rw [e2,← List.map_append]
 refine List.Perm.map _ ?_
 refine (tj _ (Nx i) _).trans ?_
 have f1:tk.filter (fun t=>wD (listed.setIfInBounds i true) t&&Nx i t)=tk.filter (Nx i):=by
  apply List.filter_congr
  intro t ht
  cases hp:Nx i t with
  | false=>simp
  | true=>
    unfold Nx at hp
    split at hp
    ·rename_i p RS
     obtain rfl:p=i:=Nat.eq_of_beq_eq_true hp
     have MN:wD (listed.setIfInBounds p true) t=true:=by
      unfold wD
      rw [RS]
      simp only [iG hi,if_true,Bool.true_and]
      cases hc:t.cons with
      | none=>rfl
      | some c=>
        have Dl:=((hT t ht).2.1 c hc).2 p RS
        have mb:=Dm c Dl
        simp only [mb,if_false]
        cases hl:listed.getD c false with
        | false=>rfl
        | true=>have:=BE.Ns Dl hl;rw [vO] at this;cases this
     rw [MN];rfl
    ·cases hp
 have f2:tk.filter (fun t=>wD (listed.setIfInBounds i true) t&&!Nx i t)=tk.filter (fun t=>wD listed t&&!zg i t):=by
  apply List.filter_congr
  intro t ht
  unfold wD Nx zg
  cases hp:t.prod with
  | none=>
    cases hc:t.cons with
    | none=>simp
    | some c=>
      simp only [iG hi]
      by_cases MS:c=i
      ·subst MS;simp
      ·have:Nat.beq c i=false:=pd MS
       simp [MS,this]
  | some p=>
    by_cases U6:p=i
    ·subst U6
     simp [vO]
    ·have hb:Nat.beq p i=false:=pd U6
     cases hc:t.cons with
     | none=>simp [iG hi,U6,hb]
     | some c=>
       simp only [iG hi,U6,hb,if_false]
       by_cases MS:c=i
       ·subst MS;simp
       ·have:Nat.beq c i=false:=pd MS
        simp [MS,this]
 rw [f1,f2]
theorem KP {tk:List Tok} (hT:Al all m tk) {listed:Array Bool} (BE:kJ all listed) {i:Nat} (vO:listed.getD i false=false) (Dl:∀ j,yL all i j→listed.getD j false=true) (Dm:∀ c,yL all c i→c≠i) (β:Nat→Bk):
 ((tk.filter (fun t=>wD listed t&&!zg i t)).map (·.at β)).Perm (xb tk i β++(tk.filter (fun t=>(wD listed t&&!zg i t)&&!HV i t)).map (·.at β)):=by
 unfold xb
 rw [← List.map_append]
 refine List.Perm.map _ ?_
 have e:tk.filter (HV i)=tk.filter (fun t=>(wD listed t&&!zg i t)&&HV i t):=by
  apply List.filter_congr
  intro t ht
  cases hr:HV i t with
  | false=>simp
  | true=>
    obtain ⟨_,q2,q3⟩:=(hT t ht).2.2.1 i hr
    have h1:wD listed t=true:=by
     unfold wD
     have e1:(match t.prod with | none=>true | some i=>listed.getD i false)=true:=by
      cases hp:t.prod with
      | none=>rfl
      | some p=>exact Dl p (q2 p hp)
     have e2:(match t.cons with | none=>true | some i=>!listed.getD i false)=true:=by
      cases hc:t.cons with
      | none=>rfl
      | some c=>
        have:=q3 c hc
        show (!listed.getD c false)=true
        cases hl:listed.getD c false with
        | false=>rfl
        | true=>have:=BE.Ns this hl;rw [vO] at this;cases this
     rw [e1,e2];rfl
    have h2:zg i t=false:=by
     unfold zg
     cases hc:t.cons with
     | none=>rfl
     | some c=>exact pd (Dm c (q3 c hc))
    rw [h1,h2];rfl
 rw [e]
 exact tj _ _ _
theorem Jb {tk:List Tok} (hT:Al all m tk) (hS:GL all m tk) {listed:Array Bool} (BE:kJ all listed) {i:Nat} (Ei:i < m) (vO:listed.getD i false=false) (Dl:∀ j,yL all i j→listed.getD j false=true) (Dm:∀ c,yL all c i→c≠i) (β:Nat→Bk):
 ∃ X∈vP tk i β,∃ rest,((tk.filter (fun t=>wD listed t&&!zg i t)).map (·.at β)).Perm (X++rest):=by
 have h0:=KP hT BE vO Dl Dm β
 rcases hS i Ei with e | ⟨t0,t1,j,e,a1,a2,a3,a4,a5,a6,a7⟩
 ·exact ⟨xb tk i β,by unfold vP;rw [e];simp,_,h0⟩
 ·have m0:t0∈tk:=(List.mem_filter.1 (by rw [e];simp:t0∈tk.filter (ML i))).1
  have m1:t1∈tk:=(List.mem_filter.1 (by rw [e];simp:t1∈tk.filter (ML i))).1
  have go:∀ t,t∈tk→wD listed t=true→zg i t=false→HV i t=false→∃ rest,((tk.filter (fun t=>wD listed t&&!zg i t)).map (·.at β)).Perm ((t.at β :: xb tk i β)++rest):=by
   intro t ht h1 h2 h3
   have hm:t∈tk.filter (fun t=>(wD listed t&&!zg i t)&&!HV i t):=List.mem_filter.2 ⟨ht,by simp [h1,h2,h3]⟩
   obtain ⟨a,b,vQ⟩:=List.append_of_mem hm
   rw [vQ] at h0
   refine ⟨(a++b).map (·.at β),h0.trans ?_⟩
   rw [List.map_append,List.map_cons,List.map_append]
   refine (List.Perm.append_left _ List.perm_middle).trans ?_
   exact List.perm_middle
  have hX:∀ t,t∈[t0,t1]→(t.at β :: xb tk i β)∈vP tk i β:=by
   intro t ht
   unfold vP
   rw [e]
   exact List.mem_map.2 ⟨t,ht,rfl⟩
  cases hj:listed.getD j false with
  | false=>
    have h1:wD listed t0=true:=by
     unfold wD
     rw [a1]
     simp only [hj,Bool.not_false,Bool.and_true]
     split
     ·rfl
     ·rename_i p hp;exact Dl p (a4 p hp)
    have h2:zg i t0=false:=by unfold zg;rw [a1];exact pd a3
    obtain ⟨rest,hr⟩:=go t0 m0 h1 h2 a6
    exact ⟨_,hX t0 (by simp),rest,hr⟩
  | true=>
    have h1:wD listed t1=true:=by
     unfold wD
     rw [a2]
     simp only [hj,Bool.true_and]
     split
     ·rfl
     ·rename_i c hc
      cases hl:listed.getD c false with
      | false=>rfl
      | true=>have:=BE.Ns (a5 c hc) hl;rw [vO] at this;cases this
    have h2:zg i t1=false:=by
     unfold zg
     split
     ·rename_i c hc;exact pd (Dm c (a5 c hc))
     ·rfl
    obtain ⟨rest,hr⟩:=go t1 m1 h1 h2 a7
    exact ⟨_,hX t1 (by simp),rest,hr⟩
def TV (P:Program) (all:Array Oper) (n:Nat) (B:Heap) (o:Oper) (e:Env) (Ti:Heap) (V:Bk→AV) (Pi:Bk→Heap):Prop:=
 ∀ w S a,a.tmps.size=n→a.defers=[]→ck w S (Ti++B)→Dd w S (looks all o) e a→∀ (K:Act→World→Prop) (Q:Exit→Act→World→Prop),
   (∀ b v w' S',iE w S (Ti++B) w' S' (Pi b++B)→ck w' S' (Pi b++B)→At w' S' (V b) v→K (a.put o.dst v) w')→o.wp P a w K Q
def qU (P:Program) (all:Array Oper) (n:Nat) (B:Heap) (o:Oper) (e:Env) (Ti:Heap) (V:Bk→AV) (Pi:Bk→Heap):Prop:=
 (∀ d,o.dst=some d→d < n)∧((nE all o e true∧TV P all n B o e Ti V Pi)∨(nE all o e false∧∀ b,Pi b=Ti∧V b=.raw undef))
def Jc (e c:Env):Env:=fun s=>match e s with | some av=>some av | none=>c s
theorem KQ {e c:Env} {s:Nat} {av:AV} (h:e s=some av):Jc e c s=some av:=by simp [Jc,h]
theorem nE.up {all:Array Oper} {o:Oper} {e c:Env} {b:Bool} (h:nE all o e b):nE all o (Jc e c) b:=by
 unfold nE at *
 cases hg:o.guard with
 | none=>rw [hg] at h;exact h
 | some g=>
   rw [hg] at h
   obtain ⟨s,h1,h2⟩:=h
   refine ⟨s,h1,?_⟩
   rcases h2 with ⟨x,h3,h4⟩ | ⟨h3,h4⟩
   ·exact .inl ⟨x,KQ h3,h4⟩
   ·exact .inr ⟨KQ h3,h4⟩
theorem Dd.down {w:World} {S:Nat→Prop} {ls:List Nat} {e c:Env} {a:Act} (h:Dd w S ls (Jc e c) a):Dd w S ls e a:=fun s hs av qP=>h s hs av (KQ qP)
theorem qU.up {P:Program} {all:Array Oper} {n:Nat} {B:Heap} {o:Oper} {e c:Env} {Ti:Heap} {V:Bk→AV} {Pi:Bk→Heap} (h:qU P all n B o e Ti V Pi):qU P all n B o (Jc e c) Ti V Pi:=by
 refine ⟨h.1,h.2.imp (fun x=>⟨x.1.up,fun w S a h1 h2 h3 h4=>x.2 w S a h1 h2 h3 h4.down⟩) (fun x=>⟨x.1.up,x.2⟩)⟩
theorem KR {all:Array Oper} {mc:Nat→Option AV} {V:Nat→Bk→AV} {cn:Nat→(Nat→Bk)→Env} {m:Nat} (h0:∀ β s,cn 0 β s=none) (hc:∀ i o,i < m→all[i]? =some o→∀ β,cn (i+1) β=match mc i with | none=>oU (cn i β) o.dst (some (V i (β i))) | some _=>cn i β) (hm:m≤all.size):
 ∀ i,i≤m→∀ β s av,cn i β s=some av→∃ k o,k < i∧all[k]? =some o∧o.dst=some s∧mc k=none∧av=V k (β k):=by
 intro i
 induction i with
 | zero=>intro _ β s av h;rw [h0] at h;cases h
 | succ i ih=>
   intro hi β s av h
   have ub:all[i]? =some all[i]:=by simp [show i < all.size by omega]
   rw [hc i _ (by omega) ub] at h
   cases qP:mc i with
   | some x=>
     rw [qP] at h
     obtain ⟨k,o,h1,h2⟩:=ih (by omega) β s av h
     exact ⟨k,o,by omega,h2⟩
   | none=>
     rw [qP] at h
     by_cases hd:(all[i]).dst=some s
     ·simp only [hd,kZ] at h
      exact ⟨i,_,by omega,ub,hd,qP,(Option.some.inj h).symm⟩
     ·simp only [iH hd] at h
      obtain ⟨k,o,h1,h2⟩:=ih (by omega) β s av h
      exact ⟨k,o,by omega,h2⟩
theorem Jd {cn:Nat→(Nat→Bk)→Env} {B:Heap} {tk:List Tok} {V:Nat→Bk→AV} (hB:tM all m) (hT:Al all m tk) (hSf:GL all m tk) (hm:m≤all.size) {Q:Exit→Act→World→Prop} (h0:en 0=e)
 (KC:∀ β s,cn 0 β s=none) (hcn:∀ i o,i < m→all[i]? =some o→∀ β,cn (i+1) β=match mc i with | none=>oU (cn i β) o.dst (some (V i (β i))) | some _=>cn i β)
 (hs:∀ i o,i < m→all[i]? =some o→(∀ β,∀ X∈vP tk i β,qU P all n (X++B) o (Jc (en i) (cn i β)) (ud tk i β) (V i) (fun b=>k6 tk i (oZ β i b)))∧en (i+1)=oU (en i) o.dst (mc i)∧(∀ av,mc i=some av→∀ b,V i b=av))
 (hU:∀ i j oi oj d,i < m→j < m→i≠j→all[i]? =some oi→all[j]? =some oj→mc i=none→oi.dst=some d→oj.dst≠some d) {w0:World} {S0:Nat→Prop} {U7:Heap}
 (fin:∀ β a w S,a.tmps.size=n→a.defers=[]→ck w S (KO tk β++B)→iE w0 S0 U7 w S (KO tk β++B)→Ag w S (en m) a→(∀ j o d,j < m→all[j]? =some o→mc j=none→o.dst=some d→∃ v,a.tmps[d]? =some v∧At w S (V j (β j)) v)→wpList P all Q (all.toList.drop m) a w):
 ∀ (fuel:Nat) (listed:Array Bool) (a:Act) (w:World) (S:Nat→Prop) (β:Nat→Bk),MO all m listed→(listed.toList.count true)+fuel=all.size→a.tmps.size=n→a.defers=[]→ck w S (qo tk listed β++B)→iE w0 S0 U7 w S (qo tk listed β++B)→Ag w S (uc all mc e listed all.size) a→
   (∀ j o d,listed.getD j false=true→all[j]? =some o→mc j=none→o.dst=some d→∃ v,a.tmps[d]? =some v∧At w S (V j (β j)) v)→
   wpAny P .any all Q fuel listed a w:=by
 have SO:∀ i o,i < m→all[i]? =some o→en (i+1)=oU (en i) o.dst (mc i):=fun i o h1 h2=>(hs i o h1 h2).2.1
 have Dm:∀ c i,yL all c i→c≠i:=by
  have key:∀ c i,yL all c i→i < c:=by
   intro c i h
   have one:∀ {j i:Nat} {oj:Oper},all[j]? =some oj→waits oj i=true→i < j:=by
    intro j i oj hj hw
    simp only [waits,List.any_eq_true,Bool.and_eq_true] at hw
    obtain ⟨e',Wg,zY,P8⟩:=hw
    have:=wB hB hj (by simpa using Wg) zY
    obtain rfl:e'.on=i:=Nat.eq_of_beq_eq_true P8
    exact this
   induction h with
   | one hj hw=>exact one hj hw
   | step hj hw _ ih=>have:=one hj hw;omega
  intro c i h e;have:=key c i h;omega
 have done:∀ (fuel:Nat) (listed:Array Bool) (a:Act) (w:World) (S:Nat→Prop) (β:Nat→Bk),MO all m listed→(listed.toList.count true)+fuel=all.size→a.tmps.size=n→a.defers=[]→ck w S (qo tk listed β++B)→iE w0 S0 U7 w S (qo tk listed β++B)→Ag w S (uc all mc e listed all.size) a→
  (∀ j o d,listed.getD j false=true→all[j]? =some o→mc j=none→o.dst=some d→∃ v,a.tmps[d]? =some v∧At w S (V j (β j)) v)→
  (∀ i,i < m→listed.getD i false=true)→wpAny P .any all Q fuel listed a w:=by
  intro fuel listed a w S β L hc gG GK hr hg qj GN gU
  have JY:∀ i,m≤i→listed.getD i false=false:=fun i hi=>by
   cases hv:listed.getD i false with
   | false=>rfl
   | true=>have:=L.head i hv;omega
  have P9:listed.toList.count true=m:=by
   have:listed.toList=List.replicate m true++List.replicate (all.size - m) false:=by
    apply List.ext_getElem?
    intro i
    rcases Nat.lt_or_ge i m with hi | hi
    ·have oY:i < listed.size:=by rw [L.size];omega
     rw [List.getElem?_append_left (by simpa using hi)]
     have:=gU i hi
     simp [oY] at this
     simp [oY,hi,this]
    ·rw [List.getElem?_append_right (by simpa using hi)]
     rcases Nat.lt_or_ge i listed.size with oY | oY
     ·have:=JY i hi
      simp [oY] at this
      have h2:i - m < all.size - m:=by rw [L.size] at oY;omega
      simp [oY,h2,this]
     ·have h2:¬ i - m < all.size - m:=by rw [L.size] at oY;omega
      simp [List.getElem?_eq_none (l:=listed.toList) (by simpa using oY),h2]
   rw [this,List.count_append,List.count_replicate,List.count_replicate]
   simp
  have Qa:uc all mc e listed all.size=en m:=by
   have key:∀ k,k≤all.size→uc all mc e listed k=en (min k m):=by
    intro k
    induction k with
    | zero=>intro _;simp [uc,h0]
    | succ k ih=>
      intro hk
      have ub:all[k]? =some all[k]:=by simp [show k < all.size by omega]
      simp only [uc,ub,Option.bind_some,ih (by omega)]
      rcases Nat.lt_or_ge k m with h | h
      ·rw [if_pos (gU k h),Nat.min_eq_left (by omega),Nat.min_eq_left (by omega),SO k _ h ub]
      ·rw [if_neg (by rw [JY k h];simp),Nat.min_eq_right (by omega),Nat.min_eq_right (by omega)]
   rw [key all.size (Nat.le_refl _),Nat.min_eq_right hm]
  have SY:qo tk listed β=KO tk β:=by
   unfold qo KO
   congr 1
   apply List.filter_congr
   intro t ht
   obtain ⟨q1,q2,_⟩:=hT t ht
   unfold wD
   cases hp:t.prod with
   | none=>
     cases hc:t.cons with
     | none=>rfl
     | some c=>simp [gU c (q2 c hc).1]
   | some p=>
     cases hc:t.cons with
     | none=>simp [gU p (q1 p hp)]
     | some c=>simp [gU c (q2 c hc).1]
  rw [Qa] at qj
  rw [SY] at hr hg
  exact EJ hB fuel m listed a w (Nat.le_refl _) (by omega) L.size gU JY (fin β a w S gG GK hr hg qj (fun j o d hj ho qP hd=>GN j o d (gU j hj) ho qP hd))
 intro fuel
 induction fuel with
 | zero=>
   intro listed a w S β L hc gG GK hr hg qj GN
   refine done 0 listed a w S β L hc gG GK hr hg qj GN (fun i hi=>?_)
   have EK:listed.toList.count true=listed.toList.length:=by rw [Array.length_toList,L.size];omega
   have gU:=List.count_eq_length.1 EK
   have oY:i < listed.size:=by rw [L.size];omega
   have:=gU listed[i] (by simp)
   simp [oY];exact this.symm
 | succ fuel ih=>
   intro listed a w S β L hc gG GK hr hg qj GN
   by_cases gU:∀ i,i < m→listed.getD i false=true
   ·exact done _ listed a w S β L hc gG GK hr hg qj GN gU
   ·refine ⟨fun I6=>(gU fun i hi=>ya hB L.size I6 i (by omega)).elim,fun i hi=>?_⟩
    obtain ⟨Kv,Kw⟩:=vm hi
    have vO:=zG Kw
    have yN:all[i]? =some all[i]:=by simp [Kv]
    have Ei:i < m:=by
     rcases Nat.lt_or_ge i m with h | h
     ·exact h
     ·refine (gU fun j hj=>?_).elim
      have MM:all[j]? =some all[j]:=by simp [show j < all.size by omega]
      exact kJ.ready L.closed ((jD hB yN MM (by omega)).2 h) hi
    have oY:i < listed.size:=by rw [L.size];exact Kv
    obtain ⟨Wn,_,hV⟩:=hs i _ Ei yN
    obtain ⟨X,hX,rest,Ym⟩:=Jb hT hSf L.closed Ei vO (fun j hj=>kJ.ready L.closed hj hi) (fun c h=>Dm c i h) β
    obtain ⟨MI,Kz⟩:=Wn β X hX
    have x9:Dd w S (looks all all[i]) (Jc (en i) (cn i β)) a:=by
     intro s Gr av qP
     rw [Jc] at qP
     cases Qf:en i s with
     | none=>
       rw [Qf] at qP
       obtain ⟨k,o,k1,k2,k3,k4,k5⟩:=KR KC hcn hm i (by omega) β s av qP
       have U8:listed.getD k false=true:=kJ.ready L.closed ((jD hB yN k2 k1).1 Ei (wC k3 Gr)) hi
       rw [k5]
       exact GN k o s U8 k2 k4 k3
     | some eW=>
     rw [Qf] at qP
     obtain rfl:=Option.some.inj qP
     have hc:=I9 (mc:=mc) (en:=en) (e:=e) hB L h0 SO hm yN Ei vO (fun j hj=>kJ.ready L.closed hj hi) Gr all.size (Nat.le_refl _)
     rw [Nat.min_eq_right (by omega)] at hc
     exact qj s eW (by rw [hc];exact Qf)
    have L':MO all m (listed.setIfInBounds i true):=by
     refine ⟨by simpa using L.size,fun k hk=>?_,fun k j o hk ub hw=>?_⟩
     ·rw [iG oY] at hk
      split at hk
      ·omega
      ·exact L.head k hk
     ·rw [iG oY] at hk
      rw [iG oY]
      split
      ·rfl
      ·split at hk
       ·rename_i Wh
        subst Wh
        obtain rfl:all[k]=o:=by rw [yN] at ub;exact Option.some.inj ub
        exact r4 yN hi hw
       ·exact L.closed k j o hk ub hw
    have EK:(listed.setIfInBounds i true).toList.count true+fuel=all.size:=by
     have KA:listed[i]=false:=by simpa [oY] using vO
     have:(listed.setIfInBounds i true).toList=listed.toList.set i true:=by simp
     rw [this,List.count_set (by simpa using oY)]
     have GC:listed.toList[i]'(by simpa using oY)=false:=by simpa using KA
     rw [GC]
     have e1:(if (false==true)=true then 1 else 0)=0:=rfl
     have e2:(if (true==true)=true then 1 else 0)=1:=rfl
     rw [e1,e2]
     omega
    have SZ:∀ T:Heap,(T++(X++rest)++B).Perm ((T++(X++B))++rest):=fun T=>by
     rw [List.append_assoc,List.append_assoc,List.append_assoc,List.append_assoc]
     exact List.Perm.append_left _ (List.Perm.append_left _ List.perm_append_comm)
    have Yn:(qo tk listed β++B).Perm ((ud tk i β++(X++B))++rest):=
     (((Qe hT vO (fun j hj=>kJ.ready L.closed hj hi) β).trans (List.Perm.append_left _ Ym)).append_right B).trans (SZ _)
    have S3:∀ b,((k6 tk i (oZ β i b)++(X++B))++rest).Perm (qo tk (listed.setIfInBounds i true) (oZ β i b)++B):=fun b=>
     List.Perm.symm ((((NA hT L.closed oY vO (fun c h=>Dm c i h) β b).trans (List.Perm.append_left _ Ym)).append_right B).trans (SZ _))
    have Wo:ck w S ((ud tk i β++(X++B))++rest):=hr.perm Yn
    have U2:∀ v,(a.put (all[i]).dst v).tmps.size=n:=fun v=>by cases (all[i]).dst<;>simp [Act.put,gG]
    have U3:∀ v,(a.put (all[i]).dst v).defers=[]:=fun v=>by cases (all[i]).dst<;>simp [Act.put,GK]
    have Wp:∀ {w1 w2:World} {S1 S2:Nat→Prop} {h1 h2 HD SE:Heap},iE w1 S1 h1 w2 S2 h2→h1.Perm HD→h2.Perm SE→iE w1 S1 HD w2 S2 SE:=by
     intro w1 w2 S1 S2 h1 h2 HD SE ev p1 p2
     have has:∀ {g g':Heap} {k:Nat},g.Perm g'→(Has g k↔Has g' k):=fun p=>
      ⟨fun ⟨x,hx,hb⟩=>⟨x,p.mem_iff.1 hx,hb⟩,fun ⟨x,hx,hb⟩=>⟨x,p.mem_iff.2 hx,hb⟩⟩
     exact ⟨ev.os,ev.tape,ev.output,ev.size,ev.keep,fun k hk hh=>ev.other k hk (fun hc=>hh ((has p1).1 hc)),fun k hk=>((ev.new k ((has p2).2 hk)).imp (has p1).1 id),ev.drawn⟩
    have next:∀ (b:Bk) (v:Value) (w':World) (S':Nat→Prop),iE w S (ud tk i β++(X++B)) w' S' (k6 tk i (oZ β i b)++(X++B))→ck w' S' (k6 tk i (oZ β i b)++(X++B))→At w' S' (V i b) v→wpAny P .any all Q fuel (listed.setIfInBounds i true) (a.put (all[i]).dst v) w':=by
     intro b v w' S' NC Wq pR
     have O7:ck w' S' ((k6 tk i (oZ β i b)++(X++B))++rest):=Wo.frame NC Wq
     have ev2:=NC.frame rest
     refine ih _ _ _ S' (oZ β i b) L' EK (U2 v) (U3 v) (O7.perm (S3 b)) (hg.trans (Wp ev2 Yn.symm (S3 b))) ?_ ?_
     ·intro s av qP
      rw [KN (mc:=mc) (e:=e) hB L yN Ei vO s all.size (Nat.le_refl _),if_pos (by omega)] at qP
      by_cases hd:(all[i]).dst=some s
      ·rw [hd,kZ] at qP
       have SP:=MI s hd
       exact ⟨v,by rw [hd];simp [Act.put,gG,SP],by rw [← hV av qP b];exact pR⟩
      ·rw [iH hd] at qP
       obtain ⟨u,h1,h2⟩:=qj s av qP
       refine ⟨u,?_,h2.mono NC.keep⟩
       cases Dg:(all[i]).dst with
       | none=>simpa [Act.put] using h1
       | some d'=>
         have mb:d'≠s:=fun e=>hd (by rw [Dg,e])
         simp [Act.put,mb,h1]
     ·intro j o d hj ho qP hd
      by_cases U9:j=i
      ·subst U9
       rw [yN] at ho;obtain rfl:=Option.some.inj ho
       have SP:=MI d hd
       exact ⟨v,by rw [hd];simp [Act.put,gG,SP],by rw [Ny];exact pR⟩
      ·have Eh:listed.getD j false=true:=by rw [iG oY,if_neg U9] at hj;exact hj
       obtain ⟨u,h1,h2⟩:=GN j o d Eh ho qP hd
       refine ⟨u,?_,by rw [HW U9];exact h2.mono NC.keep⟩
       cases Dg:(all[i]).dst with
       | none=>simpa [Act.put] using h1
       | some d'=>
         have mb:d'≠d:=fun e=>hU j i o all[i] d (L.head j Eh) Ei U9 ho yN qP hd (by rw [Dg,e])
         simp [Act.put,mb,h1]
    simp only [wpOp,yN]
    rcases Kz with ⟨hw,Wi⟩ | ⟨hw,qP⟩
    ·rw [if_pos (vn hw x9)]
     exact .inl (Wi w S a gG GK (Wo.sub (List.sublist_append_left _ _)) x9 _ _ (fun b v w' S' NC Wq pR=>next b v w' S' NC Wq pR))
    ·rw [if_neg (by rw [vn hw x9];simp)]
     obtain ⟨e1,e2⟩:=qP ⟨none,0⟩
     replace e1:k6 tk i (oZ β i ⟨none,0⟩)=ud tk i β:=e1
     refine next ⟨none,0⟩ _ w S (by rw [e1];exact iE.refl _ _ _) (by rw [e1];exact Wo.sub (List.sublist_append_left _ _)) ?_
     rw [e2];exact .raw _
end order
end Go.Eng
namespace Go.Eng
open Go
variable [bF]
theorem KS {P:Program} {o:Oper} {a:Act} {K0 K:Act→World→Prop} {G:Act→World→Prop} {Q':Exit→Act→World→Prop} (hK:∀ v w',K0 (a.put o.dst v) w'→K (a.put o.dst v) w') (hd:∀ a' w',K0 a' w'→a'.defers=[]):
 ∀ r,o.upon P a K0 (wx G) r→o.upon P a K Q' r:=by
 intro r h
 unfold Oper.upon at *
 split at h
 ·exact hK _ _ h
 ·exact hK _ _ h
 ·rename_i d w'
  have:=hd _ _ h
  cases EV:o.dst<;>simp [Act.put,EV] at this
 ·refine Calls.mono h ?_
  intro e w' he
  cases e with
  | returned v=>exact hK _ _ he
  | panicked c=>cases he.1
  | outgrown=>obtain ⟨a0,w0,h0⟩:=he;cases h0.1
 ·exact Rows.mono h fun v w' hv=>hK _ _ hv
 ·cases h.1
 ·exact h.elim
theorem ND {P:Program} {all:Array Oper} {o:Oper} {σ:St} {Q:St→Prop} (hg:o.guard=none) (h:ae P all [o] σ Q) {w:World} {S:Nat→Prop} {a:Act} (r:dx w S σ a) {K:Act→World→Prop} {Q':Exit→Act→World→Prop}
 (hK:∀ v w',UY w S σ.hp Q (a.put o.dst v) w'→K (a.put o.dst v) w'):o.wp P a w K Q':=by
 have:=h w S a r
 unfold wpList at this
 rw [if_pos (by simp [Region.wanted,hg])] at this
 rcases this with h1 | ⟨_,a0,w0,h0,_⟩
 ·refine KS (G:=UY w S σ.hp Q) (fun v w' hh=>hK v w' hh.2) (fun a' w' hh=>?_) _ h1
  obtain ⟨_,aG,S',_,hr,_⟩:=hh
  exact hr.defers
 ·cases h0
variable {P:Program} {all:Array Oper} {n:Nat} {B:Heap} {tk:List Tok}
def NG (x:Option AV) (c:(Nat→Bk)→Env) (d:Option Nat) (V:Bk→AV) (i:Nat):(Nat→Bk)→Env:=fun β=>match x with | none=>oU (c β) d (some (V (β i))) | some _=>c β
inductive Pg (P:Program) (all:Array Oper) (n:Nat) (B:Heap) (tk:List Tok) (dy:List Nat):Nat→List Oper→Env→((Nat→Bk)→Env)→List (Option AV×(Bk→AV))→Env→Prop
 | nil (i:Nat) (e:Env) (c:(Nat→Bk)→Env):Pg P all n B tk dy i [] e c [] e
 | cons {i:Nat} {o:Oper} {l:List Oper} {e e':Env} {c:(Nat→Bk)→Env} {D:List (Option AV×(Bk→AV))} {x:Option AV} {V:Bk→AV} (h:∀ β,∀ X∈vP tk i β,qU P all n (X++B) o (Jc e (c β)) (ud tk i β) V (fun b=>k6 tk i (oZ β i b))) (hv:∀ av,x=some av→∀ b,V b=av) (hx:x=none→dy.contains i=true)
  (k:Pg P all n B tk dy (i+1) l (oU e o.dst x) (NG x c o.dst V i) D e'):Pg P all n B tk dy i (o :: l) e c ((x,V) :: D) e'
def yb (β:Nat→Bk):Nat→List Oper→List (Option AV×(Bk→AV))→List (Nat×AV)→List (Nat×AV)
 | i,o :: l,(none,V) :: D,a=>match o.dst with
   | some d=>yb β (i+1) l D ((d,V (β i)) :: a)
   | none=>yb β (i+1) l D a
 | i,_ :: l,(some _,_) :: D,a=>yb β (i+1) l D a
 | _,_,_,a=>a
def AT (P:Program) (all:Array Oper) (n:Nat) (B:Heap) (tk:List Tok) (dy:List Nat) (i:Nat) (l:List Oper) (tm:List (Nat×AV)) (acc:(Nat→Bk)→List (Nat×AV)) (Q:(Nat→Bk)→List (Nat×AV)→Prop):Prop:=
 ∃ D pS,Pg P all n B tk dy i l (lk tm) (fun β=>lk (acc β)) D (lk pS)∧∀ β,Q β (yb β i l D (acc β)++pS)
section rules
variable {dy:List Nat} {i:Nat} {rest:List Oper} {tm:List (Nat×AV)} {acc:(Nat→Bk)→List (Nat×AV)} {Q:(Nat→Bk)→List (Nat×AV)→Prop} {d:Nat} {ty:TypeId} {pos:String} {af:Array Edge} {op:Op}
theorem AT.nil {F:(Nat→Bk)→List (Nat×AV)} (hF:∀ β,F β=acc β++tm) (h:∀ β,Q β (F β)):AT P all n B tk dy i [] tm acc Q:=
 ⟨[],tm,.nil _ _ _,fun β=>by rw [show yb β i [] [] (acc β)=acc β from rfl,← hF];exact h β⟩
theorem AT.Yo {o:Oper} {d:Nat} {av:AV} (hd:o.dst=some d) (h:∀ β,∀ X∈vP tk i β,qU P all n (X++B) o (Jc (lk tm) (lk (acc β))) (ud tk i β) (fun _=>av) (fun b=>k6 tk i (oZ β i b))) (k:AT P all n B tk dy (i+1) rest ((d,av) :: tm) acc Q):AT P all n B tk dy i (o :: rest) tm acc Q:=by
 obtain ⟨D,pS,k1,k2⟩:=k
 refine ⟨(some av,fun _=>av) :: D,pS,.cons h (fun eW e b=>Option.some.inj e) (fun e=>by cases e) ?_,k2⟩
 have:oU (lk tm) o.dst (some av)=lk ((d,av) :: tm):=by
  rw [w8,hd];rfl
 rw [this];exact k1
theorem AT.dyn {o:Oper} {d:Nat} {V:Bk→AV} (hd:o.dst=some d) (vj:lk tm d=none) (Wr:dy.contains i=true) (h:∀ β,∀ X∈vP tk i β,qU P all n (X++B) o (Jc (lk tm) (lk (acc β))) (ud tk i β) V (fun b=>k6 tk i (oZ β i b))) (k:AT P all n B tk dy (i+1) rest tm (fun β=>(d,V (β i)) :: acc β) Q):AT P all n B tk dy i (o :: rest) tm acc Q:=by
 obtain ⟨D,pS,k1,k2⟩:=k
 refine ⟨(none,V) :: D,pS,.cons h (fun eW e b=>by cases e) (fun _=>Wr) ?_,fun β=>?_⟩
 ·have:oU (lk tm) o.dst none=lk tm:=by
   funext s
   rw [hd]
   simp only [oU]
   split
   ·rename_i e;subst e;exact vj.symm
   ·rfl
  rw [this]
  have e2:NG none (fun β=>lk (acc β)) o.dst V i=fun β=>lk ((d,V (β i)) :: acc β):=by
   funext β
   simp only [NG,hd]
   rw [w8];rfl
  rw [e2];exact k1
 ·have:=k2 β
  simp only [yb,hd]
  exact this
theorem AT.sto {o:Oper} (hd:o.dst=none) (h:∀ β,∀ X∈vP tk i β,qU P all n (X++B) o (Jc (lk tm) (lk (acc β))) (ud tk i β) (fun _=>.raw undef) (fun b=>k6 tk i (oZ β i b))) (k:AT P all n B tk dy (i+1) rest tm acc Q):AT P all n B tk dy i (o :: rest) tm acc Q:=by
 obtain ⟨D,pS,k1,k2⟩:=k
 refine ⟨(some (.raw undef),fun _=>.raw undef) :: D,pS,.cons h (fun eW e b=>Option.some.inj e) (fun e=>by cases e) ?_,k2⟩
 rw [hd];exact k1
def sn (tk:List Tok) (i j:Nat):Bool:=tk.all fun t=>(match t.prod with | some p=>Nat.blt p i||Nat.ble j p | none=>true)&&(match t.cons with | some p=>Nat.blt p i||Nat.ble j p | none=>true)&&((t.Wm.all fun p=>Nat.blt p i||Nat.ble j p)&&t.Yl.all fun p=>Nat.blt p i||Nat.ble j p)
theorem EW {i j:Nat} (h:sn tk i j=true) {k:Nat} (h1:i≤k) (h2:k < j) (β:Nat→Bk):ud tk k β=[]:=by
 unfold ud
 rw [List.map_eq_nil_iff,List.filter_eq_nil_iff]
 intro t ht hc
 have:=List.all_eq_true.1 h t ht
 rw [Bool.and_eq_true,Bool.and_eq_true] at this
 replace this:=this.1
 unfold zg at hc
 split at hc
 ·rename_i c Nz
  obtain rfl:c=k:=Nat.eq_of_beq_eq_true hc
  have:=this.2
  rw [Nz] at this
  simp at this;omega
 ·cases hc
theorem Cg {i j:Nat} (h:sn tk i j=true) {k:Nat} (h1:i≤k) (h2:k < j) (β:Nat→Bk):k6 tk k β=[]:=by
 unfold k6
 rw [List.map_eq_nil_iff,List.filter_eq_nil_iff]
 intro t ht hc
 have:=List.all_eq_true.1 h t ht
 rw [Bool.and_eq_true,Bool.and_eq_true] at this
 replace this:=this.1
 unfold Nx at hc
 split at hc
 ·rename_i c Nz
  obtain rfl:c=k:=Nat.eq_of_beq_eq_true hc
  have:=this.1
  rw [Nz] at this
  simp at this;omega
 ·cases hc
theorem KT {i j:Nat} (h:sn tk i j=true) {k:Nat} (h1:i≤k) (h2:k < j) (β:Nat→Bk):xb tk k β=[]:=by
 unfold xb
 rw [List.map_eq_nil_iff,List.filter_eq_nil_iff]
 intro t ht hc
 have:=List.all_eq_true.1 h t ht
 rw [Bool.and_eq_true] at this
 have h3:=List.all_eq_true.1 (Bool.and_eq_true_iff.1 this.2).1 k (by simpa [HV] using hc)
 simp at h3;omega
theorem Ch {i j:Nat} (h:sn tk i j=true) {k:Nat} (h1:i≤k) (h2:k < j) (β:Nat→Bk):vP tk k β=[[]]:=by
 have e:tk.filter (ML k)=[]:=by
  rw [List.filter_eq_nil_iff]
  intro t ht hc
  have:=List.all_eq_true.1 h t ht
  rw [Bool.and_eq_true] at this
  have h3:=List.all_eq_true.1 (Bool.and_eq_true_iff.1 this.2).2 k (by simpa [ML] using hc)
  simp at h3;omega
 unfold vP
 rw [e,KT h h1 h2 β]
theorem Am (e:Env) (d:Option Nat) (av:AV):oU e d (some av)=vN e d av:=by
 cases d<;>rfl
theorem EX {o:Oper} {e:Env} {av:AV} (hd:∀ d,o.dst=some d→d < n) (hg:nE all o e true) (h:MV P all n o e B av):qU P all n B o e [] (fun _=>av) (fun _=>[]):=by
 refine ⟨hd,.inl ⟨hg,fun w S a h1 h2 h3 h4 K Q hK=>?_⟩⟩
 exact h w S a h1 h2 h3 h4 K Q (fun v w' S' Pc pR=>hK ⟨none,0⟩ v w' S' (Pc.Yi h3.slt _) (h3.grow Pc) pR)
theorem S4:∀ {l1:List Oper} {e e':Env} {i:Nat} (h:Nr P all n B l1 e e') (hn:sn tk i (i+l1.length)=true) {l2:List Oper} {c:(Nat→Bk)→Env} {D:List (Option AV×(Bk→AV))} {e2:Env},Pg P all n B tk dy (i+l1.length) l2 e' c D e2→
 ∃ D1,Pg P all n B tk dy i (l1++l2) e c (D1++D) e2∧D1.length=l1.length∧∀ x∈D1,x.1.isSome=true:=by
 intro l1 e e' i h
 induction h generalizing i with
 | nil e=>intro hn l2 c D e2 k;exact ⟨[],by simpa using k,rfl,by simp⟩
 | @run o l e e' av hg hm hd k ih=>
   intro hn l2 c D e2 kk
   have MT:sn tk (i+1) (i+1+l.length)=true:=by
    unfold sn at hn ⊢
    rw [List.all_eq_true] at hn ⊢
    intro t ht
    have:=hn t ht
    rw [Bool.and_eq_true,Bool.and_eq_true] at this ⊢
    refine ⟨⟨?_,?_⟩,?_⟩
    ·have h1:=this.1.1
     cases hp:t.prod<;>rw [hp] at h1<;>simp_all<;>omega
    ·have h1:=this.1.2
     cases hp:t.cons<;>rw [hp] at h1<;>simp_all<;>omega
    ·have h1:=this.2
     rw [Bool.and_eq_true,List.all_eq_true,List.all_eq_true] at h1 ⊢
     exact ⟨fun p hp=>by have:=h1.1 p hp;simp at this ⊢;omega,fun p hp=>by have:=h1.2 p hp;simp at this ⊢;omega⟩
   obtain ⟨D1,a1,a2,a3⟩:=ih MT (l2:=l2) (D:=D) (e2:=e2) (by rw [show i+1+l.length=i+(o :: l).length by simp;omega];exact kk)
   refine ⟨(some av,fun _=>av) :: D1,?_,by simp [a2],?_⟩
   ·refine .cons (fun β X hX=>?_) (fun eW e b=>Option.some.inj e) (fun e=>by cases e) (by rw [Am];exact a1)
    rw [Ch hn (Nat.le_refl _) (by simp)] at hX
    obtain rfl:=List.mem_singleton.1 hX
    rw [EW hn (Nat.le_refl _) (by simp),show (fun b=>k6 tk i (oZ β i b))=fun _=>[] from funext fun b=>Cg hn (Nat.le_refl _) (by simp) _]
    exact (EX hd hg hm).up
   ·intro x hx
    rcases List.mem_cons.1 hx with rfl | hx
    ·rfl
    ·exact a3 x hx
 | @pass o l e e' hg hd k ih=>
   intro hn l2 c D e2 kk
   have MT:sn tk (i+1) (i+1+l.length)=true:=by
    unfold sn at hn ⊢
    rw [List.all_eq_true] at hn ⊢
    intro t ht
    have:=hn t ht
    rw [Bool.and_eq_true,Bool.and_eq_true] at this ⊢
    refine ⟨⟨?_,?_⟩,?_⟩
    ·have h1:=this.1.1
     cases hp:t.prod<;>rw [hp] at h1<;>simp_all<;>omega
    ·have h1:=this.1.2
     cases hp:t.cons<;>rw [hp] at h1<;>simp_all<;>omega
    ·have h1:=this.2
     rw [Bool.and_eq_true,List.all_eq_true,List.all_eq_true] at h1 ⊢
     exact ⟨fun p hp=>by have:=h1.1 p hp;simp at this ⊢;omega,fun p hp=>by have:=h1.2 p hp;simp at this ⊢;omega⟩
   obtain ⟨D1,a1,a2,a3⟩:=ih MT (l2:=l2) (D:=D) (e2:=e2) (by rw [show i+1+l.length=i+(o :: l).length by simp;omega];exact kk)
   refine ⟨(some (.raw undef),fun _=>.raw undef) :: D1,?_,by simp [a2],?_⟩
   ·refine .cons (fun β X hX=>?_) (fun eW e b=>Option.some.inj e) (fun e=>by cases e) (by rw [Am];exact a1)
    rw [Ch hn (Nat.le_refl _) (by simp)] at hX
    obtain rfl:=List.mem_singleton.1 hX
    rw [EW hn (Nat.le_refl _) (by simp),show (fun b=>k6 tk i (oZ β i b))=fun _=>[] from funext fun b=>Cg hn (Nat.le_refl _) (by simp) _]
    exact ⟨hd,.inr ⟨hg.up,fun b=>⟨rfl,rfl⟩⟩⟩
   ·intro x hx
    rcases List.mem_cons.1 hx with rfl | hx
    ·rfl
    ·exact a3 x hx
theorem Ci (β:Nat→Bk):∀ {l1:List Oper} {D1:List (Option AV×(Bk→AV))} (i:Nat) {l2:List Oper} {D:List (Option AV×(Bk→AV))} (a:List (Nat×AV)),D1.length=l1.length→(∀ x∈D1,x.1.isSome=true)→yb β i (l1++l2) (D1++D) a=yb β (i+l1.length) l2 D a
 | [],[],i,l2,D,a,_,_=>by simp
 | o :: l1,(some av,V) :: D1,i,l2,D,a,h,hs=>by
   simp only [List.cons_append,yb]
   rw [Ci β (i+1) a (by simpa using h) (fun x hx=>hs x (by simp [hx]))]
   simp [Nat.add_assoc,Nat.add_comm 1]
 | o :: l1,(none,V) :: D1,i,l2,D,a,h,hs=>by have:=hs (none,V) (by simp);cases this
 | [],_ :: _,i,l2,D,a,h,hs=>by cases h
 | _ :: _,[],i,l2,D,a,h,hs=>by cases h
theorem AT.am {l l1 l2:List Oper} (m:Nat) (hs:EM m l=some (l1,l2)) (hn:sn tk i (i+m)=true) (h:AM P all n B l1 tm (fun pS=>AT P all n B tk dy (i+m) l2 pS acc Q)):AT P all n B tk dy i l tm acc Q:=by
 obtain ⟨rfl,rfl⟩:=vo hs
 obtain ⟨Ej,h1,D,pS,h2,h3⟩:=h
 obtain ⟨D1,a1,a2,a3⟩:=S4 h1 hn h2
 refine ⟨D1++D,pS,a1,fun β=>?_⟩
 rw [Ci β i (acc β) a2 a3]
 exact h3 β
theorem yc {o:Oper} {Ti H1:Heap} {V:Bk→AV} {Pi H2:Bk→Heap} (hg:o.guard=none) (hd:∀ d,o.dst=some d→d < n) (h1:sj Ti B=some H1) (h2:∀ b,sj (Pi b) B=some (H2 b))
 (ux:ae P all [o] ⟨n,Gs (looks all o) tm,H1⟩ (fun aG=>∃ b Ej,aG=⟨n,Ej,H2 b⟩∧∀ d,o.dst=some d→lk Ej d=some (V b)))
 (hv:o.dst=none→∀ b,V b=.raw undef):qU P all n B o (lk tm) Ti V Pi:=by
 refine ⟨hd,.inl ⟨by simp [nE,hg],fun w S a s1 s2 s3 s4 K Q hK=>?_⟩⟩
 have e1:=nv h1
 rw [e1] at s3 hK
 refine ND hg ux (qL s1 s2 s3 s4) (fun v w' Ws=>?_)
 obtain ⟨aG,S',⟨b,Ej,rfl,NH⟩,hr,NC⟩:=Ws
 have e2:=nv (h2 b)
 cases EV:o.dst with
 | some d=>
   have MI:=hd d EV
   obtain ⟨u,g1,g2⟩:=hr.tm d _ (NH d EV)
   have hu:u=v:=by
    rw [EV] at g1
    simp [Act.put,s1,MI] at g1
    exact g1.symm
   rw [hu] at g2
   rw [← EV]
   exact hK b v w' S' (by rw [e2];exact NC) (by rw [e2];exact hr.hp) g2
 | none=>
   have:a.put none v=a.put o.dst undef:=by rw [EV];rfl
   rw [this]
   exact hK b undef w' S' (by rw [e2];exact NC) (by rw [e2];exact hr.hp) (by rw [hv EV b];exact .raw _)
theorem AT.NI {av:AV} {Ti H1 Pi H2:Heap} (I6:∀ β,vP tk i β=[[]]) (Qg:∀ β,ud tk i β=Ti) (HX:∀ β,k6 tk i β=Pi) (h1:sj Ti B=some H1) (h2:sj Pi B=some H2) (hn:Nat.blt d n=true)
 (ux:ae P all [⟨some d,op,ty,pos,af,none⟩] ⟨n,Gs (looks all ⟨some d,op,ty,pos,af,none⟩) tm,H1⟩ (fun aG=>∃ Ej,aG=⟨n,Ej,H2⟩∧lk Ej d=some av))
 (k:AT P all n B tk dy (i+1) rest ((d,av) :: tm) acc Q):AT P all n B tk dy i (⟨some d,op,ty,pos,af,none⟩ :: rest) tm acc Q:=by
 refine AT.Yo rfl (fun β X hX=>?_) k
 rw [I6 β] at hX
 obtain rfl:=List.mem_singleton.1 hX
 rw [List.nil_append,Qg β,show (fun b=>k6 tk i (oZ β i b))=fun _=>Pi from funext fun b=>HX _]
 refine qU.up ?_
 refine yc rfl (fun d' Dn=>by obtain rfl:=Option.some.inj Dn;simpa using hn) h1 (fun _=>h2) ?_ (fun e=>by cases e)
 refine fun w S a r=>ja ?_ _ _ _ (ux w S a r)
 rintro e a' w' ⟨he,aG,S',⟨Ej,q1,q2⟩,hh⟩
 exact ⟨he,aG,S',⟨⟨none,0⟩,Ej,q1,fun d' Dn=>by obtain rfl:=Option.some.inj Dn;exact q2⟩,hh⟩
theorem AT.BK {V:Bk→AV} {Ti H1:Heap} {Pi H2:Bk→Heap} (I6:∀ β,vP tk i β=[[]]) (Qg:∀ β,ud tk i β=Ti) (HX:∀ β b,k6 tk i (oZ β i b)=Pi b) (h1:sj Ti B=some H1) (h2:∀ b,sj (Pi b) B=some (H2 b)) (hn:Nat.blt d n=true) (vj:lk tm d=none) (Wr:dy.contains i=true)
 (ux:ae P all [⟨some d,op,ty,pos,af,none⟩] ⟨n,Gs (looks all ⟨some d,op,ty,pos,af,none⟩) tm,H1⟩ (fun aG=>∃ b Ej,aG=⟨n,Ej,H2 b⟩∧lk Ej d=some (V b)))
 (k:AT P all n B tk dy (i+1) rest tm (fun β=>(d,V (β i)) :: acc β) Q):AT P all n B tk dy i (⟨some d,op,ty,pos,af,none⟩ :: rest) tm acc Q:=by
 refine AT.dyn rfl vj Wr (fun β X hX=>?_) k
 rw [I6 β] at hX
 obtain rfl:=List.mem_singleton.1 hX
 rw [List.nil_append,Qg β,show (fun b=>k6 tk i (oZ β i b))=Pi from funext (HX β)]
 refine qU.up ?_
 refine yc rfl (fun d' Dn=>by obtain rfl:=Option.some.inj Dn;simpa using hn) h1 h2 ?_ (fun e=>by cases e)
 refine fun w S a r=>ja ?_ _ _ _ (ux w S a r)
 rintro e a' w' ⟨he,aG,S',⟨b,Ej,q1,q2⟩,hh⟩
 exact ⟨he,aG,S',⟨b,Ej,q1,fun d' Dn=>by obtain rfl:=Option.some.inj Dn;exact q2⟩,hh⟩
theorem AT.BL {Ti H1 Pi H2:Heap} (I6:∀ β,vP tk i β=[[]]) (Qg:∀ β,ud tk i β=Ti) (HX:∀ β,k6 tk i β=Pi) (h1:sj Ti B=some H1) (h2:sj Pi B=some H2)
 (ux:ae P all [⟨none,op,ty,pos,af,none⟩] ⟨n,Gs (looks all ⟨none,op,ty,pos,af,none⟩) tm,H1⟩ (fun aG=>∃ Ej,aG=⟨n,Ej,H2⟩))
 (k:AT P all n B tk dy (i+1) rest tm acc Q):AT P all n B tk dy i (⟨none,op,ty,pos,af,none⟩ :: rest) tm acc Q:=by
 refine AT.sto rfl (fun β X hX=>?_) k
 rw [I6 β] at hX
 obtain rfl:=List.mem_singleton.1 hX
 rw [List.nil_append,Qg β,show (fun b=>k6 tk i (oZ β i b))=fun _=>Pi from funext fun b=>HX _]
 refine qU.up ?_
 refine yc rfl (fun d' Dn=>by cases Dn) h1 (fun _=>h2) ?_ (fun _ b=>rfl)
 refine fun w S a r=>ja ?_ _ _ _ (ux w S a r)
 rintro e a' w' ⟨he,aG,S',⟨Ej,q1⟩,hh⟩
 exact ⟨he,aG,S',⟨⟨none,0⟩,Ej,q1,fun d' Dn=>by cases Dn⟩,hh⟩
theorem AT.rd {av:AV} {Rs H1:Heap} (hr:∀ β,vP tk i β=[Rs]) (h1:sj Rs B=some H1) (Qg:∀ β,ud tk i β=[]) (HX:∀ β,k6 tk i β=[])
 (q:QV P ⟨some d,op,ty,pos,af,none⟩ ⟨n,Gs (looks all ⟨some d,op,ty,pos,af,none⟩) tm,H1⟩ av) (hn:Nat.blt d n=true)
 (k:AT P all n B tk dy (i+1) rest ((d,av) :: tm) acc Q):AT P all n B tk dy i (⟨some d,op,ty,pos,af,none⟩ :: rest) tm acc Q:=by
 refine AT.Yo rfl (fun β X hX=>?_) k
 rw [hr β] at hX
 obtain rfl:=List.mem_singleton.1 hX
 rw [nv h1,Qg β,show (fun b=>k6 tk i (oZ β i b))=fun _=>[] from funext fun b=>HX _]
 refine qU.up ?_
 refine EX (fun d' Dn=>by obtain rfl:=Option.some.inj Dn;simpa using hn) rfl (fun w S a s1 s2 s3 s4 K Q' hK=>?_)
 obtain ⟨v,g1,g2⟩:=q w S a (qL s1 s2 s3 s4)
 show Oper.upon P _ a K Q' _
 rw [g1 w (Ext.refl w)]
 exact hK v w S (Grow.refl s3.slt) g2
end rules
end Go.Eng
namespace Go.Eng
open Go
variable [bF]
theorem Pg.GJ {P:Program} {all:Array Oper} {n:Nat} {B:Heap} {tk:List Tok} {dy:List Nat} {i:Nat} {l:List Oper} {e e':Env} {c:(Nat→Bk)→Env} {D:List (Option AV×(Bk→AV))} (h:Pg P all n B tk dy i l e c D e'):
 ∃ (en:Nat→Env) (cn:Nat→(Nat→Bk)→Env),en i=e∧cn i=c∧en (i+l.length)=e'∧D.length=l.length∧∀ j o x V,l[j]? =some o→D[j]? =some (x,V)→
   (∀ β,∀ X∈vP tk (i+j) β,qU P all n (X++B) o (Jc (en (i+j)) (cn (i+j) β)) (ud tk (i+j) β) V (fun b=>k6 tk (i+j) (oZ β (i+j) b)))∧en (i+j+1)=oU (en (i+j)) o.dst x∧(∀ av,x=some av→∀ b,V b=av)∧(x=none→dy.contains (i+j)=true)∧cn (i+j+1)=NG x (cn (i+j)) o.dst V (i+j):=by
 induction h with
 | nil i e c=>exact ⟨fun _=>e,fun _=>c,rfl,rfl,rfl,rfl,fun j o x V h=>by simp at h⟩
 | @cons i o l e e' c D x V h hv hx k ih=>
   obtain ⟨en,cn,h0,KC,h1,h2,h3⟩:=ih
   refine ⟨fun k=>if k=i then e else en k,fun k=>if k=i then c else cn k,by simp,by simp,?_,by simp [h2],fun j o' x' V' ho hD=>?_⟩
   ·show (if i+(o :: l).length=i then e else en (i+(o :: l).length))=e'
    rw [if_neg (by simp),← h1]
    congr 1
    simp;omega
   ·match j with
    | 0=>
      simp at ho hD
      obtain ⟨rfl,rfl⟩:=hD
      subst ho
      simp only [Nat.add_zero,if_true]
      refine ⟨h,?_,hv,hx,?_⟩
      ·rw [if_neg (by omega),h0]
      ·rw [if_neg (by omega),KC]
    | j+1=>
      have:=h3 j o' x' V' (by simpa using ho) (by simpa using hD)
      rw [show i+1+j=i+(j+1) by omega] at this
      simp only
      rw [if_neg (show ¬ i+(j+1)=i by omega),if_neg (show ¬ i+(j+1)+1=i by omega),if_neg (show ¬ i+(j+1)=i by omega),if_neg (show ¬ i+(j+1)+1=i by omega)]
      exact this
def Ph (l:List Oper) (dy:List Nat):Bool:=dy.all fun i=>(List.range l.length).all fun j=>Nat.beq i j||(match l[i]?,l[j]? with
 | some oi,some oj=>(match oi.dst,oj.dst with | some d,some d'=>!Nat.beq d d' | _,_=>true)
 | _,_=>true)
theorem GO {l:List Oper} {dy:List Nat} (h:Ph l dy=true) {i j:Nat} {oi oj:Oper} {d:Nat} (hi:dy.contains i=true) (Df:i≠j) (h1:l[i]? =some oi) (h2:l[j]? =some oj) (hd:oi.dst=some d):oj.dst≠some d:=by
 intro Dn
 have hm:i∈dy:=by simpa using hi
 have hj:j < l.length:=(List.getElem?_eq_some_iff.1 h2).1
 have:=List.all_eq_true.1 (List.all_eq_true.1 h i hm) j (List.mem_range.2 hj)
 rw [h1,h2] at this
 simp only [hd,Dn] at this
 have hb:Nat.beq i j=false:=pd Df
 rw [hb] at this
 simp at this
def KU (tk:List Tok):Heap:=(tk.filter (fun t=>t.prod.isNone)).map (fun t=>t.at (fun _=>⟨none,0⟩))
theorem KV:∀ (a b:List (Nat×AV)) (s:Nat) (av:AV),lk (a++b) s=some av→lk a s=some av∨lk b s=some av
 | [],b,s,av,h=>.inr h
 | (k,v) :: a,b,s,av,h=>by
   simp only [List.cons_append,lk] at h ⊢
   split at h
   ·exact .inl h
   ·exact KV a b s av h
theorem xc (β:Nat→Bk):∀ (l:List Oper) (D:List (Option AV×(Bk→AV))) (i:Nat) (a:List (Nat×AV)) (s:Nat) (av:AV),lk (yb β i l D a) s=some av→lk a s=some av∨∃ (j:Nat) (o:Oper) (V:Bk→AV),l[j]? =some o∧D[j]? =some (none,V)∧o.dst=some s∧av=V (β (i+j))
 | [],D,i,a,s,av,h=>by
   have:yb β i [] D a=a:=by cases D<;>rfl
   rw [this] at h;exact .inl h
 | o :: l,[],i,a,s,av,h=>.inl h
 | o :: l,(some x,V) :: D,i,a,s,av,h=>by
   simp only [yb] at h
   rcases xc β l D (i+1) a s av h with h | ⟨j,o',V',h1,h2,h3,h4⟩
   ·exact .inl h
   ·exact .inr ⟨j+1,o',V',by simpa using h1,by simpa using h2,h3,by rw [h4];congr 2;omega⟩
 | o :: l,(none,V) :: D,i,a,s,av,h=>by
   simp only [yb] at h
   cases hd:o.dst with
   | none=>
     rw [hd] at h
     rcases xc β l D (i+1) a s av h with h | ⟨j,o',V',h1,h2,h3,h4⟩
     ·exact .inl h
     ·exact .inr ⟨j+1,o',V',by simpa using h1,by simpa using h2,h3,by rw [h4];congr 2;omega⟩
   | some d=>
     rw [hd] at h
     rcases xc β l D (i+1) _ s av h with h5 | ⟨j,o',V',h1,h2,h3,h4⟩
     ·simp only [lk] at h5
      split at h5
      ·rename_i hb
       obtain rfl:d=s:=by simpa using hb
       exact .inr ⟨0,o,V,rfl,rfl,hd,by simpa using (Option.some.inj h5).symm⟩
      ·exact .inl h5
     ·exact .inr ⟨j+1,o',V',by simpa using h1,by simpa using h2,h3,by rw [h4];congr 2;omega⟩
theorem aa.iS {P:Program} {R:St→Prop} {k:List It} {id n:Nat} {tm:List (Nat×AV)} {hp:Heap} {l hd tl:List Oper} (m:Nat) (hm:P.follows .mixedOrders=true) (hs:EM m l=some (hd,tl)) {A:List Nat} (hA:I3 l.toArray=A) (Wj:EI l.toArray m A=true)
 (tk:List Tok) (dy:List Nat) (RU:(SX A m tk&&Pf A m tk)=true) (hU0:Ph hd dy=true) {B H0:Heap} (wy:KU tk=H0) (Wt:Cd hp H0 B) {HH:(Nat→Bk)→Heap} (KW:∀ β,sj (KO tk β) B=some (HH β))
 (h:AT P l.toArray n B tk dy 0 hd tm (fun _=>[]) (fun β pS=>ae P l.toArray tl ⟨n,pS,HH β⟩ (aa P R k))):aa P R (.code (.region id l.toArray true) :: k) ⟨n,tm,hp⟩:=by
 have hB:tM l.toArray m:=⟨A,hA,Wj⟩
 have hT:Al l.toArray m tk:=Ja hA (Bool.and_eq_true_iff.1 RU).1
 intro w S a r
 obtain ⟨hl,MP⟩:=vo hs
 obtain ⟨D,pS,hAf,ux⟩:=h
 obtain ⟨en,cn,e0,ec0,e1,e2,e3⟩:=hAf.GJ
 rw [Nat.zero_add,MP] at e1
 have gG:m≤l.toArray.size:=by simp [hl,MP]
 let mc:Nat→Option AV:=fun j=>(D[j]?).bind (·.1)
 let V:Nat→Bk→AV:=fun j=>match D[j]? with | some x=>x.2 | none=>fun _=>.nil
 have KX:∀ j o,j < m→l.toArray[j]? =some o→hd[j]? =some o:=by
  intro j o hj ho
  have:l[j]? =some o:=by simpa using ho
  rw [hl,List.getElem?_append_left (by omega)] at this
  exact this
 have hD:∀ j,j < m→∃ x W,D[j]? =some (x,W)∧mc j=x∧V j=W:=by
  intro j hj
  have:j < D.length:=by rw [e2,MP];exact hj
  refine ⟨D[j].1,D[j].2,by simp [this],?_,?_⟩
  ·simp [mc,this]
  ·simp [V,this]
 refine wp_region_any hm ?_
 have Ah:Ext w {w with drawn:=w.drawn+1}:=Ext.HE w _ (Nat.le_succ _)
 let Va:Nat→Bk:=fun _=>⟨none,0⟩
 have hf:∀ k,(Array.replicate l.toArray.size false).getD k false=false:=by
  intro k
  rcases Nat.lt_or_ge k l.toArray.size with h | h
  ·simp at h;simp [h]
  ·simp at h;simp [Nat.not_lt.2 h]
 have KC:∀ k,uc l.toArray mc (lk tm) (Array.replicate l.toArray.size false) k=lk tm:=by
  intro k
  induction k with
  | zero=>rfl
  | succ k ih=>simp only [uc,ih];rw [if_neg (by rw [hf k];simp)]
 have RO:qo tk (Array.replicate l.toArray.size false) Va=H0:=by
  rw [← wy]
  unfold qo KU
  have e:tk.filter (wD (Array.replicate l.toArray.size false))=tk.filter (fun t=>t.prod.isNone):=by
   apply List.filter_congr
   intro t ht
   unfold wD
   cases t.prod with
   | none=>
     cases t.cons with
     | none=>rfl
     | some c=>simp only [hf c,Bool.not_false,Bool.and_self,Option.isNone]
   | some p=>simp only [hf p,Bool.false_and,Option.isNone]
  rw [e]
 have nQ:=Wt.perm
 have hr0:ck {w with drawn:=w.drawn+1} S (qo tk (Array.replicate l.toArray.size false) Va++B):=by
  rw [RO];exact (r.hp.ext Ah).perm nQ
 have ev0:iE w S hp {w with drawn:=w.drawn+1} S (qo tk (Array.replicate l.toArray.size false) Va++B):=by
  rw [RO]
  have:=iE.ext (h:=hp) r.hp.slt Ah
  exact {this with new:=fun k hk=>this.new k (by
   obtain ⟨x,hx,hb⟩:=hk
   exact ⟨x,nQ.mem_iff.2 hx,hb⟩)}
 refine Jd (P:=P) (all:=l.toArray) (n:=n) (m:=m) (mc:=mc) (en:=en) (cn:=cn) (e:=lk tm) (V:=V) (B:=B) (tk:=tk) hB hT (GM hA (Bool.and_eq_true_iff.1 RU).2) gG e0 (fun β s=>by rw [ec0];rfl) ?_ ?_ ?_ (w0:=w) (S0:=S) (U7:=hp) ?_ l.toArray.size (Array.replicate l.toArray.size false) a _ S Va
  ⟨by simp,(fun k hk=>by rw [hf k] at hk;cases hk),(fun k i o hk=>by rw [hf k] at hk;cases hk)⟩ (by simp [List.count_replicate]) r.size r.defers hr0 ev0 (by rw [KC];exact (r.ext Ah).tm) (fun j o d hj=>by rw [hf j] at hj;cases hj)
 ·intro i o hi ho β
  obtain ⟨x,W,d1,d2,d3⟩:=hD i hi
  have:=e3 i o x W (KX i o hi ho) d1
  rw [Nat.zero_add] at this
  rw [d2,d3,this.2.2.2.2];rfl
 ·intro i o hi ho
  obtain ⟨x,W,d1,d2,d3⟩:=hD i hi
  have:=e3 i o x W (KX i o hi ho) d1
  rw [Nat.zero_add] at this
  rw [d2,d3]
  exact ⟨this.1,this.2.1,this.2.2.1⟩
 ·intro i j oi oj d hi hj Df yN MM qP Dg
  obtain ⟨x,W,d1,d2,d3⟩:=hD i hi
  have:=e3 i oi x W (KX i oi hi yN) d1
  rw [Nat.zero_add] at this
  exact GO hU0 (this.2.2.2.1 (by rw [← d2];exact qP)) Df (KX i oi hi yN) (KX j oj hj MM) Dg
 ·intro β a' w' S' h1 h2 h3 h4 h5 h6
  have Wk:l.toArray.toList.drop m=tl:=by
   simp only [hl,← MP]
   exact List.drop_left
  rw [Wk]
  rw [nv (KW β)] at h3 h4
  rw [e1] at h5
  refine ja ?_ _ _ _ ((ux β).go (h:=hp) (w:=w) (S:=S) ⟨h1,h2,fun s av NH=>?_,h3⟩ h4)
  ·rintro ex a2 w2 ⟨rfl,HG,S2,q1,q2,q3⟩
   exact ⟨HG,S2,q1,q2,q3⟩
  ·rcases KV _ _ _ _ NH with NH | NH
   ·rcases xc β hd D 0 [] s av NH with NH | ⟨j,o,W,g1,g2,g3,g4⟩
    ·cases NH
    ·have hj:j < m:=by rw [← MP];exact (List.getElem?_eq_some_iff.1 g1).1
     obtain ⟨x,W',d1,d2,d3⟩:=hD j hj
     rw [g2] at d1
     obtain ⟨rfl,rfl⟩:=Prod.mk.inj (Option.some.inj d1)
     have MM:l.toArray[j]? =some o:=by
      have:l[j]? =some o:=by rw [hl,List.getElem?_append_left (by omega)];exact g1
      simpa using this
     obtain ⟨v,k1,k2⟩:=h6 j o s hj MM d2 g3
     rw [d3] at k2
     rw [g4,Nat.zero_add]
     exact ⟨v,k1,k2⟩
   ·exact h5 s av NH
def KY {α:Type}:List α→List α→Option (List α)
 | [],r=>some r
 | x :: l,r=>match KY l r with
   | some m=>some (x :: m)
   | none=>none
theorem HY {α:Type}:∀ {l r m:List α},KY l r=some m→l++r=m
 | [],r,m,h=>by simpa [KY] using h
 | x :: l,r,m,h=>by
   simp only [KY] at h
   split at h
   ·rename_i m' hm
    obtain rfl:=Option.some.inj h
    rw [List.cons_append,HY hm]
   ·cases h
theorem AT.ue {P:Program} {all:Array Oper} {n:Nat} {B:Heap} {tk:List Tok} {dy:List Nat} {i:Nat} {tm:List (Nat×AV)} {acc F:(Nat→Bk)→List (Nat×AV)} {Q:(Nat→Bk)→List (Nat×AV)→Prop} (hF:∀ β,KY (acc β) tm=some (F β)) (h:∀ β,Q β (F β)):AT P all n B tk dy i [] tm acc Q:=
 AT.nil (fun β=>(HY (hF β)).symm) h
theorem Je {w:World} {S:Nat→Prop} {hp cC:Heap} {b:Bk} {cs pT:List AV} (r:ck w S hp) (u:mU hp b (.cells cs) b (.cells pT) cC) (hl:pT.length=cs.length) (h1:∀ c∈pT,c.one=true) (pR:∀ (i:Nat) c c' v,cs[i]? =some c→pT[i]? =some c'→At w S c v→At w S c' v):ck w S cC∧iE w S hp w S cC:=by
 obtain ⟨pre,post,e1,e2⟩:=u.split
 subst e1;subst e2
 have hblk:∀ n,Has (pre++(b,Ob.cells pT) :: post) n↔Has (pre++(b,Ob.cells cs) :: post) n:=by
  intro n
  constructor<;>rintro ⟨x,hx,hb⟩<;>rcases bd.1 hx with rfl | hx
  ·exact ⟨(b,.cells cs),bd.2 (.inl rfl),hb⟩
  ·exact ⟨x,bd.2 (.inr hx),hb⟩
  ·exact ⟨(b,.cells pT),bd.2 (.inl rfl),hb⟩
  ·exact ⟨x,bd.2 (.inr hx),hb⟩
 refine ⟨⟨?_,?_,?_,r.slt,r.fe⟩,⟨rfl,rfl,rfl,Nat.le_refl _,fun n hn=>⟨hn,rfl⟩,fun n _ _=>⟨rfl,id⟩,fun n hn=>.inl ((hblk n).1 hn),fun _=>Nat.le_refl _⟩⟩
 ·have:=r.nodup
  simpa [List.flatMap_append,List.flatMap_cons,eb,Ob.more] using this
 ·intro x hx
  rcases bd.1 hx with rfl | hx
  ·obtain ⟨h0,n,vs,E,g1,g2,g3,g4⟩:=r.holds (b,.cells cs) (bd.2 (.inl rfl))
   refine ⟨h1,n,vs,E,g1,g2,by rw [hl];exact g3,fun i c v hc hv=>?_⟩
   have hi:i < cs.length:=by rw [← hl];exact (List.getElem?_eq_some_iff.1 hc).1
   have MS:cs[i]? =some cs[i]:=by simp [hi]
   exact pR i cs[i] c v MS hc (g4 i _ v MS hv)
  ·exact r.holds x (bd.2 (.inr hx))
 ·intro x hx n hn
  rcases bd.1 hx with rfl | hx
  ·have:=r.sep (b,.cells cs) (bd.2 (.inl rfl)) n hn
   exact ⟨fun h=>(this.1 h).elim,fun h=>h.elim⟩
  ·exact r.sep x (bd.2 (.inr hx)) n hn
theorem ai.so {n j:Nat} {tm:List (Nat×AV)} {hp:Heap} {cC:Bk→Heap} {T:St→Prop} {b:Bk} {cs:List AV} {pT:Bk→List AV} (sz:Nat) (u:∀ q,mU hp b (.cells cs) b (.cells (pT q)) (cC q)) (hj:cs[j]? =some .nil) (hc:∀ q,qm (cs.set j (.sl sz q 0 0))=some (pT q)) (h1:∀ q,lG (pT q)=true)
 (k:∀ q,ai ⟨n,tm,(q,.arr sz []) :: cC q⟩ T):ai ⟨n,tm,hp⟩ T:=by
 refine ai.step (BB:=⟨n,tm,(⟨none,0⟩,.arr sz []) :: cC ⟨none,0⟩⟩) (fun w S a r=>?_) (k ⟨none,0⟩)
 have e:=mg (hc ⟨none,0⟩)
 obtain ⟨g1,g2⟩:=Je r.hp (u ⟨none,0⟩) (by rw [← e];simp) (dp (h1 _)) (fun i c1 c2 v RW S5 pR=>by
  rw [← e] at S5
  by_cases Df:j=i
  ·subst Df
   rw [List.getElem?_set_self (List.getElem?_eq_some_iff.1 hj).1] at S5
   obtain rfl:=Option.some.inj S5
   rw [hj] at RW
   obtain rfl:=Option.some.inj RW
   cases pR
   exact .Bx sz _ rfl
  ·rw [List.getElem?_set_ne Df,RW] at S5
   obtain rfl:=Option.some.inj S5
   exact pR)
 obtain ⟨q1,q2,q3⟩:=qq (b:=⟨none,0⟩) (o:=.arr sz []) g1 (Ext.refl w) id ⟨by simp,by simp,.inl ⟨rfl,rfl⟩⟩ (.inl rfl)
 exact ⟨_,S,rfl,⟨r.size,r.defers,r.tm,q1⟩,g2.trans q2⟩
section rules
variable {P:Program} {all:Array Oper} {rest:List Oper} {n:Nat} {tm:List (Nat×AV)} {hp:Heap} {Q:St→Prop} {d:Nat} {ty:TypeId} {pos:String} {af:Array Edge}
theorem NJ {t e yt:TypeId} {x y:Operand} {sz:Nat} {xs:List AV} [aE P t (.slice e)] (hx:cG tm x=some (.list sz xs)) (hy:cG tm y=some .nil) (h0:Nat.blt 0 sz=true) (hn:Nat.blt d n=true)
 (kk:∀ c:Bool,(c=true→xs=[])→ae P all rest ⟨n,(d,.bool c) :: tm,hp⟩ Q):ae P all (⟨some d,.binOp .eql t x y yt,ty,pos,af,none⟩ :: rest) ⟨n,tm,hp⟩ Q:=by
 refine ae.Ki rfl fun w S a r=>?_
 obtain ⟨oa,cap,vs,e1,e2,e3,e4,e5,e6⟩:=(bj (σ:=⟨n,tm,hp⟩) r hx).uu
 have e7:=(bj (σ:=⟨n,tm,hp⟩) r hy).C3
 refine ⟨.bool oa.isNone,w,S,⟨n,(d,.bool oa.isNone) :: tm,hp⟩,?_,r.put hn (.bool _),iE.refl _ _ _,kk _ (fun hc=>?_)⟩
 ·have h2:(Op.equal t (.slice oa xs.length cap) (.slice none 0 0)).run P w=.ok oa.isNone w:=by
   show (Op.equalIn (9999+1) t _ _).run P w=_
   rw [Op.equalIn]
   cases oa with
   | none=>simp [run_underlying (aE.h (P:=P) (t:=t))]
   | some ad=>simp [run_underlying (aE.h (P:=P) (t:=t))]
  have h3:(binOp .eql t (.slice oa xs.length cap) (.slice none 0 0)).run P w=.ok (.bool oa.isNone) w:=by
   rw [show binOp .eql t (.slice oa xs.length cap) (.slice none 0 0)=(do pure (.bool (← Op.equal t (.slice oa xs.length cap) (.slice none 0 0)))) from rfl]
   simp [h2]
  simp [execOp,e1,e7,eqGuard_at_slice,h3]
 ·have hoa:oa=none:=by simpa using hc
  have hvs:vs=[]:=by
   cases vs with
   | nil=>rfl
   | cons v vs=>
     obtain ⟨ad,h1,_⟩:=e5 0 v rfl
     rw [hoa] at h1;cases h1
  rw [hvs,cA e2] at e3
  have h0':0 < sz:=by simpa using h0
  have:xs.length=0:=by
   rcases Nat.eq_zero_or_pos xs.length with h | h
   ·exact h
   ·have:=Nat.mul_pos h h0';simp at e3;omega
  exact List.length_eq_zero_iff.1 this
end rules
theorem Dp {α:Type} {p r:List α} (h:app [] p=some r) (hp:p=[]):r=[]:=by
 subst hp
 obtain ⟨_,e⟩:=EP h
 simpa using e
end Go.Eng
