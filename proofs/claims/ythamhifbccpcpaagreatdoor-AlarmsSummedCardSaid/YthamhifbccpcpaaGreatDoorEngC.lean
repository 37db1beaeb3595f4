/- The engine: abstract values, the symbolic heap, one rule for each operation. No program in sight. -/
import Derived.Test.YthamhifbccpcpaaGreatDoorEngB
import Derived.Laws.StructEq
import Derived.Below
set_option linter.unusedVariables false
set_option linter.unusedSectionVars false
namespace Go.Eng
open Go
variable [bF]
abbrev aI:=List UInt8
section rules
variable {P:Program} {all:Array Oper} {rest:List Oper} {n:Nat} {tm:List (Nat×AV)} {hp:Heap} {Q:St→Prop} {d:Nat} {ty:TypeId} {pos:String} {af:Array Edge}
theorem cH {x:Operand} {t e:TypeId} {sz len:Nat} {b:Bk} [aE P t (.slice e)] (hx:cG tm x=some (.sl sz b 0 len)):QV P ⟨some d,.call {callee:=.builtin .len,args:=#[x],argTypes:=#[t]},ty,pos,af,none⟩ ⟨n,tm,hp⟩ (.int .i64 (len:Nat)):=En hx
theorem aS {α:Type} {Xs:List α} {el:α} {t e:TypeId} {i:TypeInfo} {x y:Operand} {k:IntKind} {j:Int} {sz:Nat} {b:Bk} [aE P t (.slice e)] [aX P e i] (hx:cG tm x=some (.sl sz b 0 Xs.length)) (gG:Nat.beq i.size sz=true) (hy:cG tm y=some (.int k j))
 (hv:idx Xs j=some el):QV P ⟨some d,.indexAddr t x y,ty,pos,af,none⟩ ⟨n,tm,hp⟩ (.pq sz b j.toNat 0):=by
 obtain ⟨h0,h1,_⟩:=cV hv
 have h:=zV (P:=P) (d:=d) (ty:=ty) (pos:=pos) (af:=af) (n:=n) (tm:=tm) (hp:=hp) (t:=t) (e:=e) hx gG hy ⟨h0,h1⟩
 rw [Nat.zero_add] at h
 exact h
theorem De {α:Type} {g:α→AV} {Xs:List α} {el:α} {j:Int} (hv:idx Xs j=some el):(Xs.map g)[j.toNat]? =some (g el):=by
 rw [List.getElem?_map,(cV hv).2.2];rfl
theorem bl {α:Type} {g:α→AV} {Xs:List α} {el:α} {j:Int} {t:TypeId} {D:TypeDesc} {x:Operand} {b:Bk} {sz o:Nat} {av:AV} [aE P t D] (hD:TypeDesc.kH D=false) (hx:cG tm x=some (.pq sz b j.toNat o)) (f:mD hp b (.arr sz (Xs.map g))∨mD hp b (.zy sz (Xs.map g)))
 (hv:idx Xs j=some el) (ho:(g el).cells[o]? =some av):QV P ⟨some d,.load t x,ty,pos,af,none⟩ ⟨n,tm,hp⟩ av:=
 Es hD hx f (De hv) ho
theorem bx {α:Type} {g:α→AV} {Xs:List α} {el:α} {j:Int} {t:TypeId} {D:TypeDesc} {i:TypeInfo} {x:Operand} {b:Bk} {sz:Nat} {cs:List AV} [aE P t D] [aX P t i] (hD:TypeDesc.kH D=true) (hx:cG tm x=some (.pq sz b j.toNat 0)) (f:mD hp b (.arr sz (Xs.map g))∨mD hp b (.zy sz (Xs.map g))) (gG:Nat.beq i.size sz=true)
 (hv:idx Xs j=some el) (hc:g el=.agg cs):QV P ⟨some d,.load t x,ty,pos,af,none⟩ ⟨n,tm,hp⟩ (.agg cs):=
 y9 hD hx f gG (by rw [De (g:=g) hv,hc])
theorem Df {α:Type} {g:α→AV} {Xs Zs:List α} {t e:TypeId} {i:TypeInfo} {x:Operand} {lo hi:Option Operand} {l h:Option Int} {sz:Nat} {L H:Int} [aE P t (.slice e)] [aX P e i] (hx:cG tm x=some (.list sz (Xs.map g))) (gG:Nat.beq i.size sz=true) (hl:Gh tm lo l) (hh:Gh tm hi h)
 (eL:fO l=L) (eH:gC Xs.length h=H) (hv:sv Xs L H=some Zs):QV P ⟨some d,.slice t x lo hi none,ty,pos,af,none⟩ ⟨n,tm,hp⟩ (.list sz (Zs.map g)):=by
 obtain ⟨⟨h0,h1,h2⟩,rfl⟩:=sD hv
 subst eL;subst eH
 have:=C6 (P:=P) (d:=d) (ty:=ty) (pos:=pos) (af:=af) (n:=n) (tm:=tm) (hp:=hp) (t:=t) (e:=e) (xs:=Xs.map g) hx gG hl hh h0 (by simpa using h1) (by simpa using h2)
 simpa [List.map_take,List.map_drop] using this
theorem kC {t:TypeId} {x:Operand} {lo hi:Option Operand} {l h:Option Int} {s zs:List UInt8} {L H:Int} [aE P t .string] (hx:cG tm x=some (.str s)) (hl:Gh tm lo l) (hh:Gh tm hi h) (eL:fO l=L) (eH:gC s.length h=H) (hv:sv s L H=some zs):
 QV P ⟨some d,.slice t x lo hi none,ty,pos,af,none⟩ ⟨n,tm,hp⟩ (.str zs):=by
 obtain ⟨⟨h0,h1,h2⟩,rfl⟩:=sD hv
 subst eL;subst eH
 exact Ez hx hl hh h0 h1 h2
def sf:Heap→Heap→Option Heap
 | [],r=>some r
 | x :: l,r=>match sf l r with
   | some m=>some (x :: m)
   | none=>none
theorem nu:∀ {l r m:Heap},sf l r=some m→l++r=m
 | [],r,m,h=>by simpa [sf] using h
 | x :: l,r,m,h=>by
   simp only [sf] at h
   split at h
   ·rename_i m' hm
    obtain rfl:=Option.some.inj h
    rw [List.cons_append,nu hm]
   ·cases h
def T0 (H:Heap) (V:AV):AV→Heap→Prop:=fun v h=>h=H∧v=V
def T1 {Ae:Type} (H:Ae→Heap) (V:Ae→AV):AV→Heap→Prop:=fun v h=>∃ b,h=H b∧v=V b
def T2 {Ae KA:Type} (H:Ae→KA→Heap) (V:Ae→KA→AV):AV→Heap→Prop:=fun v h=>∃ b c,h=H b c∧v=V b c
theorem bz {f:FuncId} {args:List Operand} {ts:Array TypeId} {l l':List AV} {h0 hr H H':Heap} {V:AV} [bu P f] (hl:x1 tm args=some l) (c:aJ P f l' h0 (T0 H V)) (co:wT hp l l') (hs:B8 hp h0 hr) (ha:sf H hr=some H') (hn:Nat.blt d n=true)
 (kk:ae P all rest ⟨n,(d,V) :: tm,H'⟩ Q):ae P all (⟨some d,.call {callee:=.value (.func f),args:=args.toArray,argTypes:=ts},ty,pos,af,none⟩ :: rest) ⟨n,tm,hp⟩ Q:=
 Dd hl c co hs hn (fun r h' ⟨e1,e2⟩=>by subst e1;subst e2;rw [nu ha];exact kk)
theorem ep {Ae:Type} {f:FuncId} {args:List Operand} {ts:Array TypeId} {l l':List AV} {h0 hr:Heap} {H H':Ae→Heap} {V:Ae→AV} [bu P f] (hl:x1 tm args=some l) (c:aJ P f l' h0 (T1 H V)) (co:wT hp l l') (hs:B8 hp h0 hr) (ha:∀ b,sf (H b) hr=some (H' b)) (hn:Nat.blt d n=true)
 (kk:∀ b,ae P all rest ⟨n,(d,V b) :: tm,H' b⟩ Q):ae P all (⟨some d,.call {callee:=.value (.func f),args:=args.toArray,argTypes:=ts},ty,pos,af,none⟩ :: rest) ⟨n,tm,hp⟩ Q:=
 Dd hl c co hs hn (fun r h' ⟨b,e1,e2⟩=>by subst e1;subst e2;rw [nu (ha b)];exact kk b)
theorem Nn {Ae KA:Type} {f:FuncId} {args:List Operand} {ts:Array TypeId} {l l':List AV} {h0 hr:Heap} {H H':Ae→KA→Heap} {V:Ae→KA→AV} [bu P f] (hl:x1 tm args=some l) (c:aJ P f l' h0 (T2 H V)) (co:wT hp l l') (hs:B8 hp h0 hr) (ha:∀ b c,sf (H b c) hr=some (H' b c)) (hn:Nat.blt d n=true)
 (kk:∀ b c,ae P all rest ⟨n,(d,V b c) :: tm,H' b c⟩ Q):ae P all (⟨some d,.call {callee:=.value (.func f),args:=args.toArray,argTypes:=ts},ty,pos,af,none⟩ :: rest) ⟨n,tm,hp⟩ Q:=
 Dd hl c co hs hn (fun r h' ⟨b,b2,e1,e2⟩=>by subst e1;subst e2;rw [nu (ha b b2)];exact kk b b2)
theorem EL {f:FuncId} {x:Operand} {args:List Operand} {ts:Array TypeId} {oL l l' lc:List AV} {h0 hr H H':Heap} {V:AV} [bu P f] (hx:cG tm x=some (.func (.func f) oL)) (hl:x1 tm args=some l) (SF:qj (l++oL)=some lc) (c:aJ P f l' h0 (T0 H V)) (co:wT hp lc l') (hs:B8 hp h0 hr) (ha:sf H hr=some H') (hn:Nat.blt d n=true)
 (kk:ae P all rest ⟨n,(d,V) :: tm,H'⟩ Q):ae P all (⟨some d,.call {callee:=.value x,args:=args.toArray,argTypes:=ts},ty,pos,af,none⟩ :: rest) ⟨n,tm,hp⟩ Q:=
 HJ hx hl SF c co hs hn (fun r h' ⟨e1,e2⟩=>by subst e1;subst e2;rw [nu ha];exact kk)
theorem Af {Ae:Type} {f:FuncId} {x:Operand} {args:List Operand} {ts:Array TypeId} {oL l l' lc:List AV} {h0 hr:Heap} {H H':Ae→Heap} {V:Ae→AV} [bu P f] (hx:cG tm x=some (.func (.func f) oL)) (hl:x1 tm args=some l) (SF:qj (l++oL)=some lc) (c:aJ P f l' h0 (T1 H V)) (co:wT hp lc l') (hs:B8 hp h0 hr) (ha:∀ b,sf (H b) hr=some (H' b)) (hn:Nat.blt d n=true)
 (kk:∀ b,ae P all rest ⟨n,(d,V b) :: tm,H' b⟩ Q):ae P all (⟨some d,.call {callee:=.value x,args:=args.toArray,argTypes:=ts},ty,pos,af,none⟩ :: rest) ⟨n,tm,hp⟩ Q:=
 HJ hx hl SF c co hs hn (fun r h' ⟨b,e1,e2⟩=>by subst e1;subst e2;rw [nu (ha b)];exact kk b)
end rules
theorem oq.sg {hp:Heap} {α:Type} {g:α→AV} {Xs:List α} {sz:Nat} {b:Bk} (f:mD hp b (.arr sz (Xs.map g))):oq hp (.sl sz b 0 Xs.length) (.list sz (Xs.map g)):=.arr sz b _ _ f (by simp)
section rules
variable {P:Program} {all:Array Oper} {rest:List Oper} {n:Nat} {tm:List (Nat×AV)} {hp:Heap} {Q:St→Prop} {d:Nat} {ty:TypeId} {pos:String} {af:Array Edge}
theorem dB {x:Operand} {s:TypeId} {j off:Nat} {sz:Nat} {b:Bk} {q o o':Nat} [nN P s j off] (hx:cG tm x=some (.pq sz b q o)) (ho:o+off=o'):QV P ⟨some d,.fieldAddr s x j,ty,pos,af,none⟩ ⟨n,tm,hp⟩ (.pq sz b q o'):=by
 subst ho
 exact C0 hx
theorem BC {t:TypeId} {i:TypeInfo} {x y:Operand} {b:Bk} {sz q o:Nat} {xs:List AV} {av el xV:AV} {cC:Heap} [aX P t i] (hx:cG tm x=some (.pq sz b q o)) (hy:cG tm y=some av) (h1:lG av.cells=true) (gG:Nat.beq av.cells.length i.size=true)
 (u:mT hp b (.arr sz xs) b (.arr sz (xs.set q xV)) cC) (hq:xs[q]? =some el) (HB:xV.cells=mO el.cells o av.cells) (ho:Nat.ble (o+av.cells.length) el.cells.length=true) (kk:ae P all rest ⟨n,tm,cC⟩ Q):ae P all (⟨none,.store t x y,ty,pos,af,none⟩ :: rest) ⟨n,tm,hp⟩ Q:=by
 refine ae.act rfl rfl (aG:=⟨n,tm,cC⟩) (fun w S a r=>?_) kk
 obtain ⟨m,e1,e2⟩:=(bj (σ:=⟨n,tm,hp⟩) r hx).uk
 obtain ⟨g0,g1,⟨g2,_⟩ | ⟨m',vs,E,g2,g3,g4,g5⟩⟩:=qH r.hp (.inl u.mA)
 ·rw [g2] at e1;cases e1
 obtain rfl:m'=m:=by rw [g2] at e1;exact Option.some.inj e1
 have hv:=bj (σ:=⟨n,tm,hp⟩) r hy
 obtain ⟨hl,pO⟩:=sx hv (dp h1)
 have Hw:=dp h1
 have gG:=Nat.eq_of_beq_eq_true gG
 have ho:=Nat.le_of_ble_eq_true ho
 clear h1 hv hy
 generalize av.cells=nc at *
 generalize No:el.cells=cs at *
 have hle:o+nc.length≤cs.length:=ho
 have x4:=g0 el (List.mem_of_getElem? hq)
 have Bz:cs.length=sz:=by rw [← No];exact x4.1
 have X7:q < xs.length:=(List.getElem?_eq_some_iff.1 hq).1
 have hmul:(q+1) * sz≤xs.length * sz:=Nat.mul_le_mul_right _ (by omega)
 have KC:xs.length * sz≤b.cap * sz:=Nat.mul_le_mul_right _ g1
 rw [Nat.add_mul,Nat.one_mul] at hmul
 have tW:=wX hl pO Hw
 have wq:=run_storeCells_at (P:=P) m' (q * sz+o) E (a.eval y).cells.toList 0 vs w g3 (by simp;omega) tW
 simp only [Nat.add_zero] at wq
 have sA:(a.eval y).cells.size=i.size:=by rw [← hl];exact gG
 have IU:=cA g0
 have O6:El sz xV:=by
  refine ⟨by rw [HB];simp [mO];omega,fun c hc=>?_⟩
  rw [HB] at hc
  simp only [mO,List.mem_append] at hc
  rcases hc with (hc | hc) | hc
  ·exact x4.2 c (by rw [No];exact List.mem_of_mem_take hc)
  ·exact Hw c hc
  ·exact x4.2 c (by rw [No];exact List.mem_of_mem_drop hc)
 have EM:flat (xs.set q xV)=(flat xs).take (q * sz+o)++nc++(flat xs).drop (q * sz+o+nc.length):=by
  rw [EA g0 O6 hq]
  rw [HB];simp only [mO]
  have HI:cs=((flat xs).drop (q * sz)).take sz:=by
   apply List.ext_getElem?
   intro j
   by_cases hj:j < sz
   ·have:=qL g0 hq j hj
    rw [List.getElem?_take,if_pos hj,List.getElem?_drop,this,No]
   ·rw [List.getElem?_eq_none (by omega),List.getElem?_eq_none (by simp;omega)]
  have e1:cs.take o=((flat xs).drop (q * sz)).take o:=by rw [HI,List.take_take,Nat.min_eq_left (by omega)]
  have e2:cs.drop (o+nc.length)=(((flat xs).drop (q * sz+o+nc.length)).take (sz - (o+nc.length))):=by
   rw [HI,List.drop_take,List.drop_drop]
   rw [show q * sz+(o+nc.length)=q * sz+o+nc.length from by omega]
  rw [e1,e2]
  have e3:(flat xs).take (q * sz+o)=(flat xs).take (q * sz)++((flat xs).drop (q * sz)).take o:=by rw [List.take_add]
  rw [e3]
  have e4:(flat xs).drop (q * sz+o+nc.length)=((flat xs).drop (q * sz+o+nc.length)).take (sz - (o+nc.length))++(flat xs).drop (q * sz+sz):=by
   conv=>lhs;rw [← List.take_append_drop (sz - (o+nc.length)) ((flat xs).drop (q * sz+o+nc.length))]
   rw [List.drop_drop,show q * sz+o+nc.length+(sz - (o+nc.length))=q * sz+sz from by omega]
  conv=>rhs;rw [e4]
  simp only [List.append_assoc]
 have KD:=fun (w':World) (ha:kG w' S (flat xs) vs) (hb:kG w' S nc (a.eval y).cells)=>HF (q * sz+o) (by rw [IU,g4];exact KC) ha hl hb (by omega)
 have KE:(vs.toList.take (q * sz+o)++(a.eval y).cells.toList++vs.toList.drop (q * sz+o+(a.eval y).cells.toList.length)).toArray.size=b.cap * sz:=by
  simp;omega
 generalize (vs.toList.take (q * sz+o)++(a.eval y).cells.toList++vs.toList.drop (q * sz+o+(a.eval y).cells.toList.length)).toArray=Bx at wq KD KE
 have c:GB w (w.setRow m' Bx) b.bN:=⟨⟨rfl,rfl,rfl,by simp,fun k hk mb=>setRow_other w m' k _ (fun e=>mb (by rw [e1,e]))⟩,fun _=>Nat.le_refl _⟩
 have k1:∀ n,S n→S n∧(w.setRow m' Bx).heap[n]? =w.heap[n]?:=by
  intro k hk
  refine ⟨hk,setRow_other w m' k _ (fun e=>?_)⟩
  subst e
  exact (r.hp.sep _ u.mA.mem k (jT e1)).1 hk
 have hh:=tb r.hp u c id id ⟨?_,by simpa using g1,.inr ⟨m',Bx,E,e1,setRow_heap w m' vs _ E _ g3,KE,by rw [EM];exact KD _ (g5.mono k1) (pO.mono k1)⟩⟩ (.inl rfl)
 ·refine ⟨w.setRow m' Bx,S,?_,r.heap hh.2.2 hh.1,hh.2.1⟩
  simp [execOp,e2,Instr.storeAt,Instr.sureAddr,storeVar,sizeOf,typeInfo,aX.h (P:=P) (t:=t),sA,wq]
 ·intro z hz
  rcases List.mem_or_eq_of_mem_set hz with h | rfl
  ·exact g0 z h
  ·exact O6
theorem bQ {α:Type} {g:α→AV} {Xs:List α} {el xV:α} {j:Int} {t:TypeId} {i:TypeInfo} {x y:Operand} {b:Bk} {sz o:Nat} {av:AV} {cC:Heap} [aX P t i] (hx:cG tm x=some (.pq sz b j.toNat o)) (hy:cG tm y=some av) (h1:lG av.cells=true) (gG:Nat.beq av.cells.length i.size=true)
 (hv:idx Xs j=some el) (HB:(g xV).cells=mO (g el).cells o av.cells) (u:mT hp b (.arr sz (Xs.map g)) b (.arr sz ((Xs.set j.toNat xV).map g)) cC) (ho:Nat.ble (o+av.cells.length) (g el).cells.length=true) (kk:ae P all rest ⟨n,tm,cC⟩ Q):
 ae P all (⟨none,.store t x y,ty,pos,af,none⟩ :: rest) ⟨n,tm,hp⟩ Q:=by
 refine BC (xs:=Xs.map g) (el:=g el) (xV:=g xV) hx hy h1 gG ?_ (De hv) HB ho kk
 rw [List.map_set] at u
 exact u
end rules
theorem fA {α:Type} {xs:List α} {i:Int} {el v:α} (h:idx xs i=some el):idx (xs.set i.toNat v) i=some v:=by
 obtain ⟨h0,h1,_⟩:=cV h
 unfold idx;rw [if_pos h0,List.getElem?_set_self (by omega)]
theorem ck.hs {w:World} {S:Nat→Prop} {h h':Heap} (r:ck w S h) (s:HS h h'):ck w S h':=by
 obtain ⟨q,hq⟩:=s.perm
 exact (r.perm hq).sub (List.sublist_append_left _ _)
theorem Has.hs {h h':Heap} (s:HS h h') {n:Nat} (hh:Has h' n):Has h n:=by
 obtain ⟨q,hq⟩:=s.perm
 obtain ⟨e,he,hb⟩:=hh
 exact ⟨e,hq.mem_iff.2 (List.mem_append_left _ he),hb⟩
theorem aJ.fa {P:Program} {f:FuncId} {args:List AV} {h:Heap} {Q:AV→Heap→Prop} (c:aJ P f args h (fun r h1=>∃ h',HS h1 h'∧Q r h')):aJ P f args h Q:=
 fun w S vs r hl ha=>(c w S vs r hl ha).mono fun _ _ ⟨v,r,_,S',h1,⟨h',hs,hq⟩,h3,h4,h5⟩=>⟨v,r,h',S',h1,hq,h3,h4.hs hs,h5.less fun _ hn=>hn.hs hs⟩
theorem ai.eqs {n s:Nat} {tm:List (Nat×AV)} {hp:Heap} {T:St→Prop} {av eW:AV} (hs:lk tm s=some av) (he:eW=av) (k:ai ⟨n,(s,eW) :: tm,hp⟩ T):ai ⟨n,tm,hp⟩ T:=by
 subst he
 exact ai.co hs (.refl _) k
theorem B9 {hp cC:Heap} {b:Bk} {o:Ob} (u:mT hp b o b o cC):cC=hp:=by
 generalize hb:b=b',ho:o=o' at u
 have:∀ {h h':Heap} {b b':Bk} {o o':Ob},mT h b o b' o' h'→b=b'→o=o'→h'=h:=by
  intro h h' b b' o o' u
  induction u with
  | here=>rintro rfl rfl;rfl
  | next _ ih=>intro e1 e2;rw [ih e1 e2]
  | skip _ ih=>intro e1 e2;rw [ih e1 e2]
 subst hb ho
 exact this u rfl rfl
theorem ai.HL {n j:Nat} {tm:List (Nat×AV)} {hp cC:Heap} {T:St→Prop} {b:Bk} {cs pQ:List AV} {av eW:AV} (u:mT hp b (.cells cs) b (.cells pQ) cC) (hj:cs[j]? =some av) (he:eW=av) (hc:qj (cs.set j eW)=some pQ) (k:ai ⟨n,tm,cC⟩ T):ai ⟨n,tm,hp⟩ T:=by
 subst he
 have HI:cs.set j eW=cs:=by
  apply List.ext_getElem?
  intro i
  by_cases hi:j=i
  ·subst hi
   have iT:=(List.getElem?_eq_some_iff.1 hj).1
   rw [List.getElem?_set_self iT,hj]
  ·rw [List.getElem?_set_ne hi]
 rw [HI] at hc
 obtain rfl:=mg hc
 rw [B9 u] at k
 exact k
theorem lM {p:Prop} [Decidable p] {x:Bool} (h:p):(decide p&&x)=x:=by simp [h]
theorem lN {p:Prop} [Decidable p] {x:Bool} (h:¬ p):(decide p&&x)=false:=by simp [h]
theorem BD {p:Prop} [Decidable p] {x:Bool} (h:p):(decide p||x)=true:=by simp [h]
theorem BE {p:Prop} [Decidable p] {x:Bool} (h:¬ p):(decide p||x)=x:=by simp [h]
theorem EN {b x:Bool} (h:b=true):(b&&x)=x:=by simp [h]
theorem EO {b x:Bool} (h:b=false):(b&&x)=false:=by simp [h]
theorem P4 {b x:Bool} (h:b=true):(b||x)=true:=by simp [h]
theorem P5 {b x:Bool} (h:b=false):(b||x)=x:=by simp [h]
def w6 (P:Program) (k:Nat) (t:TypeId) (v u:Value) (b:Bool):Prop:=∀ d w,(Op.equalIn (d+k) t v u).run P w=.ok b w
theorem w6.up {P:Program} {k:Nat} {t:TypeId} {v u:Value} {b:Bool} (h:w6 P k t v u b) (j:Nat):w6 P (k+j) t v u b:=fun d w=>by
 rw [show d+(k+j)=(d+j)+k from by omega];exact h _ w
theorem w6.cast {P:Program} {k:Nat} {t:TypeId} {v u:Value} {b b':Bool} (h:w6 P k t v u b) (e:b=b'):w6 P k t v u b':=by rw [← e];exact h
inductive I1 (P:Program) (k:Nat) (xs ys:Array Value):List Field→Bool→Prop
 | nil:I1 P k xs ys [] true
 | cons {f:Field} {fs:List Field} {px py:Value} {b b':Bool} (hn:f.name≠"_") (hx:∀ w,(part f.type xs f.offset).run P w=.ok px w) (hy:∀ w,(part f.type ys f.offset).run P w=.ok py w) (he:w6 P k f.type px py b) (kk:I1 P k xs ys fs b'):I1 P k xs ys (f :: fs) (b&&b')
theorem I1.run {P:Program} {k:Nat} {xs ys:Array Value} {fs:List Field} {b:Bool} (h:I1 P k xs ys fs b) (d:Nat) (w:World):(Op.eqFields (d+k) xs ys fs).run P w=.ok b w:=by
 induction h with
 | nil=>simp [Op.eqFields]
 | @cons f fs px py b b' hn hx hy he kk ih=>
   simp only [Op.eqFields,hn,ne_eq,not_false_eq_true,if_true,Sem.run_bind,hx,hy,he d w,Result.andThen_ok]
   cases b
   ·simp
   ·simpa using ih
theorem w6.struct {P:Program} {k:Nat} {t:TypeId} {xs ys:Array Value} {fs:List Field} {b:Bool} (hu:P.underlying t=some (.struct fs.toArray)) (hp:P.stoodInHeld t=false) (h:I1 P k xs ys fs b):w6 P (k+1) t (.agg xs) (.agg ys) b:=by
 intro d w
 have hf:P.fieldsOf t=fs.toArray:=by simp [Program.fieldsOf,hu]
 rw [show d+(k+1)=(d+k)+1 from rfl,run_equalIn_struct w (d+k) t xs ys (by rw [hf];exact hu) hp,hf]
 exact h.run d w
theorem cW {P:Program} {t:TypeId} {D:TypeDesc} [aE P t D] (hD:TypeDesc.kH D=false) {cs:Array Value} {off:Nat} {v:Value} (h:cs[off]? =some v) (w:World):(part t cs off).run P w=.ok v w:=by
 unfold part isAgg
 simp only [Sem.run_bind,run_underlying (aE.h (P:=P) (t:=t)),Result.andThen_ok]
 cases D<;>simp_all [TypeDesc.kH]
theorem kG.get {w:World} {S:Nat→Prop} {cs:List AV} {vs:Array Value} (hl:cs.length=vs.size) (ha:kG w S cs vs) {off:Nat} {c:AV} (hc:cs[off]? =some c):∃ v,vs[off]? =some v∧At w S c v:=by
 have iT:=(List.getElem?_eq_some_iff.1 hc).1
 have:off < vs.size:=by omega
 exact ⟨vs[off],by simp [this],ha off c _ hc (by simp [this])⟩
class qQ (P:Program) (t:TypeId) (k:outParam Nat) {α:Type} [DecidableEq α] (g:α→AV):Prop where
 h:∀ (x y:α) (w:World) (S:Nat→Prop) (v u:Value),At w S (g x) v→At w S (g y) u→w6 P k t v u (decide (x=y))
class Np (P:Program) (t:TypeId):Prop where
 h:P.eqGuardType P.depth t=false
instance SJ {P:Program} {t:TypeId} {k:IntKind} [aE P t (.int k)]:qQ P t 1 (AV.int k):=⟨fun x y w S v u hv hu d w'=>by
 rw [hv.cO,hu.cO,Op.equalIn]
 simp [run_underlying (aE.h (P:=P) (t:=t))]
 rw [Bool.eq_iff_iff];simp⟩
instance UW {P:Program} {t:TypeId} [aE P t (.int .i64)]:qQ P t 1 I:=SJ (k:=.i64)
instance eqStr {P:Program} {t:TypeId} [aE P t .string]:qQ P t 1 AV.str:=⟨fun x y w S v u hv hu d w'=>by
 rw [hv.ct,hu.ct,Op.equalIn]
 simp [run_underlying (aE.h (P:=P) (t:=t))]
 rw [Bool.eq_iff_iff]
 rw [beq_toListBytes,ByteArray.toList_eq,ByteArray.toList_eq]
 simp⟩
def gj (k:IntKind) (x y:Int):Int:=x.fdiv (2 ^ min y.toNat k.bits)
section rules
variable {P:Program} {all:Array Oper} {rest:List Oper} {n:Nat} {tm:List (Nat×AV)} {hp:Heap} {Q:St→Prop} {d:Nat} {ty:TypeId} {pos:String} {af:Array Edge}
theorem O7 {α:Type} [DecidableEq α] {g:α→AV} {X Y:α} {k:Nat} {xt yt:TypeId} {x y:Operand} {cs ds:List AV} [qQ P xt k g] [Np P xt] (hk:Nat.ble k 10000=true) (hx:cG tm x=some (.agg cs)) (hy:cG tm y=some (.agg ds)) (eX:g X=.agg cs) (eY:g Y=.agg ds):
 QV P ⟨some d,.binOp .neq xt x y yt,ty,pos,af,none⟩ ⟨n,tm,hp⟩ (.bool (decide (X≠Y))):=by
 intro w S a r
 have hv:=bj (σ:=⟨n,tm,hp⟩) r hx
 have hu:=bj (σ:=⟨n,tm,hp⟩) r hy
 have he:=qQ.h (P:=P) (t:=xt) (g:=g) X Y w S _ _ (by rw [eX];exact hv) (by rw [eY];exact hu)
 obtain ⟨vs,e1,_,_⟩:=hv.nq
 obtain ⟨us,e2,_,_⟩:=hu.nq
 refine ⟨.bool (decide (X≠Y)),fun w1 _=>?_,.bool _⟩
 have h1:=run_eqGuard_agg (P:=P) w1 .neq xt x y vs us Np.h
 rw [e1,e2] at he
 have h2:(Op.equal xt (.agg vs) (.agg us)).run P w1=.ok (decide (X=Y)) w1:=by
  have:=he (10000 - k) w1
  rw [Nat.sub_add_cancel (Nat.le_of_ble_eq_true hk)] at this
  exact this
 have h3:(binOp .neq xt (.agg vs) (.agg us)).run P w1=.ok (.bool (decide (X≠Y))) w1:=by
  rw [show binOp .neq xt (.agg vs) (.agg us)=(do pure (.bool (!(← Op.equal xt (.agg vs) (.agg us))))) from rfl]
  simp [h2]
 simp [execOp,e1,e2,h1,h3]
theorem HM {k k':IntKind} {xt yt:TypeId} {x y:Operand} {i j:Int} (hx:cG tm x=some (.int k i)) (hy:cG tm y=some (.int k' j)) (h0:¬ j < 0):QV P ⟨some d,.binOp .shr xt x y yt,ty,pos,af,none⟩ ⟨n,tm,hp⟩ (.int k (gj k i j)):=by
 refine fun w S a r=>⟨.int k (gj k i j),fun w1 _=>?_,.int _ _⟩
 simp [execOp,(bj (σ:=⟨n,tm,hp⟩) r hx).cO,(bj (σ:=⟨n,tm,hp⟩) r hy).cO,eqGuard_at_int,binOp,Op.shift,h0,gj]
end rules
end Go.Eng
namespace Go.Eng
open Go Go.RowKit
variable [bF]
theorem Ca (l:List Int):flat (l.map I)=l.map I:=by
 induction l with
 | nil=>rfl
 | cons x r ih=>rw [List.map_cons,gH,ih];rfl
theorem KF {P:Program} {f:FuncId} {a:Option Addr} {len cap:Nat} {zs:List Int} {w:World}
 (tf:(a=none∧len=0∧cap=0∧zs=[])∨∃ x,a=some x∧len≤cap∧cap≤maxLen∧zs.length=cap∧(∀ i,i < zs.length→w.cell? (x.add i)=some (.int .i64 (zs.getD i 0)))∧∀ n∈zs,(Lit.int .i64 n).wf=true)
 (hG:∀ g o,bF.Sc g=some o→g < w.heap.size∧o (w.heap[g]?))
 (c:∀ l:List Int,Pu P f [.list 1 (l.map I)] (.bool true)):
 Calls P f #[.slice a len cap] w fun e w'=>e=.returned (.bool true)∧Below w.heap.size w w':=by
 let S:Nat→Prop:=fun n=>n < w.heap.size
 have pO:∃ l:List Int,At w S (.list 1 (l.map I)) (.slice a len cap):=by
  rcases tf with ⟨rfl,rfl,rfl,rfl⟩ | ⟨x,rfl,h1,h2,h3,h4,h5⟩
  ·exact ⟨[],.list 1 [] none 0 [] (by simp) rfl (by simp [flat]) (by simp) (by simp)⟩
  ·refine ⟨zs.take len,?_⟩
   have hl:((zs.take len).map I).length=len:=by simp;omega
   have key:=At.list (w:=w) (S:=S) 1 ((zs.take len).map I) (some x) cap ((zs.take len).map (fun n=>Value.int .i64 n)) ?_ ?_ ?_ ?_ ?_
   ·rw [hl] at key;exact key
   ·intro y hy
    obtain ⟨n,_,rfl⟩:=List.mem_map.1 hy
    exact ⟨rfl,fun c hc=>by simp [AV.cells] at hc;subst hc;rfl⟩
   ·rw [Ca];simp
   ·intro i c v hc hv
    rw [Ca,List.getElem?_map] at hc
    rw [List.getElem?_map] at hv
    cases hn:(zs.take len)[i]? with
    | none=>rw [hn] at hc;cases hc
    | some n=>
      rw [hn] at hc hv
      obtain rfl:=Option.some.inj hc
      obtain rfl:=Option.some.inj hv
      exact .int _ _
   ·intro i v hv
    rw [List.getElem?_map] at hv
    cases hn:(zs.take len)[i]? with
    | none=>rw [hn] at hv;cases hv
    | some n=>
      rw [hn] at hv
      obtain rfl:=Option.some.inj hv
      have hi:i < zs.length:=by
       have:=(List.getElem?_eq_some_iff.1 hn).1
       simp at this;omega
      have hz:zs.getD i 0=n:=by
       rw [List.getElem?_take] at hn
       split at hn
       ·rw [List.getD_eq_getElem?_getD,hn];rfl
       ·cases hn
      have uz:=h4 i hi
      rw [hz] at uz
      obtain ⟨bk,of,sp⟩:=x
      have OW:sp=none:=by
       cases sp with
       | none=>rfl
       | some q=>
         have SK:=h4 0 (by omega)
         unfold World.cell? Addr.add at SK
         simp only [if_true] at SK
         split at SK
         ·simp at SK
         ·cases SK
      subst OW
      rw [mf] at uz
      have hblk:bk < w.heap.size:=by
       rcases Nat.lt_or_ge bk w.heap.size with h | h
       ·exact h
       ·unfold World.cell? at uz
        simp only [Array.getElem?_eq_none h] at uz
        cases uz
      exact ⟨_,rfl,rfl,hblk,uz⟩
   ·rw [hl];exact h1
 obtain ⟨l,pO⟩:=pO
 refine (c l w S #[.slice a len cap] (qP (fun n hn=>hn) hG) rfl ?_).mono ?_
 ·intro i c' v hc hv
  match i with
  | 0=>simp at hc hv;subst hc;subst hv;exact pO
  | i+1=>simp at hc
 ·rintro e w' ⟨v,r,h',S',rfl,rfl,h1,h2,h3⟩
  refine ⟨by rw [h1.me],h3.os,h3.tape,h3.output,h3.size,fun k hk=>(h3.keep k hk).2⟩
end Go.Eng
namespace Go.Eng
open Go
variable [bF]
def oT (e:Env) (d:Option Nat) (o:Option AV):Env:=match d with
 | some d=>fun s=>if d=s then o else e s
 | none=>e
theorem iH {e:Env} {d:Option Nat} {o:Option AV} {s:Nat} (h:d≠some s):oT e d o s=e s:=by
 cases d with
 | none=>rfl
 | some d=>simp only [oT];rw [if_neg (fun e=>h (by rw [e]))]
theorem kZ {e:Env} {o:Option AV} {s:Nat}:oT e (some s) o s=o:=by simp [oT]
section order
variable {P:Program} {all:Array Oper} {n m:Nat} {hp:Heap}
def tZ (all:Array Oper) (mc:Nat→Option AV) (e:Env) (listed:Array Bool):Nat→Env
 | 0=>e
 | k+1=>if listed.getD k false then oT (tZ all mc e listed k) ((all[k]?).bind (·.dst)) (mc k) else tZ all mc e listed k
variable {mc:Nat→Option AV} {en:Nat→Env} {e:Env}
theorem I2 (hB:tI all m) {listed:Array Bool} (L:MH all m listed) (h0:en 0=e) (hs:∀ i o,i < m→all[i]? =some o→en (i+1)=oT (en i) o.dst (mc i)) (hm:m≤all.size)
 {i:Nat} {o:Oper} (ho:all[i]? =some o) (Ed:i < m) (vK:listed.getD i false=false) (hr:∀ j,yH all i j→listed.getD j false=true) {s:Nat} (Gk:s∈looks all o):∀ k,k≤all.size→tZ all mc e listed k s=en (min k i) s:=by
 intro k
 induction k with
 | zero=>intro _;simp [tZ,h0]
 | succ k ih=>
   intro hk
   have tX:=ih (by omega)
   have tY:all[k]? =some all[k]:=by simp [show k < all.size by omega]
   simp only [tZ,tY,Option.bind_some]
   rcases Nat.lt_trichotomy k i with iT | heq | Kn
   ·rw [Nat.min_eq_left (by omega)] at tX
    rw [Nat.min_eq_left (by omega),hs k _ (by omega) tY]
    by_cases hd:(all[k]).dst=some s
    ·have hl:listed.getD k false=true:=hr k ((jD hB ho tY iT).1 Ed (wy hd Gk))
     rw [if_pos hl,hd,kZ,kZ]
    ·rw [iH hd]
     split
     ·rw [iH hd];exact tX
     ·exact tX
   ·subst heq
    rw [vK]
    simp only [Bool.false_eq_true,if_false]
    rw [Nat.min_eq_right (by omega)]
    rw [Nat.min_eq_right (by omega)] at tX
    exact tX
   ·rw [Nat.min_eq_right (by omega)] at tX
    rw [Nat.min_eq_right (by omega)]
    by_cases hl:listed.getD k false=true
    ·by_cases hd:(all[k]).dst=some s
     ·exfalso
      have hw:=(jD hB tY ho Kn).1 (L.head k hl) (yK hd Gk)
      have:=kJ.Nk L.closed hw hl
      rw [vK] at this;cases this
     ·rw [if_pos hl,iH hd];exact tX
    ·rw [if_neg hl];exact tX
theorem KG (hB:tI all m) {listed:Array Bool} (L:MH all m listed) {i:Nat} {o:Oper} (ho:all[i]? =some o) (Ed:i < m) (vK:listed.getD i false=false) (s:Nat):
 ∀ k,k≤all.size→tZ all mc e (listed.setIfInBounds i true) k s=(if i < k then oT (tZ all mc e listed k) o.dst (mc i) s else tZ all mc e listed k s):=by
 have hi:i < listed.size:=by rw [L.size];exact (Array.getElem?_eq_some_iff.1 ho).1
 intro k
 induction k with
 | zero=>intro _;simp [tZ]
 | succ k ih=>
   intro hk
   have tX:=ih (by omega)
   have tY:all[k]? =some all[k]:=by simp [show k < all.size by omega]
   simp only [tZ,tY,Option.bind_some,iG hi]
   rcases Nat.lt_trichotomy k i with iT | heq | Kn
   ·rw [if_neg (by omega)] at tX
    have e1:(if k=i then true else listed.getD k false)=listed.getD k false:=if_neg (by omega)
    rw [e1,if_neg (show ¬ i < k+1 by omega)]
    by_cases hl:listed.getD k false=true
    ·rw [if_pos hl,if_pos hl]
     by_cases hd:(all[k]).dst=some s
     ·rw [hd,kZ,kZ]
     ·rw [iH hd,iH hd];exact tX
    ·rw [if_neg hl,if_neg hl];exact tX
   ·subst heq
    rw [if_neg (by omega)] at tX
    have e1:(if k=k then true else listed.getD k false)=true:=if_pos rfl
    rw [e1,if_pos (show k < k+1 by omega),if_pos rfl,vK,if_neg Bool.false_ne_true]
    obtain rfl:all[k]=o:=by rw [tY] at ho;exact Option.some.inj ho
    by_cases hd:(all[k]).dst=some s
    ·rw [hd,kZ,kZ]
    ·rw [iH hd,iH hd];exact tX
   ·rw [if_pos Kn] at tX
    have e1:(if k=i then true else listed.getD k false)=listed.getD k false:=if_neg (by omega)
    rw [e1,if_pos (show i < k+1 by omega)]
    by_cases hl:listed.getD k false=true
    ·rw [if_pos hl,if_pos hl]
     by_cases hd:(all[k]).dst=some s
     ·by_cases IX:o.dst=some s
      ·exfalso
       have hw:=(jD hB tY ho Kn).1 (L.head k hl) (B7 IX hd)
       have:=kJ.Nk L.closed hw hl
       rw [vK] at this;cases this
      ·rw [hd,kZ,iH IX,kZ]
     ·by_cases IX:o.dst=some s
      ·rw [iH hd,tX,IX,kZ,kZ]
      ·rw [iH hd,tX,iH IX,iH IX,iH hd]
    ·rw [if_neg hl,if_neg hl];exact tX
structure Tok where
 prod:Option Nat
 cons:Option Nat
 Wd:List Nat
 ent:Bk→Bk×Ob
 UX:Option Nat
 Yc:List Nat
def Tok.ix (t:Tok):Option Nat:=match t.UX with | some a=>some a | none=>t.prod
def Tok.at (t:Tok) (β:Nat→Bk):Bk×Ob:=t.ent (match t.ix with | some i=>β i | none=>⟨none,0⟩)
def wz (listed:Array Bool) (t:Tok):Bool:=(match t.prod with | none=>true | some i=>listed.getD i false)&&(match t.cons with | none=>true | some i=>!listed.getD i false)
def zc (i:Nat) (t:Tok):Bool:=match t.cons with | some c=>Nat.beq c i | none=>false
def Nq (i:Nat) (t:Tok):Bool:=match t.prod with | some c=>Nat.beq c i | none=>false
def HN (i:Nat) (t:Tok):Bool:=t.Wd.contains i
def w7 (tk:List Tok) (i:Nat) (β:Nat→Bk):Heap:=(tk.filter (HN i)).map (·.at β)
def ME (i:Nat) (t:Tok):Bool:=t.Yc.contains i
def vL (tk:List Tok) (i:Nat) (β:Nat→Bk):List Heap:=match tk.filter (ME i) with
 | []=>[w7 tk i β]
 | l=>l.map fun t=>t.at β :: w7 tk i β
def ql (tk:List Tok) (listed:Array Bool) (β:Nat→Bk):Heap:=(tk.filter (wz listed)).map (·.at β)
def ua (tk:List Tok) (i:Nat) (β:Nat→Bk):Heap:=(tk.filter (zc i)).map (·.at β)
def k6 (tk:List Tok) (i:Nat) (β:Nat→Bk):Heap:=(tk.filter (Nq i)).map (·.at β)
def oY (β:Nat→Bk) (i:Nat) (b:Bk):Nat→Bk:=fun k=>bif Nat.beq k i then b else β k
theorem Nr (β:Nat→Bk) (i:Nat) (b:Bk):oY β i b i=b:=by simp [oY]
theorem HO {β:Nat→Bk} {i k:Nat} {b:Bk} (h:k≠i):oY β i b k=β k:=by simp [oY,pc h]
def KH (tk:List Tok) (β:Nat→Bk):Heap:=(tk.filter (fun t=>t.cons.isNone)).map (·.at β)
def SL (A:List Nat) (m:Nat) (tk:List Tok):Bool:=tk.all fun t=>
 (match t.prod with | some p=>Nat.blt p m | none=>true)&&(match t.cons with | some c=>Nat.blt c m&&(match t.prod with | some p=>(A.getD c 0).testBit p | none=>true) | none=>true)&&
 (match t.UX with | some a=>(match t.prod with | some p=>(A.getD p 0).testBit a | none=>false) | none=>true)&&
 t.Wd.all fun i=>Nat.blt i m&&(match t.prod with | some p=>(A.getD i 0).testBit p | none=>true)&&(match t.cons with | some c=>(A.getD c 0).testBit i | none=>true)
def O8 (A:List Nat) (m:Nat) (tk:List Tok):Bool:=(List.range m).all fun i=>match tk.filter (ME i) with
 | []=>true
 | [t0,t1]=>(match t0.cons,t1.prod with | some j,some j'=>Nat.beq j j'&&!Nat.beq j i | _,_=>false)&&(match t0.prod with | some p=>(A.getD i 0).testBit p | none=>true)&&(match t1.cons with | some c=>(A.getD c 0).testBit i | none=>true)&&!HN i t0&&!HN i t1
 | _=>false
def GD (all:Array Oper) (m:Nat) (tk:List Tok):Prop:=∀ i,i < m→tk.filter (ME i)=[]∨∃ t0 t1 j,tk.filter (ME i)=[t0,t1]∧t0.cons=some j∧t1.prod=some j∧j≠i∧(∀ p,t0.prod=some p→yH all i p)∧(∀ c,t1.cons=some c→yH all c i)∧HN i t0=false∧HN i t1=false
theorem GF {A:List Nat} {tk:List Tok} (hA:IW all=A) (h:O8 A m tk=true):GD all m tk:=by
 intro i hi
 have:=List.all_eq_true.1 h i (List.mem_range.2 hi)
 split at this
 ·rename_i e;exact .inl e
 ·rename_i t0 t1 e
  simp only [Bool.and_eq_true,Bool.not_eq_true'] at this
  obtain ⟨⟨⟨⟨h1,h2⟩,h3⟩,h4⟩,h5⟩:=this
  split at h1
  ·rename_i j j' hj RI
   simp only [Bool.and_eq_true,Bool.not_eq_true'] at h1
   obtain ⟨h6,h7⟩:=h1
   obtain rfl:=Nat.eq_of_beq_eq_true h6
   refine .inr ⟨t0,t1,j,e,hj,RI,fun e=>by rw [e] at h7;simp at h7,fun p hp=>?_,fun c hc=>?_,h4,h5⟩
   ·rw [hp] at h2;subst hA;exact nO h2
   ·rw [hc] at h3;subst hA;exact nO h3
  ·cases h1
 ·cases this
def Ag (all:Array Oper) (m:Nat) (tk:List Tok):Prop:=∀ t∈tk,(∀ p,t.prod=some p→p < m)∧(∀ c,t.cons=some c→c < m∧∀ p,t.prod=some p→yH all c p)∧(∀ i,HN i t=true→i < m∧(∀ p,t.prod=some p→yH all i p)∧∀ c,t.cons=some c→yH all c i)∧∀ a,t.UX=some a→∃ p,t.prod=some p∧yH all p a
theorem I3 {A:List Nat} {tk:List Tok} (hA:IW all=A) (h:SL A m tk=true):Ag all m tk:=by
 intro t ht
 have:=List.all_eq_true.1 h t ht
 rw [Bool.and_eq_true,Bool.and_eq_true,Bool.and_eq_true] at this
 obtain ⟨⟨⟨h1,h2⟩,h9⟩,h4⟩:=this
 subst hA
 refine ⟨fun p hp=>by rw [hp] at h1;simpa using h1,fun c hc=>?_,fun i hi=>?_,fun a ha=>?_⟩
 ·rw [hc] at h2
  simp only [Bool.and_eq_true] at h2
  refine ⟨by simpa using h2.1,fun p hp=>?_⟩
  have h3:=h2.2
  rw [hp] at h3
  exact nO h3
 ·have h5:=List.all_eq_true.1 h4 i (by simpa [HN] using hi)
  rw [Bool.and_eq_true,Bool.and_eq_true] at h5
  obtain ⟨⟨h6,h7⟩,h8⟩:=h5
  exact ⟨by simpa using h6,fun p hp=>by rw [hp] at h7;exact nO h7,fun c hc=>by rw [hc] at h8;exact nO h8⟩
 ·rw [ha] at h9
  cases hp:t.prod with
  | none=>rw [hp] at h9;cases h9
  | some p=>rw [hp] at h9;exact ⟨p,rfl,nO h9⟩
theorem tg {α:Type} (p q:α→Bool) (l:List α):(l.filter p).Perm (l.filter (fun x=>p x&&q x)++l.filter (fun x=>p x&&!q x)):=by
 induction l with
 | nil=>exact List.Perm.refl _
 | cons x l ih=>
   simp only [List.filter_cons]
   cases hp:p x<;>cases hq:q x
   ·simpa using ih
   ·simpa using ih
   ·simp only [Bool.true_and,Bool.not_false,Bool.false_eq_true,if_false,if_true]
    exact (List.Perm.cons x ih).trans List.perm_middle.symm
   ·simp only [Bool.true_and,Bool.not_true,Bool.false_eq_true,if_false,if_true,List.cons_append]
    exact List.Perm.cons x ih
theorem P6 {tk:List Tok} (hT:Ag all m tk) {listed:Array Bool} {i:Nat} (vK:listed.getD i false=false) (Dg:∀ j,yH all i j→listed.getD j false=true) (β:Nat→Bk):
 (ql tk listed β).Perm (ua tk i β++(tk.filter (fun t=>wz listed t&&!zc i t)).map (·.at β)):=by
 unfold ql ua
 rw [← List.map_append]
 refine List.Perm.map _ ?_
 have e:tk.filter (zc i)=tk.filter (fun t=>wz listed t&&zc i t):=by
  apply List.filter_congr
  intro t ht
  cases hc:zc i t with
  | false=>simp
  | true=>
    unfold zc at hc
    split at hc
    ·rename_i c Ns
     obtain rfl:c=i:=Nat.eq_of_beq_eq_true hc
     have:=(hT t ht).2.1 c Ns
     have MG:wz listed t=true:=by
      unfold wz
      rw [Ns]
      simp only [vK,Bool.not_false,Bool.and_true]
      split
      ·rfl
      ·rename_i p hp;exact Dg p (this.2 p hp)
     rw [MG];rfl
    ·cases hc
 rw [e]
 exact tg _ _ _
theorem Nt {tk:List Tok} (hT:Ag all m tk) {listed:Array Bool} (Bz:kJ all listed) {i:Nat} (hi:i < listed.size) (vK:listed.getD i false=false) (Dh:∀ c,yH all c i→c≠i) (β:Nat→Bk) (b:Bk):
 (ql tk (listed.setIfInBounds i true) (oY β i b)).Perm (k6 tk i (oY β i b)++(tk.filter (fun t=>wz listed t&&!zc i t)).map (·.at β)):=by
 unfold ql k6
 have e2:(tk.filter (fun t=>wz listed t&&!zc i t)).map (·.at β)=(tk.filter (fun t=>wz listed t&&!zc i t)).map (·.at (oY β i b)):=by
  apply List.map_congr_left
  intro t ht
  have h0:=(List.mem_filter.1 ht).1
  have h1:=(List.mem_filter.1 ht).2
  rw [Bool.and_eq_true] at h1
  have UQ:∀ p,t.prod=some p→listed.getD p false=true:=by
   intro p hp
   have:=h1.1
   unfold wz at this
   rw [hp,Bool.and_eq_true] at this
   exact this.1
  unfold Tok.at
  cases hx:t.ix with
  | none=>rfl
  | some p=>
    have MC:listed.getD p false=true:=by
     unfold Tok.ix at hx
     cases ha:t.UX with
     | none=>rw [ha] at hx;exact UQ p hx
     | some a=>
       rw [ha] at hx
       obtain rfl:=Option.some.inj hx
       obtain ⟨q,q1,q2⟩:=(hT t h0).2.2.2 a ha
       exact Bz.Nk q2 (UQ q q1)
    have:p≠i:=fun e=>by subst e;rw [vK] at MC;cases MC
    simp only [HO this]
 rw [e2,← List.map_append]
 refine List.Perm.map _ ?_
 refine (tg _ (Nq i) _).trans ?_
 have f1:tk.filter (fun t=>wz (listed.setIfInBounds i true) t&&Nq i t)=tk.filter (Nq i):=by
  apply List.filter_congr
  intro t ht
  cases hp:Nq i t with
  | false=>simp
  | true=>
    unfold Nq at hp
    split at hp
    ·rename_i p RJ
     obtain rfl:p=i:=Nat.eq_of_beq_eq_true hp
     have MG:wz (listed.setIfInBounds p true) t=true:=by
      unfold wz
      rw [RJ]
      simp only [iG hi,if_true,Bool.true_and]
      cases hc:t.cons with
      | none=>rfl
      | some c=>
        have Dg:=((hT t ht).2.1 c hc).2 p RJ
        have mb:=Dh c Dg
        simp only [mb,if_false]
        cases hl:listed.getD c false with
        | false=>rfl
        | true=>have:=Bz.Nk Dg hl;rw [vK] at this;cases this
     rw [MG];rfl
    ·cases hp
 have f2:tk.filter (fun t=>wz (listed.setIfInBounds i true) t&&!Nq i t)=tk.filter (fun t=>wz listed t&&!zc i t):=by
  apply List.filter_congr
  intro t ht
  unfold wz Nq zc
  cases hp:t.prod with
  | none=>
    cases hc:t.cons with
    | none=>simp
    | some c=>
      simp only [iG hi]
      by_cases ML:c=i
      ·subst ML;simp
      ·have:Nat.beq c i=false:=pc ML
       simp [ML,this]
  | some p=>
    by_cases UY:p=i
    ·subst UY
     simp [vK]
    ·have hb:Nat.beq p i=false:=pc UY
     cases hc:t.cons with
     | none=>simp [iG hi,UY,hb]
     | some c=>
       simp only [iG hi,UY,hb,if_false]
       by_cases ML:c=i
       ·subst ML;simp
       ·have:Nat.beq c i=false:=pc ML
        simp [ML,this]
 rw [f1,f2]
theorem KI {tk:List Tok} (hT:Ag all m tk) {listed:Array Bool} (Bz:kJ all listed) {i:Nat} (vK:listed.getD i false=false) (Dg:∀ j,yH all i j→listed.getD j false=true) (Dh:∀ c,yH all c i→c≠i) (β:Nat→Bk):
 ((tk.filter (fun t=>wz listed t&&!zc i t)).map (·.at β)).Perm (w7 tk i β++(tk.filter (fun t=>(wz listed t&&!zc i t)&&!HN i t)).map (·.at β)):=by
 unfold w7
 rw [← List.map_append]
 refine List.Perm.map _ ?_
 have e:tk.filter (HN i)=tk.filter (fun t=>(wz listed t&&!zc i t)&&HN i t):=by
  apply List.filter_congr
  intro t ht
  cases hr:HN i t with
  | false=>simp
  | true=>
    obtain ⟨_,q2,q3⟩:=(hT t ht).2.2.1 i hr
    have h1:wz listed t=true:=by
     unfold wz
     have e1:(match t.prod with | none=>true | some i=>listed.getD i false)=true:=by
      cases hp:t.prod with
      | none=>rfl
      | some p=>exact Dg p (q2 p hp)
     have e2:(match t.cons with | none=>true | some i=>!listed.getD i false)=true:=by
      cases hc:t.cons with
      | none=>rfl
      | some c=>
        have:=q3 c hc
        show (!listed.getD c false)=true
        cases hl:listed.getD c false with
        | false=>rfl
        | true=>have:=Bz.Nk this hl;rw [vK] at this;cases this
     rw [e1,e2];rfl
    have h2:zc i t=false:=by
     unfold zc
     cases hc:t.cons with
     | none=>rfl
     | some c=>exact pc (Dh c (q3 c hc))
    rw [h1,h2];rfl
 rw [e]
 exact tg _ _ _
theorem I4 {tk:List Tok} (hT:Ag all m tk) (hS:GD all m tk) {listed:Array Bool} (Bz:kJ all listed) {i:Nat} (Ed:i < m) (vK:listed.getD i false=false) (Dg:∀ j,yH all i j→listed.getD j false=true) (Dh:∀ c,yH all c i→c≠i) (β:Nat→Bk):
 ∃ X∈vL tk i β,∃ rest,((tk.filter (fun t=>wz listed t&&!zc i t)).map (·.at β)).Perm (X++rest):=by
 have h0:=KI hT Bz vK Dg Dh β
 rcases hS i Ed with e | ⟨t0,t1,j,e,a1,a2,a3,a4,a5,a6,a7⟩
 ·exact ⟨w7 tk i β,by unfold vL;rw [e];simp,_,h0⟩
 ·have m0:t0∈tk:=(List.mem_filter.1 (by rw [e];simp:t0∈tk.filter (ME i))).1
  have m1:t1∈tk:=(List.mem_filter.1 (by rw [e];simp:t1∈tk.filter (ME i))).1
  have go:∀ t,t∈tk→wz listed t=true→zc i t=false→HN i t=false→∃ rest,((tk.filter (fun t=>wz listed t&&!zc i t)).map (·.at β)).Perm ((t.at β :: w7 tk i β)++rest):=by
   intro t ht h1 h2 h3
   have hm:t∈tk.filter (fun t=>(wz listed t&&!zc i t)&&!HN i t):=List.mem_filter.2 ⟨ht,by simp [h1,h2,h3]⟩
   obtain ⟨a,b,vM⟩:=List.append_of_mem hm
   rw [vM] at h0
   refine ⟨(a++b).map (·.at β),h0.trans ?_⟩
   rw [List.map_append,List.map_cons,List.map_append]
   refine (List.Perm.append_left _ List.perm_middle).trans ?_
   exact List.perm_middle
  have hX:∀ t,t∈[t0,t1]→(t.at β :: w7 tk i β)∈vL tk i β:=by
   intro t ht
   unfold vL
   rw [e]
   exact List.mem_map.2 ⟨t,ht,rfl⟩
  cases hj:listed.getD j false with
  | false=>
    have h1:wz listed t0=true:=by
     unfold wz
     rw [a1]
     simp only [hj,Bool.not_false,Bool.and_true]
     split
     ·rfl
     ·rename_i p hp;exact Dg p (a4 p hp)
    have h2:zc i t0=false:=by unfold zc;rw [a1];exact pc a3
    obtain ⟨rest,hr⟩:=go t0 m0 h1 h2 a6
    exact ⟨_,hX t0 (by simp),rest,hr⟩
  | true=>
    have h1:wz listed t1=true:=by
     unfold wz
     rw [a2]
     simp only [hj,Bool.true_and]
     split
     ·rfl
     ·rename_i c hc
      cases hl:listed.getD c false with
      | false=>rfl
      | true=>have:=Bz.Nk (a5 c hc) hl;rw [vK] at this;cases this
    have h2:zc i t1=false:=by
     unfold zc
     split
     ·rename_i c hc;exact pc (Dh c (a5 c hc))
     ·rfl
    obtain ⟨rest,hr⟩:=go t1 m1 h1 h2 a7
    exact ⟨_,hX t1 (by simp),rest,hr⟩
def TV (P:Program) (all:Array Oper) (n:Nat) (B:Heap) (o:Oper) (e:Env) (Ti:Heap) (V:Bk→AV) (Pi:Bk→Heap):Prop:=
 ∀ w S a,a.tmps.size=n→a.defers=[]→ck w S (Ti++B)→C8 w S (looks all o) e a→∀ (K:Act→World→Prop) (Q:Exit→Act→World→Prop),
   (∀ b v w' S',iE w S (Ti++B) w' S' (Pi b++B)→ck w' S' (Pi b++B)→At w' S' (V b) v→K (a.put o.dst v) w')→o.wp P a w K Q
def qR (P:Program) (all:Array Oper) (n:Nat) (B:Heap) (o:Oper) (e:Env) (Ti:Heap) (V:Bk→AV) (Pi:Bk→Heap):Prop:=
 (∀ d,o.dst=some d→d < n)∧((nD all o e true∧TV P all n B o e Ti V Pi)∨(nD all o e false∧∀ b,Pi b=Ti∧V b=.raw undef))
def I5 (e c:Env):Env:=fun s=>match e s with | some av=>some av | none=>c s
theorem KJ {e c:Env} {s:Nat} {av:AV} (h:e s=some av):I5 e c s=some av:=by simp [I5,h]
theorem nD.up {all:Array Oper} {o:Oper} {e c:Env} {b:Bool} (h:nD all o e b):nD all o (I5 e c) b:=by
 unfold nD at *
 cases hg:o.guard with
 | none=>rw [hg] at h;exact h
 | some g=>
   rw [hg] at h
   obtain ⟨s,h1,h2⟩:=h
   refine ⟨s,h1,?_⟩
   rcases h2 with ⟨x,h3,h4⟩ | ⟨h3,h4⟩
   ·exact .inl ⟨x,KJ h3,h4⟩
   ·exact .inr ⟨KJ h3,h4⟩
theorem C8.down {w:World} {S:Nat→Prop} {ls:List Nat} {e c:Env} {a:Act} (h:C8 w S ls (I5 e c) a):C8 w S ls e a:=fun s hs av qM=>h s hs av (KJ qM)
theorem qR.up {P:Program} {all:Array Oper} {n:Nat} {B:Heap} {o:Oper} {e c:Env} {Ti:Heap} {V:Bk→AV} {Pi:Bk→Heap} (h:qR P all n B o e Ti V Pi):qR P all n B o (I5 e c) Ti V Pi:=by
 refine ⟨h.1,h.2.imp (fun x=>⟨x.1.up,fun w S a h1 h2 h3 h4=>x.2 w S a h1 h2 h3 h4.down⟩) (fun x=>⟨x.1.up,x.2⟩)⟩
theorem KK {all:Array Oper} {mc:Nat→Option AV} {V:Nat→Bk→AV} {cn:Nat→(Nat→Bk)→Env} {m:Nat} (h0:∀ β s,cn 0 β s=none) (hc:∀ i o,i < m→all[i]? =some o→∀ β,cn (i+1) β=match mc i with | none=>oT (cn i β) o.dst (some (V i (β i))) | some _=>cn i β) (hm:m≤all.size):
 ∀ i,i≤m→∀ β s av,cn i β s=some av→∃ k o,k < i∧all[k]? =some o∧o.dst=some s∧mc k=none∧av=V k (β k):=by
 intro i
 induction i with
 | zero=>intro _ β s av h;rw [h0] at h;cases h
 | succ i ih=>
   intro hi β s av h
   have tY:all[i]? =some all[i]:=by simp [show i < all.size by omega]
   rw [hc i _ (by omega) tY] at h
   cases qM:mc i with
   | some x=>
     rw [qM] at h
     obtain ⟨k,o,h1,h2⟩:=ih (by omega) β s av h
     exact ⟨k,o,by omega,h2⟩
   | none=>
     rw [qM] at h
     by_cases hd:(all[i]).dst=some s
     ·simp only [hd,kZ] at h
      exact ⟨i,_,by omega,tY,hd,qM,(Option.some.inj h).symm⟩
     ·simp only [iH hd] at h
      obtain ⟨k,o,h1,h2⟩:=ih (by omega) β s av h
      exact ⟨k,o,by omega,h2⟩
theorem I6 {cn:Nat→(Nat→Bk)→Env} {B:Heap} {tk:List Tok} {V:Nat→Bk→AV} (hB:tI all m) (hT:Ag all m tk) (hSf:GD all m tk) (hm:m≤all.size) {Q:Exit→Act→World→Prop} (h0:en 0=e)
 (Ku:∀ β s,cn 0 β s=none) (hcn:∀ i o,i < m→all[i]? =some o→∀ β,cn (i+1) β=match mc i with | none=>oT (cn i β) o.dst (some (V i (β i))) | some _=>cn i β)
 (hs:∀ i o,i < m→all[i]? =some o→(∀ β,∀ X∈vL tk i β,qR P all n (X++B) o (I5 (en i) (cn i β)) (ua tk i β) (V i) (fun b=>k6 tk i (oY β i b)))∧en (i+1)=oT (en i) o.dst (mc i)∧(∀ av,mc i=some av→∀ b,V i b=av))
 (hU:∀ i j oi oj d,i < m→j < m→i≠j→all[i]? =some oi→all[j]? =some oj→mc i=none→oi.dst=some d→oj.dst≠some d) {w0:World} {S0:Nat→Prop} {UZ:Heap}
 (fin:∀ β a w S,a.tmps.size=n→a.defers=[]→ck w S (KH tk β++B)→iE w0 S0 UZ w S (KH tk β++B)→Ab w S (en m) a→(∀ j o d,j < m→all[j]? =some o→mc j=none→o.dst=some d→∃ v,a.tmps[d]? =some v∧At w S (V j (β j)) v)→wpList P all Q (all.toList.drop m) a w):
 ∀ (fuel:Nat) (listed:Array Bool) (a:Act) (w:World) (S:Nat→Prop) (β:Nat→Bk),MH all m listed→(listed.toList.count true)+fuel=all.size→a.tmps.size=n→a.defers=[]→ck w S (ql tk listed β++B)→iE w0 S0 UZ w S (ql tk listed β++B)→Ab w S (tZ all mc e listed all.size) a→
   (∀ j o d,listed.getD j false=true→all[j]? =some o→mc j=none→o.dst=some d→∃ v,a.tmps[d]? =some v∧At w S (V j (β j)) v)→
   wpAny P .any all Q fuel listed a w:=by
 have SD:∀ i o,i < m→all[i]? =some o→en (i+1)=oT (en i) o.dst (mc i):=fun i o h1 h2=>(hs i o h1 h2).2.1
 have Dh:∀ c i,yH all c i→c≠i:=by
  have key:∀ c i,yH all c i→i < c:=by
   intro c i h
   have one:∀ {j i:Nat} {oj:Oper},all[j]? =some oj→waits oj i=true→i < j:=by
    intro j i oj hj hw
    simp only [waits,List.any_eq_true,Bool.and_eq_true] at hw
    obtain ⟨e',V7,zT,P1⟩:=hw
    have:=wx hB hj (by simpa using V7) zT
    obtain rfl:e'.on=i:=Nat.eq_of_beq_eq_true P1
    exact this
   induction h with
   | one hj hw=>exact one hj hw
   | step hj hw _ ih=>have:=one hj hw;omega
  intro c i h e;have:=key c i h;omega
 have done:∀ (fuel:Nat) (listed:Array Bool) (a:Act) (w:World) (S:Nat→Prop) (β:Nat→Bk),MH all m listed→(listed.toList.count true)+fuel=all.size→a.tmps.size=n→a.defers=[]→ck w S (ql tk listed β++B)→iE w0 S0 UZ w S (ql tk listed β++B)→Ab w S (tZ all mc e listed all.size) a→
  (∀ j o d,listed.getD j false=true→all[j]? =some o→mc j=none→o.dst=some d→∃ v,a.tmps[d]? =some v∧At w S (V j (β j)) v)→
  (∀ i,i < m→listed.getD i false=true)→wpAny P .any all Q fuel listed a w:=by
  intro fuel listed a w S β L hc gG GC hr hg qe GG gU
  have JR:∀ i,m≤i→listed.getD i false=false:=fun i hi=>by
   cases hv:listed.getD i false with
   | false=>rfl
   | true=>have:=L.head i hv;omega
  have P2:listed.toList.count true=m:=by
   have:listed.toList=List.replicate m true++List.replicate (all.size - m) false:=by
    apply List.ext_getElem?
    intro i
    rcases Nat.lt_or_ge i m with hi | hi
    ·have oX:i < listed.size:=by rw [L.size];omega
     rw [List.getElem?_append_left (by simpa using hi)]
     have:=gU i hi
     simp [oX] at this
     simp [oX,hi,this]
    ·rw [List.getElem?_append_right (by simpa using hi)]
     rcases Nat.lt_or_ge i listed.size with oX | oX
     ·have:=JR i hi
      simp [oX] at this
      have h2:i - m < all.size - m:=by rw [L.size] at oX;omega
      simp [oX,h2,this]
     ·have h2:¬ i - m < all.size - m:=by rw [L.size] at oX;omega
      simp [List.getElem?_eq_none (l:=listed.toList) (by simpa using oX),h2]
   rw [this,List.count_append,List.count_replicate,List.count_replicate]
   simp
  have P3:tZ all mc e listed all.size=en m:=by
   have key:∀ k,k≤all.size→tZ all mc e listed k=en (min k m):=by
    intro k
    induction k with
    | zero=>intro _;simp [tZ,h0]
    | succ k ih=>
      intro hk
      have tY:all[k]? =some all[k]:=by simp [show k < all.size by omega]
      simp only [tZ,tY,Option.bind_some,ih (by omega)]
      rcases Nat.lt_or_ge k m with h | h
      ·rw [if_pos (gU k h),Nat.min_eq_left (by omega),Nat.min_eq_left (by omega),SD k _ h tY]
      ·rw [if_neg (by rw [JR k h];simp),Nat.min_eq_right (by omega),Nat.min_eq_right (by omega)]
   rw [key all.size (Nat.le_refl _),Nat.min_eq_right hm]
  have SN:ql tk listed β=KH tk β:=by
   unfold ql KH
   congr 1
   apply List.filter_congr
   intro t ht
   obtain ⟨q1,q2,_⟩:=hT t ht
   unfold wz
   cases hp:t.prod with
   | none=>
     cases hc:t.cons with
     | none=>rfl
     | some c=>simp [gU c (q2 c hc).1]
   | some p=>
     cases hc:t.cons with
     | none=>simp [gU p (q1 p hp)]
     | some c=>simp [gU c (q2 c hc).1]
  rw [P3] at qe
  rw [SN] at hr hg
  exact EE hB fuel m listed a w (Nat.le_refl _) (by omega) L.size gU JR (fin β a w S gG GC hr hg qe (fun j o d hj ho qM hd=>GG j o d (gU j hj) ho qM hd))
 intro fuel
 induction fuel with
 | zero=>
   intro listed a w S β L hc gG GC hr hg qe GG
   refine done 0 listed a w S β L hc gG GC hr hg qe GG (fun i hi=>?_)
   have EF:listed.toList.count true=listed.toList.length:=by rw [Array.length_toList,L.size];omega
   have gU:=List.count_eq_length.1 EF
   have oX:i < listed.size:=by rw [L.size];omega
   have:=gU listed[i] (by simp)
   simp [oX];exact this.symm
 | succ fuel ih=>
   intro listed a w S β L hc gG GC hr hg qe GG
   by_cases gU:∀ i,i < m→listed.getD i false=true
   ·exact done _ listed a w S β L hc gG GC hr hg qe GG gU
   ·refine ⟨fun IZ=>(gU fun i hi=>x6 hB L.size IZ i (by omega)).elim,fun i hi=>?_⟩
    obtain ⟨Ko,Kp⟩:=vi hi
    have vK:=zC Kp
    have yJ:all[i]? =some all[i]:=by simp [Ko]
    have Ed:i < m:=by
     rcases Nat.lt_or_ge i m with h | h
     ·exact h
     ·refine (gU fun j hj=>?_).elim
      have MF:all[j]? =some all[j]:=by simp [show j < all.size by omega]
      exact kJ.ready L.closed ((jD hB yJ MF (by omega)).2 h) hi
    have oX:i < listed.size:=by rw [L.size];exact Ko
    obtain ⟨We,_,hV⟩:=hs i _ Ed yJ
    obtain ⟨X,hX,rest,Yd⟩:=I4 hT hSf L.closed Ed vK (fun j hj=>kJ.ready L.closed hj hi) (fun c h=>Dh c i h) β
    obtain ⟨MB,Ks⟩:=We β X hX
    have x5:C8 w S (looks all all[i]) (I5 (en i) (cn i β)) a:=by
     intro s Gk av qM
     rw [I5] at qM
     cases P7:en i s with
     | none=>
       rw [P7] at qM
       obtain ⟨k,o,k1,k2,k3,k4,k5⟩:=KK Ku hcn hm i (by omega) β s av qM
       have U0:listed.getD k false=true:=kJ.ready L.closed ((jD hB yJ k2 k1).1 Ed (wy k3 Gk)) hi
       rw [k5]
       exact GG k o s U0 k2 k4 k3
     | some eW=>
     rw [P7] at qM
     obtain rfl:=Option.some.inj qM
     have hc:=I2 (mc:=mc) (en:=en) (e:=e) hB L h0 SD hm yJ Ed vK (fun j hj=>kJ.ready L.closed hj hi) Gk all.size (Nat.le_refl _)
     rw [Nat.min_eq_right (by omega)] at hc
     exact qe s eW (by rw [hc];exact P7)
    have L':MH all m (listed.setIfInBounds i true):=by
     refine ⟨by simpa using L.size,fun k hk=>?_,fun k j o hk tY hw=>?_⟩
     ·rw [iG oX] at hk
      split at hk
      ·omega
      ·exact L.head k hk
     ·rw [iG oX] at hk
      rw [iG oX]
      split
      ·rfl
      ·split at hk
       ·rename_i V8
        subst V8
        obtain rfl:all[k]=o:=by rw [yJ] at tY;exact Option.some.inj tY
        exact rV yJ hi hw
       ·exact L.closed k j o hk tY hw
    have EF:(listed.setIfInBounds i true).toList.count true+fuel=all.size:=by
     have Kt:listed[i]=false:=by simpa [oX] using vK
     have:(listed.setIfInBounds i true).toList=listed.toList.set i true:=by simp
     rw [this,List.count_set (by simpa using oX)]
     have Gv:listed.toList[i]'(by simpa using oX)=false:=by simpa using Kt
     rw [Gv]
     have e1:(if (false==true)=true then 1 else 0)=0:=rfl
     have e2:(if (true==true)=true then 1 else 0)=1:=rfl
     rw [e1,e2]
     omega
    have SO:∀ T:Heap,(T++(X++rest)++B).Perm ((T++(X++B))++rest):=fun T=>by
     rw [List.append_assoc,List.append_assoc,List.append_assoc,List.append_assoc]
     exact List.Perm.append_left _ (List.Perm.append_left _ List.perm_append_comm)
    have Ye:(ql tk listed β++B).Perm ((ua tk i β++(X++B))++rest):=
     (((P6 hT vK (fun j hj=>kJ.ready L.closed hj hi) β).trans (List.Perm.append_left _ Yd)).append_right B).trans (SO _)
    have SP:∀ b,((k6 tk i (oY β i b)++(X++B))++rest).Perm (ql tk (listed.setIfInBounds i true) (oY β i b)++B):=fun b=>
     List.Perm.symm ((((Nt hT L.closed oX vK (fun c h=>Dh c i h) β b).trans (List.Perm.append_left _ Yd)).append_right B).trans (SO _))
    have Wf:ck w S ((ua tk i β++(X++B))++rest):=hr.perm Ye
    have UT:∀ v,(a.put (all[i]).dst v).tmps.size=n:=fun v=>by cases (all[i]).dst<;>simp [Act.put,gG]
    have UU:∀ v,(a.put (all[i]).dst v).defers=[]:=fun v=>by cases (all[i]).dst<;>simp [Act.put,GC]
    have Wg:∀ {w1 w2:World} {S1 S2:Nat→Prop} {h1 h2 Hw Sv:Heap},iE w1 S1 h1 w2 S2 h2→h1.Perm Hw→h2.Perm Sv→iE w1 S1 Hw w2 S2 Sv:=by
     intro w1 w2 S1 S2 h1 h2 Hw Sv ev p1 p2
     have has:∀ {g g':Heap} {k:Nat},g.Perm g'→(Has g k↔Has g' k):=fun p=>
      ⟨fun ⟨x,hx,hb⟩=>⟨x,p.mem_iff.1 hx,hb⟩,fun ⟨x,hx,hb⟩=>⟨x,p.mem_iff.2 hx,hb⟩⟩
     exact ⟨ev.os,ev.tape,ev.output,ev.size,ev.keep,fun k hk hh=>ev.other k hk (fun hc=>hh ((has p1).1 hc)),fun k hk=>((ev.new k ((has p2).2 hk)).imp (has p1).1 id),ev.drawn⟩
    have next:∀ (b:Bk) (v:Value) (w':World) (S':Nat→Prop),iE w S (ua tk i β++(X++B)) w' S' (k6 tk i (oY β i b)++(X++B))→ck w' S' (k6 tk i (oY β i b)++(X++B))→At w' S' (V i b) v→wpAny P .any all Q fuel (listed.setIfInBounds i true) (a.put (all[i]).dst v) w':=by
     intro b v w' S' Nu Wh pO
     have O0:ck w' S' ((k6 tk i (oY β i b)++(X++B))++rest):=Wf.frame Nu Wh
     have ev2:=Nu.frame rest
     refine ih _ _ _ S' (oY β i b) L' EF (UT v) (UU v) (O0.perm (SP b)) (hg.trans (Wg ev2 Ye.symm (SP b))) ?_ ?_
     ·intro s av qM
      rw [KG (mc:=mc) (e:=e) hB L yJ Ed vK s all.size (Nat.le_refl _),if_pos (by omega)] at qM
      by_cases hd:(all[i]).dst=some s
      ·rw [hd,kZ] at qM
       have SE:=MB s hd
       exact ⟨v,by rw [hd];simp [Act.put,gG,SE],by rw [← hV av qM b];exact pO⟩
      ·rw [iH hd] at qM
       obtain ⟨u,h1,h2⟩:=qe s av qM
       refine ⟨u,?_,h2.mono Nu.keep⟩
       cases Db:(all[i]).dst with
       | none=>simpa [Act.put] using h1
       | some d'=>
         have mb:d'≠s:=fun e=>hd (by rw [Db,e])
         simp [Act.put,mb,h1]
     ·intro j o d hj ho qM hd
      by_cases U1:j=i
      ·subst U1
       rw [yJ] at ho;obtain rfl:=Option.some.inj ho
       have SE:=MB d hd
       exact ⟨v,by rw [hd];simp [Act.put,gG,SE],by rw [Nr];exact pO⟩
      ·have Ec:listed.getD j false=true:=by rw [iG oX,if_neg U1] at hj;exact hj
       obtain ⟨u,h1,h2⟩:=GG j o d Ec ho qM hd
       refine ⟨u,?_,by rw [HO U1];exact h2.mono Nu.keep⟩
       cases Db:(all[i]).dst with
       | none=>simpa [Act.put] using h1
       | some d'=>
         have mb:d'≠d:=fun e=>hU j i o all[i] d (L.head j Ec) Ed U1 ho yJ qM hd (by rw [Db,e])
         simp [Act.put,mb,h1]
    simp only [wpOp,yJ]
    rcases Ks with ⟨hw,V9⟩ | ⟨hw,qM⟩
    ·rw [if_pos (vj hw x5)]
     exact .inl (V9 w S a gG GC (Wf.sub (List.sublist_append_left _ _)) x5 _ _ (fun b v w' S' Nu Wh pO=>next b v w' S' Nu Wh pO))
    ·rw [if_neg (by rw [vj hw x5];simp)]
     obtain ⟨e1,e2⟩:=qM ⟨none,0⟩
     replace e1:k6 tk i (oY β i ⟨none,0⟩)=ua tk i β:=e1
     refine next ⟨none,0⟩ _ w S (by rw [e1];exact iE.refl _ _ _) (by rw [e1];exact Wf.sub (List.sublist_append_left _ _)) ?_
     rw [e2];exact .raw _
end order
end Go.Eng
namespace Go.Eng
open Go
variable [bF]
theorem KL {P:Program} {o:Oper} {a:Act} {K0 K:Act→World→Prop} {G:Act→World→Prop} {Q':Exit→Act→World→Prop} (hK:∀ v w',K0 (a.put o.dst v) w'→K (a.put o.dst v) w') (hd:∀ a' w',K0 a' w'→a'.defers=[]):
 ∀ r,o.upon P a K0 (wo G) r→o.upon P a K Q' r:=by
 intro r h
 unfold Oper.upon at *
 split at h
 ·exact hK _ _ h
 ·exact hK _ _ h
 ·rename_i d w'
  have:=hd _ _ h
  cases EP:o.dst<;>simp [Act.put,EP] at this
 ·refine Calls.mono h ?_
  intro e w' he
  cases e with
  | returned v=>exact hK _ _ he
  | panicked c=>cases he.1
  | outgrown=>obtain ⟨a0,w0,h0⟩:=he;cases h0.1
 ·exact Rows.mono h fun v w' hv=>hK _ _ hv
 ·cases h.1
 ·exact h.elim
theorem Nv {P:Program} {all:Array Oper} {o:Oper} {σ:St} {Q:St→Prop} (hg:o.guard=none) (h:ae P all [o] σ Q) {w:World} {S:Nat→Prop} {a:Act} (r:dx w S σ a) {K:Act→World→Prop} {Q':Exit→Act→World→Prop}
 (hK:∀ v w',UP w S σ.hp Q (a.put o.dst v) w'→K (a.put o.dst v) w'):o.wp P a w K Q':=by
 have:=h w S a r
 unfold wpList at this
 rw [if_pos (by simp [Region.wanted,hg])] at this
 rcases this with h1 | ⟨_,a0,w0,h0,_⟩
 ·refine KL (G:=UP w S σ.hp Q) (fun v w' hh=>hK v w' hh.2) (fun a' w' hh=>?_) _ h1
  obtain ⟨_,aG,S',_,hr,_⟩:=hh
  exact hr.defers
 ·cases h0
variable {P:Program} {all:Array Oper} {n:Nat} {B:Heap} {tk:List Tok}
def Nw (x:Option AV) (c:(Nat→Bk)→Env) (d:Option Nat) (V:Bk→AV) (i:Nat):(Nat→Bk)→Env:=fun β=>match x with | none=>oT (c β) d (some (V (β i))) | some _=>c β
inductive O9 (P:Program) (all:Array Oper) (n:Nat) (B:Heap) (tk:List Tok) (dy:List Nat):Nat→List Oper→Env→((Nat→Bk)→Env)→List (Option AV×(Bk→AV))→Env→Prop
 | nil (i:Nat) (e:Env) (c:(Nat→Bk)→Env):O9 P all n B tk dy i [] e c [] e
 | cons {i:Nat} {o:Oper} {l:List Oper} {e e':Env} {c:(Nat→Bk)→Env} {D:List (Option AV×(Bk→AV))} {x:Option AV} {V:Bk→AV} (h:∀ β,∀ X∈vL tk i β,qR P all n (X++B) o (I5 e (c β)) (ua tk i β) V (fun b=>k6 tk i (oY β i b))) (hv:∀ av,x=some av→∀ b,V b=av) (hx:x=none→dy.contains i=true)
  (k:O9 P all n B tk dy (i+1) l (oT e o.dst x) (Nw x c o.dst V i) D e'):O9 P all n B tk dy i (o :: l) e c ((x,V) :: D) e'
def x7 (β:Nat→Bk):Nat→List Oper→List (Option AV×(Bk→AV))→List (Nat×AV)→List (Nat×AV)
 | i,o :: l,(none,V) :: D,a=>match o.dst with
   | some d=>x7 β (i+1) l D ((d,V (β i)) :: a)
   | none=>x7 β (i+1) l D a
 | i,_ :: l,(some _,_) :: D,a=>x7 β (i+1) l D a
 | _,_,_,a=>a
def AT (P:Program) (all:Array Oper) (n:Nat) (B:Heap) (tk:List Tok) (dy:List Nat) (i:Nat) (l:List Oper) (tm:List (Nat×AV)) (acc:(Nat→Bk)→List (Nat×AV)) (Q:(Nat→Bk)→List (Nat×AV)→Prop):Prop:=
 ∃ D pP,O9 P all n B tk dy i l (lk tm) (fun β=>lk (acc β)) D (lk pP)∧∀ β,Q β (x7 β i l D (acc β)++pP)
section rules
variable {dy:List Nat} {i:Nat} {rest:List Oper} {tm:List (Nat×AV)} {acc:(Nat→Bk)→List (Nat×AV)} {Q:(Nat→Bk)→List (Nat×AV)→Prop} {d:Nat} {ty:TypeId} {pos:String} {af:Array Edge} {op:Op}
theorem AT.nil {F:(Nat→Bk)→List (Nat×AV)} (hF:∀ β,F β=acc β++tm) (h:∀ β,Q β (F β)):AT P all n B tk dy i [] tm acc Q:=
 ⟨[],tm,.nil _ _ _,fun β=>by rw [show x7 β i [] [] (acc β)=acc β from rfl,← hF];exact h β⟩
theorem AT.Yf {o:Oper} {d:Nat} {av:AV} (hd:o.dst=some d) (h:∀ β,∀ X∈vL tk i β,qR P all n (X++B) o (I5 (lk tm) (lk (acc β))) (ua tk i β) (fun _=>av) (fun b=>k6 tk i (oY β i b))) (k:AT P all n B tk dy (i+1) rest ((d,av) :: tm) acc Q):AT P all n B tk dy i (o :: rest) tm acc Q:=by
 obtain ⟨D,pP,k1,k2⟩:=k
 refine ⟨(some av,fun _=>av) :: D,pP,.cons h (fun eW e b=>Option.some.inj e) (fun e=>by cases e) ?_,k2⟩
 have:oT (lk tm) o.dst (some av)=lk ((d,av) :: tm):=by
  rw [wZ,hd];rfl
 rw [this];exact k1
theorem AT.dyn {o:Oper} {d:Nat} {V:Bk→AV} (hd:o.dst=some d) (vf:lk tm d=none) (Wi:dy.contains i=true) (h:∀ β,∀ X∈vL tk i β,qR P all n (X++B) o (I5 (lk tm) (lk (acc β))) (ua tk i β) V (fun b=>k6 tk i (oY β i b))) (k:AT P all n B tk dy (i+1) rest tm (fun β=>(d,V (β i)) :: acc β) Q):AT P all n B tk dy i (o :: rest) tm acc Q:=by
 obtain ⟨D,pP,k1,k2⟩:=k
 refine ⟨(none,V) :: D,pP,.cons h (fun eW e b=>by cases e) (fun _=>Wi) ?_,fun β=>?_⟩
 ·have:oT (lk tm) o.dst none=lk tm:=by
   funext s
   rw [hd]
   simp only [oT]
   split
   ·rename_i e;subst e;exact vf.symm
   ·rfl
  rw [this]
  have e2:Nw none (fun β=>lk (acc β)) o.dst V i=fun β=>lk ((d,V (β i)) :: acc β):=by
   funext β
   simp only [Nw,hd]
   rw [wZ];rfl
  rw [e2];exact k1
 ·have:=k2 β
  simp only [x7,hd]
  exact this
theorem AT.sto {o:Oper} (hd:o.dst=none) (h:∀ β,∀ X∈vL tk i β,qR P all n (X++B) o (I5 (lk tm) (lk (acc β))) (ua tk i β) (fun _=>.raw undef) (fun b=>k6 tk i (oY β i b))) (k:AT P all n B tk dy (i+1) rest tm acc Q):AT P all n B tk dy i (o :: rest) tm acc Q:=by
 obtain ⟨D,pP,k1,k2⟩:=k
 refine ⟨(some (.raw undef),fun _=>.raw undef) :: D,pP,.cons h (fun eW e b=>Option.some.inj e) (fun e=>by cases e) ?_,k2⟩
 rw [hd];exact k1
def si (tk:List Tok) (i j:Nat):Bool:=tk.all fun t=>(match t.prod with | some p=>Nat.blt p i||Nat.ble j p | none=>true)&&(match t.cons with | some p=>Nat.blt p i||Nat.ble j p | none=>true)&&((t.Wd.all fun p=>Nat.blt p i||Nat.ble j p)&&t.Yc.all fun p=>Nat.blt p i||Nat.ble j p)
theorem ER {i j:Nat} (h:si tk i j=true) {k:Nat} (h1:i≤k) (h2:k < j) (β:Nat→Bk):ua tk k β=[]:=by
 unfold ua
 rw [List.map_eq_nil_iff,List.filter_eq_nil_iff]
 intro t ht hc
 have:=List.all_eq_true.1 h t ht
 rw [Bool.and_eq_true,Bool.and_eq_true] at this
 replace this:=this.1
 unfold zc at hc
 split at hc
 ·rename_i c Ns
  obtain rfl:c=k:=Nat.eq_of_beq_eq_true hc
  have:=this.2
  rw [Ns] at this
  simp at this;omega
 ·cases hc
theorem Cb {i j:Nat} (h:si tk i j=true) {k:Nat} (h1:i≤k) (h2:k < j) (β:Nat→Bk):k6 tk k β=[]:=by
 unfold k6
 rw [List.map_eq_nil_iff,List.filter_eq_nil_iff]
 intro t ht hc
 have:=List.all_eq_true.1 h t ht
 rw [Bool.and_eq_true,Bool.and_eq_true] at this
 replace this:=this.1
 unfold Nq at hc
 split at hc
 ·rename_i c Ns
  obtain rfl:c=k:=Nat.eq_of_beq_eq_true hc
  have:=this.1
  rw [Ns] at this
  simp at this;omega
 ·cases hc
theorem KM {i j:Nat} (h:si tk i j=true) {k:Nat} (h1:i≤k) (h2:k < j) (β:Nat→Bk):w7 tk k β=[]:=by
 unfold w7
 rw [List.map_eq_nil_iff,List.filter_eq_nil_iff]
 intro t ht hc
 have:=List.all_eq_true.1 h t ht
 rw [Bool.and_eq_true] at this
 have h3:=List.all_eq_true.1 (Bool.and_eq_true_iff.1 this.2).1 k (by simpa [HN] using hc)
 simp at h3;omega
theorem Cc {i j:Nat} (h:si tk i j=true) {k:Nat} (h1:i≤k) (h2:k < j) (β:Nat→Bk):vL tk k β=[[]]:=by
 have e:tk.filter (ME k)=[]:=by
  rw [List.filter_eq_nil_iff]
  intro t ht hc
  have:=List.all_eq_true.1 h t ht
  rw [Bool.and_eq_true] at this
  have h3:=List.all_eq_true.1 (Bool.and_eq_true_iff.1 this.2).2 k (by simpa [ME] using hc)
  simp at h3;omega
 unfold vL
 rw [e,KM h h1 h2 β]
theorem Ah (e:Env) (d:Option Nat) (av:AV):oT e d (some av)=vJ e d av:=by
 cases d<;>rfl
theorem ES {o:Oper} {e:Env} {av:AV} (hd:∀ d,o.dst=some d→d < n) (hg:nD all o e true) (h:MV P all n o e B av):qR P all n B o e [] (fun _=>av) (fun _=>[]):=by
 refine ⟨hd,.inl ⟨hg,fun w S a h1 h2 h3 h4 K Q hK=>?_⟩⟩
 exact h w S a h1 h2 h3 h4 K Q (fun v w' S' O5 pO=>hK ⟨none,0⟩ v w' S' (O5.X9 h3.slt _) (h3.grow O5) pO)
theorem SQ:∀ {l1:List Oper} {e e':Env} {i:Nat} (h:Nj P all n B l1 e e') (hn:si tk i (i+l1.length)=true) {l2:List Oper} {c:(Nat→Bk)→Env} {D:List (Option AV×(Bk→AV))} {e2:Env},O9 P all n B tk dy (i+l1.length) l2 e' c D e2→
 ∃ D1,O9 P all n B tk dy i (l1++l2) e c (D1++D) e2∧D1.length=l1.length∧∀ x∈D1,x.1.isSome=true:=by
 intro l1 e e' i h
 induction h generalizing i with
 | nil e=>intro hn l2 c D e2 k;exact ⟨[],by simpa using k,rfl,by simp⟩
 | @run o l e e' av hg hm hd k ih=>
   intro hn l2 c D e2 kk
   have MM:si tk (i+1) (i+1+l.length)=true:=by
    unfold si at hn ⊢
    rw [List.all_eq_true] at hn ⊢
    intro t ht
    have:=hn t ht
    rw [Bool.and_eq_true,Bool.and_eq_true] at this ⊢
    refine ⟨⟨?_,?_⟩,?_⟩
    ·have h1:=this.1.1
     cases hp:t.prod<;>rw [hp] at h1<;>simp_all<;>omega
    ·have h1:=this.1.2
     cases hp:t.cons<;>rw [hp] at h1<;>simp_all<;>omega
    ·have h1:=this.2
     rw [Bool.and_eq_true,List.all_eq_true,List.all_eq_true] at h1 ⊢
     exact ⟨fun p hp=>by have:=h1.1 p hp;simp at this ⊢;omega,fun p hp=>by have:=h1.2 p hp;simp at this ⊢;omega⟩
   obtain ⟨D1,a1,a2,a3⟩:=ih MM (l2:=l2) (D:=D) (e2:=e2) (by rw [show i+1+l.length=i+(o :: l).length by simp;omega];exact kk)
   refine ⟨(some av,fun _=>av) :: D1,?_,by simp [a2],?_⟩
   ·refine .cons (fun β X hX=>?_) (fun eW e b=>Option.some.inj e) (fun e=>by cases e) (by rw [Ah];exact a1)
    rw [Cc hn (Nat.le_refl _) (by simp)] at hX
    obtain rfl:=List.mem_singleton.1 hX
    rw [ER hn (Nat.le_refl _) (by simp),show (fun b=>k6 tk i (oY β i b))=fun _=>[] from funext fun b=>Cb hn (Nat.le_refl _) (by simp) _]
    exact (ES hd hg hm).up
   ·intro x hx
    rcases List.mem_cons.1 hx with rfl | hx
    ·rfl
    ·exact a3 x hx
 | @pass o l e e' hg hd k ih=>
   intro hn l2 c D e2 kk
   have MM:si tk (i+1) (i+1+l.length)=true:=by
    unfold si at hn ⊢
    rw [List.all_eq_true] at hn ⊢
    intro t ht
    have:=hn t ht
    rw [Bool.and_eq_true,Bool.and_eq_true] at this ⊢
    refine ⟨⟨?_,?_⟩,?_⟩
    ·have h1:=this.1.1
     cases hp:t.prod<;>rw [hp] at h1<;>simp_all<;>omega
    ·have h1:=this.1.2
     cases hp:t.cons<;>rw [hp] at h1<;>simp_all<;>omega
    ·have h1:=this.2
     rw [Bool.and_eq_true,List.all_eq_true,List.all_eq_true] at h1 ⊢
     exact ⟨fun p hp=>by have:=h1.1 p hp;simp at this ⊢;omega,fun p hp=>by have:=h1.2 p hp;simp at this ⊢;omega⟩
   obtain ⟨D1,a1,a2,a3⟩:=ih MM (l2:=l2) (D:=D) (e2:=e2) (by rw [show i+1+l.length=i+(o :: l).length by simp;omega];exact kk)
   refine ⟨(some (.raw undef),fun _=>.raw undef) :: D1,?_,by simp [a2],?_⟩
   ·refine .cons (fun β X hX=>?_) (fun eW e b=>Option.some.inj e) (fun e=>by cases e) (by rw [Ah];exact a1)
    rw [Cc hn (Nat.le_refl _) (by simp)] at hX
    obtain rfl:=List.mem_singleton.1 hX
    rw [ER hn (Nat.le_refl _) (by simp),show (fun b=>k6 tk i (oY β i b))=fun _=>[] from funext fun b=>Cb hn (Nat.le_refl _) (by simp) _]
    exact ⟨hd,.inr ⟨hg.up,fun b=>⟨rfl,rfl⟩⟩⟩
   ·intro x hx
    rcases List.mem_cons.1 hx with rfl | hx
    ·rfl
    ·exact a3 x hx
theorem Cd (β:Nat→Bk):∀ {l1:List Oper} {D1:List (Option AV×(Bk→AV))} (i:Nat) {l2:List Oper} {D:List (Option AV×(Bk→AV))} (a:List (Nat×AV)),D1.length=l1.length→(∀ x∈D1,x.1.isSome=true)→x7 β i (l1++l2) (D1++D) a=x7 β (i+l1.length) l2 D a
 | [],[],i,l2,D,a,_,_=>by simp
 | o :: l1,(some av,V) :: D1,i,l2,D,a,h,hs=>by
   simp only [List.cons_append,x7]
   rw [Cd β (i+1) a (by simpa using h) (fun x hx=>hs x (by simp [hx]))]
   simp [Nat.add_assoc,Nat.add_comm 1]
 | o :: l1,(none,V) :: D1,i,l2,D,a,h,hs=>by have:=hs (none,V) (by simp);cases this
 | [],_ :: _,i,l2,D,a,h,hs=>by cases h
 | _ :: _,[],i,l2,D,a,h,hs=>by cases h
theorem AT.am {l l1 l2:List Oper} (m:Nat) (hs:EH m l=some (l1,l2)) (hn:si tk i (i+m)=true) (h:AM P all n B l1 tm (fun pP=>AT P all n B tk dy (i+m) l2 pP acc Q)):AT P all n B tk dy i l tm acc Q:=by
 obtain ⟨rfl,rfl⟩:=vk hs
 obtain ⟨Ee,h1,D,pP,h2,h3⟩:=h
 obtain ⟨D1,a1,a2,a3⟩:=SQ h1 hn h2
 refine ⟨D1++D,pP,a1,fun β=>?_⟩
 rw [Cd β i (acc β) a2 a3]
 exact h3 β
theorem x8 {o:Oper} {Ti H1:Heap} {V:Bk→AV} {Pi H2:Bk→Heap} (hg:o.guard=none) (hd:∀ d,o.dst=some d→d < n) (h1:sf Ti B=some H1) (h2:∀ b,sf (Pi b) B=some (H2 b))
 (uu:ae P all [o] ⟨n,Gl (looks all o) tm,H1⟩ (fun aG=>∃ b Ee,aG=⟨n,Ee,H2 b⟩∧∀ d,o.dst=some d→lk Ee d=some (V b)))
 (hv:o.dst=none→∀ b,V b=.raw undef):qR P all n B o (lk tm) Ti V Pi:=by
 refine ⟨hd,.inl ⟨by simp [nD,hg],fun w S a s1 s2 s3 s4 K Q hK=>?_⟩⟩
 have e1:=nu h1
 rw [e1] at s3 hK
 refine Nv hg uu (qI s1 s2 s3 s4) (fun v w' Wj=>?_)
 obtain ⟨aG,S',⟨b,Ee,rfl,Nx⟩,hr,Nu⟩:=Wj
 have e2:=nu (h2 b)
 cases EP:o.dst with
 | some d=>
   have MB:=hd d EP
   obtain ⟨u,g1,g2⟩:=hr.tm d _ (Nx d EP)
   have hu:u=v:=by
    rw [EP] at g1
    simp [Act.put,s1,MB] at g1
    exact g1.symm
   rw [hu] at g2
   rw [← EP]
   exact hK b v w' S' (by rw [e2];exact Nu) (by rw [e2];exact hr.hp) g2
 | none=>
   have:a.put none v=a.put o.dst undef:=by rw [EP];rfl
   rw [this]
   exact hK b undef w' S' (by rw [e2];exact Nu) (by rw [e2];exact hr.hp) (by rw [hv EP b];exact .raw _)
theorem AT.Ny {av:AV} {Ti H1 Pi H2:Heap} (IZ:∀ β,vL tk i β=[[]]) (P8:∀ β,ua tk i β=Ti) (HP:∀ β,k6 tk i β=Pi) (h1:sf Ti B=some H1) (h2:sf Pi B=some H2) (hn:Nat.blt d n=true)
 (uu:ae P all [⟨some d,op,ty,pos,af,none⟩] ⟨n,Gl (looks all ⟨some d,op,ty,pos,af,none⟩) tm,H1⟩ (fun aG=>∃ Ee,aG=⟨n,Ee,H2⟩∧lk Ee d=some av))
 (k:AT P all n B tk dy (i+1) rest ((d,av) :: tm) acc Q):AT P all n B tk dy i (⟨some d,op,ty,pos,af,none⟩ :: rest) tm acc Q:=by
 refine AT.Yf rfl (fun β X hX=>?_) k
 rw [IZ β] at hX
 obtain rfl:=List.mem_singleton.1 hX
 rw [List.nil_append,P8 β,show (fun b=>k6 tk i (oY β i b))=fun _=>Pi from funext fun b=>HP _]
 refine qR.up ?_
 refine x8 rfl (fun d' Di=>by obtain rfl:=Option.some.inj Di;simpa using hn) h1 (fun _=>h2) ?_ (fun e=>by cases e)
 refine fun w S a r=>ja ?_ _ _ _ (uu w S a r)
 rintro e a' w' ⟨he,aG,S',⟨Ee,q1,q2⟩,hh⟩
 exact ⟨he,aG,S',⟨⟨none,0⟩,Ee,q1,fun d' Di=>by obtain rfl:=Option.some.inj Di;exact q2⟩,hh⟩
theorem AT.BF {V:Bk→AV} {Ti H1:Heap} {Pi H2:Bk→Heap} (IZ:∀ β,vL tk i β=[[]]) (P8:∀ β,ua tk i β=Ti) (HP:∀ β b,k6 tk i (oY β i b)=Pi b) (h1:sf Ti B=some H1) (h2:∀ b,sf (Pi b) B=some (H2 b)) (hn:Nat.blt d n=true) (vf:lk tm d=none) (Wi:dy.contains i=true)
 (uu:ae P all [⟨some d,op,ty,pos,af,none⟩] ⟨n,Gl (looks all ⟨some d,op,ty,pos,af,none⟩) tm,H1⟩ (fun aG=>∃ b Ee,aG=⟨n,Ee,H2 b⟩∧lk Ee d=some (V b)))
 (k:AT P all n B tk dy (i+1) rest tm (fun β=>(d,V (β i)) :: acc β) Q):AT P all n B tk dy i (⟨some d,op,ty,pos,af,none⟩ :: rest) tm acc Q:=by
 refine AT.dyn rfl vf Wi (fun β X hX=>?_) k
 rw [IZ β] at hX
 obtain rfl:=List.mem_singleton.1 hX
 rw [List.nil_append,P8 β,show (fun b=>k6 tk i (oY β i b))=Pi from funext (HP β)]
 refine qR.up ?_
 refine x8 rfl (fun d' Di=>by obtain rfl:=Option.some.inj Di;simpa using hn) h1 h2 ?_ (fun e=>by cases e)
 refine fun w S a r=>ja ?_ _ _ _ (uu w S a r)
 rintro e a' w' ⟨he,aG,S',⟨b,Ee,q1,q2⟩,hh⟩
 exact ⟨he,aG,S',⟨b,Ee,q1,fun d' Di=>by obtain rfl:=Option.some.inj Di;exact q2⟩,hh⟩
theorem AT.BG {Ti H1 Pi H2:Heap} (IZ:∀ β,vL tk i β=[[]]) (P8:∀ β,ua tk i β=Ti) (HP:∀ β,k6 tk i β=Pi) (h1:sf Ti B=some H1) (h2:sf Pi B=some H2)
 (uu:ae P all [⟨none,op,ty,pos,af,none⟩] ⟨n,Gl (looks all ⟨none,op,ty,pos,af,none⟩) tm,H1⟩ (fun aG=>∃ Ee,aG=⟨n,Ee,H2⟩))
 (k:AT P all n B tk dy (i+1) rest tm acc Q):AT P all n B tk dy i (⟨none,op,ty,pos,af,none⟩ :: rest) tm acc Q:=by
 refine AT.sto rfl (fun β X hX=>?_) k
 rw [IZ β] at hX
 obtain rfl:=List.mem_singleton.1 hX
 rw [List.nil_append,P8 β,show (fun b=>k6 tk i (oY β i b))=fun _=>Pi from funext fun b=>HP _]
 refine qR.up ?_
 refine x8 rfl (fun d' Di=>by cases Di) h1 (fun _=>h2) ?_ (fun _ b=>rfl)
 refine fun w S a r=>ja ?_ _ _ _ (uu w S a r)
 rintro e a' w' ⟨he,aG,S',⟨Ee,q1⟩,hh⟩
 exact ⟨he,aG,S',⟨⟨none,0⟩,Ee,q1,fun d' Di=>by cases Di⟩,hh⟩
theorem AT.rd {av:AV} {Rs H1:Heap} (hr:∀ β,vL tk i β=[Rs]) (h1:sf Rs B=some H1) (P8:∀ β,ua tk i β=[]) (HP:∀ β,k6 tk i β=[])
 (q:QV P ⟨some d,op,ty,pos,af,none⟩ ⟨n,Gl (looks all ⟨some d,op,ty,pos,af,none⟩) tm,H1⟩ av) (hn:Nat.blt d n=true)
 (k:AT P all n B tk dy (i+1) rest ((d,av) :: tm) acc Q):AT P all n B tk dy i (⟨some d,op,ty,pos,af,none⟩ :: rest) tm acc Q:=by
 refine AT.Yf rfl (fun β X hX=>?_) k
 rw [hr β] at hX
 obtain rfl:=List.mem_singleton.1 hX
 rw [nu h1,P8 β,show (fun b=>k6 tk i (oY β i b))=fun _=>[] from funext fun b=>HP _]
 refine qR.up ?_
 refine ES (fun d' Di=>by obtain rfl:=Option.some.inj Di;simpa using hn) rfl (fun w S a s1 s2 s3 s4 K Q' hK=>?_)
 obtain ⟨v,g1,g2⟩:=q w S a (qI s1 s2 s3 s4)
 show Oper.upon P _ a K Q' _
 rw [g1 w (Ext.refl w)]
 exact hK v w S (Grow.refl s3.slt) g2
end rules
end Go.Eng
namespace Go.Eng
open Go
variable [bF]
theorem O9.GA {P:Program} {all:Array Oper} {n:Nat} {B:Heap} {tk:List Tok} {dy:List Nat} {i:Nat} {l:List Oper} {e e':Env} {c:(Nat→Bk)→Env} {D:List (Option AV×(Bk→AV))} (h:O9 P all n B tk dy i l e c D e'):
 ∃ (en:Nat→Env) (cn:Nat→(Nat→Bk)→Env),en i=e∧cn i=c∧en (i+l.length)=e'∧D.length=l.length∧∀ j o x V,l[j]? =some o→D[j]? =some (x,V)→
   (∀ β,∀ X∈vL tk (i+j) β,qR P all n (X++B) o (I5 (en (i+j)) (cn (i+j) β)) (ua tk (i+j) β) V (fun b=>k6 tk (i+j) (oY β (i+j) b)))∧en (i+j+1)=oT (en (i+j)) o.dst x∧(∀ av,x=some av→∀ b,V b=av)∧(x=none→dy.contains (i+j)=true)∧cn (i+j+1)=Nw x (cn (i+j)) o.dst V (i+j):=by
 induction h with
 | nil i e c=>exact ⟨fun _=>e,fun _=>c,rfl,rfl,rfl,rfl,fun j o x V h=>by simp at h⟩
 | @cons i o l e e' c D x V h hv hx k ih=>
   obtain ⟨en,cn,h0,Ku,h1,h2,h3⟩:=ih
   refine ⟨fun k=>if k=i then e else en k,fun k=>if k=i then c else cn k,by simp,by simp,?_,by simp [h2],fun j o' x' V' ho hD=>?_⟩
   ·show (if i+(o :: l).length=i then e else en (i+(o :: l).length))=e'
    rw [if_neg (by simp),← h1]
    congr 1
    simp;omega
   ·match j with
    | 0=>
      simp at ho hD
      obtain ⟨rfl,rfl⟩:=hD
      subst ho
      simp only [Nat.add_zero,if_true]
      refine ⟨h,?_,hv,hx,?_⟩
      ·rw [if_neg (by omega),h0]
      ·rw [if_neg (by omega),Ku]
    | j+1=>
      have:=h3 j o' x' V' (by simpa using ho) (by simpa using hD)
      rw [show i+1+j=i+(j+1) by omega] at this
      simp only
      rw [if_neg (show ¬ i+(j+1)=i by omega),if_neg (show ¬ i+(j+1)+1=i by omega),if_neg (show ¬ i+(j+1)=i by omega),if_neg (show ¬ i+(j+1)+1=i by omega)]
      exact this
def Pa (l:List Oper) (dy:List Nat):Bool:=dy.all fun i=>(List.range l.length).all fun j=>Nat.beq i j||(match l[i]?,l[j]? with
 | some oi,some oj=>(match oi.dst,oj.dst with | some d,some d'=>!Nat.beq d d' | _,_=>true)
 | _,_=>true)
theorem GH {l:List Oper} {dy:List Nat} (h:Pa l dy=true) {i j:Nat} {oi oj:Oper} {d:Nat} (hi:dy.contains i=true) (Da:i≠j) (h1:l[i]? =some oi) (h2:l[j]? =some oj) (hd:oi.dst=some d):oj.dst≠some d:=by
 intro Di
 have hm:i∈dy:=by simpa using hi
 have hj:j < l.length:=(List.getElem?_eq_some_iff.1 h2).1
 have:=List.all_eq_true.1 (List.all_eq_true.1 h i hm) j (List.mem_range.2 hj)
 rw [h1,h2] at this
 simp only [hd,Di] at this
 have hb:Nat.beq i j=false:=pc Da
 rw [hb] at this
 simp at this
def KN (tk:List Tok):Heap:=(tk.filter (fun t=>t.prod.isNone)).map (fun t=>t.at (fun _=>⟨none,0⟩))
theorem KO:∀ (a b:List (Nat×AV)) (s:Nat) (av:AV),lk (a++b) s=some av→lk a s=some av∨lk b s=some av
 | [],b,s,av,h=>.inr h
 | (k,v) :: a,b,s,av,h=>by
   simp only [List.cons_append,lk] at h ⊢
   split at h
   ·exact .inl h
   ·exact KO a b s av h
theorem w8 (β:Nat→Bk):∀ (l:List Oper) (D:List (Option AV×(Bk→AV))) (i:Nat) (a:List (Nat×AV)) (s:Nat) (av:AV),lk (x7 β i l D a) s=some av→lk a s=some av∨∃ (j:Nat) (o:Oper) (V:Bk→AV),l[j]? =some o∧D[j]? =some (none,V)∧o.dst=some s∧av=V (β (i+j))
 | [],D,i,a,s,av,h=>by
   have:x7 β i [] D a=a:=by cases D<;>rfl
   rw [this] at h;exact .inl h
 | o :: l,[],i,a,s,av,h=>.inl h
 | o :: l,(some x,V) :: D,i,a,s,av,h=>by
   simp only [x7] at h
   rcases w8 β l D (i+1) a s av h with h | ⟨j,o',V',h1,h2,h3,h4⟩
   ·exact .inl h
   ·exact .inr ⟨j+1,o',V',by simpa using h1,by simpa using h2,h3,by rw [h4];congr 2;omega⟩
 | o :: l,(none,V) :: D,i,a,s,av,h=>by
   simp only [x7] at h
   cases hd:o.dst with
   | none=>
     rw [hd] at h
     rcases w8 β l D (i+1) a s av h with h | ⟨j,o',V',h1,h2,h3,h4⟩
     ·exact .inl h
     ·exact .inr ⟨j+1,o',V',by simpa using h1,by simpa using h2,h3,by rw [h4];congr 2;omega⟩
   | some d=>
     rw [hd] at h
     rcases w8 β l D (i+1) _ s av h with h5 | ⟨j,o',V',h1,h2,h3,h4⟩
     ·simp only [lk] at h5
      split at h5
      ·rename_i hb
       obtain rfl:d=s:=by simpa using hb
       exact .inr ⟨0,o,V,rfl,rfl,hd,by simpa using (Option.some.inj h5).symm⟩
      ·exact .inl h5
     ·exact .inr ⟨j+1,o',V',by simpa using h1,by simpa using h2,h3,by rw [h4];congr 2;omega⟩
theorem aa.iS {P:Program} {R:St→Prop} {k:List It} {id n:Nat} {tm:List (Nat×AV)} {hp:Heap} {l hd tl:List Oper} (m:Nat) (hm:P.follows .mixedOrders=true) (hs:EH m l=some (hd,tl)) {A:List Nat} (hA:IW l.toArray=A) (Wa:ED l.toArray m A=true)
 (tk:List Tok) (dy:List Nat) (RL:(SL A m tk&&O8 A m tk)=true) (hU0:Pa hd dy=true) {B H0:Heap} (wq:KN tk=H0) (Wk:B8 hp H0 B) {HH:(Nat→Bk)→Heap} (KP:∀ β,sf (KH tk β) B=some (HH β))
 (h:AT P l.toArray n B tk dy 0 hd tm (fun _=>[]) (fun β pP=>ae P l.toArray tl ⟨n,pP,HH β⟩ (aa P R k))):aa P R (.code (.region id l.toArray true) :: k) ⟨n,tm,hp⟩:=by
 have hB:tI l.toArray m:=⟨A,hA,Wa⟩
 have hT:Ag l.toArray m tk:=I3 hA (Bool.and_eq_true_iff.1 RL).1
 intro w S a r
 obtain ⟨hl,MI⟩:=vk hs
 obtain ⟨D,pP,hAf,uu⟩:=h
 obtain ⟨en,cn,e0,ec0,e1,e2,e3⟩:=hAf.GA
 rw [Nat.zero_add,MI] at e1
 have gG:m≤l.toArray.size:=by simp [hl,MI]
 let mc:Nat→Option AV:=fun j=>(D[j]?).bind (·.1)
 let V:Nat→Bk→AV:=fun j=>match D[j]? with | some x=>x.2 | none=>fun _=>.nil
 have KQ:∀ j o,j < m→l.toArray[j]? =some o→hd[j]? =some o:=by
  intro j o hj ho
  have:l[j]? =some o:=by simpa using ho
  rw [hl,List.getElem?_append_left (by omega)] at this
  exact this
 have hD:∀ j,j < m→∃ x W,D[j]? =some (x,W)∧mc j=x∧V j=W:=by
  intro j hj
  have:j < D.length:=by rw [e2,MI];exact hj
  refine ⟨D[j].1,D[j].2,by simp [this],?_,?_⟩
  ·simp [mc,this]
  ·simp [V,this]
 refine wp_region_any hm ?_
 have Ac:Ext w {w with drawn:=w.drawn+1}:=Ext.Hx w _ (Nat.le_succ _)
 let U2:Nat→Bk:=fun _=>⟨none,0⟩
 have hf:∀ k,(Array.replicate l.toArray.size false).getD k false=false:=by
  intro k
  rcases Nat.lt_or_ge k l.toArray.size with h | h
  ·simp at h;simp [h]
  ·simp at h;simp [Nat.not_lt.2 h]
 have Ku:∀ k,tZ l.toArray mc (lk tm) (Array.replicate l.toArray.size false) k=lk tm:=by
  intro k
  induction k with
  | zero=>rfl
  | succ k ih=>simp only [tZ,ih];rw [if_neg (by rw [hf k];simp)]
 have RF:ql tk (Array.replicate l.toArray.size false) U2=H0:=by
  rw [← wq]
  unfold ql KN
  have e:tk.filter (wz (Array.replicate l.toArray.size false))=tk.filter (fun t=>t.prod.isNone):=by
   apply List.filter_congr
   intro t ht
   unfold wz
   cases t.prod with
   | none=>
     cases t.cons with
     | none=>rfl
     | some c=>simp only [hf c,Bool.not_false,Bool.and_self,Option.isNone]
   | some p=>simp only [hf p,Bool.false_and,Option.isNone]
  rw [e]
 have nP:=Wk.perm
 have hr0:ck {w with drawn:=w.drawn+1} S (ql tk (Array.replicate l.toArray.size false) U2++B):=by
  rw [RF];exact (r.hp.ext Ac).perm nP
 have ev0:iE w S hp {w with drawn:=w.drawn+1} S (ql tk (Array.replicate l.toArray.size false) U2++B):=by
  rw [RF]
  have:=iE.ext (h:=hp) r.hp.slt Ac
  exact {this with new:=fun k hk=>this.new k (by
   obtain ⟨x,hx,hb⟩:=hk
   exact ⟨x,nP.mem_iff.2 hx,hb⟩)}
 refine I6 (P:=P) (all:=l.toArray) (n:=n) (m:=m) (mc:=mc) (en:=en) (cn:=cn) (e:=lk tm) (V:=V) (B:=B) (tk:=tk) hB hT (GF hA (Bool.and_eq_true_iff.1 RL).2) gG e0 (fun β s=>by rw [ec0];rfl) ?_ ?_ ?_ (w0:=w) (S0:=S) (UZ:=hp) ?_ l.toArray.size (Array.replicate l.toArray.size false) a _ S U2
  ⟨by simp,(fun k hk=>by rw [hf k] at hk;cases hk),(fun k i o hk=>by rw [hf k] at hk;cases hk)⟩ (by simp [List.count_replicate]) r.size r.defers hr0 ev0 (by rw [Ku];exact (r.ext Ac).tm) (fun j o d hj=>by rw [hf j] at hj;cases hj)
 ·intro i o hi ho β
  obtain ⟨x,W,d1,d2,d3⟩:=hD i hi
  have:=e3 i o x W (KQ i o hi ho) d1
  rw [Nat.zero_add] at this
  rw [d2,d3,this.2.2.2.2];rfl
 ·intro i o hi ho
  obtain ⟨x,W,d1,d2,d3⟩:=hD i hi
  have:=e3 i o x W (KQ i o hi ho) d1
  rw [Nat.zero_add] at this
  rw [d2,d3]
  exact ⟨this.1,this.2.1,this.2.2.1⟩
 ·intro i j oi oj d hi hj Da yJ MF qM Db
  obtain ⟨x,W,d1,d2,d3⟩:=hD i hi
  have:=e3 i oi x W (KQ i oi hi yJ) d1
  rw [Nat.zero_add] at this
  exact GH hU0 (this.2.2.2.1 (by rw [← d2];exact qM)) Da (KQ i oi hi yJ) (KQ j oj hj MF) Db
 ·intro β a' w' S' h1 h2 h3 h4 h5 h6
  have Wb:l.toArray.toList.drop m=tl:=by
   simp only [hl,← MI]
   exact List.drop_left
  rw [Wb]
  rw [nu (KP β)] at h3 h4
  rw [e1] at h5
  refine ja ?_ _ _ _ ((uu β).go (h:=hp) (w:=w) (S:=S) ⟨h1,h2,fun s av Nx=>?_,h3⟩ h4)
  ·rintro ex a2 w2 ⟨rfl,Hz,S2,q1,q2,q3⟩
   exact ⟨Hz,S2,q1,q2,q3⟩
  ·rcases KO _ _ _ _ Nx with Nx | Nx
   ·rcases w8 β hd D 0 [] s av Nx with Nx | ⟨j,o,W,g1,g2,g3,g4⟩
    ·cases Nx
    ·have hj:j < m:=by rw [← MI];exact (List.getElem?_eq_some_iff.1 g1).1
     obtain ⟨x,W',d1,d2,d3⟩:=hD j hj
     rw [g2] at d1
     obtain ⟨rfl,rfl⟩:=Prod.mk.inj (Option.some.inj d1)
     have MF:l.toArray[j]? =some o:=by
      have:l[j]? =some o:=by rw [hl,List.getElem?_append_left (by omega)];exact g1
      simpa using this
     obtain ⟨v,k1,k2⟩:=h6 j o s hj MF d2 g3
     rw [d3] at k2
     rw [g4,Nat.zero_add]
     exact ⟨v,k1,k2⟩
   ·exact h5 s av Nx
def KR {α:Type}:List α→List α→Option (List α)
 | [],r=>some r
 | x :: l,r=>match KR l r with
   | some m=>some (x :: m)
   | none=>none
theorem HQ {α:Type}:∀ {l r m:List α},KR l r=some m→l++r=m
 | [],r,m,h=>by simpa [KR] using h
 | x :: l,r,m,h=>by
   simp only [KR] at h
   split at h
   ·rename_i m' hm
    obtain rfl:=Option.some.inj h
    rw [List.cons_append,HQ hm]
   ·cases h
theorem AT.ub {P:Program} {all:Array Oper} {n:Nat} {B:Heap} {tk:List Tok} {dy:List Nat} {i:Nat} {tm:List (Nat×AV)} {acc F:(Nat→Bk)→List (Nat×AV)} {Q:(Nat→Bk)→List (Nat×AV)→Prop} (hF:∀ β,KR (acc β) tm=some (F β)) (h:∀ β,Q β (F β)):AT P all n B tk dy i [] tm acc Q:=
 AT.nil (fun β=>(HQ (hF β)).symm) h
theorem I7 {w:World} {S:Nat→Prop} {hp cC:Heap} {b:Bk} {cs pQ:List AV} (r:ck w S hp) (u:mT hp b (.cells cs) b (.cells pQ) cC) (hl:pQ.length=cs.length) (h1:∀ c∈pQ,c.one=true) (pO:∀ (i:Nat) c c' v,cs[i]? =some c→pQ[i]? =some c'→At w S c v→At w S c' v):ck w S cC∧iE w S hp w S cC:=by
 obtain ⟨pre,post,e1,e2⟩:=u.split
 subst e1;subst e2
 have hblk:∀ n,Has (pre++(b,Ob.cells pQ) :: post) n↔Has (pre++(b,Ob.cells cs) :: post) n:=by
  intro n
  constructor<;>rintro ⟨x,hx,hb⟩<;>rcases bd.1 hx with rfl | hx
  ·exact ⟨(b,.cells cs),bd.2 (.inl rfl),hb⟩
  ·exact ⟨x,bd.2 (.inr hx),hb⟩
  ·exact ⟨(b,.cells pQ),bd.2 (.inl rfl),hb⟩
  ·exact ⟨x,bd.2 (.inr hx),hb⟩
 refine ⟨⟨?_,?_,?_,r.slt,r.fe⟩,⟨rfl,rfl,rfl,Nat.le_refl _,fun n hn=>⟨hn,rfl⟩,fun n _ _=>⟨rfl,id⟩,fun n hn=>.inl ((hblk n).1 hn),fun _=>Nat.le_refl _⟩⟩
 ·have:=r.nodup
  simpa [List.flatMap_append,List.flatMap_cons,eb,Ob.more] using this
 ·intro x hx
  rcases bd.1 hx with rfl | hx
  ·obtain ⟨h0,n,vs,E,g1,g2,g3,g4⟩:=r.holds (b,.cells cs) (bd.2 (.inl rfl))
   refine ⟨h1,n,vs,E,g1,g2,by rw [hl];exact g3,fun i c v hc hv=>?_⟩
   have hi:i < cs.length:=by rw [← hl];exact (List.getElem?_eq_some_iff.1 hc).1
   have ML:cs[i]? =some cs[i]:=by simp [hi]
   exact pO i cs[i] c v ML hc (g4 i _ v ML hv)
  ·exact r.holds x (bd.2 (.inr hx))
 ·intro x hx n hn
  rcases bd.1 hx with rfl | hx
  ·have:=r.sep (b,.cells cs) (bd.2 (.inl rfl)) n hn
   exact ⟨fun h=>(this.1 h).elim,fun h=>h.elim⟩
  ·exact r.sep x (bd.2 (.inr hx)) n hn
theorem ai.sj {n j:Nat} {tm:List (Nat×AV)} {hp:Heap} {cC:Bk→Heap} {T:St→Prop} {b:Bk} {cs:List AV} {pQ:Bk→List AV} (sz:Nat) (u:∀ q,mT hp b (.cells cs) b (.cells (pQ q)) (cC q)) (hj:cs[j]? =some .nil) (hc:∀ q,qj (cs.set j (.sl sz q 0 0))=some (pQ q)) (h1:∀ q,lG (pQ q)=true)
 (k:∀ q,ai ⟨n,tm,(q,.arr sz []) :: cC q⟩ T):ai ⟨n,tm,hp⟩ T:=by
 refine ai.step (Bv:=⟨n,tm,(⟨none,0⟩,.arr sz []) :: cC ⟨none,0⟩⟩) (fun w S a r=>?_) (k ⟨none,0⟩)
 have e:=mg (hc ⟨none,0⟩)
 obtain ⟨g1,g2⟩:=I7 r.hp (u ⟨none,0⟩) (by rw [← e];simp) (dp (h1 _)) (fun i c1 c2 v RM SR pO=>by
  rw [← e] at SR
  by_cases Da:j=i
  ·subst Da
   rw [List.getElem?_set_self (List.getElem?_eq_some_iff.1 hj).1] at SR
   obtain rfl:=Option.some.inj SR
   rw [hj] at RM
   obtain rfl:=Option.some.inj RM
   cases pO
   exact .Bs sz _ rfl
  ·rw [List.getElem?_set_ne Da,RM] at SR
   obtain rfl:=Option.some.inj SR
   exact pO)
 obtain ⟨q1,q2,q3⟩:=qn (b:=⟨none,0⟩) (o:=.arr sz []) g1 (Ext.refl w) id ⟨by simp,by simp,.inl ⟨rfl,rfl⟩⟩ (.inl rfl)
 exact ⟨_,S,rfl,⟨r.size,r.defers,r.tm,q1⟩,g2.trans q2⟩
section rules
variable {P:Program} {all:Array Oper} {rest:List Oper} {n:Nat} {tm:List (Nat×AV)} {hp:Heap} {Q:St→Prop} {d:Nat} {ty:TypeId} {pos:String} {af:Array Edge}
theorem Nz {t e yt:TypeId} {x y:Operand} {sz:Nat} {xs:List AV} [aE P t (.slice e)] (hx:cG tm x=some (.list sz xs)) (hy:cG tm y=some .nil) (h0:Nat.blt 0 sz=true) (hn:Nat.blt d n=true)
 (kk:∀ c:Bool,(c=true→xs=[])→ae P all rest ⟨n,(d,.bool c) :: tm,hp⟩ Q):ae P all (⟨some d,.binOp .eql t x y yt,ty,pos,af,none⟩ :: rest) ⟨n,tm,hp⟩ Q:=by
 refine ae.Kb rfl fun w S a r=>?_
 obtain ⟨oa,cap,vs,e1,e2,e3,e4,e5,e6⟩:=(bj (σ:=⟨n,tm,hp⟩) r hx).uo
 have e7:=(bj (σ:=⟨n,tm,hp⟩) r hy).CY
 refine ⟨.bool oa.isNone,w,S,⟨n,(d,.bool oa.isNone) :: tm,hp⟩,?_,r.put hn (.bool _),iE.refl _ _ _,kk _ (fun hc=>?_)⟩
 ·have h2:(Op.equal t (.slice oa xs.length cap) (.slice none 0 0)).run P w=.ok oa.isNone w:=by
   show (Op.equalIn (9999+1) t _ _).run P w=_
   rw [Op.equalIn]
   cases oa with
   | none=>simp [run_underlying (aE.h (P:=P) (t:=t))]
   | some ad=>simp [run_underlying (aE.h (P:=P) (t:=t))]
  have h3:(binOp .eql t (.slice oa xs.length cap) (.slice none 0 0)).run P w=.ok (.bool oa.isNone) w:=by
   rw [show binOp .eql t (.slice oa xs.length cap) (.slice none 0 0)=(do pure (.bool (← Op.equal t (.slice oa xs.length cap) (.slice none 0 0)))) from rfl]
   simp [h2]
  simp [execOp,e1,e7,eqGuard_at_slice,h3]
 ·have hoa:oa=none:=by simpa using hc
  have hvs:vs=[]:=by
   cases vs with
   | nil=>rfl
   | cons v vs=>
     obtain ⟨ad,h1,_⟩:=e5 0 v rfl
     rw [hoa] at h1;cases h1
  rw [hvs,cA e2] at e3
  have h0':0 < sz:=by simpa using h0
  have:xs.length=0:=by
   rcases Nat.eq_zero_or_pos xs.length with h | h
   ·exact h
   ·have:=Nat.mul_pos h h0';simp at e3;omega
  exact List.length_eq_zero_iff.1 this
end rules
theorem Dj {α:Type} {p r:List α} (h:app [] p=some r) (hp:p=[]):r=[]:=by
 subst hp
 obtain ⟨_,e⟩:=EK h
 simpa using e
end Go.Eng
