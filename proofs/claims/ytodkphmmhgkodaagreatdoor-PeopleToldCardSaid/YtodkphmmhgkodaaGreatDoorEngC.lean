/- The engine: abstract values, the symbolic heap, one rule for each operation. No program in sight. -/
import Derived.Test.YtodkphmmhgkodaaGreatDoorEngB
import Derived.Laws.StructEq
import Derived.Below
set_option linter.unusedVariables false
set_option linter.unusedSectionVars false
namespace Go.Eng
open Go
variable [bM]
abbrev bO:=List UInt8
section rules
variable {P:Program} {all:Array Oper} {rest:List Oper} {n:Nat} {tm:List (Nat×AV)} {hp:Heap} {Q:St→Prop} {d:Nat} {ty:TypeId} {pos:String} {af:Array Edge}
theorem iC {x:Operand} {t e:TypeId} {sz len:Nat} {b:Bk} [aP P t (.slice e)] (hx:dm tm x=some (.sl sz b 0 len)):QV P ⟨some d,.call {callee:=.builtin .len,args:=#[x],argTypes:=#[t]},ty,pos,af,none⟩ ⟨n,tm,hp⟩ (.int .i64 (len:Nat)):=A9 hx
theorem ba {α:Type} {Xs:List α} {el:α} {t e:TypeId} {i:TypeInfo} {x y:Operand} {k:IntKind} {j:Int} {sz:Nat} {b:Bk} [aP P t (.slice e)] [br P e i] (hx:dm tm x=some (.sl sz b 0 Xs.length)) (jZ:Nat.beq i.size sz=true) (hy:dm tm y=some (.int k j))
 (hv:idx Xs j=some el):QV P ⟨some d,.indexAddr t x y,ty,pos,af,none⟩ ⟨n,tm,hp⟩ (.qH sz b j.toNat 0):=by
 obtain ⟨h0,h1,_⟩:=fg hv
 have h:=Bc (P:=P) (d:=d) (ty:=ty) (pos:=pos) (af:=af) (n:=n) (tm:=tm) (hp:=hp) (t:=t) (e:=e) hx jZ hy ⟨h0,h1⟩
 rw [Nat.zero_add] at h
 exact h
theorem DZ {α:Type} {g:α→AV} {Xs:List α} {el:α} {j:Int} (hv:idx Xs j=some el):(Xs.map g)[j.toNat]? =some (g el):=by
 rw [List.getElem?_map,(fg hv).2.2];rfl
theorem fw {α:Type} {g:α→AV} {Xs:List α} {el:α} {j:Int} {t:TypeId} {D:TypeDesc} {x:Operand} {b:Bk} {sz o:Nat} {av:AV} [aP P t D] (hD:TypeDesc.lp D=false) (hx:dm tm x=some (.qH sz b j.toNat o)) (f:nM hp b (.arr sz (Xs.map g))∨nM hp b (.x3 sz (Xs.map g)))
 (hv:idx Xs j=some el) (ho:(g el).cells[o]? =some av):QV P ⟨some d,.load t x,ty,pos,af,none⟩ ⟨n,tm,hp⟩ av:=
 EZ hD hx f (DZ hv) ho
theorem aZ {α:Type} {g:α→AV} {Xs:List α} {el:α} {j:Int} {t:TypeId} {D:TypeDesc} {i:TypeInfo} {x:Operand} {b:Bk} {sz:Nat} {cs:List AV} [aP P t D] [br P t i] (hD:TypeDesc.lp D=true) (hx:dm tm x=some (.qH sz b j.toNat 0)) (f:nM hp b (.arr sz (Xs.map g))∨nM hp b (.x3 sz (Xs.map g))) (jZ:Nat.beq i.size sz=true)
 (hv:idx Xs j=some el) (hc:g el=.agg cs):QV P ⟨some d,.load t x,ty,pos,af,none⟩ ⟨n,tm,hp⟩ (.agg cs):=
 As hD hx f jZ (by rw [DZ (g:=g) hv,hc])
theorem D0 {α:Type} {g:α→AV} {Xs Zs:List α} {t e:TypeId} {i:TypeInfo} {x:Operand} {lo hi:Option Operand} {l h:Option Int} {sz:Nat} {L H:Int} [aP P t (.slice e)] [br P e i] (hx:dm tm x=some (.list sz (Xs.map g))) (jZ:Nat.beq i.size sz=true) (hl:Jo tm lo l) (hh:Jo tm hi h)
 (eL:iK l=L) (eH:jV Xs.length h=H) (hv:Bq Xs L H=some Zs):QV P ⟨some d,.slice t x lo hi none,ty,pos,af,none⟩ ⟨n,tm,hp⟩ (.list sz (Zs.map g)):=by
 obtain ⟨⟨h0,h1,h2⟩,rfl⟩:=vL hv
 subst eL;subst eH
 have:=DQ (P:=P) (d:=d) (ty:=ty) (pos:=pos) (af:=af) (n:=n) (tm:=tm) (hp:=hp) (t:=t) (e:=e) (xs:=Xs.map g) hx jZ hl hh h0 (by simpa using h1) (by simpa using h2)
 simpa [List.map_take,List.map_drop] using this
def su:Heap→Heap→Option Heap
 | [],r=>some r
 | x :: l,r=>match su l r with
   | some m=>some (x :: m)
   | none=>none
theorem oN:∀ {l r m:Heap},su l r=some m→l++r=m
 | [],r,m,h=>by simpa [su] using h
 | x :: l,r,m,h=>by
   simp only [su] at h
   split at h
   ·rename_i m' hm
    obtain rfl:=Option.some.inj h
    rw [List.cons_append,oN hm]
   ·cases h
def T0 (H:Heap) (V:AV):AV→Heap→Prop:=fun v h=>h=H∧v=V
def T1 {Br:Type} (H:Br→Heap) (V:Br→AV):AV→Heap→Prop:=fun v h=>∃ b,h=H b∧v=V b
def T2 {Br JV:Type} (H:Br→JV→Heap) (V:Br→JV→AV):AV→Heap→Prop:=fun v h=>∃ b c,h=H b c∧v=V b c
theorem bh {f:FuncId} {args:List Operand} {ts:Array TypeId} {l l':List AV} {h0 hr H H':Heap} {V:AV} [bF P f] (hl:zS tm args=some l) (c:aT P f l' h0 (T0 H V)) (co:yc hp l l') (hs:C5 hp h0 hr) (ha:su H hr=some H') (hn:Nat.blt d n=true)
 (kk:ae P all rest ⟨n,(d,V) :: tm,H'⟩ Q):ae P all (⟨some d,.call {callee:=.value (.func f),args:=args.toArray,argTypes:=ts},ty,pos,af,none⟩ :: rest) ⟨n,tm,hp⟩ Q:=
 DX hl c co hs hn (fun r h' ⟨e1,e2⟩=>by subst e1;subst e2;rw [oN ha];exact kk)
theorem pt {Br:Type} {f:FuncId} {args:List Operand} {ts:Array TypeId} {l l':List AV} {h0 hr:Heap} {H H':Br→Heap} {V:Br→AV} [bF P f] (hl:zS tm args=some l) (c:aT P f l' h0 (T1 H V)) (co:yc hp l l') (hs:C5 hp h0 hr) (ha:∀ b,su (H b) hr=some (H' b)) (hn:Nat.blt d n=true)
 (kk:∀ b,ae P all rest ⟨n,(d,V b) :: tm,H' b⟩ Q):ae P all (⟨some d,.call {callee:=.value (.func f),args:=args.toArray,argTypes:=ts},ty,pos,af,none⟩ :: rest) ⟨n,tm,hp⟩ Q:=
 DX hl c co hs hn (fun r h' ⟨b,e1,e2⟩=>by subst e1;subst e2;rw [oN (ha b)];exact kk b)
theorem Mx {Br JV:Type} {f:FuncId} {args:List Operand} {ts:Array TypeId} {l l':List AV} {h0 hr:Heap} {H H':Br→JV→Heap} {V:Br→JV→AV} [bF P f] (hl:zS tm args=some l) (c:aT P f l' h0 (T2 H V)) (co:yc hp l l') (hs:C5 hp h0 hr) (ha:∀ b c,su (H b c) hr=some (H' b c)) (hn:Nat.blt d n=true)
 (kk:∀ b c,ae P all rest ⟨n,(d,V b c) :: tm,H' b c⟩ Q):ae P all (⟨some d,.call {callee:=.value (.func f),args:=args.toArray,argTypes:=ts},ty,pos,af,none⟩ :: rest) ⟨n,tm,hp⟩ Q:=
 DX hl c co hs hn (fun r h' ⟨b,b2,e1,e2⟩=>by subst e1;subst e2;rw [oN (ha b b2)];exact kk b b2)
theorem Fe {f:FuncId} {x:Operand} {args:List Operand} {ts:Array TypeId} {ra l l' lc:List AV} {h0 hr H H':Heap} {V:AV} [bF P f] (hx:dm tm x=some (.func (.func f) ra)) (hl:zS tm args=some l) (Q7:ru (l++ra)=some lc) (c:aT P f l' h0 (T0 H V)) (co:yc hp lc l') (hs:C5 hp h0 hr) (ha:su H hr=some H') (hn:Nat.blt d n=true)
 (kk:ae P all rest ⟨n,(d,V) :: tm,H'⟩ Q):ae P all (⟨some d,.call {callee:=.value x,args:=args.toArray,argTypes:=ts},ty,pos,af,none⟩ :: rest) ⟨n,tm,hp⟩ Q:=
 Hs hx hl Q7 c co hs hn (fun r h' ⟨e1,e2⟩=>by subst e1;subst e2;rw [oN ha];exact kk)
theorem Ff {Br:Type} {f:FuncId} {x:Operand} {args:List Operand} {ts:Array TypeId} {ra l l' lc:List AV} {h0 hr:Heap} {H H':Br→Heap} {V:Br→AV} [bF P f] (hx:dm tm x=some (.func (.func f) ra)) (hl:zS tm args=some l) (Q7:ru (l++ra)=some lc) (c:aT P f l' h0 (T1 H V)) (co:yc hp lc l') (hs:C5 hp h0 hr) (ha:∀ b,su (H b) hr=some (H' b)) (hn:Nat.blt d n=true)
 (kk:∀ b,ae P all rest ⟨n,(d,V b) :: tm,H' b⟩ Q):ae P all (⟨some d,.call {callee:=.value x,args:=args.toArray,argTypes:=ts},ty,pos,af,none⟩ :: rest) ⟨n,tm,hp⟩ Q:=
 Hs hx hl Q7 c co hs hn (fun r h' ⟨b,e1,e2⟩=>by subst e1;subst e2;rw [oN (ha b)];exact kk b)
end rules
theorem Co.Q9 {hp:Heap} {α:Type} {g:α→AV} {Xs:List α} {sz:Nat} {b:Bk} (f:nM hp b (.x3 sz (Xs.map g))):Co hp (.sl sz b 0 Xs.length) (.list sz (Xs.map g)):=.x3 sz b _ _ f (by simp)
theorem pk.rP {hp:Heap} {α:Type} {g:α→AV} {Xs:List α} {sz:Nat} {b:Bk} (f:nM hp b (.arr sz (Xs.map g))):pk hp (.sl sz b 0 Xs.length) (.list sz (Xs.map g)):=.arr sz b _ _ f (by simp)
section rules
variable {P:Program} {all:Array Oper} {rest:List Oper} {n:Nat} {tm:List (Nat×AV)} {hp:Heap} {Q:St→Prop} {d:Nat} {ty:TypeId} {pos:String} {af:Array Edge}
theorem bI {x:Operand} {s:TypeId} {j off:Nat} {sz:Nat} {b:Bk} {q o o':Nat} [ng P s j off] (hx:dm tm x=some (.qH sz b q o)) (ho:o+off=o'):QV P ⟨some d,.fieldAddr s x j,ty,pos,af,none⟩ ⟨n,tm,hp⟩ (.qH sz b q o'):=by
 subst ho
 exact DM hx
theorem CB {t:TypeId} {i:TypeInfo} {x y:Operand} {b:Bk} {sz q o:Nat} {xs:List AV} {av el uy:AV} {cN:Heap} [br P t i] (hx:dm tm x=some (.qH sz b q o)) (hy:dm tm y=some av) (h1:mL av.cells=true) (jZ:Nat.beq av.cells.length i.size=true)
 (u:nN hp b (.arr sz xs) b (.arr sz (xs.set q uy)) cN) (hq:xs[q]? =some el) (x9:uy.cells=ov el.cells o av.cells) (ho:Nat.ble (o+av.cells.length) el.cells.length=true) (kk:ae P all rest ⟨n,tm,cN⟩ Q):ae P all (⟨none,.store t x y,ty,pos,af,none⟩ :: rest) ⟨n,tm,hp⟩ Q:=by
 refine ae.act rfl rfl (aH:=⟨n,tm,cN⟩) (fun w S a r=>?_) kk
 obtain ⟨m,e1,e2⟩:=(bA (σ:=⟨n,tm,hp⟩) r hx).vz
 obtain ⟨g0,g1,⟨g2,_⟩ | ⟨m',vs,E,g2,g3,g4,g5⟩⟩:=se r.hp (.inl u.lW)
 ·rw [g2] at e1;cases e1
 obtain rfl:m'=m:=by rw [g2] at e1;exact Option.some.inj e1
 have hv:=bA (σ:=⟨n,tm,hp⟩) r hy
 obtain ⟨hl,sV⟩:=tT hv (dG h1)
 have CR:=dG h1
 have jZ:=Nat.eq_of_beq_eq_true jZ
 have ho:=Nat.le_of_ble_eq_true ho
 clear h1 hv hy
 generalize av.cells=nc at *
 generalize My:el.cells=cs at *
 have hle:o+nc.length≤cs.length:=ho
 have zo:=g0 el (List.mem_of_getElem? hq)
 have Bd:cs.length=sz:=by rw [← My];exact zo.1
 have Wn:q < xs.length:=(List.getElem?_eq_some_iff.1 hq).1
 have hmul:(q+1) * sz≤xs.length * sz:=Nat.mul_le_mul_right _ (by omega)
 have JW:xs.length * sz≤b.cap * sz:=Nat.mul_le_mul_right _ g1
 rw [Nat.add_mul,Nat.one_mul] at hmul
 have Bb:=ya hl sV CR
 have xn:=run_storeCells_at (P:=P) m' (q * sz+o) E (a.eval y).cells.toList 0 vs w g3 (by simp;omega) Bb
 simp only [Nat.add_zero] at xn
 have CV:(a.eval y).cells.size=i.size:=by rw [← hl];exact jZ
 have Hl:=c0 g0
 have NZ:El sz uy:=by
  refine ⟨by rw [x9];simp [ov];omega,fun c hc=>?_⟩
  rw [x9] at hc
  simp only [ov,List.mem_append] at hc
  rcases hc with (hc | hc) | hc
  ·exact zo.2 c (by rw [My];exact List.mem_of_mem_take hc)
  ·exact CR c hc
  ·exact zo.2 c (by rw [My];exact List.mem_of_mem_drop hc)
 have Bs:flat (xs.set q uy)=(flat xs).take (q * sz+o)++nc++(flat xs).drop (q * sz+o+nc.length):=by
  rw [E5 g0 NZ hq]
  rw [x9];simp only [ov]
  have Jp:cs=((flat xs).drop (q * sz)).take sz:=by
   apply List.ext_getElem?
   intro j
   by_cases hj:j < sz
   ·have:=si g0 hq j hj
    rw [List.getElem?_take,if_pos hj,List.getElem?_drop,this,My]
   ·rw [List.getElem?_eq_none (by omega),List.getElem?_eq_none (by simp;omega)]
  have e1:cs.take o=((flat xs).drop (q * sz)).take o:=by rw [Jp,List.take_take,Nat.min_eq_left (by omega)]
  have e2:cs.drop (o+nc.length)=(((flat xs).drop (q * sz+o+nc.length)).take (sz - (o+nc.length))):=by
   rw [Jp,List.drop_take,List.drop_drop]
   rw [show q * sz+(o+nc.length)=q * sz+o+nc.length from by omega]
  rw [e1,e2]
  have e3:(flat xs).take (q * sz+o)=(flat xs).take (q * sz)++((flat xs).drop (q * sz)).take o:=by rw [List.take_add]
  rw [e3]
  have e4:(flat xs).drop (q * sz+o+nc.length)=((flat xs).drop (q * sz+o+nc.length)).take (sz - (o+nc.length))++(flat xs).drop (q * sz+sz):=by
   conv=>lhs;rw [← List.take_append_drop (sz - (o+nc.length)) ((flat xs).drop (q * sz+o+nc.length))]
   rw [List.drop_drop,show q * sz+o+nc.length+(sz - (o+nc.length))=q * sz+sz from by omega]
  conv=>rhs;rw [e4]
  simp only [List.append_assoc]
 have Bt:=fun (w':World) (ha:mR w' S (flat xs) vs) (hb:mR w' S nc (a.eval y).cells)=>Hp (q * sz+o) (by rw [Hl,g4];exact JW) ha hl hb (by omega)
 have JX:(vs.toList.take (q * sz+o)++(a.eval y).cells.toList++vs.toList.drop (q * sz+o+(a.eval y).cells.toList.length)).toArray.size=b.cap * sz:=by
  simp;omega
 generalize (vs.toList.take (q * sz+o)++(a.eval y).cells.toList++vs.toList.drop (q * sz+o+(a.eval y).cells.toList.length)).toArray=CW at xn Bt JX
 have c:GB w (w.setRow m' CW) b.cu:=⟨⟨rfl,rfl,rfl,by simp,fun k hk sT=>setRow_other w m' k _ (fun e=>sT (by rw [e1,e]))⟩,fun _=>Nat.le_refl _⟩
 have k1:∀ n,S n→S n∧(w.setRow m' CW).heap[n]? =w.heap[n]?:=by
  intro k hk
  refine ⟨hk,setRow_other w m' k _ (fun e=>?_)⟩
  subst e
  exact (r.hp.sep _ u.lW.mem k (ki e1)).1 hk
 have hh:=wC r.hp u c id id ⟨?_,by simpa using g1,.inr ⟨m',CW,E,e1,setRow_heap w m' vs _ E _ g3,JX,by rw [Bs];exact Bt _ (g5.mono k1) (sV.mono k1)⟩⟩ (.inl rfl)
 ·refine ⟨w.setRow m' CW,S,?_,r.heap hh.2.2 hh.1,hh.2.1⟩
  simp [execOp,e2,Instr.storeAt,Instr.sureAddr,storeVar,sizeOf,typeInfo,br.h (P:=P) (t:=t),CV,xn]
 ·intro z hz
  rcases List.mem_or_eq_of_mem_set hz with h | rfl
  ·exact g0 z h
  ·exact NZ
theorem bz {α:Type} {g:α→AV} {Xs:List α} {el uy:α} {j:Int} {t:TypeId} {i:TypeInfo} {x y:Operand} {b:Bk} {sz o:Nat} {av:AV} {cN:Heap} [br P t i] (hx:dm tm x=some (.qH sz b j.toNat o)) (hy:dm tm y=some av) (h1:mL av.cells=true) (jZ:Nat.beq av.cells.length i.size=true)
 (hv:idx Xs j=some el) (x9:(g uy).cells=ov (g el).cells o av.cells) (u:nN hp b (.arr sz (Xs.map g)) b (.arr sz ((Xs.set j.toNat uy).map g)) cN) (ho:Nat.ble (o+av.cells.length) (g el).cells.length=true) (kk:ae P all rest ⟨n,tm,cN⟩ Q):
 ae P all (⟨none,.store t x y,ty,pos,af,none⟩ :: rest) ⟨n,tm,hp⟩ Q:=by
 refine CB (xs:=Xs.map g) (el:=g el) (uy:=g uy) hx hy h1 jZ ?_ (DZ hv) x9 ho kk
 rw [List.map_set] at u
 exact u
end rules
theorem dw {α:Type} {xs:List α} {i:Int} {el v:α} (h:idx xs i=some el):idx (xs.set i.toNat v) i=some v:=by
 obtain ⟨h0,h1,_⟩:=fg h
 unfold idx;rw [if_pos h0,List.getElem?_set_self (by omega)]
theorem cI.hs {w:World} {S:Nat→Prop} {h h':Heap} (r:cI w S h) (s:HS h h'):cI w S h':=by
 obtain ⟨q,hq⟩:=s.perm
 exact (r.perm hq).sub (List.sublist_append_left _ _)
theorem Has.hs {h h':Heap} (s:HS h h') {n:Nat} (hh:Has h' n):Has h n:=by
 obtain ⟨q,hq⟩:=s.perm
 obtain ⟨e,he,hb⟩:=hh
 exact ⟨e,hq.mem_iff.2 (List.mem_append_left _ he),hb⟩
theorem aT.fM {P:Program} {f:FuncId} {args:List AV} {h:Heap} {Q:AV→Heap→Prop} (c:aT P f args h (fun r h1=>∃ h',HS h1 h'∧Q r h')):aT P f args h Q:=
 fun w S vs r hl ha=>(c w S vs r hl ha).mono fun _ _ ⟨v,r,_,S',h1,⟨h',hs,hq⟩,h3,h4,h5⟩=>⟨v,r,h',S',h1,hq,h3,h4.hs hs,h5.less fun _ hn=>hn.hs hs⟩
theorem aj.eqs {n s:Nat} {tm:List (Nat×AV)} {hp:Heap} {T:St→Prop} {av cy:AV} (hs:lk tm s=some av) (he:cy=av) (k:aj ⟨n,(s,cy) :: tm,hp⟩ T):aj ⟨n,tm,hp⟩ T:=by
 subst he
 exact aj.co hs (.refl _) k
theorem C6 {hp cN:Heap} {b:Bk} {o:Ob} (u:nN hp b o b o cN):cN=hp:=by
 generalize hb:b=b',ho:o=o' at u
 have:∀ {h h':Heap} {b b':Bk} {o o':Ob},nN h b o b' o' h'→b=b'→o=o'→h'=h:=by
  intro h h' b b' o o' u
  induction u with
  | here=>rintro rfl rfl;rfl
  | next _ ih=>intro e1 e2;rw [ih e1 e2]
  | skip _ ih=>intro e1 e2;rw [ih e1 e2]
 subst hb ho
 exact this u rfl rfl
theorem aj.Fg {n j:Nat} {tm:List (Nat×AV)} {hp cN:Heap} {T:St→Prop} {b:Bk} {cs pW:List AV} {av cy:AV} (u:nN hp b (.cells cs) b (.cells pW) cN) (hj:cs[j]? =some av) (he:cy=av) (hc:ru (cs.set j cy)=some pW) (k:aj ⟨n,tm,cN⟩ T):aj ⟨n,tm,hp⟩ T:=by
 subst he
 have Jp:cs.set j cy=cs:=by
  apply List.ext_getElem?
  intro i
  by_cases hi:j=i
  ·subst hi
   have jh:=(List.getElem?_eq_some_iff.1 hj).1
   rw [List.getElem?_set_self jh,hj]
  ·rw [List.getElem?_set_ne hi]
 rw [Jp] at hc
 obtain rfl:=nk hc
 rw [C6 u] at k
 exact k
theorem iD {p:Prop} [Decidable p] {x:Bool} (h:p):(decide p&&x)=x:=by simp [h]
theorem iE {p:Prop} [Decidable p] {x:Bool} (h:¬ p):(decide p&&x)=false:=by simp [h]
theorem yg {p:Prop} [Decidable p] {x:Bool} (h:p):(decide p||x)=true:=by simp [h]
theorem yh {p:Prop} [Decidable p] {x:Bool} (h:¬ p):(decide p||x)=x:=by simp [h]
theorem JY {b x:Bool} (h:b=true):(b&&x)=x:=by simp [h]
theorem JZ {b x:Bool} (h:b=false):(b&&x)=false:=by simp [h]
theorem Ra {b x:Bool} (h:b=true):(b||x)=true:=by simp [h]
theorem Rb {b x:Bool} (h:b=false):(b||x)=x:=by simp [h]
def z7 (P:Program) (k:Nat) (t:TypeId) (v u:Value) (b:Bool):Prop:=∀ d w,(Op.equalIn (d+k) t v u).run P w=.ok b w
theorem z7.up {P:Program} {k:Nat} {t:TypeId} {v u:Value} {b:Bool} (h:z7 P k t v u b) (j:Nat):z7 P (k+j) t v u b:=fun d w=>by
 rw [show d+(k+j)=(d+j)+k from by omega];exact h _ w
theorem z7.cast {P:Program} {k:Nat} {t:TypeId} {v u:Value} {b b':Bool} (h:z7 P k t v u b) (e:b=b'):z7 P k t v u b':=by rw [← e];exact h
inductive Iz (P:Program) (k:Nat) (xs ys:Array Value):List Field→Bool→Prop
 | nil:Iz P k xs ys [] true
 | cons {f:Field} {fs:List Field} {px py:Value} {b b':Bool} (hn:f.name≠"_") (hx:∀ w,(part f.type xs f.offset).run P w=.ok px w) (hy:∀ w,(part f.type ys f.offset).run P w=.ok py w) (he:z7 P k f.type px py b) (kk:Iz P k xs ys fs b'):Iz P k xs ys (f :: fs) (b&&b')
theorem Iz.run {P:Program} {k:Nat} {xs ys:Array Value} {fs:List Field} {b:Bool} (h:Iz P k xs ys fs b) (d:Nat) (w:World):(Op.eqFields (d+k) xs ys fs).run P w=.ok b w:=by
 induction h with
 | nil=>simp [Op.eqFields]
 | @cons f fs px py b b' hn hx hy he kk ih=>
   simp only [Op.eqFields,hn,ne_eq,not_false_eq_true,if_true,Sem.run_bind,hx,hy,he d w,Result.andThen_ok]
   cases b
   ·simp
   ·simpa using ih
theorem z7.struct {P:Program} {k:Nat} {t:TypeId} {xs ys:Array Value} {fs:List Field} {b:Bool} (hu:P.underlying t=some (.struct fs.toArray)) (hp:P.stoodInHeld t=false) (h:Iz P k xs ys fs b):z7 P (k+1) t (.agg xs) (.agg ys) b:=by
 intro d w
 have hf:P.fieldsOf t=fs.toArray:=by simp [Program.fieldsOf,hu]
 rw [show d+(k+1)=(d+k)+1 from rfl,run_equalIn_struct w (d+k) t xs ys (by rw [hf];exact hu) hp,hf]
 exact h.run d w
theorem fN {P:Program} {t:TypeId} {D:TypeDesc} [aP P t D] (hD:TypeDesc.lp D=false) {cs:Array Value} {off:Nat} {v:Value} (h:cs[off]? =some v) (w:World):(part t cs off).run P w=.ok v w:=by
 unfold part isAgg
 simp only [Sem.run_bind,run_underlying (aP.h (P:=P) (t:=t)),Result.andThen_ok]
 cases D<;>simp_all [TypeDesc.lp]
theorem mR.get {w:World} {S:Nat→Prop} {cs:List AV} {vs:Array Value} (hl:cs.length=vs.size) (ha:mR w S cs vs) {off:Nat} {c:AV} (hc:cs[off]? =some c):∃ v,vs[off]? =some v∧At w S c v:=by
 have jh:=(List.getElem?_eq_some_iff.1 hc).1
 have:off < vs.size:=by omega
 exact ⟨vs[off],by simp [this],ha off c _ hc (by simp [this])⟩
class tW (P:Program) (t:TypeId) (k:outParam Nat) {α:Type} [DecidableEq α] (g:α→AV):Prop where
 h:∀ (x y:α) (w:World) (S:Nat→Prop) (v u:Value),At w S (g x) v→At w S (g y) u→z7 P k t v u (decide (x=y))
class Mz (P:Program) (t:TypeId):Prop where
 h:P.eqGuardType P.depth t=false
instance Rc {P:Program} {t:TypeId} {k:IntKind} [aP P t (.int k)]:tW P t 1 (AV.int k):=⟨fun x y w S v u hv hu d w'=>by
 rw [hv.eG,hu.eG,Op.equalIn]
 simp [run_underlying (aP.h (P:=P) (t:=t))]
 rw [Bool.eq_iff_iff];simp⟩
instance SY {P:Program} {t:TypeId} [aP P t (.int .i64)]:tW P t 1 I:=Rc (k:=.i64)
instance eqStr {P:Program} {t:TypeId} [aP P t .string]:tW P t 1 AV.str:=⟨fun x y w S v u hv hu d w'=>by
 rw [hv.gQ,hu.gQ,Op.equalIn]
 simp [run_underlying (aP.h (P:=P) (t:=t))]
 rw [Bool.eq_iff_iff]
 rw [beq_toListBytes,ByteArray.toList_eq,ByteArray.toList_eq]
 simp⟩
def cd (k:IntKind) (x y:Int):Int:=x.fdiv (2 ^ min y.toNat k.bits)
section rules
variable {P:Program} {all:Array Oper} {rest:List Oper} {n:Nat} {tm:List (Nat×AV)} {hp:Heap} {Q:St→Prop} {d:Nat} {ty:TypeId} {pos:String} {af:Array Edge}
theorem N0 {α:Type} [DecidableEq α] {g:α→AV} {X Y:α} {k:Nat} {xt yt:TypeId} {x y:Operand} {cs ds:List AV} [tW P xt k g] [Mz P xt] (hk:Nat.ble k 10000=true) (hx:dm tm x=some (.agg cs)) (hy:dm tm y=some (.agg ds)) (eX:g X=.agg cs) (eY:g Y=.agg ds):
 QV P ⟨some d,.binOp .neq xt x y yt,ty,pos,af,none⟩ ⟨n,tm,hp⟩ (.bool (decide (X≠Y))):=by
 intro w S a r
 have hv:=bA (σ:=⟨n,tm,hp⟩) r hx
 have hu:=bA (σ:=⟨n,tm,hp⟩) r hy
 have he:=tW.h (P:=P) (t:=xt) (g:=g) X Y w S _ _ (by rw [eX];exact hv) (by rw [eY];exact hu)
 obtain ⟨vs,e1,_,_⟩:=hv.nQ
 obtain ⟨us,e2,_,_⟩:=hu.nQ
 refine ⟨.bool (decide (X≠Y)),fun w1 _=>?_,.bool _⟩
 have h1:=run_eqGuard_agg (P:=P) w1 .neq xt x y vs us Mz.h
 rw [e1,e2] at he
 have h2:(Op.equal xt (.agg vs) (.agg us)).run P w1=.ok (decide (X=Y)) w1:=by
  have:=he (10000 - k) w1
  rw [Nat.sub_add_cancel (Nat.le_of_ble_eq_true hk)] at this
  exact this
 have h3:(binOp .neq xt (.agg vs) (.agg us)).run P w1=.ok (.bool (decide (X≠Y))) w1:=by
  rw [show binOp .neq xt (.agg vs) (.agg us)=(do pure (.bool (!(← Op.equal xt (.agg vs) (.agg us))))) from rfl]
  simp [h2]
 simp [execOp,e1,e2,h1,h3]
theorem J0 {xt yt:TypeId} {x y:Operand} {s t:List UInt8} (hx:dm tm x=some (.str s)) (hy:dm tm y=some (.str t)):QV P ⟨some d,.binOp .leq xt x y yt,ty,pos,af,none⟩ ⟨n,tm,hp⟩ (.bool (Op.bytesLess s t||s==t)):=by
 refine fun w S a r=>⟨.bool (Op.bytesLess s t||s==t),fun w1 _=>?_,.bool _⟩
 simp [execOp,(bA (σ:=⟨n,tm,hp⟩) r hx).gQ,(bA (σ:=⟨n,tm,hp⟩) r hy).gQ,eqGuard_at_string,binOp,Op.stringOp,ByteArray.toList_eq]
theorem z8 {k k':IntKind} {xt yt:TypeId} {x y:Operand} {i j:Int} (hx:dm tm x=some (.int k i)) (hy:dm tm y=some (.int k' j)) (h0:¬ j < 0):QV P ⟨some d,.binOp .shr xt x y yt,ty,pos,af,none⟩ ⟨n,tm,hp⟩ (.int k (cd k i j)):=by
 refine fun w S a r=>⟨.int k (cd k i j),fun w1 _=>?_,.int _ _⟩
 simp [execOp,(bA (σ:=⟨n,tm,hp⟩) r hx).eG,(bA (σ:=⟨n,tm,hp⟩) r hy).eG,eqGuard_at_int,binOp,Op.shift,h0,cd]
end rules
end Go.Eng
namespace Go.Eng
open Go Go.RowKit
variable [bM]
theorem C7 (l:List Int):flat (l.map I)=l.map I:=by
 induction l with
 | nil=>rfl
 | cons x r ih=>rw [List.map_cons,gI,ih];rfl
theorem J6 {P:Program} {f:FuncId} {a:Option Addr} {len cap:Nat} {zs:List Int} {w:World}
 (Bu:(a=none∧len=0∧cap=0∧zs=[])∨∃ x,a=some x∧len≤cap∧cap≤maxLen∧zs.length=cap∧(∀ i,i < zs.length→w.cell? (x.add i)=some (.int .i64 (zs.getD i 0)))∧∀ n∈zs,(Lit.int .i64 n).wf=true)
 (hG:∀ g o,bM.QG g=some o→g < w.heap.size∧o (w.heap[g]?))
 (c:∀ l:List Int,Pu P f [.list 1 (l.map I)] (.bool true)):
 Calls P f #[.slice a len cap] w fun e w'=>e=.returned (.bool true)∧Below w.heap.size w w':=by
 let S:Nat→Prop:=fun n=>n < w.heap.size
 have sV:∃ l:List Int,At w S (.list 1 (l.map I)) (.slice a len cap):=by
  rcases Bu with ⟨rfl,rfl,rfl,rfl⟩ | ⟨x,rfl,h1,h2,h3,h4,h5⟩
  ·exact ⟨[],.list 1 [] none 0 [] (by simp) rfl (by simp [flat]) (by simp) (by simp)⟩
  ·refine ⟨zs.take len,?_⟩
   have hl:((zs.take len).map I).length=len:=by simp;omega
   have key:=At.list (w:=w) (S:=S) 1 ((zs.take len).map I) (some x) cap ((zs.take len).map (fun n=>Value.int .i64 n)) ?_ ?_ ?_ ?_ ?_
   ·rw [hl] at key;exact key
   ·intro y hy
    obtain ⟨n,_,rfl⟩:=List.mem_map.1 hy
    exact ⟨rfl,fun c hc=>by simp [AV.cells] at hc;subst hc;rfl⟩
   ·rw [C7];simp
   ·intro i c v hc hv
    rw [C7,List.getElem?_map] at hc
    rw [List.getElem?_map] at hv
    cases hn:(zs.take len)[i]? with
    | none=>rw [hn] at hc;cases hc
    | some n=>
      rw [hn] at hc hv
      obtain rfl:=Option.some.inj hc
      obtain rfl:=Option.some.inj hv
      exact .int _ _
   ·intro i v hv
    rw [List.getElem?_map] at hv
    cases hn:(zs.take len)[i]? with
    | none=>rw [hn] at hv;cases hv
    | some n=>
      rw [hn] at hv
      obtain rfl:=Option.some.inj hv
      have hi:i < zs.length:=by
       have:=(List.getElem?_eq_some_iff.1 hn).1
       simp at this;omega
      have hz:zs.getD i 0=n:=by
       rw [List.getElem?_take] at hn
       split at hn
       ·rw [List.getD_eq_getElem?_getD,hn];rfl
       ·cases hn
      have vM:=h4 i hi
      rw [hz] at vM
      obtain ⟨bk,of,sp⟩:=x
      have NP:sp=none:=by
       cases sp with
       | none=>rfl
       | some q=>
         have Re:=h4 0 (by omega)
         unfold World.cell? Addr.add at Re
         simp only [if_true] at Re
         split at Re
         ·simp at Re
         ·cases Re
      subst NP
      rw [nj] at vM
      have hblk:bk < w.heap.size:=by
       rcases Nat.lt_or_ge bk w.heap.size with h | h
       ·exact h
       ·unfold World.cell? at vM
        simp only [Array.getElem?_eq_none h] at vM
        cases vM
      exact ⟨_,rfl,rfl,hblk,vM⟩
   ·rw [hl];exact h1
 obtain ⟨l,sV⟩:=sV
 refine (c l w S #[.slice a len cap] (sq (fun n hn=>hn) hG) rfl ?_).mono ?_
 ·intro i c' v hc hv
  match i with
  | 0=>simp at hc hv;subst hc;subst hv;exact sV
  | i+1=>simp at hc
 ·rintro e w' ⟨v,r,h',S',rfl,rfl,h1,h2,h3⟩
  refine ⟨by rw [h1.ln],h3.os,h3.tape,h3.output,h3.size,fun k hk=>(h3.nf k hk).2⟩
end Go.Eng
namespace Go.Eng
open Go
variable [bM]
def nn (e:Env) (d:Option Nat) (o:Option AV):Env:=match d with
 | some d=>fun s=>if d=s then o else e s
 | none=>e
theorem jB {e:Env} {d:Option Nat} {o:Option AV} {s:Nat} (h:d≠some s):nn e d o s=e s:=by
 cases d with
 | none=>rfl
 | some d=>simp only [nn];rw [if_neg (fun e=>h (by rw [e]))]
theorem mo {e:Env} {o:Option AV} {s:Nat}:nn e (some s) o s=o:=by simp [nn]
section order
variable {P:Program} {all:Array Oper} {n m:Nat} {hp:Heap}
def vj (all:Array Oper) (ni:Nat→Option AV) (e:Env) (listed:Array Bool):Nat→Env
 | 0=>e
 | k+1=>if listed.getD k false then nn (vj all ni e listed k) ((all[k]?).bind (·.dst)) (ni k) else vj all ni e listed k
variable {ni:Nat→Option AV} {en:Nat→Env} {e:Env}
theorem IA (hB:uY all m) {listed:Array Bool} (L:LR all m listed) (h0:en 0=e) (hs:∀ i o,i < m→all[i]? =some o→en (i+1)=nn (en i) o.dst (ni i)) (hm:m≤all.size)
 {i:Nat} {o:Oper} (ho:all[i]? =some o) (C4:i < m) (w9:listed.getD i false=false) (hr:∀ j,zX all i j→listed.getD j false=true) {s:Nat} (EM:s∈looks all o):∀ k,k≤all.size→vj all ni e listed k s=en (min k i) s:=by
 intro k
 induction k with
 | zero=>intro _;simp [vj,h0]
 | succ k ih=>
   intro hk
   have vh:=ih (by omega)
   have vi:all[k]? =some all[k]:=by simp [show k < all.size by omega]
   simp only [vj,vi,Option.bind_some]
   rcases Nat.lt_trichotomy k i with jh | heq | JN
   ·rw [Nat.min_eq_left (by omega)] at vh
    rw [Nat.min_eq_left (by omega),hs k _ (by omega) vi]
    by_cases hd:(all[k]).dst=some s
    ·have hl:listed.getD k false=true:=hr k ((kU hB ho vi jh).1 C4 (xH hd EM))
     rw [if_pos hl,hd,mo,mo]
    ·rw [jB hd]
     split
     ·rw [jB hd];exact vh
     ·exact vh
   ·subst heq
    rw [w9]
    simp only [Bool.false_eq_true,if_false]
    rw [Nat.min_eq_right (by omega)]
    rw [Nat.min_eq_right (by omega)] at vh
    exact vh
   ·rw [Nat.min_eq_right (by omega)] at vh
    rw [Nat.min_eq_right (by omega)]
    by_cases hl:listed.getD k false=true
    ·by_cases hd:(all[k]).dst=some s
     ·exfalso
      have hw:=(kU hB vi ho JN).1 (L.head k hl) (z6 hd EM)
      have:=lZ.Mt L.closed hw hl
      rw [w9] at this;cases this
     ·rw [if_pos hl,jB hd];exact vh
    ·rw [if_neg hl];exact vh
theorem J7 (hB:uY all m) {listed:Array Bool} (L:LR all m listed) {i:Nat} {o:Oper} (ho:all[i]? =some o) (C4:i < m) (w9:listed.getD i false=false) (s:Nat):
 ∀ k,k≤all.size→vj all ni e (listed.setIfInBounds i true) k s=(if i < k then nn (vj all ni e listed k) o.dst (ni i) s else vj all ni e listed k s):=by
 have hi:i < listed.size:=by rw [L.size];exact (Array.getElem?_eq_some_iff.1 ho).1
 intro k
 induction k with
 | zero=>intro _;simp [vj]
 | succ k ih=>
   intro hk
   have vh:=ih (by omega)
   have vi:all[k]? =some all[k]:=by simp [show k < all.size by omega]
   simp only [vj,vi,Option.bind_some,jA hi]
   rcases Nat.lt_trichotomy k i with jh | heq | JN
   ·rw [if_neg (by omega)] at vh
    have e1:(if k=i then true else listed.getD k false)=listed.getD k false:=if_neg (by omega)
    rw [e1,if_neg (show ¬ i < k+1 by omega)]
    by_cases hl:listed.getD k false=true
    ·rw [if_pos hl,if_pos hl]
     by_cases hd:(all[k]).dst=some s
     ·rw [hd,mo,mo]
     ·rw [jB hd,jB hd];exact vh
    ·rw [if_neg hl,if_neg hl];exact vh
   ·subst heq
    rw [if_neg (by omega)] at vh
    have e1:(if k=k then true else listed.getD k false)=true:=if_pos rfl
    rw [e1,if_pos (show k < k+1 by omega),if_pos rfl,w9,if_neg Bool.false_ne_true]
    obtain rfl:all[k]=o:=by rw [vi] at ho;exact Option.some.inj ho
    by_cases hd:(all[k]).dst=some s
    ·rw [hd,mo,mo]
    ·rw [jB hd,jB hd];exact vh
   ·rw [if_pos JN] at vh
    have e1:(if k=i then true else listed.getD k false)=listed.getD k false:=if_neg (by omega)
    rw [e1,if_pos (show i < k+1 by omega)]
    by_cases hl:listed.getD k false=true
    ·rw [if_pos hl,if_pos hl]
     by_cases hd:(all[k]).dst=some s
     ·by_cases Iw:o.dst=some s
      ·exfalso
       have hw:=(kU hB vi ho JN).1 (L.head k hl) (C3 Iw hd)
       have:=lZ.Mt L.closed hw hl
       rw [w9] at this;cases this
      ·rw [hd,mo,jB Iw,mo]
     ·by_cases Iw:o.dst=some s
      ·rw [jB hd,vh,Iw,mo,mo]
      ·rw [jB hd,vh,jB Iw,jB Iw,jB hd]
    ·rw [if_neg hl,if_neg hl];exact vh
structure Tok where
 prod:Option Nat
 cons:Option Nat
 Us:List Nat
 YQ:Bk→Bk×Ob
 SZ:Option Nat
 Ws:List Nat
def Tok.ix (t:Tok):Option Nat:=match t.SZ with | some a=>some a | none=>t.prod
def Tok.at (t:Tok) (β:Nat→Bk):Bk×Ob:=t.YQ (match t.ix with | some i=>β i | none=>⟨none,0⟩)
def xI (listed:Array Bool) (t:Tok):Bool:=(match t.prod with | none=>true | some i=>listed.getD i false)&&(match t.cons with | none=>true | some i=>!listed.getD i false)
def Aw (i:Nat) (t:Tok):Bool:=match t.cons with | some c=>Nat.beq c i | none=>false
def MA (i:Nat) (t:Tok):Bool:=match t.prod with | some c=>Nat.beq c i | none=>false
def Ht (i:Nat) (t:Tok):Bool:=t.Us.contains i
def yi (tk:List Tok) (i:Nat) (β:Nat→Bk):Heap:=(tk.filter (Ht i)).map (·.at β)
def LO (i:Nat) (t:Tok):Bool:=t.Ws.contains i
def uE (tk:List Tok) (i:Nat) (β:Nat→Bk):List Heap:=match tk.filter (LO i) with
 | []=>[yi tk i β]
 | l=>l.map fun t=>t.at β :: yi tk i β
def ry (tk:List Tok) (listed:Array Bool) (β:Nat→Bk):Heap:=(tk.filter (xI listed)).map (·.at β)
def tE (tk:List Tok) (i:Nat) (β:Nat→Bk):Heap:=(tk.filter (Aw i)).map (·.at β)
def jW (tk:List Tok) (i:Nat) (β:Nat→Bk):Heap:=(tk.filter (MA i)).map (·.at β)
def oU (β:Nat→Bk) (i:Nat) (b:Bk):Nat→Bk:=fun k=>bif Nat.beq k i then b else β k
theorem MB (β:Nat→Bk) (i:Nat) (b:Bk):oU β i b i=b:=by simp [oU]
theorem Hu {β:Nat→Bk} {i k:Nat} {b:Bk} (h:k≠i):oU β i b k=β k:=by simp [oU,qy h]
def J8 (tk:List Tok) (β:Nat→Bk):Heap:=(tk.filter (fun t=>t.cons.isNone)).map (·.at β)
def Rf (A:List Nat) (m:Nat) (tk:List Tok):Bool:=tk.all fun t=>
 (match t.prod with | some p=>Nat.blt p m | none=>true)&&(match t.cons with | some c=>Nat.blt c m&&(match t.prod with | some p=>(A.getD c 0).testBit p | none=>true) | none=>true)&&
 (match t.SZ with | some a=>(match t.prod with | some p=>(A.getD p 0).testBit a | none=>false) | none=>true)&&
 t.Us.all fun i=>Nat.blt i m&&(match t.prod with | some p=>(A.getD i 0).testBit p | none=>true)&&(match t.cons with | some c=>(A.getD c 0).testBit i | none=>true)
def N1 (A:List Nat) (m:Nat) (tk:List Tok):Bool:=(List.range m).all fun i=>match tk.filter (LO i) with
 | []=>true
 | [t0,t1]=>(match t0.cons,t1.prod with | some j,some j'=>Nat.beq j j'&&!Nat.beq j i | _,_=>false)&&(match t0.prod with | some p=>(A.getD i 0).testBit p | none=>true)&&(match t1.cons with | some c=>(A.getD c 0).testBit i | none=>true)&&!Ht i t0&&!Ht i t1
 | _=>false
def GD (all:Array Oper) (m:Nat) (tk:List Tok):Prop:=∀ i,i < m→tk.filter (LO i)=[]∨∃ t0 t1 j,tk.filter (LO i)=[t0,t1]∧t0.cons=some j∧t1.prod=some j∧j≠i∧(∀ p,t0.prod=some p→zX all i p)∧(∀ c,t1.cons=some c→zX all c i)∧Ht i t0=false∧Ht i t1=false
theorem GF {A:List Nat} {tk:List Tok} (hA:Iv all=A) (h:N1 A m tk=true):GD all m tk:=by
 intro i hi
 have:=List.all_eq_true.1 h i (List.mem_range.2 hi)
 split at this
 ·rename_i e;exact .inl e
 ·rename_i t0 t1 e
  simp only [Bool.and_eq_true,Bool.not_eq_true'] at this
  obtain ⟨⟨⟨⟨h1,h2⟩,h3⟩,h4⟩,h5⟩:=this
  split at h1
  ·rename_i j j' hj Ut
   simp only [Bool.and_eq_true,Bool.not_eq_true'] at h1
   obtain ⟨h6,h7⟩:=h1
   obtain rfl:=Nat.eq_of_beq_eq_true h6
   refine .inr ⟨t0,t1,j,e,hj,Ut,fun e=>by rw [e] at h7;simp at h7,fun p hp=>?_,fun c hc=>?_,h4,h5⟩
   ·rw [hp] at h2;subst hA;exact o7 h2
   ·rw [hc] at h3;subst hA;exact o7 h3
  ·cases h1
 ·cases this
def Bv (all:Array Oper) (m:Nat) (tk:List Tok):Prop:=∀ t∈tk,(∀ p,t.prod=some p→p < m)∧(∀ c,t.cons=some c→c < m∧∀ p,t.prod=some p→zX all c p)∧(∀ i,Ht i t=true→i < m∧(∀ p,t.prod=some p→zX all i p)∧∀ c,t.cons=some c→zX all c i)∧∀ a,t.SZ=some a→∃ p,t.prod=some p∧zX all p a
theorem IB {A:List Nat} {tk:List Tok} (hA:Iv all=A) (h:Rf A m tk=true):Bv all m tk:=by
 intro t ht
 have:=List.all_eq_true.1 h t ht
 rw [Bool.and_eq_true,Bool.and_eq_true,Bool.and_eq_true] at this
 obtain ⟨⟨⟨h1,h2⟩,h9⟩,h4⟩:=this
 subst hA
 refine ⟨fun p hp=>by rw [hp] at h1;simpa using h1,fun c hc=>?_,fun i hi=>?_,fun a ha=>?_⟩
 ·rw [hc] at h2
  simp only [Bool.and_eq_true] at h2
  refine ⟨by simpa using h2.1,fun p hp=>?_⟩
  have h3:=h2.2
  rw [hp] at h3
  exact o7 h3
 ·have h5:=List.all_eq_true.1 h4 i (by simpa [Ht] using hi)
  rw [Bool.and_eq_true,Bool.and_eq_true] at h5
  obtain ⟨⟨h6,h7⟩,h8⟩:=h5
  exact ⟨by simpa using h6,fun p hp=>by rw [hp] at h7;exact o7 h7,fun c hc=>by rw [hc] at h8;exact o7 h8⟩
 ·rw [ha] at h9
  cases hp:t.prod with
  | none=>rw [hp] at h9;cases h9
  | some p=>rw [hp] at h9;exact ⟨p,rfl,o7 h9⟩
theorem uF {α:Type} (p q:α→Bool) (l:List α):(l.filter p).Perm (l.filter (fun x=>p x&&q x)++l.filter (fun x=>p x&&!q x)):=by
 induction l with
 | nil=>exact List.Perm.refl _
 | cons x l ih=>
   simp only [List.filter_cons]
   cases hp:p x<;>cases hq:q x
   ·simpa using ih
   ·simpa using ih
   ·simp only [Bool.true_and,Bool.not_false,Bool.false_eq_true,if_false,if_true]
    exact (List.Perm.cons x ih).trans List.perm_middle.symm
   ·simp only [Bool.true_and,Bool.not_true,Bool.false_eq_true,if_false,if_true,List.cons_append]
    exact List.Perm.cons x ih
theorem OS {tk:List Tok} (hT:Bv all m tk) {listed:Array Bool} {i:Nat} (w9:listed.getD i false=false) (D2:∀ j,zX all i j→listed.getD j false=true) (β:Nat→Bk):
 (ry tk listed β).Perm (tE tk i β++(tk.filter (fun t=>xI listed t&&!Aw i t)).map (·.at β)):=by
 unfold ry tE
 rw [← List.map_append]
 refine List.Perm.map _ ?_
 have e:tk.filter (Aw i)=tk.filter (fun t=>xI listed t&&Aw i t):=by
  apply List.filter_congr
  intro t ht
  cases hc:Aw i t with
  | false=>simp
  | true=>
    unfold Aw at hc
    split at hc
    ·rename_i c Qe
     obtain rfl:c=i:=Nat.eq_of_beq_eq_true hc
     have:=(hT t ht).2.1 c Qe
     have LQ:xI listed t=true:=by
      unfold xI
      rw [Qe]
      simp only [w9,Bool.not_false,Bool.and_true]
      split
      ·rfl
      ·rename_i p hp;exact D2 p (this.2 p hp)
     rw [LQ];rfl
    ·cases hc
 rw [e]
 exact uF _ _ _
theorem MC {tk:List Tok} (hT:Bv all m tk) {listed:Array Bool} (Bd:lZ all listed) {i:Nat} (hi:i < listed.size) (w9:listed.getD i false=false) (D3:∀ c,zX all c i→c≠i) (β:Nat→Bk) (b:Bk):
 (ry tk (listed.setIfInBounds i true) (oU β i b)).Perm (jW tk i (oU β i b)++(tk.filter (fun t=>xI listed t&&!Aw i t)).map (·.at β)):=by
 unfold ry jW
 have e2:(tk.filter (fun t=>xI listed t&&!Aw i t)).map (·.at β)=(tk.filter (fun t=>xI listed t&&!Aw i t)).map (·.at (oU β i b)):=by
  apply List.map_congr_left
  intro t ht
  have h0:=(List.mem_filter.1 ht).1
  have h1:=(List.mem_filter.1 ht).2
  rw [Bool.and_eq_true] at h1
  have SL:∀ p,t.prod=some p→listed.getD p false=true:=by
   intro p hp
   have:=h1.1
   unfold xI at this
   rw [hp,Bool.and_eq_true] at this
   exact this.1
  unfold Tok.at
  cases hx:t.ix with
  | none=>rfl
  | some p=>
    have Mh:listed.getD p false=true:=by
     unfold Tok.ix at hx
     cases ha:t.SZ with
     | none=>rw [ha] at hx;exact SL p hx
     | some a=>
       rw [ha] at hx
       obtain rfl:=Option.some.inj hx
       obtain ⟨q,q1,q2⟩:=(hT t h0).2.2.2 a ha
       exact Bd.Mt q2 (SL q q1)
    have:p≠i:=fun e=>by subst e;rw [w9] at Mh;cases Mh
    simp only [Hu this]
 rw [e2,← List.map_append]
 refine List.Perm.map _ ?_
 refine (uF _ (MA i) _).trans ?_
 have f1:tk.filter (fun t=>xI (listed.setIfInBounds i true) t&&MA i t)=tk.filter (MA i):=by
  apply List.filter_congr
  intro t ht
  cases hp:MA i t with
  | false=>simp
  | true=>
    unfold MA at hp
    split at hp
    ·rename_i p Wt
     obtain rfl:p=i:=Nat.eq_of_beq_eq_true hp
     have LQ:xI (listed.setIfInBounds p true) t=true:=by
      unfold xI
      rw [Wt]
      simp only [jA hi,if_true,Bool.true_and]
      cases hc:t.cons with
      | none=>rfl
      | some c=>
        have D2:=((hT t ht).2.1 c hc).2 p Wt
        have sT:=D3 c D2
        simp only [sT,if_false]
        cases hl:listed.getD c false with
        | false=>rfl
        | true=>have:=Bd.Mt D2 hl;rw [w9] at this;cases this
     rw [LQ];rfl
    ·cases hp
 have f2:tk.filter (fun t=>xI (listed.setIfInBounds i true) t&&!MA i t)=tk.filter (fun t=>xI listed t&&!Aw i t):=by
  apply List.filter_congr
  intro t ht
  unfold xI MA Aw
  cases hp:t.prod with
  | none=>
    cases hc:t.cons with
    | none=>simp
    | some c=>
      simp only [jA hi]
      by_cases LU:c=i
      ·subst LU;simp
      ·have:Nat.beq c i=false:=qy LU
       simp [LU,this]
  | some p=>
    by_cases S3:p=i
    ·subst S3
     simp [w9]
    ·have hb:Nat.beq p i=false:=qy S3
     cases hc:t.cons with
     | none=>simp [jA hi,S3,hb]
     | some c=>
       simp only [jA hi,S3,hb,if_false]
       by_cases LU:c=i
       ·subst LU;simp
       ·have:Nat.beq c i=false:=qy LU
        simp [LU,this]
 rw [f1,f2]
theorem J9 {tk:List Tok} (hT:Bv all m tk) {listed:Array Bool} (Bd:lZ all listed) {i:Nat} (w9:listed.getD i false=false) (D2:∀ j,zX all i j→listed.getD j false=true) (D3:∀ c,zX all c i→c≠i) (β:Nat→Bk):
 ((tk.filter (fun t=>xI listed t&&!Aw i t)).map (·.at β)).Perm (yi tk i β++(tk.filter (fun t=>(xI listed t&&!Aw i t)&&!Ht i t)).map (·.at β)):=by
 unfold yi
 rw [← List.map_append]
 refine List.Perm.map _ ?_
 have e:tk.filter (Ht i)=tk.filter (fun t=>(xI listed t&&!Aw i t)&&Ht i t):=by
  apply List.filter_congr
  intro t ht
  cases hr:Ht i t with
  | false=>simp
  | true=>
    obtain ⟨_,q2,q3⟩:=(hT t ht).2.2.1 i hr
    have h1:xI listed t=true:=by
     unfold xI
     have e1:(match t.prod with | none=>true | some i=>listed.getD i false)=true:=by
      cases hp:t.prod with
      | none=>rfl
      | some p=>exact D2 p (q2 p hp)
     have e2:(match t.cons with | none=>true | some i=>!listed.getD i false)=true:=by
      cases hc:t.cons with
      | none=>rfl
      | some c=>
        have:=q3 c hc
        show (!listed.getD c false)=true
        cases hl:listed.getD c false with
        | false=>rfl
        | true=>have:=Bd.Mt this hl;rw [w9] at this;cases this
     rw [e1,e2];rfl
    have h2:Aw i t=false:=by
     unfold Aw
     cases hc:t.cons with
     | none=>rfl
     | some c=>exact qy (D3 c (q3 c hc))
    rw [h1,h2];rfl
 rw [e]
 exact uF _ _ _
theorem IC {tk:List Tok} (hT:Bv all m tk) (hS:GD all m tk) {listed:Array Bool} (Bd:lZ all listed) {i:Nat} (C4:i < m) (w9:listed.getD i false=false) (D2:∀ j,zX all i j→listed.getD j false=true) (D3:∀ c,zX all c i→c≠i) (β:Nat→Bk):
 ∃ X∈uE tk i β,∃ rest,((tk.filter (fun t=>xI listed t&&!Aw i t)).map (·.at β)).Perm (X++rest):=by
 have h0:=J9 hT Bd w9 D2 D3 β
 rcases hS i C4 with e | ⟨t0,t1,j,e,a1,a2,a3,a4,a5,a6,a7⟩
 ·exact ⟨yi tk i β,by unfold uE;rw [e];simp,_,h0⟩
 ·have m0:t0∈tk:=(List.mem_filter.1 (by rw [e];simp:t0∈tk.filter (LO i))).1
  have m1:t1∈tk:=(List.mem_filter.1 (by rw [e];simp:t1∈tk.filter (LO i))).1
  have go:∀ t,t∈tk→xI listed t=true→Aw i t=false→Ht i t=false→∃ rest,((tk.filter (fun t=>xI listed t&&!Aw i t)).map (·.at β)).Perm ((t.at β :: yi tk i β)++rest):=by
   intro t ht h1 h2 h3
   have hm:t∈tk.filter (fun t=>(xI listed t&&!Aw i t)&&!Ht i t):=List.mem_filter.2 ⟨ht,by simp [h1,h2,h3]⟩
   obtain ⟨a,b,Bw⟩:=List.append_of_mem hm
   rw [Bw] at h0
   refine ⟨(a++b).map (·.at β),h0.trans ?_⟩
   rw [List.map_append,List.map_cons,List.map_append]
   refine (List.Perm.append_left _ List.perm_middle).trans ?_
   exact List.perm_middle
  have hX:∀ t,t∈[t0,t1]→(t.at β :: yi tk i β)∈uE tk i β:=by
   intro t ht
   unfold uE
   rw [e]
   exact List.mem_map.2 ⟨t,ht,rfl⟩
  cases hj:listed.getD j false with
  | false=>
    have h1:xI listed t0=true:=by
     unfold xI
     rw [a1]
     simp only [hj,Bool.not_false,Bool.and_true]
     split
     ·rfl
     ·rename_i p hp;exact D2 p (a4 p hp)
    have h2:Aw i t0=false:=by unfold Aw;rw [a1];exact qy a3
    obtain ⟨rest,hr⟩:=go t0 m0 h1 h2 a6
    exact ⟨_,hX t0 (by simp),rest,hr⟩
  | true=>
    have h1:xI listed t1=true:=by
     unfold xI
     rw [a2]
     simp only [hj,Bool.true_and]
     split
     ·rfl
     ·rename_i c hc
      cases hl:listed.getD c false with
      | false=>rfl
      | true=>have:=Bd.Mt (a5 c hc) hl;rw [w9] at this;cases this
    have h2:Aw i t1=false:=by
     unfold Aw
     split
     ·rename_i c hc;exact qy (D3 c (a5 c hc))
     ·rfl
    obtain ⟨rest,hr⟩:=go t1 m1 h1 h2 a7
    exact ⟨_,hX t1 (by simp),rest,hr⟩
def TV (P:Program) (all:Array Oper) (n:Nat) (B:Heap) (o:Oper) (e:Env) (Ti:Heap) (V:Bk→AV) (Pi:Bk→Heap):Prop:=
 ∀ w S a,a.tmps.size=n→a.defers=[]→cI w S (Ti++B)→DS w S (looks all o) e a→∀ (K:Act→World→Prop) (Q:Exit→Act→World→Prop),
   (∀ b v w' S',k9 w S (Ti++B) w' S' (Pi b++B)→cI w' S' (Pi b++B)→At w' S' (V b) v→K (a.put o.dst v) w')→o.wp P a w K Q
def rz (P:Program) (all:Array Oper) (n:Nat) (B:Heap) (o:Oper) (e:Env) (Ti:Heap) (V:Bk→AV) (Pi:Bk→Heap):Prop:=
 (∀ d,o.dst=some d→d < n)∧((oT all o e true∧TV P all n B o e Ti V Pi)∨(oT all o e false∧∀ b,Pi b=Ti∧V b=.raw undef))
def Gp (e c:Env):Env:=fun s=>match e s with | some av=>some av | none=>c s
theorem Ka {e c:Env} {s:Nat} {av:AV} (h:e s=some av):Gp e c s=some av:=by simp [Gp,h]
theorem oT.up {all:Array Oper} {o:Oper} {e c:Env} {b:Bool} (h:oT all o e b):oT all o (Gp e c) b:=by
 unfold oT at *
 cases hg:o.guard with
 | none=>rw [hg] at h;exact h
 | some g=>
   rw [hg] at h
   obtain ⟨s,h1,h2⟩:=h
   refine ⟨s,h1,?_⟩
   rcases h2 with ⟨x,h3,h4⟩ | ⟨h3,h4⟩
   ·exact .inl ⟨x,Ka h3,h4⟩
   ·exact .inr ⟨Ka h3,h4⟩
theorem DS.down {w:World} {S:Nat→Prop} {ls:List Nat} {e c:Env} {a:Act} (h:DS w S ls (Gp e c) a):DS w S ls e a:=fun s hs av sn=>h s hs av (Ka sn)
theorem rz.up {P:Program} {all:Array Oper} {n:Nat} {B:Heap} {o:Oper} {e c:Env} {Ti:Heap} {V:Bk→AV} {Pi:Bk→Heap} (h:rz P all n B o e Ti V Pi):rz P all n B o (Gp e c) Ti V Pi:=by
 refine ⟨h.1,h.2.imp (fun x=>⟨x.1.up,fun w S a h1 h2 h3 h4=>x.2 w S a h1 h2 h3 h4.down⟩) (fun x=>⟨x.1.up,x.2⟩)⟩
theorem Kb {all:Array Oper} {ni:Nat→Option AV} {V:Nat→Bk→AV} {cn:Nat→(Nat→Bk)→Env} {m:Nat} (h0:∀ β s,cn 0 β s=none) (hc:∀ i o,i < m→all[i]? =some o→∀ β,cn (i+1) β=match ni i with | none=>nn (cn i β) o.dst (some (V i (β i))) | some _=>cn i β) (hm:m≤all.size):
 ∀ i,i≤m→∀ β s av,cn i β s=some av→∃ k o,k < i∧all[k]? =some o∧o.dst=some s∧ni k=none∧av=V k (β k):=by
 intro i
 induction i with
 | zero=>intro _ β s av h;rw [h0] at h;cases h
 | succ i ih=>
   intro hi β s av h
   have vi:all[i]? =some all[i]:=by simp [show i < all.size by omega]
   rw [hc i _ (by omega) vi] at h
   cases sn:ni i with
   | some x=>
     rw [sn] at h
     obtain ⟨k,o,h1,h2⟩:=ih (by omega) β s av h
     exact ⟨k,o,by omega,h2⟩
   | none=>
     rw [sn] at h
     by_cases hd:(all[i]).dst=some s
     ·simp only [hd,mo] at h
      exact ⟨i,_,by omega,vi,hd,sn,(Option.some.inj h).symm⟩
     ·simp only [jB hd] at h
      obtain ⟨k,o,h1,h2⟩:=ih (by omega) β s av h
      exact ⟨k,o,by omega,h2⟩
theorem ID {cn:Nat→(Nat→Bk)→Env} {B:Heap} {tk:List Tok} {V:Nat→Bk→AV} (hB:uY all m) (hT:Bv all m tk) (YR:GD all m tk) (hm:m≤all.size) {Q:Exit→Act→World→Prop} (h0:en 0=e)
 (OR:∀ β s,cn 0 β s=none) (YS:∀ i o,i < m→all[i]? =some o→∀ β,cn (i+1) β=match ni i with | none=>nn (cn i β) o.dst (some (V i (β i))) | some _=>cn i β)
 (hs:∀ i o,i < m→all[i]? =some o→(∀ β,∀ X∈uE tk i β,rz P all n (X++B) o (Gp (en i) (cn i β)) (tE tk i β) (V i) (fun b=>jW tk i (oU β i b)))∧en (i+1)=nn (en i) o.dst (ni i)∧(∀ av,ni i=some av→∀ b,V i b=av))
 (hU:∀ i j oi oj d,i < m→j < m→i≠j→all[i]? =some oi→all[j]? =some oj→ni i=none→oi.dst=some d→oj.dst≠some d) {w0:World} {S0:Nat→Prop} {S4:Heap}
 (fin:∀ β a w S,a.tmps.size=n→a.defers=[]→cI w S (J8 tk β++B)→k9 w0 S0 S4 w S (J8 tk β++B)→Bn w S (en m) a→(∀ j o d,j < m→all[j]? =some o→ni j=none→o.dst=some d→∃ v,a.tmps[d]? =some v∧At w S (V j (β j)) v)→wpList P all Q (all.toList.drop m) a w):
 ∀ (fuel:Nat) (listed:Array Bool) (a:Act) (w:World) (S:Nat→Prop) (β:Nat→Bk),LR all m listed→(listed.toList.count true)+fuel=all.size→a.tmps.size=n→a.defers=[]→cI w S (ry tk listed β++B)→k9 w0 S0 S4 w S (ry tk listed β++B)→Bn w S (vj all ni e listed all.size) a→
   (∀ j o d,listed.getD j false=true→all[j]? =some o→ni j=none→o.dst=some d→∃ v,a.tmps[d]? =some v∧At w S (V j (β j)) v)→
   wpAny P .any all Q fuel listed a w:=by
 have Q5:∀ i o,i < m→all[i]? =some o→en (i+1)=nn (en i) o.dst (ni i):=fun i o h1 h2=>(hs i o h1 h2).2.1
 have D3:∀ c i,zX all c i→c≠i:=by
  have key:∀ c i,zX all c i→i < c:=by
   intro c i h
   have one:∀ {j i:Nat} {oj:Oper},all[j]? =some oj→waits oj i=true→i < j:=by
    intro j i oj hj hw
    simp only [waits,List.any_eq_true,Bool.and_eq_true] at hw
    obtain ⟨e',Un,Ar,OM⟩:=hw
    have:=xG hB hj (by simpa using Un) Ar
    obtain rfl:e'.on=i:=Nat.eq_of_beq_eq_true OM
    exact this
   induction h with
   | one hj hw=>exact one hj hw
   | step hj hw _ ih=>have:=one hj hw;omega
  intro c i h e;have:=key c i h;omega
 have done:∀ (fuel:Nat) (listed:Array Bool) (a:Act) (w:World) (S:Nat→Prop) (β:Nat→Bk),LR all m listed→(listed.toList.count true)+fuel=all.size→a.tmps.size=n→a.defers=[]→cI w S (ry tk listed β++B)→k9 w0 S0 S4 w S (ry tk listed β++B)→Bn w S (vj all ni e listed all.size) a→
  (∀ j o d,listed.getD j false=true→all[j]? =some o→ni j=none→o.dst=some d→∃ v,a.tmps[d]? =some v∧At w S (V j (β j)) v)→
  (∀ i,i < m→listed.getD i false=true)→wpAny P .any all Q fuel listed a w:=by
  intro fuel listed a w S β L hc jZ GC hr hg tQ GG oA
  have ON:∀ i,m≤i→listed.getD i false=false:=fun i hi=>by
   cases hv:listed.getD i false with
   | false=>rfl
   | true=>have:=L.head i hv;omega
  have OO:listed.toList.count true=m:=by
   have:listed.toList=List.replicate m true++List.replicate (all.size - m) false:=by
    apply List.ext_getElem?
    intro i
    rcases Nat.lt_or_ge i m with hi | hi
    ·have tM:i < listed.size:=by rw [L.size];omega
     rw [List.getElem?_append_left (by simpa using hi)]
     have:=oA i hi
     simp [tM] at this
     simp [tM,hi,this]
    ·rw [List.getElem?_append_right (by simpa using hi)]
     rcases Nat.lt_or_ge i listed.size with tM | tM
     ·have:=ON i hi
      simp [tM] at this
      have h2:i - m < all.size - m:=by rw [L.size] at tM;omega
      simp [tM,h2,this]
     ·have h2:¬ i - m < all.size - m:=by rw [L.size] at tM;omega
      simp [List.getElem?_eq_none (l:=listed.toList) (by simpa using tM),h2]
   rw [this,List.count_append,List.count_replicate,List.count_replicate]
   simp
  have OP:vj all ni e listed all.size=en m:=by
   have key:∀ k,k≤all.size→vj all ni e listed k=en (min k m):=by
    intro k
    induction k with
    | zero=>intro _;simp [vj,h0]
    | succ k ih=>
      intro hk
      have vi:all[k]? =some all[k]:=by simp [show k < all.size by omega]
      simp only [vj,vi,Option.bind_some,ih (by omega)]
      rcases Nat.lt_or_ge k m with h | h
      ·rw [if_pos (oA k h),Nat.min_eq_left (by omega),Nat.min_eq_left (by omega),Q5 k _ h vi]
      ·rw [if_neg (by rw [ON k h];simp),Nat.min_eq_right (by omega),Nat.min_eq_right (by omega)]
   rw [key all.size (Nat.le_refl _),Nat.min_eq_right hm]
  have Rg:ry tk listed β=J8 tk β:=by
   unfold ry J8
   congr 1
   apply List.filter_congr
   intro t ht
   obtain ⟨q1,q2,_⟩:=hT t ht
   unfold xI
   cases hp:t.prod with
   | none=>
     cases hc:t.cons with
     | none=>rfl
     | some c=>simp [oA c (q2 c hc).1]
   | some p=>
     cases hc:t.cons with
     | none=>simp [oA p (q1 p hp)]
     | some c=>simp [oA c (q2 c hc).1]
  rw [OP] at tQ
  rw [Rg] at hr hg
  exact E8 hB fuel m listed a w (Nat.le_refl _) (by omega) L.size oA ON (fin β a w S jZ GC hr hg tQ (fun j o d hj ho sn hd=>GG j o d (oA j hj) ho sn hd))
 intro fuel
 induction fuel with
 | zero=>
   intro listed a w S β L hc jZ GC hr hg tQ GG
   refine done 0 listed a w S β L hc jZ GC hr hg tQ GG (fun i hi=>?_)
   have Fa:listed.toList.count true=listed.toList.length:=by rw [Array.length_toList,L.size];omega
   have oA:=List.count_eq_length.1 Fa
   have tM:i < listed.size:=by rw [L.size];omega
   have:=oA listed[i] (by simp)
   simp [tM];exact this.symm
 | succ fuel ih=>
   intro listed a w S β L hc jZ GC hr hg tQ GG
   by_cases oA:∀ i,i < m→listed.getD i false=true
   ·exact done _ listed a w S β L hc jZ GC hr hg tQ GG oA
   ·refine ⟨fun JP=>(oA fun i hi=>zp hB L.size JP i (by omega)).elim,fun i hi=>?_⟩
    obtain ⟨Bm,Hr⟩:=wF hi
    have w9:=AO Hr
    have zZ:all[i]? =some all[i]:=by simp [Bm]
    have C4:i < m:=by
     rcases Nat.lt_or_ge i m with h | h
     ·exact h
     ·refine (oA fun j hj=>?_).elim
      have LP:all[j]? =some all[j]:=by simp [show j < all.size by omega]
      exact lZ.ready L.closed ((kU hB zZ LP (by omega)).2 h) hi
    have tM:i < listed.size:=by rw [L.size];exact Bm
    obtain ⟨Uu,_,hV⟩:=hs i _ C4 zZ
    obtain ⟨X,hX,rest,Wu⟩:=IC hT YR L.closed C4 w9 (fun j hj=>lZ.ready L.closed hj hi) (fun c h=>D3 c i h) β
    obtain ⟨LM,sr⟩:=Uu β X hX
    have vH:DS w S (looks all all[i]) (Gp (en i) (cn i β)) a:=by
     intro s EM av sn
     rw [Gp] at sn
     cases OT:en i s with
     | none=>
       rw [OT] at sn
       obtain ⟨k,o,k1,k2,k3,k4,k5⟩:=Kb OR YS hm i (by omega) β s av sn
       have OU:listed.getD k false=true:=lZ.ready L.closed ((kU hB zZ k2 k1).1 C4 (xH k3 EM)) hi
       rw [k5]
       exact GG k o s OU k2 k4 k3
     | some cy=>
     rw [OT] at sn
     obtain rfl:=Option.some.inj sn
     have hc:=IA (ni:=ni) (en:=en) (e:=e) hB L h0 Q5 hm zZ C4 w9 (fun j hj=>lZ.ready L.closed hj hi) EM all.size (Nat.le_refl _)
     rw [Nat.min_eq_right (by omega)] at hc
     exact tQ s cy (by rw [hc];exact OT)
    have L':LR all m (listed.setIfInBounds i true):=by
     refine ⟨by simpa using L.size,fun k hk=>?_,fun k j o hk vi hw=>?_⟩
     ·rw [jA tM] at hk
      split at hk
      ·omega
      ·exact L.head k hk
     ·rw [jA tM] at hk
      rw [jA tM]
      split
      ·rfl
      ·split at hk
       ·rename_i Uo
        subst Uo
        obtain rfl:all[k]=o:=by rw [zZ] at vi;exact Option.some.inj vi
        exact tc zZ hi hw
       ·exact L.closed k j o hk vi hw
    have Fa:(listed.setIfInBounds i true).toList.count true+fuel=all.size:=by
     have JQ:listed[i]=false:=by simpa [tM] using w9
     have:(listed.setIfInBounds i true).toList=listed.toList.set i true:=by simp
     rw [this,List.count_set (by simpa using tM)]
     have Jm:listed.toList[i]'(by simpa using tM)=false:=by simpa using JQ
     rw [Jm]
     have e1:(if (false==true)=true then 1 else 0)=0:=rfl
     have e2:(if (true==true)=true then 1 else 0)=1:=rfl
     rw [e1,e2]
     omega
    have Rh:∀ T:Heap,(T++(X++rest)++B).Perm ((T++(X++B))++rest):=fun T=>by
     rw [List.append_assoc,List.append_assoc,List.append_assoc,List.append_assoc]
     exact List.Perm.append_left _ (List.Perm.append_left _ List.perm_append_comm)
    have Wv:(ry tk listed β++B).Perm ((tE tk i β++(X++B))++rest):=
     (((OS hT w9 (fun j hj=>lZ.ready L.closed hj hi) β).trans (List.Perm.append_left _ Wu)).append_right B).trans (Rh _)
    have Ri:∀ b,((jW tk i (oU β i b)++(X++B))++rest).Perm (ry tk (listed.setIfInBounds i true) (oU β i b)++B):=fun b=>
     List.Perm.symm ((((MC hT L.closed tM w9 (fun c h=>D3 c i h) β b).trans (List.Perm.append_left _ Wu)).append_right B).trans (Rh _))
    have Uv:cI w S ((tE tk i β++(X++B))++rest):=hr.perm Wv
    have SV:∀ v,(a.put (all[i]).dst v).tmps.size=n:=fun v=>by cases (all[i]).dst<;>simp [Act.put,jZ]
    have SX:∀ v,(a.put (all[i]).dst v).defers=[]:=fun v=>by cases (all[i]).dst<;>simp [Act.put,GC]
    have Uw:∀ {w1 w2:World} {S1 S2:Nat→Prop} {h1 h2 CR JG:Heap},k9 w1 S1 h1 w2 S2 h2→h1.Perm CR→h2.Perm JG→k9 w1 S1 CR w2 S2 JG:=by
     intro w1 w2 S1 S2 h1 h2 CR JG ev p1 p2
     have has:∀ {g g':Heap} {k:Nat},g.Perm g'→(Has g k↔Has g' k):=fun p=>
      ⟨fun ⟨x,hx,hb⟩=>⟨x,p.mem_iff.1 hx,hb⟩,fun ⟨x,hx,hb⟩=>⟨x,p.mem_iff.2 hx,hb⟩⟩
     exact ⟨ev.os,ev.tape,ev.output,ev.size,ev.nf,fun k hk hh=>ev.other k hk (fun hc=>hh ((has p1).1 hc)),fun k hk=>((ev.new k ((has p2).2 hk)).imp (has p1).1 id),ev.drawn⟩
    have next:∀ (b:Bk) (v:Value) (w':World) (S':Nat→Prop),k9 w S (tE tk i β++(X++B)) w' S' (jW tk i (oU β i b)++(X++B))→cI w' S' (jW tk i (oU β i b)++(X++B))→At w' S' (V i b) v→wpAny P .any all Q fuel (listed.setIfInBounds i true) (a.put (all[i]).dst v) w':=by
     intro b v w' S' MD Ux sV
     have NU:cI w' S' ((jW tk i (oU β i b)++(X++B))++rest):=Uv.frame MD Ux
     have YT:=MD.frame rest
     refine ih _ _ _ S' (oU β i b) L' Fa (SV v) (SX v) (NU.perm (Ri b)) (hg.trans (Uw YT Wv.symm (Ri b))) ?_ ?_
     ·intro s av sn
      rw [J7 (ni:=ni) (e:=e) hB L zZ C4 w9 s all.size (Nat.le_refl _),if_pos (by omega)] at sn
      by_cases hd:(all[i]).dst=some s
      ·rw [hd,mo] at sn
       have Q6:=LM s hd
       exact ⟨v,by rw [hd];simp [Act.put,jZ,Q6],by rw [← hV av sn b];exact sV⟩
      ·rw [jB hd] at sn
       obtain ⟨u,h1,h2⟩:=tQ s av sn
       refine ⟨u,?_,h2.mono MD.nf⟩
       cases DU:(all[i]).dst with
       | none=>simpa [Act.put] using h1
       | some d'=>
         have sT:d'≠s:=fun e=>hd (by rw [DU,e])
         simp [Act.put,sT,h1]
     ·intro j o d hj ho sn hd
      by_cases S5:j=i
      ·subst S5
       rw [zZ] at ho;obtain rfl:=Option.some.inj ho
       have Q6:=LM d hd
       exact ⟨v,by rw [hd];simp [Act.put,jZ,Q6],by rw [MB];exact sV⟩
      ·have Jl:listed.getD j false=true:=by rw [jA tM,if_neg S5] at hj;exact hj
       obtain ⟨u,h1,h2⟩:=GG j o d Jl ho sn hd
       refine ⟨u,?_,by rw [Hu S5];exact h2.mono MD.nf⟩
       cases DU:(all[i]).dst with
       | none=>simpa [Act.put] using h1
       | some d'=>
         have sT:d'≠d:=fun e=>hU j i o all[i] d (L.head j Jl) C4 S5 ho zZ sn hd (by rw [DU,e])
         simp [Act.put,sT,h1]
    simp only [wpOp,zZ]
    rcases sr with ⟨hw,Up⟩ | ⟨hw,sn⟩
    ·rw [if_pos (wG hw vH)]
     exact .inl (Up w S a jZ GC (Uv.sub (List.sublist_append_left _ _)) vH _ _ (fun b v w' S' MD Ux sV=>next b v w' S' MD Ux sV))
    ·rw [if_neg (by rw [wG hw vH];simp)]
     obtain ⟨e1,e2⟩:=sn ⟨none,0⟩
     replace e1:jW tk i (oU β i ⟨none,0⟩)=tE tk i β:=e1
     refine next ⟨none,0⟩ _ w S (by rw [e1];exact k9.refl _ _ _) (by rw [e1];exact Uv.sub (List.sublist_append_left _ _)) ?_
     rw [e2];exact .raw _
end order
end Go.Eng
namespace Go.Eng
open Go
variable [bM]
theorem Kc {P:Program} {o:Oper} {a:Act} {K0 K:Act→World→Prop} {G:Act→World→Prop} {Q':Exit→Act→World→Prop} (hK:∀ v w',K0 (a.put o.dst v) w'→K (a.put o.dst v) w') (hd:∀ a' w',K0 a' w'→a'.defers=[]):
 ∀ r,o.upon P a K0 (xD G) r→o.upon P a K Q' r:=by
 intro r h
 unfold Oper.upon at *
 split at h
 ·exact hK _ _ h
 ·exact hK _ _ h
 ·rename_i d w'
  have:=hd _ _ h
  cases Fh:o.dst<;>simp [Act.put,Fh] at this
 ·refine Calls.mono h ?_
  intro e w' he
  cases e with
  | returned v=>exact hK _ _ he
  | panicked c=>cases he.1
  | outgrown=>obtain ⟨a0,w0,h0⟩:=he;cases h0.1
 ·exact Rows.mono h fun v w' hv=>hK _ _ hv
 ·cases h.1
 ·exact h.elim
theorem ME {P:Program} {all:Array Oper} {o:Oper} {σ:St} {Q:St→Prop} (hg:o.guard=none) (h:ae P all [o] σ Q) {w:World} {S:Nat→Prop} {a:Act} (r:dO w S σ a) {K:Act→World→Prop} {Q':Exit→Act→World→Prop}
 (hK:∀ v w',SJ w S σ.hp Q (a.put o.dst v) w'→K (a.put o.dst v) w'):o.wp P a w K Q':=by
 have:=h w S a r
 unfold wpList at this
 rw [if_pos (by simp [Region.wanted,hg])] at this
 rcases this with h1 | ⟨_,a0,w0,h0,_⟩
 ·refine Kc (G:=SJ w S σ.hp Q) (fun v w' hh=>hK v w' hh.2) (fun a' w' hh=>?_) _ h1
  obtain ⟨_,aH,S',_,hr,_⟩:=hh
  exact hr.defers
 ·cases h0
variable {P:Program} {all:Array Oper} {n:Nat} {B:Heap} {tk:List Tok}
def IE (x:Option AV) (c:(Nat→Bk)→Env) (d:Option Nat) (V:Bk→AV) (i:Nat):(Nat→Bk)→Env:=fun β=>match x with | none=>nn (c β) d (some (V (β i))) | some _=>c β
inductive N2 (P:Program) (all:Array Oper) (n:Nat) (B:Heap) (tk:List Tok) (dy:List Nat):Nat→List Oper→Env→((Nat→Bk)→Env)→List (Option AV×(Bk→AV))→Env→Prop
 | nil (i:Nat) (e:Env) (c:(Nat→Bk)→Env):N2 P all n B tk dy i [] e c [] e
 | cons {i:Nat} {o:Oper} {l:List Oper} {e e':Env} {c:(Nat→Bk)→Env} {D:List (Option AV×(Bk→AV))} {x:Option AV} {V:Bk→AV} (h:∀ β,∀ X∈uE tk i β,rz P all n (X++B) o (Gp e (c β)) (tE tk i β) V (fun b=>jW tk i (oU β i b))) (hv:∀ av,x=some av→∀ b,V b=av) (hx:x=none→dy.contains i=true)
  (k:N2 P all n B tk dy (i+1) l (nn e o.dst x) (IE x c o.dst V i) D e'):N2 P all n B tk dy i (o :: l) e c ((x,V) :: D) e'
def yj (β:Nat→Bk):Nat→List Oper→List (Option AV×(Bk→AV))→List (Nat×AV)→List (Nat×AV)
 | i,o :: l,(none,V) :: D,a=>match o.dst with
   | some d=>yj β (i+1) l D ((d,V (β i)) :: a)
   | none=>yj β (i+1) l D a
 | i,_ :: l,(some _,_) :: D,a=>yj β (i+1) l D a
 | _,_,_,a=>a
def AT (P:Program) (all:Array Oper) (n:Nat) (B:Heap) (tk:List Tok) (dy:List Nat) (i:Nat) (l:List Oper) (tm:List (Nat×AV)) (acc:(Nat→Bk)→List (Nat×AV)) (Q:(Nat→Bk)→List (Nat×AV)→Prop):Prop:=
 ∃ D qj,N2 P all n B tk dy i l (lk tm) (fun β=>lk (acc β)) D (lk qj)∧∀ β,Q β (yj β i l D (acc β)++qj)
section rules
variable {dy:List Nat} {i:Nat} {rest:List Oper} {tm:List (Nat×AV)} {acc:(Nat→Bk)→List (Nat×AV)} {Q:(Nat→Bk)→List (Nat×AV)→Prop} {d:Nat} {ty:TypeId} {pos:String} {af:Array Edge} {op:Op}
theorem AT.nil {F:(Nat→Bk)→List (Nat×AV)} (hF:∀ β,F β=acc β++tm) (h:∀ β,Q β (F β)):AT P all n B tk dy i [] tm acc Q:=
 ⟨[],tm,.nil _ _ _,fun β=>by rw [show yj β i [] [] (acc β)=acc β from rfl,← hF];exact h β⟩
theorem AT.Uy {o:Oper} {d:Nat} {av:AV} (hd:o.dst=some d) (h:∀ β,∀ X∈uE tk i β,rz P all n (X++B) o (Gp (lk tm) (lk (acc β))) (tE tk i β) (fun _=>av) (fun b=>jW tk i (oU β i b))) (k:AT P all n B tk dy (i+1) rest ((d,av) :: tm) acc Q):AT P all n B tk dy i (o :: rest) tm acc Q:=by
 obtain ⟨D,qj,k1,k2⟩:=k
 refine ⟨(some av,fun _=>av) :: D,qj,.cons h (fun cy e b=>Option.some.inj e) (fun e=>by cases e) ?_,k2⟩
 have:nn (lk tm) o.dst (some av)=lk ((d,av) :: tm):=by
  rw [wH,hd];rfl
 rw [this];exact k1
theorem AT.dyn {o:Oper} {d:Nat} {V:Bk→AV} (hd:o.dst=some d) (vE:lk tm d=none) (OV:dy.contains i=true) (h:∀ β,∀ X∈uE tk i β,rz P all n (X++B) o (Gp (lk tm) (lk (acc β))) (tE tk i β) V (fun b=>jW tk i (oU β i b))) (k:AT P all n B tk dy (i+1) rest tm (fun β=>(d,V (β i)) :: acc β) Q):AT P all n B tk dy i (o :: rest) tm acc Q:=by
 obtain ⟨D,qj,k1,k2⟩:=k
 refine ⟨(none,V) :: D,qj,.cons h (fun cy e b=>by cases e) (fun _=>OV) ?_,fun β=>?_⟩
 ·have:nn (lk tm) o.dst none=lk tm:=by
   funext s
   rw [hd]
   simp only [nn]
   split
   ·rename_i e;subst e;exact vE.symm
   ·rfl
  rw [this]
  have e2:IE none (fun β=>lk (acc β)) o.dst V i=fun β=>lk ((d,V (β i)) :: acc β):=by
   funext β
   simp only [IE,hd]
   rw [wH];rfl
  rw [e2];exact k1
 ·have:=k2 β
  simp only [yj,hd]
  exact this
theorem AT.YU {o:Oper} (hd:o.dst=none) (h:∀ β,∀ X∈uE tk i β,rz P all n (X++B) o (Gp (lk tm) (lk (acc β))) (tE tk i β) (fun _=>.raw undef) (fun b=>jW tk i (oU β i b))) (k:AT P all n B tk dy (i+1) rest tm acc Q):AT P all n B tk dy i (o :: rest) tm acc Q:=by
 obtain ⟨D,qj,k1,k2⟩:=k
 refine ⟨(some (.raw undef),fun _=>.raw undef) :: D,qj,.cons h (fun cy e b=>Option.some.inj e) (fun e=>by cases e) ?_,k2⟩
 rw [hd];exact k1
def tF (tk:List Tok) (i j:Nat):Bool:=tk.all fun t=>(match t.prod with | some p=>Nat.blt p i||Nat.ble j p | none=>true)&&(match t.cons with | some p=>Nat.blt p i||Nat.ble j p | none=>true)&&((t.Us.all fun p=>Nat.blt p i||Nat.ble j p)&&t.Ws.all fun p=>Nat.blt p i||Nat.ble j p)
theorem Fi {i j:Nat} (h:tF tk i j=true) {k:Nat} (h1:i≤k) (h2:k < j) (β:Nat→Bk):tE tk k β=[]:=by
 unfold tE
 rw [List.map_eq_nil_iff,List.filter_eq_nil_iff]
 intro t ht hc
 have:=List.all_eq_true.1 h t ht
 rw [Bool.and_eq_true,Bool.and_eq_true] at this
 replace this:=this.1
 unfold Aw at hc
 split at hc
 ·rename_i c Qe
  obtain rfl:c=k:=Nat.eq_of_beq_eq_true hc
  have:=this.2
  rw [Qe] at this
  simp at this;omega
 ·cases hc
theorem C8 {i j:Nat} (h:tF tk i j=true) {k:Nat} (h1:i≤k) (h2:k < j) (β:Nat→Bk):jW tk k β=[]:=by
 unfold jW
 rw [List.map_eq_nil_iff,List.filter_eq_nil_iff]
 intro t ht hc
 have:=List.all_eq_true.1 h t ht
 rw [Bool.and_eq_true,Bool.and_eq_true] at this
 replace this:=this.1
 unfold MA at hc
 split at hc
 ·rename_i c Qe
  obtain rfl:c=k:=Nat.eq_of_beq_eq_true hc
  have:=this.1
  rw [Qe] at this
  simp at this;omega
 ·cases hc
theorem Kd {i j:Nat} (h:tF tk i j=true) {k:Nat} (h1:i≤k) (h2:k < j) (β:Nat→Bk):yi tk k β=[]:=by
 unfold yi
 rw [List.map_eq_nil_iff,List.filter_eq_nil_iff]
 intro t ht hc
 have:=List.all_eq_true.1 h t ht
 rw [Bool.and_eq_true] at this
 have h3:=List.all_eq_true.1 (Bool.and_eq_true_iff.1 this.2).1 k (by simpa [Ht] using hc)
 simp at h3;omega
theorem C9 {i j:Nat} (h:tF tk i j=true) {k:Nat} (h1:i≤k) (h2:k < j) (β:Nat→Bk):uE tk k β=[[]]:=by
 have e:tk.filter (LO k)=[]:=by
  rw [List.filter_eq_nil_iff]
  intro t ht hc
  have:=List.all_eq_true.1 h t ht
  rw [Bool.and_eq_true] at this
  have h3:=List.all_eq_true.1 (Bool.and_eq_true_iff.1 this.2).2 k (by simpa [LO] using hc)
  simp at h3;omega
 unfold uE
 rw [e,Kd h h1 h2 β]
theorem Bx (e:Env) (d:Option Nat) (av:AV):nn e d (some av)=w8 e d av:=by
 cases d<;>rfl
theorem Bz {o:Oper} {e:Env} {av:AV} (hd:∀ d,o.dst=some d→d < n) (hg:oT all o e true) (h:MV P all n o e B av):rz P all n B o e [] (fun _=>av) (fun _=>[]):=by
 refine ⟨hd,.inl ⟨hg,fun w S a h1 h2 h3 h4 K Q hK=>?_⟩⟩
 exact h w S a h1 h2 h3 h4 K Q (fun v w' S' NY sV=>hK ⟨none,0⟩ v w' S' (NY.Wp h3.slt _) (h3.grow NY) sV)
theorem Rj:∀ {l1:List Oper} {e e':Env} {i:Nat} (h:Ms P all n B l1 e e') (hn:tF tk i (i+l1.length)=true) {l2:List Oper} {c:(Nat→Bk)→Env} {D:List (Option AV×(Bk→AV))} {e2:Env},N2 P all n B tk dy (i+l1.length) l2 e' c D e2→
 ∃ D1,N2 P all n B tk dy i (l1++l2) e c (D1++D) e2∧D1.length=l1.length∧∀ x∈D1,x.1.isSome=true:=by
 intro l1 e e' i h
 induction h generalizing i with
 | nil e=>intro hn l2 c D e2 k;exact ⟨[],by simpa using k,rfl,by simp⟩
 | @run o l e e' av hg hm hd k ih=>
   intro hn l2 c D e2 kk
   have N3:tF tk (i+1) (i+1+l.length)=true:=by
    unfold tF at hn ⊢
    rw [List.all_eq_true] at hn ⊢
    intro t ht
    have:=hn t ht
    rw [Bool.and_eq_true,Bool.and_eq_true] at this ⊢
    refine ⟨⟨?_,?_⟩,?_⟩
    ·have h1:=this.1.1
     cases hp:t.prod<;>rw [hp] at h1<;>simp_all<;>omega
    ·have h1:=this.1.2
     cases hp:t.cons<;>rw [hp] at h1<;>simp_all<;>omega
    ·have h1:=this.2
     rw [Bool.and_eq_true,List.all_eq_true,List.all_eq_true] at h1 ⊢
     exact ⟨fun p hp=>by have:=h1.1 p hp;simp at this ⊢;omega,fun p hp=>by have:=h1.2 p hp;simp at this ⊢;omega⟩
   obtain ⟨D1,a1,a2,a3⟩:=ih N3 (l2:=l2) (D:=D) (e2:=e2) (by rw [show i+1+l.length=i+(o :: l).length by simp;omega];exact kk)
   refine ⟨(some av,fun _=>av) :: D1,?_,by simp [a2],?_⟩
   ·refine .cons (fun β X hX=>?_) (fun cy e b=>Option.some.inj e) (fun e=>by cases e) (by rw [Bx];exact a1)
    rw [C9 hn (Nat.le_refl _) (by simp)] at hX
    obtain rfl:=List.mem_singleton.1 hX
    rw [Fi hn (Nat.le_refl _) (by simp),show (fun b=>jW tk i (oU β i b))=fun _=>[] from funext fun b=>C8 hn (Nat.le_refl _) (by simp) _]
    exact (Bz hd hg hm).up
   ·intro x hx
    rcases List.mem_cons.1 hx with rfl | hx
    ·rfl
    ·exact a3 x hx
 | @pass o l e e' hg hd k ih=>
   intro hn l2 c D e2 kk
   have N3:tF tk (i+1) (i+1+l.length)=true:=by
    unfold tF at hn ⊢
    rw [List.all_eq_true] at hn ⊢
    intro t ht
    have:=hn t ht
    rw [Bool.and_eq_true,Bool.and_eq_true] at this ⊢
    refine ⟨⟨?_,?_⟩,?_⟩
    ·have h1:=this.1.1
     cases hp:t.prod<;>rw [hp] at h1<;>simp_all<;>omega
    ·have h1:=this.1.2
     cases hp:t.cons<;>rw [hp] at h1<;>simp_all<;>omega
    ·have h1:=this.2
     rw [Bool.and_eq_true,List.all_eq_true,List.all_eq_true] at h1 ⊢
     exact ⟨fun p hp=>by have:=h1.1 p hp;simp at this ⊢;omega,fun p hp=>by have:=h1.2 p hp;simp at this ⊢;omega⟩
   obtain ⟨D1,a1,a2,a3⟩:=ih N3 (l2:=l2) (D:=D) (e2:=e2) (by rw [show i+1+l.length=i+(o :: l).length by simp;omega];exact kk)
   refine ⟨(some (.raw undef),fun _=>.raw undef) :: D1,?_,by simp [a2],?_⟩
   ·refine .cons (fun β X hX=>?_) (fun cy e b=>Option.some.inj e) (fun e=>by cases e) (by rw [Bx];exact a1)
    rw [C9 hn (Nat.le_refl _) (by simp)] at hX
    obtain rfl:=List.mem_singleton.1 hX
    rw [Fi hn (Nat.le_refl _) (by simp),show (fun b=>jW tk i (oU β i b))=fun _=>[] from funext fun b=>C8 hn (Nat.le_refl _) (by simp) _]
    exact ⟨hd,.inr ⟨hg.up,fun b=>⟨rfl,rfl⟩⟩⟩
   ·intro x hx
    rcases List.mem_cons.1 hx with rfl | hx
    ·rfl
    ·exact a3 x hx
theorem Da (β:Nat→Bk):∀ {l1:List Oper} {D1:List (Option AV×(Bk→AV))} (i:Nat) {l2:List Oper} {D:List (Option AV×(Bk→AV))} (a:List (Nat×AV)),D1.length=l1.length→(∀ x∈D1,x.1.isSome=true)→yj β i (l1++l2) (D1++D) a=yj β (i+l1.length) l2 D a
 | [],[],i,l2,D,a,_,_=>by simp
 | o :: l1,(some av,V) :: D1,i,l2,D,a,h,hs=>by
   simp only [List.cons_append,yj]
   rw [Da β (i+1) a (by simpa using h) (fun x hx=>hs x (by simp [hx]))]
   simp [Nat.add_assoc,Nat.add_comm 1]
 | o :: l1,(none,V) :: D1,i,l2,D,a,h,hs=>by have:=hs (none,V) (by simp);cases this
 | [],_ :: _,i,l2,D,a,h,hs=>by cases h
 | _ :: _,[],i,l2,D,a,h,hs=>by cases h
theorem AT.am {l l1 l2:List Oper} (m:Nat) (hs:Fb m l=some (l1,l2)) (hn:tF tk i (i+m)=true) (h:AM P all n B l1 tm (fun qj=>AT P all n B tk dy (i+m) l2 qj acc Q)):AT P all n B tk dy i l tm acc Q:=by
 obtain ⟨rfl,rfl⟩:=wI hs
 obtain ⟨Ax,h1,D,qj,h2,h3⟩:=h
 obtain ⟨D1,a1,a2,a3⟩:=Rj h1 hn h2
 refine ⟨D1++D,qj,a1,fun β=>?_⟩
 rw [Da β i (acc β) a2 a3]
 exact h3 β
theorem wJ {o:Oper} {Ti H1:Heap} {V:Bk→AV} {Pi H2:Bk→Heap} (hg:o.guard=none) (hd:∀ d,o.dst=some d→d < n) (h1:su Ti B=some H1) (h2:∀ b,su (Pi b) B=some (H2 b))
 (vD:ae P all [o] ⟨n,DV (looks all o) tm,H1⟩ (fun aH=>∃ b Ax,aH=⟨n,Ax,H2 b⟩∧∀ d,o.dst=some d→lk Ax d=some (V b)))
 (hv:o.dst=none→∀ b,V b=.raw undef):rz P all n B o (lk tm) Ti V Pi:=by
 refine ⟨hd,.inl ⟨by simp [oT,hg],fun w S a s1 s2 s3 s4 K Q hK=>?_⟩⟩
 have e1:=oN h1
 rw [e1] at s3 hK
 refine ME hg vD (o8 s1 s2 s3 s4) (fun v w' Uz=>?_)
 obtain ⟨aH,S',⟨b,Ax,rfl,MF⟩,hr,MD⟩:=Uz
 have e2:=oN (h2 b)
 cases Fh:o.dst with
 | some d=>
   have LM:=hd d Fh
   obtain ⟨u,g1,g2⟩:=hr.tm d _ (MF d Fh)
   have hu:u=v:=by
    rw [Fh] at g1
    simp [Act.put,s1,LM] at g1
    exact g1.symm
   rw [hu] at g2
   rw [← Fh]
   exact hK b v w' S' (by rw [e2];exact MD) (by rw [e2];exact hr.hp) g2
 | none=>
   have:a.put none v=a.put o.dst undef:=by rw [Fh];rfl
   rw [this]
   exact hK b undef w' S' (by rw [e2];exact MD) (by rw [e2];exact hr.hp) (by rw [hv Fh b];exact .raw _)
theorem AT.Ay {av:AV} {Ti H1 Pi H2:Heap} (JP:∀ β,uE tk i β=[[]]) (Ke:∀ β,tE tk i β=Ti) (Hv:∀ β,jW tk i β=Pi) (h1:su Ti B=some H1) (h2:su Pi B=some H2) (hn:Nat.blt d n=true)
 (vD:ae P all [⟨some d,op,ty,pos,af,none⟩] ⟨n,DV (looks all ⟨some d,op,ty,pos,af,none⟩) tm,H1⟩ (fun aH=>∃ Ax,aH=⟨n,Ax,H2⟩∧lk Ax d=some av))
 (k:AT P all n B tk dy (i+1) rest ((d,av) :: tm) acc Q):AT P all n B tk dy i (⟨some d,op,ty,pos,af,none⟩ :: rest) tm acc Q:=by
 refine AT.Uy rfl (fun β X hX=>?_) k
 rw [JP β] at hX
 obtain rfl:=List.mem_singleton.1 hX
 rw [List.nil_append,Ke β,show (fun b=>jW tk i (oU β i b))=fun _=>Pi from funext fun b=>Hv _]
 refine rz.up ?_
 refine wJ rfl (fun d' Az=>by obtain rfl:=Option.some.inj Az;simpa using hn) h1 (fun _=>h2) ?_ (fun e=>by cases e)
 refine fun w S a r=>jl ?_ _ _ _ (vD w S a r)
 rintro e a' w' ⟨he,aH,S',⟨Ax,q1,q2⟩,hh⟩
 exact ⟨he,aH,S',⟨⟨none,0⟩,Ax,q1,fun d' Az=>by obtain rfl:=Option.some.inj Az;exact q2⟩,hh⟩
theorem AT.BA {V:Bk→AV} {Ti H1:Heap} {Pi H2:Bk→Heap} (JP:∀ β,uE tk i β=[[]]) (Ke:∀ β,tE tk i β=Ti) (Hv:∀ β b,jW tk i (oU β i b)=Pi b) (h1:su Ti B=some H1) (h2:∀ b,su (Pi b) B=some (H2 b)) (hn:Nat.blt d n=true) (vE:lk tm d=none) (OV:dy.contains i=true)
 (vD:ae P all [⟨some d,op,ty,pos,af,none⟩] ⟨n,DV (looks all ⟨some d,op,ty,pos,af,none⟩) tm,H1⟩ (fun aH=>∃ b Ax,aH=⟨n,Ax,H2 b⟩∧lk Ax d=some (V b)))
 (k:AT P all n B tk dy (i+1) rest tm (fun β=>(d,V (β i)) :: acc β) Q):AT P all n B tk dy i (⟨some d,op,ty,pos,af,none⟩ :: rest) tm acc Q:=by
 refine AT.dyn rfl vE OV (fun β X hX=>?_) k
 rw [JP β] at hX
 obtain rfl:=List.mem_singleton.1 hX
 rw [List.nil_append,Ke β,show (fun b=>jW tk i (oU β i b))=Pi from funext (Hv β)]
 refine rz.up ?_
 refine wJ rfl (fun d' Az=>by obtain rfl:=Option.some.inj Az;simpa using hn) h1 h2 ?_ (fun e=>by cases e)
 refine fun w S a r=>jl ?_ _ _ _ (vD w S a r)
 rintro e a' w' ⟨he,aH,S',⟨b,Ax,q1,q2⟩,hh⟩
 exact ⟨he,aH,S',⟨b,Ax,q1,fun d' Az=>by obtain rfl:=Option.some.inj Az;exact q2⟩,hh⟩
theorem AT.xa {Ti H1 Pi H2:Heap} (JP:∀ β,uE tk i β=[[]]) (Ke:∀ β,tE tk i β=Ti) (Hv:∀ β,jW tk i β=Pi) (h1:su Ti B=some H1) (h2:su Pi B=some H2)
 (vD:ae P all [⟨none,op,ty,pos,af,none⟩] ⟨n,DV (looks all ⟨none,op,ty,pos,af,none⟩) tm,H1⟩ (fun aH=>∃ Ax,aH=⟨n,Ax,H2⟩))
 (k:AT P all n B tk dy (i+1) rest tm acc Q):AT P all n B tk dy i (⟨none,op,ty,pos,af,none⟩ :: rest) tm acc Q:=by
 refine AT.YU rfl (fun β X hX=>?_) k
 rw [JP β] at hX
 obtain rfl:=List.mem_singleton.1 hX
 rw [List.nil_append,Ke β,show (fun b=>jW tk i (oU β i b))=fun _=>Pi from funext fun b=>Hv _]
 refine rz.up ?_
 refine wJ rfl (fun d' Az=>by cases Az) h1 (fun _=>h2) ?_ (fun _ b=>rfl)
 refine fun w S a r=>jl ?_ _ _ _ (vD w S a r)
 rintro e a' w' ⟨he,aH,S',⟨Ax,q1⟩,hh⟩
 exact ⟨he,aH,S',⟨⟨none,0⟩,Ax,q1,fun d' Az=>by cases Az⟩,hh⟩
theorem Db (a b:List (Nat×AV)):lk (a++b)=Gp (lk a) (lk b):=by
 funext s
 induction a with
 | nil=>rfl
 | cons x a ih=>
   obtain ⟨k,v⟩:=x
   simp only [List.cons_append,lk,Gp] at ih ⊢
   split
   ·rfl
   ·exact ih
theorem AT.rd {av:AV} {Rs H1:Heap} (hr:∀ β,uE tk i β=[Rs]) (h1:su Rs B=some H1) (Ke:∀ β,tE tk i β=[]) (Hv:∀ β,jW tk i β=[])
 (q:QV P ⟨some d,op,ty,pos,af,none⟩ ⟨n,DV (looks all ⟨some d,op,ty,pos,af,none⟩) tm,H1⟩ av) (hn:Nat.blt d n=true)
 (k:AT P all n B tk dy (i+1) rest ((d,av) :: tm) acc Q):AT P all n B tk dy i (⟨some d,op,ty,pos,af,none⟩ :: rest) tm acc Q:=by
 refine AT.Uy rfl (fun β X hX=>?_) k
 rw [hr β] at hX
 obtain rfl:=List.mem_singleton.1 hX
 rw [oN h1,Ke β,show (fun b=>jW tk i (oU β i b))=fun _=>[] from funext fun b=>Hv _]
 refine rz.up ?_
 refine Bz (fun d' Az=>by obtain rfl:=Option.some.inj Az;simpa using hn) rfl (fun w S a s1 s2 s3 s4 K Q' hK=>?_)
 obtain ⟨v,g1,g2⟩:=q w S a (o8 s1 s2 s3 s4)
 show Oper.upon P _ a K Q' _
 rw [g1 w (Ext.refl w)]
 exact hK v w S (Grow.refl s3.slt) g2
end rules
end Go.Eng
namespace Go.Eng
open Go
variable [bM]
theorem N2.GA {P:Program} {all:Array Oper} {n:Nat} {B:Heap} {tk:List Tok} {dy:List Nat} {i:Nat} {l:List Oper} {e e':Env} {c:(Nat→Bk)→Env} {D:List (Option AV×(Bk→AV))} (h:N2 P all n B tk dy i l e c D e'):
 ∃ (en:Nat→Env) (cn:Nat→(Nat→Bk)→Env),en i=e∧cn i=c∧en (i+l.length)=e'∧D.length=l.length∧∀ j o x V,l[j]? =some o→D[j]? =some (x,V)→
   (∀ β,∀ X∈uE tk (i+j) β,rz P all n (X++B) o (Gp (en (i+j)) (cn (i+j) β)) (tE tk (i+j) β) V (fun b=>jW tk (i+j) (oU β (i+j) b)))∧en (i+j+1)=nn (en (i+j)) o.dst x∧(∀ av,x=some av→∀ b,V b=av)∧(x=none→dy.contains (i+j)=true)∧cn (i+j+1)=IE x (cn (i+j)) o.dst V (i+j):=by
 induction h with
 | nil i e c=>exact ⟨fun _=>e,fun _=>c,rfl,rfl,rfl,rfl,fun j o x V h=>by simp at h⟩
 | @cons i o l e e' c D x V h hv hx k ih=>
   obtain ⟨en,cn,h0,OR,h1,h2,h3⟩:=ih
   refine ⟨fun k=>if k=i then e else en k,fun k=>if k=i then c else cn k,by simp,by simp,?_,by simp [h2],fun j o' x' V' ho hD=>?_⟩
   ·show (if i+(o :: l).length=i then e else en (i+(o :: l).length))=e'
    rw [if_neg (by simp),← h1]
    congr 1
    simp;omega
   ·match j with
    | 0=>
      simp at ho hD
      obtain ⟨rfl,rfl⟩:=hD
      subst ho
      simp only [Nat.add_zero,if_true]
      refine ⟨h,?_,hv,hx,?_⟩
      ·rw [if_neg (by omega),h0]
      ·rw [if_neg (by omega),OR]
    | j+1=>
      have:=h3 j o' x' V' (by simpa using ho) (by simpa using hD)
      rw [show i+1+j=i+(j+1) by omega] at this
      simp only
      rw [if_neg (show ¬ i+(j+1)=i by omega),if_neg (show ¬ i+(j+1)+1=i by omega),if_neg (show ¬ i+(j+1)=i by omega),if_neg (show ¬ i+(j+1)+1=i by omega)]
      exact this
def N4 (l:List Oper) (dy:List Nat):Bool:=dy.all fun i=>(List.range l.length).all fun j=>Nat.beq i j||(match l[i]?,l[j]? with
 | some oi,some oj=>(match oi.dst,oj.dst with | some d,some d'=>!Nat.beq d d' | _,_=>true)
 | _,_=>true)
theorem GH {l:List Oper} {dy:List Nat} (h:N4 l dy=true) {i j:Nat} {oi oj:Oper} {d:Nat} (hi:dy.contains i=true) (Bl:i≠j) (h1:l[i]? =some oi) (h2:l[j]? =some oj) (hd:oi.dst=some d):oj.dst≠some d:=by
 intro Az
 have hm:i∈dy:=by simpa using hi
 have hj:j < l.length:=(List.getElem?_eq_some_iff.1 h2).1
 have:=List.all_eq_true.1 (List.all_eq_true.1 h i hm) j (List.mem_range.2 hj)
 rw [h1,h2] at this
 simp only [hd,Az] at this
 have hb:Nat.beq i j=false:=qy Bl
 rw [hb] at this
 simp at this
def Kf (tk:List Tok):Heap:=(tk.filter (fun t=>t.prod.isNone)).map (fun t=>t.at (fun _=>⟨none,0⟩))
theorem Kg:∀ (a b:List (Nat×AV)) (s:Nat) (av:AV),lk (a++b) s=some av→lk a s=some av∨lk b s=some av
 | [],b,s,av,h=>.inr h
 | (k,v) :: a,b,s,av,h=>by
   simp only [List.cons_append,lk] at h ⊢
   split at h
   ·exact .inl h
   ·exact Kg a b s av h
theorem yk (β:Nat→Bk):∀ (l:List Oper) (D:List (Option AV×(Bk→AV))) (i:Nat) (a:List (Nat×AV)) (s:Nat) (av:AV),lk (yj β i l D a) s=some av→lk a s=some av∨∃ (j:Nat) (o:Oper) (V:Bk→AV),l[j]? =some o∧D[j]? =some (none,V)∧o.dst=some s∧av=V (β (i+j))
 | [],D,i,a,s,av,h=>by
   have:yj β i [] D a=a:=by cases D<;>rfl
   rw [this] at h;exact .inl h
 | o :: l,[],i,a,s,av,h=>.inl h
 | o :: l,(some x,V) :: D,i,a,s,av,h=>by
   simp only [yj] at h
   rcases yk β l D (i+1) a s av h with h | ⟨j,o',V',h1,h2,h3,h4⟩
   ·exact .inl h
   ·exact .inr ⟨j+1,o',V',by simpa using h1,by simpa using h2,h3,by rw [h4];congr 2;omega⟩
 | o :: l,(none,V) :: D,i,a,s,av,h=>by
   simp only [yj] at h
   cases hd:o.dst with
   | none=>
     rw [hd] at h
     rcases yk β l D (i+1) a s av h with h | ⟨j,o',V',h1,h2,h3,h4⟩
     ·exact .inl h
     ·exact .inr ⟨j+1,o',V',by simpa using h1,by simpa using h2,h3,by rw [h4];congr 2;omega⟩
   | some d=>
     rw [hd] at h
     rcases yk β l D (i+1) _ s av h with h5 | ⟨j,o',V',h1,h2,h3,h4⟩
     ·simp only [lk] at h5
      split at h5
      ·rename_i hb
       obtain rfl:d=s:=by simpa using hb
       exact .inr ⟨0,o,V,rfl,rfl,hd,by simpa using (Option.some.inj h5).symm⟩
      ·exact .inl h5
     ·exact .inr ⟨j+1,o',V',by simpa using h1,by simpa using h2,h3,by rw [h4];congr 2;omega⟩
theorem aa.fT {P:Program} {R:St→Prop} {k:List It} {id n:Nat} {tm:List (Nat×AV)} {hp:Heap} {l hd tl:List Oper} (m:Nat) (hm:P.follows .mixedOrders=true) (hs:Fb m l=some (hd,tl)) {A:List Nat} (hA:Iv l.toArray=A) (Uq:E7 l.toArray m A=true)
 (tk:List Tok) (dy:List Nat) (Ww:(Rf A m tk&&N1 A m tk)=true) (YV:N4 hd dy=true) {B H0:Heap} (xn:Kf tk=H0) (UB:C5 hp H0 B) {HH:(Nat→Bk)→Heap} (UC:∀ β,su (J8 tk β) B=some (HH β))
 (h:AT P l.toArray n B tk dy 0 hd tm (fun _=>[]) (fun β qj=>ae P l.toArray tl ⟨n,qj,HH β⟩ (aa P R k))):aa P R (.code (.region id l.toArray true) :: k) ⟨n,tm,hp⟩:=by
 have hB:uY l.toArray m:=⟨A,hA,Uq⟩
 have hT:Bv l.toArray m tk:=IB hA (Bool.and_eq_true_iff.1 Ww).1
 intro w S a r
 obtain ⟨hl,Mw⟩:=wI hs
 obtain ⟨D,qj,YW,vD⟩:=h
 obtain ⟨en,cn,e0,YX,e1,e2,e3⟩:=YW.GA
 rw [Nat.zero_add,Mw] at e1
 have jZ:m≤l.toArray.size:=by simp [hl,Mw]
 let ni:Nat→Option AV:=fun j=>(D[j]?).bind (·.1)
 let V:Nat→Bk→AV:=fun j=>match D[j]? with | some x=>x.2 | none=>fun _=>.nil
 have Kh:∀ j o,j < m→l.toArray[j]? =some o→hd[j]? =some o:=by
  intro j o hj ho
  have:l[j]? =some o:=by simpa using ho
  rw [hl,List.getElem?_append_left (by omega)] at this
  exact this
 have hD:∀ j,j < m→∃ x W,D[j]? =some (x,W)∧ni j=x∧V j=W:=by
  intro j hj
  have:j < D.length:=by rw [e2,Mw];exact hj
  refine ⟨D[j].1,D[j].2,by simp [this],?_,?_⟩
  ·simp [ni,this]
  ·simp [V,this]
 refine wp_region_any hm ?_
 have Bo:Ext w {w with drawn:=w.drawn+1}:=Ext.Jy w _ (Nat.le_succ _)
 let S6:Nat→Bk:=fun _=>⟨none,0⟩
 have hf:∀ k,(Array.replicate l.toArray.size false).getD k false=false:=by
  intro k
  rcases Nat.lt_or_ge k l.toArray.size with h | h
  ·simp at h;simp [h]
  ·simp at h;simp [Nat.not_lt.2 h]
 have OR:∀ k,vj l.toArray ni (lk tm) (Array.replicate l.toArray.size false) k=lk tm:=by
  intro k
  induction k with
  | zero=>rfl
  | succ k ih=>simp only [vj,ih];rw [if_neg (by rw [hf k];simp)]
 have P9:ry tk (Array.replicate l.toArray.size false) S6=H0:=by
  rw [← xn]
  unfold ry Kf
  have e:tk.filter (xI (Array.replicate l.toArray.size false))=tk.filter (fun t=>t.prod.isNone):=by
   apply List.filter_congr
   intro t ht
   unfold xI
   cases t.prod with
   | none=>
     cases t.cons with
     | none=>rfl
     | some c=>simp only [hf c,Bool.not_false,Bool.and_self,Option.isNone]
   | some p=>simp only [hf p,Bool.false_and,Option.isNone]
  rw [e]
 have pv:=UB.perm
 have YY:cI {w with drawn:=w.drawn+1} S (ry tk (Array.replicate l.toArray.size false) S6++B):=by
  rw [P9];exact (r.hp.ext Bo).perm pv
 have YZ:k9 w S hp {w with drawn:=w.drawn+1} S (ry tk (Array.replicate l.toArray.size false) S6++B):=by
  rw [P9]
  have:=k9.ext (h:=hp) r.hp.slt Bo
  exact {this with new:=fun k hk=>this.new k (by
   obtain ⟨x,hx,hb⟩:=hk
   exact ⟨x,pv.mem_iff.2 hx,hb⟩)}
 refine ID (P:=P) (all:=l.toArray) (n:=n) (m:=m) (ni:=ni) (en:=en) (cn:=cn) (e:=lk tm) (V:=V) (B:=B) (tk:=tk) hB hT (GF hA (Bool.and_eq_true_iff.1 Ww).2) jZ e0 (fun β s=>by rw [YX];rfl) ?_ ?_ ?_ (w0:=w) (S0:=S) (S4:=hp) ?_ l.toArray.size (Array.replicate l.toArray.size false) a _ S S6
  ⟨by simp,(fun k hk=>by rw [hf k] at hk;cases hk),(fun k i o hk=>by rw [hf k] at hk;cases hk)⟩ (by simp [List.count_replicate]) r.size r.defers YY YZ (by rw [OR];exact (r.ext Bo).tm) (fun j o d hj=>by rw [hf j] at hj;cases hj)
 ·intro i o hi ho β
  obtain ⟨x,W,d1,d2,d3⟩:=hD i hi
  have:=e3 i o x W (Kh i o hi ho) d1
  rw [Nat.zero_add] at this
  rw [d2,d3,this.2.2.2.2];rfl
 ·intro i o hi ho
  obtain ⟨x,W,d1,d2,d3⟩:=hD i hi
  have:=e3 i o x W (Kh i o hi ho) d1
  rw [Nat.zero_add] at this
  rw [d2,d3]
  exact ⟨this.1,this.2.1,this.2.2.1⟩
 ·intro i j oi oj d hi hj Bl zZ LP sn DU
  obtain ⟨x,W,d1,d2,d3⟩:=hD i hi
  have:=e3 i oi x W (Kh i oi hi zZ) d1
  rw [Nat.zero_add] at this
  exact GH YV (this.2.2.2.1 (by rw [← d2];exact sn)) Bl (Kh i oi hi zZ) (Kh j oj hj LP) DU
 ·intro β a' w' S' h1 h2 h3 h4 h5 h6
  have Ur:l.toArray.toList.drop m=tl:=by
   simp only [hl,← Mw]
   exact List.drop_left
  rw [Ur]
  rw [oN (UC β)] at h3 h4
  rw [e1] at h5
  refine jl ?_ _ _ _ ((vD β).go (h:=hp) (w:=w) (S:=S) ⟨h1,h2,fun s av MF=>?_,h3⟩ h4)
  ·rintro ex a2 w2 ⟨rfl,Hi,S2,q1,q2,q3⟩
   exact ⟨Hi,S2,q1,q2,q3⟩
  ·rcases Kg _ _ _ _ MF with MF | MF
   ·rcases yk β hd D 0 [] s av MF with MF | ⟨j,o,W,g1,g2,g3,g4⟩
    ·cases MF
    ·have hj:j < m:=by rw [← Mw];exact (List.getElem?_eq_some_iff.1 g1).1
     obtain ⟨x,W',d1,d2,d3⟩:=hD j hj
     rw [g2] at d1
     obtain ⟨rfl,rfl⟩:=Prod.mk.inj (Option.some.inj d1)
     have LP:l.toArray[j]? =some o:=by
      have:l[j]? =some o:=by rw [hl,List.getElem?_append_left (by omega)];exact g1
      simpa using this
     obtain ⟨v,k1,k2⟩:=h6 j o s hj LP d2 g3
     rw [d3] at k2
     rw [g4,Nat.zero_add]
     exact ⟨v,k1,k2⟩
   ·exact h5 s av MF
def Ki {α:Type}:List α→List α→Option (List α)
 | [],r=>some r
 | x :: l,r=>match Ki l r with
   | some m=>some (x :: m)
   | none=>none
theorem Hw {α:Type}:∀ {l r m:List α},Ki l r=some m→l++r=m
 | [],r,m,h=>by simpa [Ki] using h
 | x :: l,r,m,h=>by
   simp only [Ki] at h
   split at h
   ·rename_i m' hm
    obtain rfl:=Option.some.inj h
    rw [List.cons_append,Hw hm]
   ·cases h
theorem AT.rb {P:Program} {all:Array Oper} {n:Nat} {B:Heap} {tk:List Tok} {dy:List Nat} {i:Nat} {tm:List (Nat×AV)} {acc F:(Nat→Bk)→List (Nat×AV)} {Q:(Nat→Bk)→List (Nat×AV)→Prop} (hF:∀ β,Ki (acc β) tm=some (F β)) (h:∀ β,Q β (F β)):AT P all n B tk dy i [] tm acc Q:=
 AT.nil (fun β=>(Hw (hF β)).symm) h
theorem IF {w:World} {S:Nat→Prop} {hp cN:Heap} {b:Bk} {cs pW:List AV} (r:cI w S hp) (u:nN hp b (.cells cs) b (.cells pW) cN) (hl:pW.length=cs.length) (h1:∀ c∈pW,c.one=true) (sV:∀ (i:Nat) c c' v,cs[i]? =some c→pW[i]? =some c'→At w S c v→At w S c' v):cI w S cN∧k9 w S hp w S cN:=by
 obtain ⟨pre,post,e1,e2⟩:=u.split
 subst e1;subst e2
 have hblk:∀ n,Has (pre++(b,Ob.cells pW) :: post) n↔Has (pre++(b,Ob.cells cs) :: post) n:=by
  intro n
  constructor<;>rintro ⟨x,hx,hb⟩<;>rcases bx.1 hx with rfl | hx
  ·exact ⟨(b,.cells cs),bx.2 (.inl rfl),hb⟩
  ·exact ⟨x,bx.2 (.inr hx),hb⟩
  ·exact ⟨(b,.cells pW),bx.2 (.inl rfl),hb⟩
  ·exact ⟨x,bx.2 (.inr hx),hb⟩
 refine ⟨⟨?_,?_,?_,r.slt,r.iy⟩,⟨rfl,rfl,rfl,Nat.le_refl _,fun n hn=>⟨hn,rfl⟩,fun n _ _=>⟨rfl,id⟩,fun n hn=>.inl ((hblk n).1 hn),fun _=>Nat.le_refl _⟩⟩
 ·have:=r.nodup
  simpa [List.flatMap_append,List.flatMap_cons,eb,Ob.more] using this
 ·intro x hx
  rcases bx.1 hx with rfl | hx
  ·obtain ⟨h0,n,vs,E,g1,g2,g3,g4⟩:=r.holds (b,.cells cs) (bx.2 (.inl rfl))
   refine ⟨h1,n,vs,E,g1,g2,by rw [hl];exact g3,fun i c v hc hv=>?_⟩
   have hi:i < cs.length:=by rw [← hl];exact (List.getElem?_eq_some_iff.1 hc).1
   have LU:cs[i]? =some cs[i]:=by simp [hi]
   exact sV i cs[i] c v LU hc (g4 i _ v LU hv)
  ·exact r.holds x (bx.2 (.inr hx))
 ·intro x hx n hn
  rcases bx.1 hx with rfl | hx
  ·have:=r.sep (b,.cells cs) (bx.2 (.inl rfl)) n hn
   exact ⟨fun h=>(this.1 h).elim,fun h=>h.elim⟩
  ·exact r.sep x (bx.2 (.inr hx)) n hn
theorem aj.sv {n j:Nat} {tm:List (Nat×AV)} {hp:Heap} {cN:Bk→Heap} {T:St→Prop} {b:Bk} {cs:List AV} {pW:Bk→List AV} (sz:Nat) (u:∀ q,nN hp b (.cells cs) b (.cells (pW q)) (cN q)) (hj:cs[j]? =some .nil) (hc:∀ q,ru (cs.set j (.sl sz q 0 0))=some (pW q)) (h1:∀ q,mL (pW q)=true)
 (k:∀ q,aj ⟨n,tm,(q,.arr sz []) :: cN q⟩ T):aj ⟨n,tm,hp⟩ T:=by
 refine aj.step (Aq:=⟨n,tm,(⟨none,0⟩,.arr sz []) :: cN ⟨none,0⟩⟩) (fun w S a r=>?_) (k ⟨none,0⟩)
 have e:=nk (hc ⟨none,0⟩)
 obtain ⟨g1,g2⟩:=IF r.hp (u ⟨none,0⟩) (by rw [← e];simp) (dG (h1 _)) (fun i c1 c2 v Qf Rk sV=>by
  rw [← e] at Rk
  by_cases Bl:j=i
  ·subst Bl
   rw [List.getElem?_set_self (List.getElem?_eq_some_iff.1 hj).1] at Rk
   obtain rfl:=Option.some.inj Rk
   rw [hj] at Qf
   obtain rfl:=Option.some.inj Qf
   cases sV
   exact .Cx sz _ rfl
  ·rw [List.getElem?_set_ne Bl,Qf] at Rk
   obtain rfl:=Option.some.inj Rk
   exact sV)
 obtain ⟨q1,q2,q3⟩:=uC (b:=⟨none,0⟩) (o:=.arr sz []) g1 (Ext.refl w) id ⟨by simp,by simp,.inl ⟨rfl,rfl⟩⟩ (.inl rfl)
 exact ⟨_,S,rfl,⟨r.size,r.defers,r.tm,q1⟩,g2.trans q2⟩
section rules
variable {P:Program} {all:Array Oper} {rest:List Oper} {n:Nat} {tm:List (Nat×AV)} {hp:Heap} {Q:St→Prop} {d:Nat} {ty:TypeId} {pos:String} {af:Array Edge}
theorem MG {t e yt:TypeId} {x y:Operand} {sz:Nat} {xs:List AV} [aP P t (.slice e)] (hx:dm tm x=some (.list sz xs)) (hy:dm tm y=some .nil) (h0:Nat.blt 0 sz=true) (hn:Nat.blt d n=true)
 (kk:∀ c:Bool,(c=true→xs=[])→ae P all rest ⟨n,(d,.bool c) :: tm,hp⟩ Q):ae P all (⟨some d,.binOp .eql t x y yt,ty,pos,af,none⟩ :: rest) ⟨n,tm,hp⟩ Q:=by
 refine ae.NR rfl fun w S a r=>?_
 obtain ⟨oa,cap,vs,e1,e2,e3,e4,e5,e6⟩:=(bA (σ:=⟨n,tm,hp⟩) r hx).vA
 have e7:=(bA (σ:=⟨n,tm,hp⟩) r hy).DL
 refine ⟨.bool oa.isNone,w,S,⟨n,(d,.bool oa.isNone) :: tm,hp⟩,?_,r.put hn (.bool _),k9.refl _ _ _,kk _ (fun hc=>?_)⟩
 ·have h2:(Op.equal t (.slice oa xs.length cap) (.slice none 0 0)).run P w=.ok oa.isNone w:=by
   show (Op.equalIn (9999+1) t _ _).run P w=_
   rw [Op.equalIn]
   cases oa with
   | none=>simp [run_underlying (aP.h (P:=P) (t:=t))]
   | some ad=>simp [run_underlying (aP.h (P:=P) (t:=t))]
  have h3:(binOp .eql t (.slice oa xs.length cap) (.slice none 0 0)).run P w=.ok (.bool oa.isNone) w:=by
   rw [show binOp .eql t (.slice oa xs.length cap) (.slice none 0 0)=(do pure (.bool (← Op.equal t (.slice oa xs.length cap) (.slice none 0 0)))) from rfl]
   simp [h2]
  simp [execOp,e1,e7,eqGuard_at_slice,h3]
 ·have Y0:oa=none:=by simpa using hc
  have Y1:vs=[]:=by
   cases vs with
   | nil=>rfl
   | cons v vs=>
     obtain ⟨ad,h1,_⟩:=e5 0 v rfl
     rw [Y0] at h1;cases h1
  rw [Y1,c0 e2] at e3
  have Y2:0 < sz:=by simpa using h0
  have:xs.length=0:=by
   rcases Nat.eq_zero_or_pos xs.length with h | h
   ·exact h
   ·have:=Nat.mul_pos h Y2;simp at e3;omega
  exact List.length_eq_zero_iff.1 this
end rules
theorem D4 {α:Type} {p r:List α} (h:app [] p=some r) (hp:p=[]):r=[]:=by
 subst hp
 obtain ⟨_,e⟩:=yf h
 simpa using e
end Go.Eng
