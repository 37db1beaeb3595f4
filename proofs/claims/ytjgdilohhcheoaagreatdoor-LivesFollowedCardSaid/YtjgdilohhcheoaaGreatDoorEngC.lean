/- The engine: abstract values, the symbolic heap, one rule for each operation. No program in sight. -/
import Derived.Test.YtjgdilohhcheoaaGreatDoorEngB
import Derived.Laws.StructEq
import Derived.Below
set_option linter.unusedVariables false
set_option linter.unusedSectionVars false
namespace Go.Eng
open Go
variable [bt]
abbrev ax:=List UInt8
section rules
variable {P:Program} {all:Array Oper} {rest:List Oper} {n:Nat} {tm:List (Nat×AV)} {hp:Heap} {Q:St→Prop} {d:Nat} {ty:TypeId} {pos:String} {af:Array Edge}
theorem iN {x:Operand} {t e:TypeId} {sz len:Nat} {b:Bk} [ay P t (.slice e)] (hx:bY tm x=some (.sl sz b 0 len)):QV P ⟨some d,.call {callee:=.builtin .len,args:=#[x],argTypes:=#[t]},ty,pos,af,none⟩ ⟨n,tm,hp⟩ (.int .i64 (len:Nat)):=IZ hx
theorem bh {α:Type} {Xs:List α} {el:α} {t e:TypeId} {i:TypeInfo} {x y:Operand} {k:IntKind} {j:Int} {sz:Nat} {b:Bk} [ay P t (.slice e)] [aP P e i] (hx:bY tm x=some (.sl sz b 0 Xs.length)) (eN:Nat.beq i.size sz=true) (hy:bY tm y=some (.int k j))
 (hv:idx Xs j=some el):QV P ⟨some d,.indexAddr t x y,ty,pos,af,none⟩ ⟨n,tm,hp⟩ (.qa sz b j.toNat 0):=by
 obtain ⟨h0,h1,_⟩:=ep hv
 have h:=Fw (P:=P) (d:=d) (ty:=ty) (pos:=pos) (af:=af) (n:=n) (tm:=tm) (hp:=hp) (t:=t) (e:=e) hx eN hy ⟨h0,h1⟩
 rw [Nat.zero_add] at h
 exact h
theorem CN {α:Type} {g:α→AV} {Xs:List α} {el:α} {j:Int} (hv:idx Xs j=some el):(Xs.map g)[j.toNat]? =some (g el):=by
 rw [List.getElem?_map,(ep hv).2.2];rfl
theorem df {α:Type} {g:α→AV} {Xs:List α} {el:α} {j:Int} {t:TypeId} {D:TypeDesc} {x:Operand} {b:Bk} {sz o:Nat} {av:AV} [ay P t D] (hD:TypeDesc.jx D=false) (hx:bY tm x=some (.qa sz b j.toNat o)) (f:lj hp b (.arr sz (Xs.map g))∨lj hp b (.yW sz (Xs.map g)))
 (hv:idx Xs j=some el) (ho:(g el).cells[o]? =some av):QV P ⟨some d,.load t x,ty,pos,af,none⟩ ⟨n,tm,hp⟩ av:=
 DI hD hx f (CN hv) ho
theorem bD {α:Type} {g:α→AV} {Xs:List α} {el:α} {j:Int} {t:TypeId} {D:TypeDesc} {i:TypeInfo} {x:Operand} {b:Bk} {sz:Nat} {cs:List AV} [ay P t D] [aP P t i] (hD:TypeDesc.jx D=true) (hx:bY tm x=some (.qa sz b j.toNat 0)) (f:lj hp b (.arr sz (Xs.map g))∨lj hp b (.yW sz (Xs.map g))) (eN:Nat.beq i.size sz=true)
 (hv:idx Xs j=some el) (hc:g el=.agg cs):QV P ⟨some d,.load t x,ty,pos,af,none⟩ ⟨n,tm,hp⟩ (.agg cs):=
 yZ hD hx f eN (by rw [CN (g:=g) hv,hc])
theorem wS {α:Type} {g:α→AV} {Xs Zs:List α} {t e:TypeId} {i:TypeInfo} {x:Operand} {lo hi:Option Operand} {l h:Option Int} {sz:Nat} {L H:Int} [ay P t (.slice e)] [aP P e i] (hx:bY tm x=some (.list sz (Xs.map g))) (eN:Nat.beq i.size sz=true) (hl:Fp tm lo l) (hh:Fp tm hi h)
 (eL:fh l=L) (eH:gu Xs.length h=H) (hv:zY Xs L H=some Zs):QV P ⟨some d,.slice t x lo hi none,ty,pos,af,none⟩ ⟨n,tm,hp⟩ (.list sz (Zs.map g)):=by
 obtain ⟨⟨h0,h1,h2⟩,rfl⟩:=sv hv
 subst eL;subst eH
 have:=CJ (P:=P) (d:=d) (ty:=ty) (pos:=pos) (af:=af) (n:=n) (tm:=tm) (hp:=hp) (t:=t) (e:=e) (xs:=Xs.map g) hx eN hl hh h0 (by simpa using h1) (by simpa using h2)
 simpa [List.map_take,List.map_drop] using this
theorem yI {t:TypeId} {x:Operand} {lo hi:Option Operand} {l h:Option Int} {s zs:List UInt8} {L H:Int} [ay P t .string] (hx:bY tm x=some (.str s)) (hl:Fp tm lo l) (hh:Fp tm hi h) (eL:fh l=L) (eH:gu s.length h=H) (hv:zY s L H=some zs):
 QV P ⟨some d,.slice t x lo hi none,ty,pos,af,none⟩ ⟨n,tm,hp⟩ (.str zs):=by
 obtain ⟨⟨h0,h1,h2⟩,rfl⟩:=sv hv
 subst eL;subst eH
 exact DQ hx hl hh h0 h1 h2
def ou:Heap→Heap→Option Heap
 | [],r=>some r
 | x :: l,r=>match ou l r with
   | some m=>some (x :: m)
   | none=>none
theorem kp:∀ {l r m:Heap},ou l r=some m→l++r=m
 | [],r,m,h=>by simpa [ou] using h
 | x :: l,r,m,h=>by
   simp only [ou] at h
   split at h
   ·rename_i m' hm
    obtain rfl:=Option.some.inj h
    rw [List.cons_append,kp hm]
   ·cases h
def T0 (H:Heap) (V:AV):AV→Heap→Prop:=fun v h=>h=H∧v=V
def T1 {sw:Type} (H:sw→Heap) (V:sw→AV):AV→Heap→Prop:=fun v h=>∃ b,h=H b∧v=V b
def T2 {sw vI:Type} (H:sw→vI→Heap) (V:sw→vI→AV):AV→Heap→Prop:=fun v h=>∃ b c,h=H b c∧v=V b c
theorem aT {f:FuncId} {args:List Operand} {ts:Array TypeId} {l l':List AV} {h0 hr H H':Heap} {V:AV} [ba P f] (hl:wN tm args=some l) (c:aG P f l' h0 (T0 H V)) (co:wb hp l l') (hs:zu hp h0 hr) (ha:ou H hr=some H') (hn:Nat.blt d n=true)
 (kk:ae P all rest ⟨n,(d,V) :: tm,H'⟩ Q):ae P all (⟨some d,.call {callee:=.value (.func f),args:=args.toArray,argTypes:=ts},ty,pos,af,none⟩ :: rest) ⟨n,tm,hp⟩ Q:=
 wh hl c co hs hn (fun r h' ⟨e1,e2⟩=>by subst e1;subst e2;rw [kp ha];exact kk)
theorem nT {sw:Type} {f:FuncId} {args:List Operand} {ts:Array TypeId} {l l':List AV} {h0 hr:Heap} {H H':sw→Heap} {V:sw→AV} [ba P f] (hl:wN tm args=some l) (c:aG P f l' h0 (T1 H V)) (co:wb hp l l') (hs:zu hp h0 hr) (ha:∀ b,ou (H b) hr=some (H' b)) (hn:Nat.blt d n=true)
 (kk:∀ b,ae P all rest ⟨n,(d,V b) :: tm,H' b⟩ Q):ae P all (⟨some d,.call {callee:=.value (.func f),args:=args.toArray,argTypes:=ts},ty,pos,af,none⟩ :: rest) ⟨n,tm,hp⟩ Q:=
 wh hl c co hs hn (fun r h' ⟨b,e1,e2⟩=>by subst e1;subst e2;rw [kp (ha b)];exact kk b)
theorem qe {sw vI:Type} {f:FuncId} {args:List Operand} {ts:Array TypeId} {l l':List AV} {h0 hr:Heap} {H H':sw→vI→Heap} {V:sw→vI→AV} [ba P f] (hl:wN tm args=some l) (c:aG P f l' h0 (T2 H V)) (co:wb hp l l') (hs:zu hp h0 hr) (ha:∀ b c,ou (H b c) hr=some (H' b c)) (hn:Nat.blt d n=true)
 (kk:∀ b c,ae P all rest ⟨n,(d,V b c) :: tm,H' b c⟩ Q):ae P all (⟨some d,.call {callee:=.value (.func f),args:=args.toArray,argTypes:=ts},ty,pos,af,none⟩ :: rest) ⟨n,tm,hp⟩ Q:=
 wh hl c co hs hn (fun r h' ⟨b,b2,e1,e2⟩=>by subst e1;subst e2;rw [kp (ha b b2)];exact kk b b2)
theorem mS {f:FuncId} {x:Operand} {args:List Operand} {ts:Array TypeId} {rn l l' lc:List AV} {h0 hr H H':Heap} {V:AV} [ba P f] (hx:bY tm x=some (.func (.func f) rn)) (hl:wN tm args=some l) (Q6:pg (l++rn)=some lc) (c:aG P f l' h0 (T0 H V)) (co:wb hp lc l') (hs:zu hp h0 hr) (ha:ou H hr=some H') (hn:Nat.blt d n=true)
 (kk:ae P all rest ⟨n,(d,V) :: tm,H'⟩ Q):ae P all (⟨some d,.call {callee:=.value x,args:=args.toArray,argTypes:=ts},ty,pos,af,none⟩ :: rest) ⟨n,tm,hp⟩ Q:=
 LJ hx hl Q6 c co hs hn (fun r h' ⟨e1,e2⟩=>by subst e1;subst e2;rw [kp ha];exact kk)
end rules
theorem Co.mg {hp:Heap} {α:Type} {g:α→AV} {Xs:List α} {sz:Nat} {b:Bk} (f:lj hp b (.yW sz (Xs.map g))):Co hp (.sl sz b 0 Xs.length) (.list sz (Xs.map g)):=.yW sz b _ _ f (by simp)
theorem qd.qJ {hp:Heap} {α:Type} {g:α→AV} {Xs:List α} {sz:Nat} {b:Bk} (f:lj hp b (.arr sz (Xs.map g))):qd hp (.sl sz b 0 Xs.length) (.list sz (Xs.map g)):=.arr sz b _ _ f (by simp)
section rules
variable {P:Program} {all:Array Oper} {rest:List Oper} {n:Nat} {tm:List (Nat×AV)} {hp:Heap} {Q:St→Prop} {d:Nat} {ty:TypeId} {pos:String} {af:Array Edge}
theorem bq {x:Operand} {s:TypeId} {j off:Nat} {sz:Nat} {b:Bk} {q o o':Nat} [mG P s j off] (hx:bY tm x=some (.qa sz b q o)) (ho:o+off=o'):QV P ⟨some d,.fieldAddr s x j,ty,pos,af,none⟩ ⟨n,tm,hp⟩ (.qa sz b q o'):=by
 subst ho
 exact CE hx
theorem Bs {t:TypeId} {i:TypeInfo} {x y:Operand} {b:Bk} {sz q o:Nat} {xs:List AV} {av el wi:AV} {bZ:Heap} [aP P t i] (hx:bY tm x=some (.qa sz b q o)) (hy:bY tm y=some av) (h1:jv av.cells=true) (eN:Nat.beq av.cells.length i.size=true)
 (u:iw hp b (.arr sz xs) b (.arr sz (xs.set q wi)) bZ) (hq:xs[q]? =some el) (Lp:wi.cells=mH el.cells o av.cells) (ho:Nat.ble (o+av.cells.length) el.cells.length=true) (kk:ae P all rest ⟨n,tm,bZ⟩ Q):ae P all (⟨none,.store t x y,ty,pos,af,none⟩ :: rest) ⟨n,tm,hp⟩ Q:=by
 refine ae.act rfl rfl (aK:=⟨n,tm,bZ⟩) (fun w S a r=>?_) kk
 obtain ⟨m,e1,e2⟩:=(aN (σ:=⟨n,tm,hp⟩) r hx).tV
 obtain ⟨g0,g1,⟨g2,_⟩ | ⟨m',vs,E,g2,g3,g4,g5⟩⟩:=jd r.hp (.inl u.lN)
 ·rw [g2] at e1;cases e1
 obtain rfl:m'=m:=by rw [g2] at e1;exact Option.some.inj e1
 have hv:=aN (σ:=⟨n,tm,hp⟩) r hy
 obtain ⟨hl,mO⟩:=sk hv (dc h1)
 have Dy:=dc h1
 have eN:=Nat.eq_of_beq_eq_true eN
 have ho:=Nat.le_of_ble_eq_true ho
 clear h1 hv hy
 generalize av.cells=nc at *
 generalize LK:el.cells=cs at *
 have hle:o+nc.length≤cs.length:=ho
 have tF:=g0 el (List.mem_of_getElem? hq)
 have xQ:cs.length=sz:=by rw [← LK];exact tF.1
 have Wz:q < xs.length:=(List.getElem?_eq_some_iff.1 hq).1
 have hmul:(q+1) * sz≤xs.length * sz:=Nat.mul_le_mul_right _ (by omega)
 have yJ:xs.length * sz≤b.cap * sz:=Nat.mul_le_mul_right _ g1
 rw [Nat.add_mul,Nat.one_mul] at hmul
 have vY:=sn hl mO Dy
 have yC:=run_storeCells_at (P:=P) m' (q * sz+o) E (a.eval y).cells.toList 0 vs w g3 (by simp;omega) vY
 simp only [Nat.add_zero] at yC
 have I0:(a.eval y).cells.size=i.size:=by rw [← hl];exact eN
 have Gu:=bA g0
 have Ny:El sz wi:=by
  refine ⟨by rw [Lp];simp [mH];omega,fun c hc=>?_⟩
  rw [Lp] at hc
  simp only [mH,List.mem_append] at hc
  rcases hc with (hc | hc) | hc
  ·exact tF.2 c (by rw [LK];exact List.mem_of_mem_take hc)
  ·exact Dy c hc
  ·exact tF.2 c (by rw [LK];exact List.mem_of_mem_drop hc)
 have DY:flat (xs.set q wi)=(flat xs).take (q * sz+o)++nc++(flat xs).drop (q * sz+o+nc.length):=by
  rw [DS g0 Ny hq]
  rw [Lp];simp only [mH]
  have IJ:cs=((flat xs).drop (q * sz)).take sz:=by
   apply List.ext_getElem?
   intro j
   by_cases hj:j < sz
   ·have:=qE g0 hq j hj
    rw [List.getElem?_take,if_pos hj,List.getElem?_drop,this,LK]
   ·rw [List.getElem?_eq_none (by omega),List.getElem?_eq_none (by simp;omega)]
  have e1:cs.take o=((flat xs).drop (q * sz)).take o:=by rw [IJ,List.take_take,Nat.min_eq_left (by omega)]
  have e2:cs.drop (o+nc.length)=(((flat xs).drop (q * sz+o+nc.length)).take (sz - (o+nc.length))):=by
   rw [IJ,List.drop_take,List.drop_drop]
   rw [show q * sz+(o+nc.length)=q * sz+o+nc.length from by omega]
  rw [e1,e2]
  have e3:(flat xs).take (q * sz+o)=(flat xs).take (q * sz)++((flat xs).drop (q * sz)).take o:=by rw [List.take_add]
  rw [e3]
  have e4:(flat xs).drop (q * sz+o+nc.length)=((flat xs).drop (q * sz+o+nc.length)).take (sz - (o+nc.length))++(flat xs).drop (q * sz+sz):=by
   conv=>lhs;rw [← List.take_append_drop (sz - (o+nc.length)) ((flat xs).drop (q * sz+o+nc.length))]
   rw [List.drop_drop,show q * sz+o+nc.length+(sz - (o+nc.length))=q * sz+sz from by omega]
  conv=>rhs;rw [e4]
  simp only [List.append_assoc]
 have Jj:=fun (w':World) (ha:gC w' S (flat xs) vs) (hb:gC w' S nc (a.eval y).cells)=>Gy (q * sz+o) (by rw [Gu,g4];exact yJ) ha hl hb (by omega)
 have zZ:(vs.toList.take (q * sz+o)++(a.eval y).cells.toList++vs.toList.drop (q * sz+o+(a.eval y).cells.toList.length)).toArray.size=b.cap * sz:=by
  simp;omega
 generalize (vs.toList.take (q * sz+o)++(a.eval y).cells.toList++vs.toList.drop (q * sz+o+(a.eval y).cells.toList.length)).toArray=vZ at yC Jj zZ
 have c:GB w (w.setRow m' vZ) b.cy:=⟨⟨rfl,rfl,rfl,by simp,fun k hk tE=>setRow_other w m' k _ (fun e=>tE (by rw [e1,e]))⟩,fun _=>Nat.le_refl _⟩
 have k1:∀ n,S n→S n∧(w.setRow m' vZ).heap[n]? =w.heap[n]?:=by
  intro k hk
  refine ⟨hk,setRow_other w m' k _ (fun e=>?_)⟩
  subst e
  exact (r.hp.sep _ u.lN.mem k (kJ e1)).1 hk
 have hh:=kj r.hp u c id id ⟨?_,by simpa using g1,.inr ⟨m',vZ,E,e1,setRow_heap w m' vs _ E _ g3,zZ,by rw [DY];exact Jj _ (g5.mono k1) (mO.mono k1)⟩⟩ (.inl rfl)
 ·refine ⟨w.setRow m' vZ,S,?_,r.heap hh.2.2 hh.1,hh.2.1⟩
  simp [execOp,e2,Instr.storeAt,Instr.sureAddr,storeVar,sizeOf,typeInfo,aP.h (P:=P) (t:=t),I0,yC]
 ·intro z hz
  rcases List.mem_or_eq_of_mem_set hz with h | rfl
  ·exact g0 z h
  ·exact Ny
theorem bF {α:Type} {g:α→AV} {Xs:List α} {el wi:α} {j:Int} {t:TypeId} {i:TypeInfo} {x y:Operand} {b:Bk} {sz o:Nat} {av:AV} {bZ:Heap} [aP P t i] (hx:bY tm x=some (.qa sz b j.toNat o)) (hy:bY tm y=some av) (h1:jv av.cells=true) (eN:Nat.beq av.cells.length i.size=true)
 (hv:idx Xs j=some el) (Lp:(g wi).cells=mH (g el).cells o av.cells) (u:iw hp b (.arr sz (Xs.map g)) b (.arr sz ((Xs.set j.toNat wi).map g)) bZ) (ho:Nat.ble (o+av.cells.length) (g el).cells.length=true) (kk:ae P all rest ⟨n,tm,bZ⟩ Q):
 ae P all (⟨none,.store t x y,ty,pos,af,none⟩ :: rest) ⟨n,tm,hp⟩ Q:=by
 refine Bs (xs:=Xs.map g) (el:=g el) (wi:=g wi) hx hy h1 eN ?_ (CN hv) Lp ho kk
 rw [List.map_set] at u
 exact u
end rules
theorem gm {α:Type} {xs:List α} {i:Int} {el v:α} (h:idx xs i=some el):idx (xs.set i.toNat v) i=some v:=by
 obtain ⟨h0,h1,_⟩:=ep h
 unfold idx;rw [if_pos h0,List.getElem?_set_self (by omega)]
theorem ck.hs {w:World} {S:Nat→Prop} {h h':Heap} (r:ck w S h) (s:HS h h'):ck w S h':=by
 obtain ⟨q,hq⟩:=s.perm
 exact (r.perm hq).sub (List.sublist_append_left _ _)
theorem Has.hs {h h':Heap} (s:HS h h') {n:Nat} (hh:Has h' n):Has h n:=by
 obtain ⟨q,hq⟩:=s.perm
 obtain ⟨e,he,hb⟩:=hh
 exact ⟨e,hq.mem_iff.2 (List.mem_append_left _ he),hb⟩
theorem aG.eP {P:Program} {f:FuncId} {args:List AV} {h:Heap} {Q:AV→Heap→Prop} (c:aG P f args h (fun r h1=>∃ h',HS h1 h'∧Q r h')):aG P f args h Q:=
 fun w S vs r hl ha=>(c w S vs r hl ha).mono fun _ _ ⟨v,r,_,S',h1,⟨h',hs,hq⟩,h3,h4,h5⟩=>⟨v,r,h',S',h1,hq,h3,h4.hs hs,h5.less fun _ hn=>hn.hs hs⟩
theorem aj.eqs {n s:Nat} {tm:List (Nat×AV)} {hp:Heap} {T:St→Prop} {av dD:AV} (hs:lk tm s=some av) (he:dD=av) (k:aj ⟨n,(s,dD) :: tm,hp⟩ T):aj ⟨n,tm,hp⟩ T:=by
 subst he
 exact aj.co hs (.refl _) k
theorem BY {hp bZ:Heap} {b:Bk} {o:Ob} (u:iw hp b o b o bZ):bZ=hp:=by
 generalize hb:b=b',ho:o=o' at u
 have:∀ {h h':Heap} {b b':Bk} {o o':Ob},iw h b o b' o' h'→b=b'→o=o'→h'=h:=by
  intro h h' b b' o o' u
  induction u with
  | here=>rintro rfl rfl;rfl
  | next _ ih=>intro e1 e2;rw [ih e1 e2]
  | skip _ ih=>intro e1 e2;rw [ih e1 e2]
 subst hb ho
 exact this u rfl rfl
theorem aj.wT {n j:Nat} {tm:List (Nat×AV)} {hp bZ:Heap} {T:St→Prop} {b:Bk} {cs lB:List AV} {av dD:AV} (u:iw hp b (.cells cs) b (.cells lB) bZ) (hj:cs[j]? =some av) (he:dD=av) (hc:pg (cs.set j dD)=some lB) (k:aj ⟨n,tm,bZ⟩ T):aj ⟨n,tm,hp⟩ T:=by
 subst he
 have IJ:cs.set j dD=cs:=by
  apply List.ext_getElem?
  intro i
  by_cases hi:j=i
  ·subst hi
   have iv:=(List.getElem?_eq_some_iff.1 hj).1
   rw [List.getElem?_set_self iv,hj]
  ·rw [List.getElem?_set_ne hi]
 rw [IJ] at hc
 obtain rfl:=kL hc
 rw [BY u] at k
 exact k
theorem oF {p:Prop} [Decidable p] {x:Bool} (h:p):(decide p&&x)=x:=by simp [h]
theorem oG {p:Prop} [Decidable p] {x:Bool} (h:¬ p):(decide p&&x)=false:=by simp [h]
theorem HC {p:Prop} [Decidable p] {x:Bool} (h:p):(decide p||x)=true:=by simp [h]
theorem HD {p:Prop} [Decidable p] {x:Bool} (h:¬ p):(decide p||x)=x:=by simp [h]
theorem wU {b x:Bool} (h:b=true):(b&&x)=x:=by simp [h]
theorem wV {b x:Bool} (h:b=false):(b&&x)=false:=by simp [h]
theorem FA {b x:Bool} (h:b=true):(b||x)=true:=by simp [h]
theorem FB {b x:Bool} (h:b=false):(b||x)=x:=by simp [h]
def rK (P:Program) (k:Nat) (t:TypeId) (v u:Value) (b:Bool):Prop:=∀ d w,(Op.equalIn (d+k) t v u).run P w=.ok b w
theorem rK.up {P:Program} {k:Nat} {t:TypeId} {v u:Value} {b:Bool} (h:rK P k t v u b) (j:Nat):rK P (k+j) t v u b:=fun d w=>by
 rw [show d+(k+j)=(d+j)+k from by omega];exact h _ w
theorem rK.cast {P:Program} {k:Nat} {t:TypeId} {v u:Value} {b b':Bool} (h:rK P k t v u b) (e:b=b'):rK P k t v u b':=by rw [← e];exact h
inductive HE (P:Program) (k:Nat) (xs ys:Array Value):List Field→Bool→Prop
 | nil:HE P k xs ys [] true
 | cons {f:Field} {fs:List Field} {px py:Value} {b b':Bool} (hn:f.name≠"_") (hx:∀ w,(part f.type xs f.offset).run P w=.ok px w) (hy:∀ w,(part f.type ys f.offset).run P w=.ok py w) (he:rK P k f.type px py b) (kk:HE P k xs ys fs b'):HE P k xs ys (f :: fs) (b&&b')
theorem HE.run {P:Program} {k:Nat} {xs ys:Array Value} {fs:List Field} {b:Bool} (h:HE P k xs ys fs b) (d:Nat) (w:World):(Op.eqFields (d+k) xs ys fs).run P w=.ok b w:=by
 induction h with
 | nil=>simp [Op.eqFields]
 | @cons f fs px py b b' hn hx hy he kk ih=>
   simp only [Op.eqFields,hn,ne_eq,not_false_eq_true,if_true,Sem.run_bind,hx,hy,he d w,Result.andThen_ok]
   cases b
   ·simp
   ·simpa using ih
theorem rK.struct {P:Program} {k:Nat} {t:TypeId} {xs ys:Array Value} {fs:List Field} {b:Bool} (hu:P.underlying t=some (.struct fs.toArray)) (hp:P.stoodInHeld t=false) (h:HE P k xs ys fs b):rK P (k+1) t (.agg xs) (.agg ys) b:=by
 intro d w
 have hf:P.fieldsOf t=fs.toArray:=by simp [Program.fieldsOf,hu]
 rw [show d+(k+1)=(d+k)+1 from rfl,run_equalIn_struct w (d+k) t xs ys (by rw [hf];exact hu) hp,hf]
 exact h.run d w
theorem bz {P:Program} {t:TypeId} {D:TypeDesc} [ay P t D] (hD:TypeDesc.jx D=false) {cs:Array Value} {off:Nat} {v:Value} (h:cs[off]? =some v) (w:World):(part t cs off).run P w=.ok v w:=by
 unfold part isAgg
 simp only [Sem.run_bind,run_underlying (ay.h (P:=P) (t:=t)),Result.andThen_ok]
 cases D<;>simp_all [TypeDesc.jx]
theorem DZ {P:Program} {t:TypeId} {D:TypeDesc} {i:TypeInfo} [ay P t D] [aP P t i] (hD:TypeDesc.jx D=true) {cs:Array Value} {off n:Nat} (hn:i.size=n) (w:World):(part t cs off).run P w=.ok (.agg (cs.extract off (off+n))) w:=by
 subst hn
 unfold part isAgg
 simp only [Sem.run_bind,run_underlying (ay.h (P:=P) (t:=t)),Result.andThen_ok]
 cases D<;>simp_all [TypeDesc.jx,sizeOf,typeInfo,aP.h (P:=P) (t:=t)]
theorem gC.get {w:World} {S:Nat→Prop} {cs:List AV} {vs:Array Value} (hl:cs.length=vs.size) (ha:gC w S cs vs) {off:Nat} {c:AV} (hc:cs[off]? =some c):∃ v,vs[off]? =some v∧At w S c v:=by
 have iv:=(List.getElem?_eq_some_iff.1 hc).1
 have:off < vs.size:=by omega
 exact ⟨vs[off],by simp [this],ha off c _ hc (by simp [this])⟩
theorem gC.sub {w:World} {S:Nat→Prop} {cs:List AV} {vs:Array Value} (hl:cs.length=vs.size) (ha:gC w S cs vs) (off n:Nat) (h:off+n≤cs.length):At w S (.agg ((cs.drop off).take n)) (.agg (vs.extract off (off+n))):=by
 refine .agg _ _ (by simp;omega) (fun i c v hc hv=>?_)
 simp only [List.getElem?_take,List.getElem?_drop] at hc
 split at hc
 ·rename_i hi
  refine ha (off+i) c v hc ?_
  rw [Array.getElem?_extract] at hv
  split at hv
  ·exact hv
  ·cases hv
 ·cases hc
class kN (P:Program) (t:TypeId) (k:outParam Nat) {α:Type} [DecidableEq α] (g:α→AV):Prop where
 h:∀ (x y:α) (w:World) (S:Nat→Prop) (v u:Value),At w S (g x) v→At w S (g y) u→rK P k t v u (decide (x=y))
class D0 (P:Program) (t:TypeId):Prop where
 h:P.eqGuardType P.depth t=false
instance Q8 {P:Program} {t:TypeId} {k:IntKind} [ay P t (.int k)]:kN P t 1 (AV.int k):=⟨fun x y w S v u hv hu d w'=>by
 rw [hv.ca,hu.ca,Op.equalIn]
 simp [run_underlying (ay.h (P:=P) (t:=t))]
 rw [Bool.eq_iff_iff];simp⟩
instance SH {P:Program} {t:TypeId} [ay P t (.int .i64)]:kN P t 1 I:=Q8 (k:=.i64)
instance eqStr {P:Program} {t:TypeId} [ay P t .string]:kN P t 1 AV.str:=⟨fun x y w S v u hv hu d w'=>by
 rw [hv.cI,hu.cI,Op.equalIn]
 simp [run_underlying (ay.h (P:=P) (t:=t))]
 rw [Bool.eq_iff_iff]
 rw [beq_toListBytes,ByteArray.toList_eq,ByteArray.toList_eq]
 simp⟩
def eT (k:IntKind) (x y:Int):Int:=x.fdiv (2 ^ min y.toNat k.bits)
section rules
variable {P:Program} {all:Array Oper} {rest:List Oper} {n:Nat} {tm:List (Nat×AV)} {hp:Heap} {Q:St→Prop} {d:Nat} {ty:TypeId} {pos:String} {af:Array Edge}
theorem Jk {α:Type} [DecidableEq α] {g:α→AV} {X Y:α} {k:Nat} {xt yt:TypeId} {x y:Operand} {cs ds:List AV} [kN P xt k g] [D0 P xt] (hk:Nat.ble k 10000=true) (hx:bY tm x=some (.agg cs)) (hy:bY tm y=some (.agg ds)) (eX:g X=.agg cs) (eY:g Y=.agg ds):
 QV P ⟨some d,.binOp .eql xt x y yt,ty,pos,af,none⟩ ⟨n,tm,hp⟩ (.bool (decide (X=Y))):=by
 intro w S a r
 have hv:=aN (σ:=⟨n,tm,hp⟩) r hx
 have hu:=aN (σ:=⟨n,tm,hp⟩) r hy
 have he:=kN.h (P:=P) (t:=xt) (g:=g) X Y w S _ _ (by rw [eX];exact hv) (by rw [eY];exact hu)
 obtain ⟨vs,e1,_,_⟩:=hv.iU
 obtain ⟨us,e2,_,_⟩:=hu.iU
 refine ⟨.bool (decide (X=Y)),fun w1 _=>?_,.bool _⟩
 have h1:=run_eqGuard_agg (P:=P) w1 .eql xt x y vs us D0.h
 rw [e1,e2] at he
 have h2:(Op.equal xt (.agg vs) (.agg us)).run P w1=.ok (decide (X=Y)) w1:=by
  have:=he (10000 - k) w1
  rw [Nat.sub_add_cancel (Nat.le_of_ble_eq_true hk)] at this
  exact this
 have h3:(binOp .eql xt (.agg vs) (.agg us)).run P w1=.ok (.bool (decide (X=Y))) w1:=by
  rw [show binOp .eql xt (.agg vs) (.agg us)=(do pure (.bool (← Op.equal xt (.agg vs) (.agg us)))) from rfl]
  simp [h2]
 simp [execOp,e1,e2,h1,h3]
theorem GG {α:Type} [DecidableEq α] {g:α→AV} {X Y:α} {k:Nat} {xt yt:TypeId} {x y:Operand} {cs ds:List AV} [kN P xt k g] [D0 P xt] (hk:Nat.ble k 10000=true) (hx:bY tm x=some (.agg cs)) (hy:bY tm y=some (.agg ds)) (eX:g X=.agg cs) (eY:g Y=.agg ds):
 QV P ⟨some d,.binOp .neq xt x y yt,ty,pos,af,none⟩ ⟨n,tm,hp⟩ (.bool (decide (X≠Y))):=by
 intro w S a r
 have hv:=aN (σ:=⟨n,tm,hp⟩) r hx
 have hu:=aN (σ:=⟨n,tm,hp⟩) r hy
 have he:=kN.h (P:=P) (t:=xt) (g:=g) X Y w S _ _ (by rw [eX];exact hv) (by rw [eY];exact hu)
 obtain ⟨vs,e1,_,_⟩:=hv.iU
 obtain ⟨us,e2,_,_⟩:=hu.iU
 refine ⟨.bool (decide (X≠Y)),fun w1 _=>?_,.bool _⟩
 have h1:=run_eqGuard_agg (P:=P) w1 .neq xt x y vs us D0.h
 rw [e1,e2] at he
 have h2:(Op.equal xt (.agg vs) (.agg us)).run P w1=.ok (decide (X=Y)) w1:=by
  have:=he (10000 - k) w1
  rw [Nat.sub_add_cancel (Nat.le_of_ble_eq_true hk)] at this
  exact this
 have h3:(binOp .neq xt (.agg vs) (.agg us)).run P w1=.ok (.bool (decide (X≠Y))) w1:=by
  rw [show binOp .neq xt (.agg vs) (.agg us)=(do pure (.bool (!(← Op.equal xt (.agg vs) (.agg us))))) from rfl]
  simp [h2]
 simp [execOp,e1,e2,h1,h3]
theorem CO {xt yt:TypeId} {x y:Operand} {s t:List UInt8} (hx:bY tm x=some (.str s)) (hy:bY tm y=some (.str t)):QV P ⟨some d,.binOp .leq xt x y yt,ty,pos,af,none⟩ ⟨n,tm,hp⟩ (.bool (Op.bytesLess s t||s==t)):=by
 refine fun w S a r=>⟨.bool (Op.bytesLess s t||s==t),fun w1 _=>?_,.bool _⟩
 simp [execOp,(aN (σ:=⟨n,tm,hp⟩) r hx).cI,(aN (σ:=⟨n,tm,hp⟩) r hy).cI,eqGuard_at_string,binOp,Op.stringOp,ByteArray.toList_eq]
theorem D2 {k k':IntKind} {xt yt:TypeId} {x y:Operand} {i j:Int} (hx:bY tm x=some (.int k i)) (hy:bY tm y=some (.int k' j)) (h0:¬ j < 0):QV P ⟨some d,.binOp .shr xt x y yt,ty,pos,af,none⟩ ⟨n,tm,hp⟩ (.int k (eT k i j)):=by
 refine fun w S a r=>⟨.int k (eT k i j),fun w1 _=>?_,.int _ _⟩
 simp [execOp,(aN (σ:=⟨n,tm,hp⟩) r hx).ca,(aN (σ:=⟨n,tm,hp⟩) r hy).ca,eqGuard_at_int,binOp,Op.shift,h0,eT]
end rules
end Go.Eng
namespace Go.Eng
open Go Go.RowKit
variable [bt]
theorem BZ (l:List Int):flat (l.map I)=l.map I:=by
 induction l with
 | nil=>rfl
 | cons x r ih=>rw [List.map_cons,iA,ih];rfl
theorem Jl {P:Program} {f:FuncId} {a:Option Addr} {len cap:Nat} {zs:List Int} {w:World}
 (HF:(a=none∧len=0∧cap=0∧zs=[])∨∃ x,a=some x∧len≤cap∧cap≤maxLen∧zs.length=cap∧(∀ i,i < zs.length→w.cell? (x.add i)=some (.int .i64 (zs.getD i 0)))∧∀ n∈zs,(Lit.int .i64 n).wf=true)
 (hG:∀ g o,bt.QG g=some o→g < w.heap.size∧o (w.heap[g]?))
 (c:∀ l:List Int,Pu P f [.list 1 (l.map I)] (.bool true)):
 Calls P f #[.slice a len cap] w fun e w'=>e=.returned (.bool true)∧Below w.heap.size w w':=by
 let S:Nat→Prop:=fun n=>n < w.heap.size
 have mO:∃ l:List Int,At w S (.list 1 (l.map I)) (.slice a len cap):=by
  rcases HF with ⟨rfl,rfl,rfl,rfl⟩ | ⟨x,rfl,h1,h2,h3,h4,h5⟩
  ·exact ⟨[],.list 1 [] none 0 [] (by simp) rfl (by simp [flat]) (by simp) (by simp)⟩
  ·refine ⟨zs.take len,?_⟩
   have hl:((zs.take len).map I).length=len:=by simp;omega
   have key:=At.list (w:=w) (S:=S) 1 ((zs.take len).map I) (some x) cap ((zs.take len).map (fun n=>Value.int .i64 n)) ?_ ?_ ?_ ?_ ?_
   ·rw [hl] at key;exact key
   ·intro y hy
    obtain ⟨n,_,rfl⟩:=List.mem_map.1 hy
    exact ⟨rfl,fun c hc=>by simp [AV.cells] at hc;subst hc;rfl⟩
   ·rw [BZ];simp
   ·intro i c v hc hv
    rw [BZ,List.getElem?_map] at hc
    rw [List.getElem?_map] at hv
    cases hn:(zs.take len)[i]? with
    | none=>rw [hn] at hc;cases hc
    | some n=>
      rw [hn] at hc hv
      obtain rfl:=Option.some.inj hc
      obtain rfl:=Option.some.inj hv
      exact .int _ _
   ·intro i v hv
    rw [List.getElem?_map] at hv
    cases hn:(zs.take len)[i]? with
    | none=>rw [hn] at hv;cases hv
    | some n=>
      rw [hn] at hv
      obtain rfl:=Option.some.inj hv
      have hi:i < zs.length:=by
       have:=(List.getElem?_eq_some_iff.1 hn).1
       simp at this;omega
      have hz:zs.getD i 0=n:=by
       rw [List.getElem?_take] at hn
       split at hn
       ·rw [List.getD_eq_getElem?_getD,hn];rfl
       ·cases hn
      have uk:=h4 i hi
      rw [hz] at uk
      obtain ⟨bk,of,sp⟩:=x
      have Nk:sp=none:=by
       cases sp with
       | none=>rfl
       | some q=>
         have Q9:=h4 0 (by omega)
         unfold World.cell? Addr.add at Q9
         simp only [if_true] at Q9
         split at Q9
         ·simp at Q9
         ·cases Q9
      subst Nk
      rw [jw] at uk
      have hblk:bk < w.heap.size:=by
       rcases Nat.lt_or_ge bk w.heap.size with h | h
       ·exact h
       ·unfold World.cell? at uk
        simp only [Array.getElem?_eq_none h] at uk
        cases uk
      exact ⟨_,rfl,rfl,hblk,uk⟩
   ·rw [hl];exact h1
 obtain ⟨l,mO⟩:=mO
 refine (c l w S #[.slice a len cap] (ss (fun n hn=>hn) hG) rfl ?_).mono ?_
 ·intro i c' v hc hv
  match i with
  | 0=>simp at hc hv;subst hc;subst hv;exact mO
  | i+1=>simp at hc
 ·rintro e w' ⟨v,r,h',S',rfl,rfl,h1,h2,h3⟩
  refine ⟨by rw [h1.iJ],h3.os,h3.tape,h3.output,h3.size,fun k hk=>(h3.iX k hk).2⟩
end Go.Eng
namespace Go.Eng
open Go
variable [bt]
def gl (e:Env) (d:Option Nat) (o:Option AV):Env:=match d with
 | some d=>fun s=>if d=s then o else e s
 | none=>e
theorem gL {e:Env} {d:Option Nat} {o:Option AV} {s:Nat} (h:d≠some s):gl e d o s=e s:=by
 cases d with
 | none=>rfl
 | some d=>simp only [gl];rw [if_neg (fun e=>h (by rw [e]))]
theorem jL {e:Env} {o:Option AV} {s:Nat}:gl e (some s) o s=o:=by simp [gl]
section order
variable {P:Program} {all:Array Oper} {n m:Nat} {hp:Heap}
def oQ (all:Array Oper) (ie:Nat→Option AV) (e:Env) (listed:Array Bool):Nat→Env
 | 0=>e
 | k+1=>if listed.getD k false then gl (oQ all ie e listed k) ((all[k]?).bind (·.dst)) (ie k) else oQ all ie e listed k
variable {ie:Nat→Option AV} {en:Nat→Env} {e:Env}
theorem B0 (hB:rI all m) {listed:Array Bool} (L:GC all m listed) (h0:en 0=e) (hs:∀ i o,i < m→all[i]? =some o→en (i+1)=gl (en i) o.dst (ie i)) (hm:m≤all.size)
 {i:Nat} {o:Oper} (ho:all[i]? =some o) (Bb:i < m) (qs:listed.getD i false=false) (hr:∀ j,qI all i j→listed.getD j false=true) {s:Nat} (IM:s∈looks all o):∀ k,k≤all.size→oQ all ie e listed k s=en (min k i) s:=by
 intro k
 induction k with
 | zero=>intro _;simp [oQ,h0]
 | succ k ih=>
   intro hk
   have tG:=ih (by omega)
   have rJ:all[k]? =some all[k]:=by simp [show k < all.size by omega]
   simp only [oQ,rJ,Option.bind_some]
   rcases Nat.lt_trichotomy k i with iv | heq | BX
   ·rw [Nat.min_eq_left (by omega)] at tG
    rw [Nat.min_eq_left (by omega),hs k _ (by omega) rJ]
    by_cases hd:(all[k]).dst=some s
    ·have hl:listed.getD k false=true:=hr k ((iL hB ho rJ iv).1 Bb (wg hd IM))
     rw [if_pos hl,hd,jL,jL]
    ·rw [gL hd]
     split
     ·rw [gL hd];exact tG
     ·exact tG
   ·subst heq
    rw [qs]
    simp only [Bool.false_eq_true,if_false]
    rw [Nat.min_eq_right (by omega)]
    rw [Nat.min_eq_right (by omega)] at tG
    exact tG
   ·rw [Nat.min_eq_right (by omega)] at tG
    rw [Nat.min_eq_right (by omega)]
    by_cases hl:listed.getD k false=true
    ·by_cases hd:(all[k]).dst=some s
     ·exfalso
      have hw:=(iL hB rJ ho BX).1 (L.head k hl) (yG hd IM)
      have:=ij.I9 L.closed hw hl
      rw [qs] at this;cases this
     ·rw [if_pos hl,gL hd];exact tG
    ·rw [if_neg hl];exact tG
theorem D3 (hB:rI all m) {listed:Array Bool} (L:GC all m listed) {i:Nat} {o:Oper} (ho:all[i]? =some o) (Bb:i < m) (qs:listed.getD i false=false) (s:Nat):
 ∀ k,k≤all.size→oQ all ie e (listed.setIfInBounds i true) k s=(if i < k then gl (oQ all ie e listed k) o.dst (ie i) s else oQ all ie e listed k s):=by
 have hi:i < listed.size:=by rw [L.size];exact (Array.getElem?_eq_some_iff.1 ho).1
 intro k
 induction k with
 | zero=>intro _;simp [oQ]
 | succ k ih=>
   intro hk
   have tG:=ih (by omega)
   have rJ:all[k]? =some all[k]:=by simp [show k < all.size by omega]
   simp only [oQ,rJ,Option.bind_some,cU hi]
   rcases Nat.lt_trichotomy k i with iv | heq | BX
   ·rw [if_neg (by omega)] at tG
    have e1:(if k=i then true else listed.getD k false)=listed.getD k false:=if_neg (by omega)
    rw [e1,if_neg (show ¬ i < k+1 by omega)]
    by_cases hl:listed.getD k false=true
    ·rw [if_pos hl,if_pos hl]
     by_cases hd:(all[k]).dst=some s
     ·rw [hd,jL,jL]
     ·rw [gL hd,gL hd];exact tG
    ·rw [if_neg hl,if_neg hl];exact tG
   ·subst heq
    rw [if_neg (by omega)] at tG
    have e1:(if k=k then true else listed.getD k false)=true:=if_pos rfl
    rw [e1,if_pos (show k < k+1 by omega),if_pos rfl,qs,if_neg Bool.false_ne_true]
    obtain rfl:all[k]=o:=by rw [rJ] at ho;exact Option.some.inj ho
    by_cases hd:(all[k]).dst=some s
    ·rw [hd,jL,jL]
    ·rw [gL hd,gL hd];exact tG
   ·rw [if_pos BX] at tG
    have e1:(if k=i then true else listed.getD k false)=listed.getD k false:=if_neg (by omega)
    rw [e1,if_pos (show i < k+1 by omega)]
    by_cases hl:listed.getD k false=true
    ·rw [if_pos hl,if_pos hl]
     by_cases hd:(all[k]).dst=some s
     ·by_cases Hy:o.dst=some s
      ·exfalso
       have hw:=(iL hB rJ ho BX).1 (L.head k hl) (BW Hy hd)
       have:=ij.I9 L.closed hw hl
       rw [qs] at this;cases this
      ·rw [hd,jL,gL Hy,jL]
     ·by_cases Hy:o.dst=some s
      ·rw [gL hd,tG,Hy,jL,jL]
      ·rw [gL hd,tG,gL Hy,gL Hy,gL hd]
    ·rw [if_neg hl,if_neg hl];exact tG
structure Tok where
 prod:Option Nat
 cons:Option Nat
 Uc:List Nat
 Z8:Bk→Bk×Ob
 SI:Option Nat
 WD:List Nat
def Tok.ix (t:Tok):Option Nat:=match t.SI with | some a=>some a | none=>t.prod
def Tok.at (t:Tok) (β:Nat→Bk):Bk×Ob:=t.Z8 (match t.ix with | some i=>β i | none=>⟨none,0⟩)
def wj (listed:Array Bool) (t:Tok):Bool:=(match t.prod with | none=>true | some i=>listed.getD i false)&&(match t.cons with | none=>true | some i=>!listed.getD i false)
def y5 (i:Nat) (t:Tok):Bool:=match t.cons with | some c=>Nat.beq c i | none=>false
def LL (i:Nat) (t:Tok):Bool:=match t.prod with | some c=>Nat.beq c i | none=>false
def GH (i:Nat) (t:Tok):Bool:=t.Uc.contains i
def wW (tk:List Tok) (i:Nat) (β:Nat→Bk):Heap:=(tk.filter (GH i)).map (·.at β)
def K8 (i:Nat) (t:Tok):Bool:=t.WD.contains i
def sW (tk:List Tok) (i:Nat) (β:Nat→Bk):List Heap:=match tk.filter (K8 i) with
 | []=>[wW tk i β]
 | l=>l.map fun t=>t.at β :: wW tk i β
def pX (tk:List Tok) (listed:Array Bool) (β:Nat→Bk):Heap:=(tk.filter (wj listed)).map (·.at β)
def r7 (tk:List Tok) (i:Nat) (β:Nat→Bk):Heap:=(tk.filter (y5 i)).map (·.at β)
def jk (tk:List Tok) (i:Nat) (β:Nat→Bk):Heap:=(tk.filter (LL i)).map (·.at β)
def nx (β:Nat→Bk) (i:Nat) (b:Bk):Nat→Bk:=fun k=>bif Nat.beq k i then b else β k
theorem LM (β:Nat→Bk) (i:Nat) (b:Bk):nx β i b i=b:=by simp [nx]
theorem GJ {β:Nat→Bk} {i k:Nat} {b:Bk} (h:k≠i):nx β i b k=β k:=by simp [nx,ng h]
def tH (tk:List Tok) (β:Nat→Bk):Heap:=(tk.filter (fun t=>t.cons.isNone)).map (·.at β)
def Ra (A:List Nat) (m:Nat) (tk:List Tok):Bool:=tk.all fun t=>
 (match t.prod with | some p=>Nat.blt p m | none=>true)&&(match t.cons with | some c=>Nat.blt c m&&(match t.prod with | some p=>(A.getD c 0).testBit p | none=>true) | none=>true)&&
 (match t.SI with | some a=>(match t.prod with | some p=>(A.getD p 0).testBit a | none=>false) | none=>true)&&
 t.Uc.all fun i=>Nat.blt i m&&(match t.prod with | some p=>(A.getD i 0).testBit p | none=>true)&&(match t.cons with | some c=>(A.getD c 0).testBit i | none=>true)
def Nz (A:List Nat) (m:Nat) (tk:List Tok):Bool:=(List.range m).all fun i=>match tk.filter (K8 i) with
 | []=>true
 | [t0,t1]=>(match t0.cons,t1.prod with | some j,some j'=>Nat.beq j j'&&!Nat.beq j i | _,_=>false)&&(match t0.prod with | some p=>(A.getD i 0).testBit p | none=>true)&&(match t1.cons with | some c=>(A.getD c 0).testBit i | none=>true)&&!GH i t0&&!GH i t1
 | _=>false
def FC (all:Array Oper) (m:Nat) (tk:List Tok):Prop:=∀ i,i < m→tk.filter (K8 i)=[]∨∃ t0 t1 j,tk.filter (K8 i)=[t0,t1]∧t0.cons=some j∧t1.prod=some j∧j≠i∧(∀ p,t0.prod=some p→qI all i p)∧(∀ c,t1.cons=some c→qI all c i)∧GH i t0=false∧GH i t1=false
theorem FD {A:List Nat} {tk:List Tok} (hA:Bq all=A) (h:Nz A m tk=true):FC all m tk:=by
 intro i hi
 have:=List.all_eq_true.1 h i (List.mem_range.2 hi)
 split at this
 ·rename_i e;exact .inl e
 ·rename_i t0 t1 e
  simp only [Bool.and_eq_true,Bool.not_eq_true'] at this
  obtain ⟨⟨⟨⟨h1,h2⟩,h3⟩,h4⟩,h5⟩:=this
  split at h1
  ·rename_i j j' hj Ud
   simp only [Bool.and_eq_true,Bool.not_eq_true'] at h1
   obtain ⟨h6,h7⟩:=h1
   obtain rfl:=Nat.eq_of_beq_eq_true h6
   refine .inr ⟨t0,t1,j,e,hj,Ud,fun e=>by rw [e] at h7;simp at h7,fun p hp=>?_,fun c hc=>?_,h4,h5⟩
   ·rw [hp] at h2;subst hA;exact je h2
   ·rw [hc] at h3;subst hA;exact je h3
  ·cases h1
 ·cases this
def z6 (all:Array Oper) (m:Nat) (tk:List Tok):Prop:=∀ t∈tk,(∀ p,t.prod=some p→p < m)∧(∀ c,t.cons=some c→c < m∧∀ p,t.prod=some p→qI all c p)∧(∀ i,GH i t=true→i < m∧(∀ p,t.prod=some p→qI all i p)∧∀ c,t.cons=some c→qI all c i)∧∀ a,t.SI=some a→∃ p,t.prod=some p∧qI all p a
theorem HG {A:List Nat} {tk:List Tok} (hA:Bq all=A) (h:Ra A m tk=true):z6 all m tk:=by
 intro t ht
 have:=List.all_eq_true.1 h t ht
 rw [Bool.and_eq_true,Bool.and_eq_true,Bool.and_eq_true] at this
 obtain ⟨⟨⟨h1,h2⟩,h9⟩,h4⟩:=this
 subst hA
 refine ⟨fun p hp=>by rw [hp] at h1;simpa using h1,fun c hc=>?_,fun i hi=>?_,fun a ha=>?_⟩
 ·rw [hc] at h2
  simp only [Bool.and_eq_true] at h2
  refine ⟨by simpa using h2.1,fun p hp=>?_⟩
  have h3:=h2.2
  rw [hp] at h3
  exact je h3
 ·have h5:=List.all_eq_true.1 h4 i (by simpa [GH] using hi)
  rw [Bool.and_eq_true,Bool.and_eq_true] at h5
  obtain ⟨⟨h6,h7⟩,h8⟩:=h5
  exact ⟨by simpa using h6,fun p hp=>by rw [hp] at h7;exact je h7,fun c hc=>by rw [hc] at h8;exact je h8⟩
 ·rw [ha] at h9
  cases hp:t.prod with
  | none=>rw [hp] at h9;cases h9
  | some p=>rw [hp] at h9;exact ⟨p,rfl,je h9⟩
theorem sX {α:Type} (p q:α→Bool) (l:List α):(l.filter p).Perm (l.filter (fun x=>p x&&q x)++l.filter (fun x=>p x&&!q x)):=by
 induction l with
 | nil=>exact List.Perm.refl _
 | cons x l ih=>
   simp only [List.filter_cons]
   cases hp:p x<;>cases hq:q x
   ·simpa using ih
   ·simpa using ih
   ·simp only [Bool.true_and,Bool.not_false,Bool.false_eq_true,if_false,if_true]
    exact (List.Perm.cons x ih).trans List.perm_middle.symm
   ·simp only [Bool.true_and,Bool.not_true,Bool.false_eq_true,if_false,if_true,List.cons_append]
    exact List.Perm.cons x ih
theorem Oo {tk:List Tok} (hT:z6 all m tk) {listed:Array Bool} {i:Nat} (qs:listed.getD i false=false) (r8:∀ j,qI all i j→listed.getD j false=true) (β:Nat→Bk):
 (pX tk listed β).Perm (r7 tk i β++(tk.filter (fun t=>wj listed t&&!y5 i t)).map (·.at β)):=by
 unfold pX r7
 rw [← List.map_append]
 refine List.Perm.map _ ?_
 have e:tk.filter (y5 i)=tk.filter (fun t=>wj listed t&&y5 i t):=by
  apply List.filter_congr
  intro t ht
  cases hc:y5 i t with
  | false=>simp
  | true=>
    unfold y5 at hc
    split at hc
    ·rename_i c HI
     obtain rfl:c=i:=Nat.eq_of_beq_eq_true hc
     have:=(hT t ht).2.1 c HI
     have Q1:wj listed t=true:=by
      unfold wj
      rw [HI]
      simp only [qs,Bool.not_false,Bool.and_true]
      split
      ·rfl
      ·rename_i p hp;exact r8 p (this.2 p hp)
     rw [Q1];rfl
    ·cases hc
 rw [e]
 exact sX _ _ _
theorem LN {tk:List Tok} (hT:z6 all m tk) {listed:Array Bool} (xQ:ij all listed) {i:Nat} (hi:i < listed.size) (qs:listed.getD i false=false) (CP:∀ c,qI all c i→c≠i) (β:Nat→Bk) (b:Bk):
 (pX tk (listed.setIfInBounds i true) (nx β i b)).Perm (jk tk i (nx β i b)++(tk.filter (fun t=>wj listed t&&!y5 i t)).map (·.at β)):=by
 unfold pX jk
 have e2:(tk.filter (fun t=>wj listed t&&!y5 i t)).map (·.at β)=(tk.filter (fun t=>wj listed t&&!y5 i t)).map (·.at (nx β i b)):=by
  apply List.map_congr_left
  intro t ht
  have h0:=(List.mem_filter.1 ht).1
  have h1:=(List.mem_filter.1 ht).2
  rw [Bool.and_eq_true] at h1
  have SD:∀ p,t.prod=some p→listed.getD p false=true:=by
   intro p hp
   have:=h1.1
   unfold wj at this
   rw [hp,Bool.and_eq_true] at this
   exact this.1
  unfold Tok.at
  cases hx:t.ix with
  | none=>rfl
  | some p=>
    have Pz:listed.getD p false=true:=by
     unfold Tok.ix at hx
     cases ha:t.SI with
     | none=>rw [ha] at hx;exact SD p hx
     | some a=>
       rw [ha] at hx
       obtain rfl:=Option.some.inj hx
       obtain ⟨q,q1,q2⟩:=(hT t h0).2.2.2 a ha
       exact xQ.I9 q2 (SD q q1)
    have:p≠i:=fun e=>by subst e;rw [qs] at Pz;cases Pz
    simp only [GJ this]
 rw [e2,← List.map_append]
 refine List.Perm.map _ ?_
 refine (sX _ (LL i) _).trans ?_
 have f1:tk.filter (fun t=>wj (listed.setIfInBounds i true) t&&LL i t)=tk.filter (LL i):=by
  apply List.filter_congr
  intro t ht
  cases hp:LL i t with
  | false=>simp
  | true=>
    unfold LL at hp
    split at hp
    ·rename_i p IN
     obtain rfl:p=i:=Nat.eq_of_beq_eq_true hp
     have Q1:wj (listed.setIfInBounds p true) t=true:=by
      unfold wj
      rw [IN]
      simp only [cU hi,if_true,Bool.true_and]
      cases hc:t.cons with
      | none=>rfl
      | some c=>
        have r8:=((hT t ht).2.1 c hc).2 p IN
        have tE:=CP c r8
        simp only [tE,if_false]
        cases hl:listed.getD c false with
        | false=>rfl
        | true=>have:=xQ.I9 r8 hl;rw [qs] at this;cases this
     rw [Q1];rfl
    ·cases hp
 have f2:tk.filter (fun t=>wj (listed.setIfInBounds i true) t&&!LL i t)=tk.filter (fun t=>wj listed t&&!y5 i t):=by
  apply List.filter_congr
  intro t ht
  unfold wj LL y5
  cases hp:t.prod with
  | none=>
    cases hc:t.cons with
    | none=>simp
    | some c=>
      simp only [cU hi]
      by_cases Lb:c=i
      ·subst Lb;simp
      ·have:Nat.beq c i=false:=ng Lb
       simp [Lb,this]
  | some p=>
    by_cases SJ:p=i
    ·subst SJ
     simp [qs]
    ·have hb:Nat.beq p i=false:=ng SJ
     cases hc:t.cons with
     | none=>simp [cU hi,SJ,hb]
     | some c=>
       simp only [cU hi,SJ,hb,if_false]
       by_cases Lb:c=i
       ·subst Lb;simp
       ·have:Nat.beq c i=false:=ng Lb
        simp [Lb,this]
 rw [f1,f2]
theorem Jm {tk:List Tok} (hT:z6 all m tk) {listed:Array Bool} (xQ:ij all listed) {i:Nat} (qs:listed.getD i false=false) (r8:∀ j,qI all i j→listed.getD j false=true) (CP:∀ c,qI all c i→c≠i) (β:Nat→Bk):
 ((tk.filter (fun t=>wj listed t&&!y5 i t)).map (·.at β)).Perm (wW tk i β++(tk.filter (fun t=>(wj listed t&&!y5 i t)&&!GH i t)).map (·.at β)):=by
 unfold wW
 rw [← List.map_append]
 refine List.Perm.map _ ?_
 have e:tk.filter (GH i)=tk.filter (fun t=>(wj listed t&&!y5 i t)&&GH i t):=by
  apply List.filter_congr
  intro t ht
  cases hr:GH i t with
  | false=>simp
  | true=>
    obtain ⟨_,q2,q3⟩:=(hT t ht).2.2.1 i hr
    have h1:wj listed t=true:=by
     unfold wj
     have e1:(match t.prod with | none=>true | some i=>listed.getD i false)=true:=by
      cases hp:t.prod with
      | none=>rfl
      | some p=>exact r8 p (q2 p hp)
     have e2:(match t.cons with | none=>true | some i=>!listed.getD i false)=true:=by
      cases hc:t.cons with
      | none=>rfl
      | some c=>
        have:=q3 c hc
        show (!listed.getD c false)=true
        cases hl:listed.getD c false with
        | false=>rfl
        | true=>have:=xQ.I9 this hl;rw [qs] at this;cases this
     rw [e1,e2];rfl
    have h2:y5 i t=false:=by
     unfold y5
     cases hc:t.cons with
     | none=>rfl
     | some c=>exact ng (CP c (q3 c hc))
    rw [h1,h2];rfl
 rw [e]
 exact sX _ _ _
theorem HJ {tk:List Tok} (hT:z6 all m tk) (hS:FC all m tk) {listed:Array Bool} (xQ:ij all listed) {i:Nat} (Bb:i < m) (qs:listed.getD i false=false) (r8:∀ j,qI all i j→listed.getD j false=true) (CP:∀ c,qI all c i→c≠i) (β:Nat→Bk):
 ∃ X∈sW tk i β,∃ rest,((tk.filter (fun t=>wj listed t&&!y5 i t)).map (·.at β)).Perm (X++rest):=by
 have h0:=Jm hT xQ qs r8 CP β
 rcases hS i Bb with e | ⟨t0,t1,j,e,a1,a2,a3,a4,a5,a6,a7⟩
 ·exact ⟨wW tk i β,by unfold sW;rw [e];simp,_,h0⟩
 ·have m0:t0∈tk:=(List.mem_filter.1 (by rw [e];simp:t0∈tk.filter (K8 i))).1
  have m1:t1∈tk:=(List.mem_filter.1 (by rw [e];simp:t1∈tk.filter (K8 i))).1
  have go:∀ t,t∈tk→wj listed t=true→y5 i t=false→GH i t=false→∃ rest,((tk.filter (fun t=>wj listed t&&!y5 i t)).map (·.at β)).Perm ((t.at β :: wW tk i β)++rest):=by
   intro t ht h1 h2 h3
   have hm:t∈tk.filter (fun t=>(wj listed t&&!y5 i t)&&!GH i t):=List.mem_filter.2 ⟨ht,by simp [h1,h2,h3]⟩
   obtain ⟨a,b,zv⟩:=List.append_of_mem hm
   rw [zv] at h0
   refine ⟨(a++b).map (·.at β),h0.trans ?_⟩
   rw [List.map_append,List.map_cons,List.map_append]
   refine (List.Perm.append_left _ List.perm_middle).trans ?_
   exact List.perm_middle
  have hX:∀ t,t∈[t0,t1]→(t.at β :: wW tk i β)∈sW tk i β:=by
   intro t ht
   unfold sW
   rw [e]
   exact List.mem_map.2 ⟨t,ht,rfl⟩
  cases hj:listed.getD j false with
  | false=>
    have h1:wj listed t0=true:=by
     unfold wj
     rw [a1]
     simp only [hj,Bool.not_false,Bool.and_true]
     split
     ·rfl
     ·rename_i p hp;exact r8 p (a4 p hp)
    have h2:y5 i t0=false:=by unfold y5;rw [a1];exact ng a3
    obtain ⟨rest,hr⟩:=go t0 m0 h1 h2 a6
    exact ⟨_,hX t0 (by simp),rest,hr⟩
  | true=>
    have h1:wj listed t1=true:=by
     unfold wj
     rw [a2]
     simp only [hj,Bool.true_and]
     split
     ·rfl
     ·rename_i c hc
      cases hl:listed.getD c false with
      | false=>rfl
      | true=>have:=xQ.I9 (a5 c hc) hl;rw [qs] at this;cases this
    have h2:y5 i t1=false:=by
     unfold y5
     split
     ·rename_i c hc;exact ng (CP c (a5 c hc))
     ·rfl
    obtain ⟨rest,hr⟩:=go t1 m1 h1 h2 a7
    exact ⟨_,hX t1 (by simp),rest,hr⟩
def TV (P:Program) (all:Array Oper) (n:Nat) (B:Heap) (o:Oper) (e:Env) (Ti:Heap) (V:Bk→AV) (Pi:Bk→Heap):Prop:=
 ∀ w S a,a.tmps.size=n→a.defers=[]→ck w S (Ti++B)→xY w S (looks all o) e a→∀ (K:Act→World→Prop) (Q:Exit→Act→World→Prop),
   (∀ b v w' S',ic w S (Ti++B) w' S' (Pi b++B)→ck w' S' (Pi b++B)→At w' S' (V b) v→K (a.put o.dst v) w')→o.wp P a w K Q
def nC (P:Program) (all:Array Oper) (n:Nat) (B:Heap) (o:Oper) (e:Env) (Ti:Heap) (V:Bk→AV) (Pi:Bk→Heap):Prop:=
 (∀ d,o.dst=some d→d < n)∧((nw all o e true∧TV P all n B o e Ti V Pi)∨(nw all o e false∧∀ b,Pi b=Ti∧V b=.raw undef))
def x5 (e c:Env):Env:=fun s=>match e s with | some av=>some av | none=>c s
theorem Jn {e c:Env} {s:Nat} {av:AV} (h:e s=some av):x5 e c s=some av:=by simp [x5,h]
theorem nw.up {all:Array Oper} {o:Oper} {e c:Env} {b:Bool} (h:nw all o e b):nw all o (x5 e c) b:=by
 unfold nw at *
 cases hg:o.guard with
 | none=>rw [hg] at h;exact h
 | some g=>
   rw [hg] at h
   obtain ⟨s,h1,h2⟩:=h
   refine ⟨s,h1,?_⟩
   rcases h2 with ⟨x,h3,h4⟩ | ⟨h3,h4⟩
   ·exact .inl ⟨x,Jn h3,h4⟩
   ·exact .inr ⟨Jn h3,h4⟩
theorem xY.down {w:World} {S:Nat→Prop} {ls:List Nat} {e c:Env} {a:Act} (h:xY w S ls (x5 e c) a):xY w S ls e a:=fun s hs av ll=>h s hs av (Jn ll)
theorem nC.up {P:Program} {all:Array Oper} {n:Nat} {B:Heap} {o:Oper} {e c:Env} {Ti:Heap} {V:Bk→AV} {Pi:Bk→Heap} (h:nC P all n B o e Ti V Pi):nC P all n B o (x5 e c) Ti V Pi:=by
 refine ⟨h.1,h.2.imp (fun x=>⟨x.1.up,fun w S a h1 h2 h3 h4=>x.2 w S a h1 h2 h3 h4.down⟩) (fun x=>⟨x.1.up,x.2⟩)⟩
theorem Jo {all:Array Oper} {ie:Nat→Option AV} {V:Nat→Bk→AV} {cn:Nat→(Nat→Bk)→Env} {m:Nat} (h0:∀ β s,cn 0 β s=none) (hc:∀ i o,i < m→all[i]? =some o→∀ β,cn (i+1) β=match ie i with | none=>gl (cn i β) o.dst (some (V i (β i))) | some _=>cn i β) (hm:m≤all.size):
 ∀ i,i≤m→∀ β s av,cn i β s=some av→∃ k o,k < i∧all[k]? =some o∧o.dst=some s∧ie k=none∧av=V k (β k):=by
 intro i
 induction i with
 | zero=>intro _ β s av h;rw [h0] at h;cases h
 | succ i ih=>
   intro hi β s av h
   have rJ:all[i]? =some all[i]:=by simp [show i < all.size by omega]
   rw [hc i _ (by omega) rJ] at h
   cases ll:ie i with
   | some x=>
     rw [ll] at h
     obtain ⟨k,o,h1,h2⟩:=ih (by omega) β s av h
     exact ⟨k,o,by omega,h2⟩
   | none=>
     rw [ll] at h
     by_cases hd:(all[i]).dst=some s
     ·simp only [hd,jL] at h
      exact ⟨i,_,by omega,rJ,hd,ll,(Option.some.inj h).symm⟩
     ·simp only [gL hd] at h
      obtain ⟨k,o,h1,h2⟩:=ih (by omega) β s av h
      exact ⟨k,o,by omega,h2⟩
theorem HK {cn:Nat→(Nat→Bk)→Env} {B:Heap} {tk:List Tok} {V:Nat→Bk→AV} (hB:rI all m) (hT:z6 all m tk) (Z9:FC all m tk) (hm:m≤all.size) {Q:Exit→Act→World→Prop} (h0:en 0=e)
 (LH:∀ β s,cn 0 β s=none) (hcn:∀ i o,i < m→all[i]? =some o→∀ β,cn (i+1) β=match ie i with | none=>gl (cn i β) o.dst (some (V i (β i))) | some _=>cn i β)
 (hs:∀ i o,i < m→all[i]? =some o→(∀ β,∀ X∈sW tk i β,nC P all n (X++B) o (x5 (en i) (cn i β)) (r7 tk i β) (V i) (fun b=>jk tk i (nx β i b)))∧en (i+1)=gl (en i) o.dst (ie i)∧(∀ av,ie i=some av→∀ b,V i b=av))
 (hU:∀ i j oi oj d,i < m→j < m→i≠j→all[i]? =some oi→all[j]? =some oj→ie i=none→oi.dst=some d→oj.dst≠some d) {w0:World} {S0:Nat→Prop} {SK:Heap}
 (fin:∀ β a w S,a.tmps.size=n→a.defers=[]→ck w S (tH tk β++B)→ic w0 S0 SK w S (tH tk β++B)→uh w S (en m) a→(∀ j o d,j < m→all[j]? =some o→ie j=none→o.dst=some d→∃ v,a.tmps[d]? =some v∧At w S (V j (β j)) v)→wpList P all Q (all.toList.drop m) a w):
 ∀ (fuel:Nat) (listed:Array Bool) (a:Act) (w:World) (S:Nat→Prop) (β:Nat→Bk),GC all m listed→(listed.toList.count true)+fuel=all.size→a.tmps.size=n→a.defers=[]→ck w S (pX tk listed β++B)→ic w0 S0 SK w S (pX tk listed β++B)→uh w S (oQ all ie e listed all.size) a→
   (∀ j o d,listed.getD j false=true→all[j]? =some o→ie j=none→o.dst=some d→∃ v,a.tmps[d]? =some v∧At w S (V j (β j)) v)→
   wpAny P .any all Q fuel listed a w:=by
 have GD:∀ i o,i < m→all[i]? =some o→en (i+1)=gl (en i) o.dst (ie i):=fun i o h1 h2=>(hs i o h1 h2).2.1
 have CP:∀ c i,qI all c i→c≠i:=by
  have key:∀ c i,qI all c i→i < c:=by
   intro c i h
   have one:∀ {j i:Nat} {oj:Oper},all[j]? =some oj→waits oj i=true→i < j:=by
    intro j i oj hj hw
    simp only [waits,List.any_eq_true,Bool.and_eq_true] at hw
    obtain ⟨e',Hz,yB,Oi⟩:=hw
    have:=we hB hj (by simpa using Hz) yB
    obtain rfl:e'.on=i:=Nat.eq_of_beq_eq_true Oi
    exact this
   induction h with
   | one hj hw=>exact one hj hw
   | step hj hw _ ih=>have:=one hj hw;omega
  intro c i h e;have:=key c i h;omega
 have done:∀ (fuel:Nat) (listed:Array Bool) (a:Act) (w:World) (S:Nat→Prop) (β:Nat→Bk),GC all m listed→(listed.toList.count true)+fuel=all.size→a.tmps.size=n→a.defers=[]→ck w S (pX tk listed β++B)→ic w0 S0 SK w S (pX tk listed β++B)→uh w S (oQ all ie e listed all.size) a→
  (∀ j o d,listed.getD j false=true→all[j]? =some o→ie j=none→o.dst=some d→∃ v,a.tmps[d]? =some v∧At w S (V j (β j)) v)→
  (∀ i,i < m→listed.getD i false=true)→wpAny P .any all Q fuel listed a w:=by
  intro fuel listed a w S β L hc eN va hr hg rq FE gB
  have GF:∀ i,m≤i→listed.getD i false=false:=fun i hi=>by
   cases hv:listed.getD i false with
   | false=>rfl
   | true=>have:=L.head i hv;omega
  have Jc:listed.toList.count true=m:=by
   have:listed.toList=List.replicate m true++List.replicate (all.size - m) false:=by
    apply List.ext_getElem?
    intro i
    rcases Nat.lt_or_ge i m with hi | hi
    ·have jj:i < listed.size:=by rw [L.size];omega
     rw [List.getElem?_append_left (by simpa using hi)]
     have:=gB i hi
     simp [jj] at this
     simp [jj,hi,this]
    ·rw [List.getElem?_append_right (by simpa using hi)]
     rcases Nat.lt_or_ge i listed.size with jj | jj
     ·have:=GF i hi
      simp [jj] at this
      have h2:i - m < all.size - m:=by rw [L.size] at jj;omega
      simp [jj,h2,this]
     ·have h2:¬ i - m < all.size - m:=by rw [L.size] at jj;omega
      simp [List.getElem?_eq_none (l:=listed.toList) (by simpa using jj),h2]
   rw [this,List.count_append,List.count_replicate,List.count_replicate]
   simp
  have Jd:oQ all ie e listed all.size=en m:=by
   have key:∀ k,k≤all.size→oQ all ie e listed k=en (min k m):=by
    intro k
    induction k with
    | zero=>intro _;simp [oQ,h0]
    | succ k ih=>
      intro hk
      have rJ:all[k]? =some all[k]:=by simp [show k < all.size by omega]
      simp only [oQ,rJ,Option.bind_some,ih (by omega)]
      rcases Nat.lt_or_ge k m with h | h
      ·rw [if_pos (gB k h),Nat.min_eq_left (by omega),Nat.min_eq_left (by omega),GD k _ h rJ]
      ·rw [if_neg (by rw [GF k h];simp),Nat.min_eq_right (by omega),Nat.min_eq_right (by omega)]
   rw [key all.size (Nat.le_refl _),Nat.min_eq_right hm]
  have Rb:pX tk listed β=tH tk β:=by
   unfold pX tH
   congr 1
   apply List.filter_congr
   intro t ht
   obtain ⟨q1,q2,_⟩:=hT t ht
   unfold wj
   cases hp:t.prod with
   | none=>
     cases hc:t.cons with
     | none=>rfl
     | some c=>simp [gB c (q2 c hc).1]
   | some p=>
     cases hc:t.cons with
     | none=>simp [gB p (q1 p hp)]
     | some c=>simp [gB c (q2 c hc).1]
  rw [Jd] at rq
  rw [Rb] at hr hg
  exact zW hB fuel m listed a w (Nat.le_refl _) (by omega) L.size gB GF (fin β a w S eN va hr hg rq (fun j o d hj ho ll hd=>FE j o d (gB j hj) ho ll hd))
 intro fuel
 induction fuel with
 | zero=>
   intro listed a w S β L hc eN va hr hg rq FE
   refine done 0 listed a w S β L hc eN va hr hg rq FE (fun i hi=>?_)
   have xZ:listed.toList.count true=listed.toList.length:=by rw [Array.length_toList,L.size];omega
   have gB:=List.count_eq_length.1 xZ
   have jj:i < listed.size:=by rw [L.size];omega
   have:=gB listed[i] (by simp)
   simp [jj];exact this.symm
 | succ fuel ih=>
   intro listed a w S β L hc eN va hr hg rq FE
   by_cases gB:∀ i,i < m→listed.getD i false=true
   ·exact done _ listed a w S β L hc eN va hr hg rq FE gB
   ·refine ⟨fun Fz=>(gB fun i hi=>uY hB L.size Fz i (by omega)).elim,fun i hi=>?_⟩
    obtain ⟨CL,DU⟩:=su hi
    have qs:=wR DU
    have uZ:all[i]? =some all[i]:=by simp [CL]
    have Bb:i < m:=by
     rcases Nat.lt_or_ge i m with h | h
     ·exact h
     ·refine (gB fun j hj=>?_).elim
      have IK:all[j]? =some all[j]:=by simp [show j < all.size by omega]
      exact ij.ready L.closed ((iL hB uZ IK (by omega)).2 h) hi
    have jj:i < listed.size:=by rw [L.size];exact CL
    obtain ⟨Ue,_,hV⟩:=hs i _ Bb uZ
    obtain ⟨X,hX,rest,WE⟩:=HJ hT Z9 L.closed Bb qs (fun j hj=>ij.ready L.closed hj hi) (fun c h=>CP c i h) β
    obtain ⟨IH,yH⟩:=Ue β X hX
    have nJ:xY w S (looks all all[i]) (x5 (en i) (cn i β)) a:=by
     intro s IM av ll
     rw [x5] at ll
     cases Oq:en i s with
     | none=>
       rw [Oq] at ll
       obtain ⟨k,o,k1,k2,k3,k4,k5⟩:=Jo LH hcn hm i (by omega) β s av ll
       have GK:listed.getD k false=true:=ij.ready L.closed ((iL hB uZ k2 k1).1 Bb (wg k3 IM)) hi
       rw [k5]
       exact FE k o s GK k2 k4 k3
     | some dD=>
     rw [Oq] at ll
     obtain rfl:=Option.some.inj ll
     have hc:=B0 (ie:=ie) (en:=en) (e:=e) hB L h0 GD hm uZ Bb qs (fun j hj=>ij.ready L.closed hj hi) IM all.size (Nat.le_refl _)
     rw [Nat.min_eq_right (by omega)] at hc
     exact rq s dD (by rw [hc];exact Oq)
    have L':GC all m (listed.setIfInBounds i true):=by
     refine ⟨by simpa using L.size,fun k hk=>?_,fun k j o hk rJ hw=>?_⟩
     ·rw [cU jj] at hk
      split at hk
      ·omega
      ·exact L.head k hk
     ·rw [cU jj] at hk
      rw [cU jj]
      split
      ·rfl
      ·split at hk
       ·rename_i Q4
        subst Q4
        obtain rfl:all[k]=o:=by rw [uZ] at rJ;exact Option.some.inj rJ
        exact ph uZ hi hw
       ·exact L.closed k j o hk rJ hw
    have xZ:(listed.setIfInBounds i true).toList.count true+fuel=all.size:=by
     have DV:listed[i]=false:=by simpa [jj] using qs
     have:(listed.setIfInBounds i true).toList=listed.toList.set i true:=by simp
     rw [this,List.count_set (by simpa using jj)]
     have K7:listed.toList[i]'(by simpa using jj)=false:=by simpa using DV
     rw [K7]
     have e1:(if (false==true)=true then 1 else 0)=0:=rfl
     have e2:(if (true==true)=true then 1 else 0)=1:=rfl
     rw [e1,e2]
     omega
    have Rc:∀ T:Heap,(T++(X++rest)++B).Perm ((T++(X++B))++rest):=fun T=>by
     rw [List.append_assoc,List.append_assoc,List.append_assoc,List.append_assoc]
     exact List.Perm.append_left _ (List.Perm.append_left _ List.perm_append_comm)
    have WG:(pX tk listed β++B).Perm ((r7 tk i β++(X++B))++rest):=
     (((Oo hT qs (fun j hj=>ij.ready L.closed hj hi) β).trans (List.Perm.append_left _ WE)).append_right B).trans (Rc _)
    have Re:∀ b,((jk tk i (nx β i b)++(X++B))++rest).Perm (pX tk (listed.setIfInBounds i true) (nx β i b)++B):=fun b=>
     List.Perm.symm ((((LN hT L.closed jj qs (fun c h=>CP c i h) β b).trans (List.Perm.append_left _ WE)).append_right B).trans (Rc _))
    have Uf:ck w S ((r7 tk i β++(X++B))++rest):=hr.perm WG
    have Oj:∀ v,(a.put (all[i]).dst v).tmps.size=n:=fun v=>by cases (all[i]).dst<;>simp [Act.put,eN]
    have Ol:∀ v,(a.put (all[i]).dst v).defers=[]:=fun v=>by cases (all[i]).dst<;>simp [Act.put,va]
    have Ug:∀ {w1 w2:World} {S1 S2:Nat→Prop} {h1 h2 Dy I4:Heap},ic w1 S1 h1 w2 S2 h2→h1.Perm Dy→h2.Perm I4→ic w1 S1 Dy w2 S2 I4:=by
     intro w1 w2 S1 S2 h1 h2 Dy I4 ev p1 p2
     have has:∀ {g g':Heap} {k:Nat},g.Perm g'→(Has g k↔Has g' k):=fun p=>
      ⟨fun ⟨x,hx,hb⟩=>⟨x,p.mem_iff.1 hx,hb⟩,fun ⟨x,hx,hb⟩=>⟨x,p.mem_iff.2 hx,hb⟩⟩
     exact ⟨ev.os,ev.tape,ev.output,ev.size,ev.iX,fun k hk hh=>ev.other k hk (fun hc=>hh ((has p1).1 hc)),fun k hk=>((ev.new k ((has p2).2 hk)).imp (has p1).1 id),ev.drawn⟩
    have next:∀ (b:Bk) (v:Value) (w':World) (S':Nat→Prop),ic w S (r7 tk i β++(X++B)) w' S' (jk tk i (nx β i b)++(X++B))→ck w' S' (jk tk i (nx β i b)++(X++B))→At w' S' (V i b) v→wpAny P .any all Q fuel (listed.setIfInBounds i true) (a.put (all[i]).dst v) w':=by
     intro b v w' S' Jp LO mO
     have Nq:ck w' S' ((jk tk i (nx β i b)++(X++B))++rest):=Uf.frame Jp LO
     have ev2:=Jp.frame rest
     refine ih _ _ _ S' (nx β i b) L' xZ (Oj v) (Ol v) (Nq.perm (Re b)) (hg.trans (Ug ev2 WG.symm (Re b))) ?_ ?_
     ·intro s av ll
      rw [D3 (ie:=ie) (e:=e) hB L uZ Bb qs s all.size (Nat.le_refl _),if_pos (by omega)] at ll
      by_cases hd:(all[i]).dst=some s
      ·rw [hd,jL] at ll
       have LD:=IH s hd
       exact ⟨v,by rw [hd];simp [Act.put,eN,LD],by rw [← hV av ll b];exact mO⟩
      ·rw [gL hd] at ll
       obtain ⟨u,h1,h2⟩:=rq s av ll
       refine ⟨u,?_,h2.mono Jp.iX⟩
       cases LF:(all[i]).dst with
       | none=>simpa [Act.put] using h1
       | some d'=>
         have tE:d'≠s:=fun e=>hd (by rw [LF,e])
         simp [Act.put,tE,h1]
     ·intro j o d hj ho ll hd
      by_cases SL:j=i
      ·subst SL
       rw [uZ] at ho;obtain rfl:=Option.some.inj ho
       have LD:=IH d hd
       exact ⟨v,by rw [hd];simp [Act.put,eN,LD],by rw [LM];exact mO⟩
      ·have DH:listed.getD j false=true:=by rw [cU jj,if_neg SL] at hj;exact hj
       obtain ⟨u,h1,h2⟩:=FE j o d DH ho ll hd
       refine ⟨u,?_,by rw [GJ SL];exact h2.mono Jp.iX⟩
       cases LF:(all[i]).dst with
       | none=>simpa [Act.put] using h1
       | some d'=>
         have tE:d'≠d:=fun e=>hU j i o all[i] d (L.head j DH) Bb SL ho uZ ll hd (by rw [LF,e])
         simp [Act.put,tE,h1]
    simp only [wpOp,uZ]
    rcases yH with ⟨hw,La⟩ | ⟨hw,ll⟩
    ·rw [if_pos (jK hw nJ)]
     exact .inl (La w S a eN va (Uf.sub (List.sublist_append_left _ _)) nJ _ _ (fun b v w' S' Jp LO mO=>next b v w' S' Jp LO mO))
    ·rw [if_neg (by rw [jK hw nJ];simp)]
     obtain ⟨e1,e2⟩:=ll ⟨none,0⟩
     replace e1:jk tk i (nx β i ⟨none,0⟩)=r7 tk i β:=e1
     refine next ⟨none,0⟩ _ w S (by rw [e1];exact ic.refl _ _ _) (by rw [e1];exact Uf.sub (List.sublist_append_left _ _)) ?_
     rw [e2];exact .raw _
end order
end Go.Eng
namespace Go.Eng
open Go
variable [bt]
theorem Jq {P:Program} {o:Oper} {a:Act} {K0 K:Act→World→Prop} {G:Act→World→Prop} {Q':Exit→Act→World→Prop} (hK:∀ v w',K0 (a.put o.dst v) w'→K (a.put o.dst v) w') (hd:∀ a' w',K0 a' w'→a'.defers=[]):
 ∀ r,o.upon P a K0 (vV G) r→o.upon P a K Q' r:=by
 intro r h
 unfold Oper.upon at *
 split at h
 ·exact hK _ _ h
 ·exact hK _ _ h
 ·rename_i d w'
  have:=hd _ _ h
  cases D4:o.dst<;>simp [Act.put,D4] at this
 ·refine Calls.mono h ?_
  intro e w' he
  cases e with
  | returned v=>exact hK _ _ he
  | panicked c=>cases he.1
  | outgrown=>obtain ⟨a0,w0,h0⟩:=he;cases h0.1
 ·exact Rows.mono h fun v w' hv=>hK _ _ hv
 ·cases h.1
 ·exact h.elim
theorem LP {P:Program} {all:Array Oper} {o:Oper} {σ:St} {Q:St→Prop} (hg:o.guard=none) (h:ae P all [o] σ Q) {w:World} {S:Nat→Prop} {a:Act} (r:dH w S σ a) {K:Act→World→Prop} {Q':Exit→Act→World→Prop}
 (hK:∀ v w',SA w S σ.hp Q (a.put o.dst v) w'→K (a.put o.dst v) w'):o.wp P a w K Q':=by
 have:=h w S a r
 unfold wpList at this
 rw [if_pos (by simp [Region.wanted,hg])] at this
 rcases this with h1 | ⟨_,a0,w0,h0,_⟩
 ·refine Jq (G:=SA w S σ.hp Q) (fun v w' hh=>hK v w' hh.2) (fun a' w' hh=>?_) _ h1
  obtain ⟨_,aK,S',_,hr,_⟩:=hh
  exact hr.defers
 ·cases h0
variable {P:Program} {all:Array Oper} {n:Nat} {B:Heap} {tk:List Tok}
def HL (x:Option AV) (c:(Nat→Bk)→Env) (d:Option Nat) (V:Bk→AV) (i:Nat):(Nat→Bk)→Env:=fun β=>match x with | none=>gl (c β) d (some (V (β i))) | some _=>c β
inductive NA (P:Program) (all:Array Oper) (n:Nat) (B:Heap) (tk:List Tok) (dy:List Nat):Nat→List Oper→Env→((Nat→Bk)→Env)→List (Option AV×(Bk→AV))→Env→Prop
 | nil (i:Nat) (e:Env) (c:(Nat→Bk)→Env):NA P all n B tk dy i [] e c [] e
 | cons {i:Nat} {o:Oper} {l:List Oper} {e e':Env} {c:(Nat→Bk)→Env} {D:List (Option AV×(Bk→AV))} {x:Option AV} {V:Bk→AV} (h:∀ β,∀ X∈sW tk i β,nC P all n (X++B) o (x5 e (c β)) (r7 tk i β) V (fun b=>jk tk i (nx β i b))) (hv:∀ av,x=some av→∀ b,V b=av) (hx:x=none→dy.contains i=true)
  (k:NA P all n B tk dy (i+1) l (gl e o.dst x) (HL x c o.dst V i) D e'):NA P all n B tk dy i (o :: l) e c ((x,V) :: D) e'
def wX (β:Nat→Bk):Nat→List Oper→List (Option AV×(Bk→AV))→List (Nat×AV)→List (Nat×AV)
 | i,o :: l,(none,V) :: D,a=>match o.dst with
   | some d=>wX β (i+1) l D ((d,V (β i)) :: a)
   | none=>wX β (i+1) l D a
 | i,_ :: l,(some _,_) :: D,a=>wX β (i+1) l D a
 | _,_,_,a=>a
def AT (P:Program) (all:Array Oper) (n:Nat) (B:Heap) (tk:List Tok) (dy:List Nat) (i:Nat) (l:List Oper) (tm:List (Nat×AV)) (acc:(Nat→Bk)→List (Nat×AV)) (Q:(Nat→Bk)→List (Nat×AV)→Prop):Prop:=
 ∃ D ln,NA P all n B tk dy i l (lk tm) (fun β=>lk (acc β)) D (lk ln)∧∀ β,Q β (wX β i l D (acc β)++ln)
section rules
variable {dy:List Nat} {i:Nat} {rest:List Oper} {tm:List (Nat×AV)} {acc:(Nat→Bk)→List (Nat×AV)} {Q:(Nat→Bk)→List (Nat×AV)→Prop} {d:Nat} {ty:TypeId} {pos:String} {af:Array Edge} {op:Op}
theorem AT.nil {F:(Nat→Bk)→List (Nat×AV)} (hF:∀ β,F β=acc β++tm) (h:∀ β,Q β (F β)):AT P all n B tk dy i [] tm acc Q:=
 ⟨[],tm,.nil _ _ _,fun β=>by rw [show wX β i [] [] (acc β)=acc β from rfl,← hF];exact h β⟩
theorem AT.WH {o:Oper} {d:Nat} {av:AV} (hd:o.dst=some d) (h:∀ β,∀ X∈sW tk i β,nC P all n (X++B) o (x5 (lk tm) (lk (acc β))) (r7 tk i β) (fun _=>av) (fun b=>jk tk i (nx β i b))) (k:AT P all n B tk dy (i+1) rest ((d,av) :: tm) acc Q):AT P all n B tk dy i (o :: rest) tm acc Q:=by
 obtain ⟨D,ln,k1,k2⟩:=k
 refine ⟨(some av,fun _=>av) :: D,ln,.cons h (fun dD e b=>Option.some.inj e) (fun e=>by cases e) ?_,k2⟩
 have:gl (lk tm) o.dst (some av)=lk ((d,av) :: tm):=by
  rw [sV,hd];rfl
 rw [this];exact k1
theorem AT.dyn {o:Oper} {d:Nat} {V:Bk→AV} (hd:o.dst=some d) (Bo:lk tm d=none) (LQ:dy.contains i=true) (h:∀ β,∀ X∈sW tk i β,nC P all n (X++B) o (x5 (lk tm) (lk (acc β))) (r7 tk i β) V (fun b=>jk tk i (nx β i b))) (k:AT P all n B tk dy (i+1) rest tm (fun β=>(d,V (β i)) :: acc β) Q):AT P all n B tk dy i (o :: rest) tm acc Q:=by
 obtain ⟨D,ln,k1,k2⟩:=k
 refine ⟨(none,V) :: D,ln,.cons h (fun dD e b=>by cases e) (fun _=>LQ) ?_,fun β=>?_⟩
 ·have:gl (lk tm) o.dst none=lk tm:=by
   funext s
   rw [hd]
   simp only [gl]
   split
   ·rename_i e;subst e;exact Bo.symm
   ·rfl
  rw [this]
  have e2:HL none (fun β=>lk (acc β)) o.dst V i=fun β=>lk ((d,V (β i)) :: acc β):=by
   funext β
   simp only [HL,hd]
   rw [sV];rfl
  rw [e2];exact k1
 ·have:=k2 β
  simp only [wX,hd]
  exact this
theorem AT.sto {o:Oper} (hd:o.dst=none) (h:∀ β,∀ X∈sW tk i β,nC P all n (X++B) o (x5 (lk tm) (lk (acc β))) (r7 tk i β) (fun _=>.raw undef) (fun b=>jk tk i (nx β i b))) (k:AT P all n B tk dy (i+1) rest tm acc Q):AT P all n B tk dy i (o :: rest) tm acc Q:=by
 obtain ⟨D,ln,k1,k2⟩:=k
 refine ⟨(some (.raw undef),fun _=>.raw undef) :: D,ln,.cons h (fun dD e b=>Option.some.inj e) (fun e=>by cases e) ?_,k2⟩
 rw [hd];exact k1
def r9 (tk:List Tok) (i j:Nat):Bool:=tk.all fun t=>(match t.prod with | some p=>Nat.blt p i||Nat.ble j p | none=>true)&&(match t.cons with | some p=>Nat.blt p i||Nat.ble j p | none=>true)&&((t.Uc.all fun p=>Nat.blt p i||Nat.ble j p)&&t.WD.all fun p=>Nat.blt p i||Nat.ble j p)
theorem D5 {i j:Nat} (h:r9 tk i j=true) {k:Nat} (h1:i≤k) (h2:k < j) (β:Nat→Bk):r7 tk k β=[]:=by
 unfold r7
 rw [List.map_eq_nil_iff,List.filter_eq_nil_iff]
 intro t ht hc
 have:=List.all_eq_true.1 h t ht
 rw [Bool.and_eq_true,Bool.and_eq_true] at this
 replace this:=this.1
 unfold y5 at hc
 split at hc
 ·rename_i c HI
  obtain rfl:c=k:=Nat.eq_of_beq_eq_true hc
  have:=this.2
  rw [HI] at this
  simp at this;omega
 ·cases hc
theorem B1 {i j:Nat} (h:r9 tk i j=true) {k:Nat} (h1:i≤k) (h2:k < j) (β:Nat→Bk):jk tk k β=[]:=by
 unfold jk
 rw [List.map_eq_nil_iff,List.filter_eq_nil_iff]
 intro t ht hc
 have:=List.all_eq_true.1 h t ht
 rw [Bool.and_eq_true,Bool.and_eq_true] at this
 replace this:=this.1
 unfold LL at hc
 split at hc
 ·rename_i c HI
  obtain rfl:c=k:=Nat.eq_of_beq_eq_true hc
  have:=this.1
  rw [HI] at this
  simp at this;omega
 ·cases hc
theorem Jr {i j:Nat} (h:r9 tk i j=true) {k:Nat} (h1:i≤k) (h2:k < j) (β:Nat→Bk):wW tk k β=[]:=by
 unfold wW
 rw [List.map_eq_nil_iff,List.filter_eq_nil_iff]
 intro t ht hc
 have:=List.all_eq_true.1 h t ht
 rw [Bool.and_eq_true] at this
 have h3:=List.all_eq_true.1 (Bool.and_eq_true_iff.1 this.2).1 k (by simpa [GH] using hc)
 simp at h3;omega
theorem B2 {i j:Nat} (h:r9 tk i j=true) {k:Nat} (h1:i≤k) (h2:k < j) (β:Nat→Bk):sW tk k β=[[]]:=by
 have e:tk.filter (K8 k)=[]:=by
  rw [List.filter_eq_nil_iff]
  intro t ht hc
  have:=List.all_eq_true.1 h t ht
  rw [Bool.and_eq_true] at this
  have h3:=List.all_eq_true.1 (Bool.and_eq_true_iff.1 this.2).2 k (by simpa [K8] using hc)
  simp at h3;omega
 unfold sW
 rw [e,Jr h h1 h2 β]
theorem sY (e:Env) (d:Option Nat) (av:AV):gl e d (some av)=vr e d av:=by
 cases d<;>rfl
theorem D6 {o:Oper} {e:Env} {av:AV} (hd:∀ d,o.dst=some d→d < n) (hg:nw all o e true) (h:MV P all n o e B av):nC P all n B o e [] (fun _=>av) (fun _=>[]):=by
 refine ⟨hd,.inl ⟨hg,fun w S a h1 h2 h3 h4 K Q hK=>?_⟩⟩
 exact h w S a h1 h2 h3 h4 K Q (fun v w' S' Nw mO=>hK ⟨none,0⟩ v w' S' (Nw.PC h3.slt _) (h3.grow Nw) mO)
theorem Rf:∀ {l1:List Oper} {e e':Env} {i:Nat} (h:K9 P all n B l1 e e') (hn:r9 tk i (i+l1.length)=true) {l2:List Oper} {c:(Nat→Bk)→Env} {D:List (Option AV×(Bk→AV))} {e2:Env},NA P all n B tk dy (i+l1.length) l2 e' c D e2→
 ∃ D1,NA P all n B tk dy i (l1++l2) e c (D1++D) e2∧D1.length=l1.length∧∀ x∈D1,x.1.isSome=true:=by
 intro l1 e e' i h
 induction h generalizing i with
 | nil e=>intro hn l2 c D e2 k;exact ⟨[],by simpa using k,rfl,by simp⟩
 | @run o l e e' av hg hm hd k ih=>
   intro hn l2 c D e2 kk
   have LR:r9 tk (i+1) (i+1+l.length)=true:=by
    unfold r9 at hn ⊢
    rw [List.all_eq_true] at hn ⊢
    intro t ht
    have:=hn t ht
    rw [Bool.and_eq_true,Bool.and_eq_true] at this ⊢
    refine ⟨⟨?_,?_⟩,?_⟩
    ·have h1:=this.1.1
     cases hp:t.prod<;>rw [hp] at h1<;>simp_all<;>omega
    ·have h1:=this.1.2
     cases hp:t.cons<;>rw [hp] at h1<;>simp_all<;>omega
    ·have h1:=this.2
     rw [Bool.and_eq_true,List.all_eq_true,List.all_eq_true] at h1 ⊢
     exact ⟨fun p hp=>by have:=h1.1 p hp;simp at this ⊢;omega,fun p hp=>by have:=h1.2 p hp;simp at this ⊢;omega⟩
   obtain ⟨D1,a1,a2,a3⟩:=ih LR (l2:=l2) (D:=D) (e2:=e2) (by rw [show i+1+l.length=i+(o :: l).length by simp;omega];exact kk)
   refine ⟨(some av,fun _=>av) :: D1,?_,by simp [a2],?_⟩
   ·refine .cons (fun β X hX=>?_) (fun dD e b=>Option.some.inj e) (fun e=>by cases e) (by rw [sY];exact a1)
    rw [B2 hn (Nat.le_refl _) (by simp)] at hX
    obtain rfl:=List.mem_singleton.1 hX
    rw [D5 hn (Nat.le_refl _) (by simp),show (fun b=>jk tk i (nx β i b))=fun _=>[] from funext fun b=>B1 hn (Nat.le_refl _) (by simp) _]
    exact (D6 hd hg hm).up
   ·intro x hx
    rcases List.mem_cons.1 hx with rfl | hx
    ·rfl
    ·exact a3 x hx
 | @pass o l e e' hg hd k ih=>
   intro hn l2 c D e2 kk
   have LR:r9 tk (i+1) (i+1+l.length)=true:=by
    unfold r9 at hn ⊢
    rw [List.all_eq_true] at hn ⊢
    intro t ht
    have:=hn t ht
    rw [Bool.and_eq_true,Bool.and_eq_true] at this ⊢
    refine ⟨⟨?_,?_⟩,?_⟩
    ·have h1:=this.1.1
     cases hp:t.prod<;>rw [hp] at h1<;>simp_all<;>omega
    ·have h1:=this.1.2
     cases hp:t.cons<;>rw [hp] at h1<;>simp_all<;>omega
    ·have h1:=this.2
     rw [Bool.and_eq_true,List.all_eq_true,List.all_eq_true] at h1 ⊢
     exact ⟨fun p hp=>by have:=h1.1 p hp;simp at this ⊢;omega,fun p hp=>by have:=h1.2 p hp;simp at this ⊢;omega⟩
   obtain ⟨D1,a1,a2,a3⟩:=ih LR (l2:=l2) (D:=D) (e2:=e2) (by rw [show i+1+l.length=i+(o :: l).length by simp;omega];exact kk)
   refine ⟨(some (.raw undef),fun _=>.raw undef) :: D1,?_,by simp [a2],?_⟩
   ·refine .cons (fun β X hX=>?_) (fun dD e b=>Option.some.inj e) (fun e=>by cases e) (by rw [sY];exact a1)
    rw [B2 hn (Nat.le_refl _) (by simp)] at hX
    obtain rfl:=List.mem_singleton.1 hX
    rw [D5 hn (Nat.le_refl _) (by simp),show (fun b=>jk tk i (nx β i b))=fun _=>[] from funext fun b=>B1 hn (Nat.le_refl _) (by simp) _]
    exact ⟨hd,.inr ⟨hg.up,fun b=>⟨rfl,rfl⟩⟩⟩
   ·intro x hx
    rcases List.mem_cons.1 hx with rfl | hx
    ·rfl
    ·exact a3 x hx
theorem B3 (β:Nat→Bk):∀ {l1:List Oper} {D1:List (Option AV×(Bk→AV))} (i:Nat) {l2:List Oper} {D:List (Option AV×(Bk→AV))} (a:List (Nat×AV)),D1.length=l1.length→(∀ x∈D1,x.1.isSome=true)→wX β i (l1++l2) (D1++D) a=wX β (i+l1.length) l2 D a
 | [],[],i,l2,D,a,_,_=>by simp
 | o :: l1,(some av,V) :: D1,i,l2,D,a,h,hs=>by
   simp only [List.cons_append,wX]
   rw [B3 β (i+1) a (by simpa using h) (fun x hx=>hs x (by simp [hx]))]
   simp [Nat.add_assoc,Nat.add_comm 1]
 | o :: l1,(none,V) :: D1,i,l2,D,a,h,hs=>by have:=hs (none,V) (by simp);cases this
 | [],_ :: _,i,l2,D,a,h,hs=>by cases h
 | _ :: _,[],i,l2,D,a,h,hs=>by cases h
theorem AT.am {l l1 l2:List Oper} (m:Nat) (hs:Br m l=some (l1,l2)) (hn:r9 tk i (i+m)=true) (h:AM P all n B l1 tm (fun ln=>AT P all n B tk dy (i+m) l2 ln acc Q)):AT P all n B tk dy i l tm acc Q:=by
 obtain ⟨rfl,rfl⟩:=qt hs
 obtain ⟨wk,h1,D,ln,h2,h3⟩:=h
 obtain ⟨D1,a1,a2,a3⟩:=Rf h1 hn h2
 refine ⟨D1++D,ln,a1,fun β=>?_⟩
 rw [B3 β i (acc β) a2 a3]
 exact h3 β
theorem qu {o:Oper} {Ti H1:Heap} {V:Bk→AV} {Pi H2:Bk→Heap} (hg:o.guard=none) (hd:∀ d,o.dst=some d→d < n) (h1:ou Ti B=some H1) (h2:∀ b,ou (Pi b) B=some (H2 b))
 (qG:ae P all [o] ⟨n,zt (looks all o) tm,H1⟩ (fun aK=>∃ b wk,aK=⟨n,wk,H2 b⟩∧∀ d,o.dst=some d→lk wk d=some (V b)))
 (hv:o.dst=none→∀ b,V b=.raw undef):nC P all n B o (lk tm) Ti V Pi:=by
 refine ⟨hd,.inl ⟨by simp [nw,hg],fun w S a s1 s2 s3 s4 K Q hK=>?_⟩⟩
 have e1:=kp h1
 rw [e1] at s3 hK
 refine LP hg qG (oP s1 s2 s3 s4) (fun v w' Uh=>?_)
 obtain ⟨aK,S',⟨b,wk,rfl,GL⟩,hr,Jp⟩:=Uh
 have e2:=kp (h2 b)
 cases D4:o.dst with
 | some d=>
   have IH:=hd d D4
   obtain ⟨u,g1,g2⟩:=hr.tm d _ (GL d D4)
   have hu:u=v:=by
    rw [D4] at g1
    simp [Act.put,s1,IH] at g1
    exact g1.symm
   rw [hu] at g2
   rw [← D4]
   exact hK b v w' S' (by rw [e2];exact Jp) (by rw [e2];exact hr.hp) g2
 | none=>
   have:a.put none v=a.put o.dst undef:=by rw [D4];rfl
   rw [this]
   exact hK b undef w' S' (by rw [e2];exact Jp) (by rw [e2];exact hr.hp) (by rw [hv D4 b];exact .raw _)
theorem AT.y7 {av:AV} {Ti H1 Pi H2:Heap} (Fz:∀ β,sW tk i β=[[]]) (Js:∀ β,r7 tk i β=Ti) (Jt:∀ β,jk tk i β=Pi) (h1:ou Ti B=some H1) (h2:ou Pi B=some H2) (hn:Nat.blt d n=true)
 (qG:ae P all [⟨some d,op,ty,pos,af,none⟩] ⟨n,zt (looks all ⟨some d,op,ty,pos,af,none⟩) tm,H1⟩ (fun aK=>∃ wk,aK=⟨n,wk,H2⟩∧lk wk d=some av))
 (k:AT P all n B tk dy (i+1) rest ((d,av) :: tm) acc Q):AT P all n B tk dy i (⟨some d,op,ty,pos,af,none⟩ :: rest) tm acc Q:=by
 refine AT.WH rfl (fun β X hX=>?_) k
 rw [Fz β] at hX
 obtain rfl:=List.mem_singleton.1 hX
 rw [List.nil_append,Js β,show (fun b=>jk tk i (nx β i b))=fun _=>Pi from funext fun b=>Jt _]
 refine nC.up ?_
 refine qu rfl (fun d' vu=>by obtain rfl:=Option.some.inj vu;simpa using hn) h1 (fun _=>h2) ?_ (fun e=>by cases e)
 refine fun w S a r=>fF ?_ _ _ _ (qG w S a r)
 rintro e a' w' ⟨he,aK,S',⟨wk,q1,q2⟩,hh⟩
 exact ⟨he,aK,S',⟨⟨none,0⟩,wk,q1,fun d' vu=>by obtain rfl:=Option.some.inj vu;exact q2⟩,hh⟩
theorem AT.FF {V:Bk→AV} {Ti H1:Heap} {Pi H2:Bk→Heap} (Fz:∀ β,sW tk i β=[[]]) (Js:∀ β,r7 tk i β=Ti) (Jt:∀ β b,jk tk i (nx β i b)=Pi b) (h1:ou Ti B=some H1) (h2:∀ b,ou (Pi b) B=some (H2 b)) (hn:Nat.blt d n=true) (Bo:lk tm d=none) (LQ:dy.contains i=true)
 (qG:ae P all [⟨some d,op,ty,pos,af,none⟩] ⟨n,zt (looks all ⟨some d,op,ty,pos,af,none⟩) tm,H1⟩ (fun aK=>∃ b wk,aK=⟨n,wk,H2 b⟩∧lk wk d=some (V b)))
 (k:AT P all n B tk dy (i+1) rest tm (fun β=>(d,V (β i)) :: acc β) Q):AT P all n B tk dy i (⟨some d,op,ty,pos,af,none⟩ :: rest) tm acc Q:=by
 refine AT.dyn rfl Bo LQ (fun β X hX=>?_) k
 rw [Fz β] at hX
 obtain rfl:=List.mem_singleton.1 hX
 rw [List.nil_append,Js β,show (fun b=>jk tk i (nx β i b))=Pi from funext (Jt β)]
 refine nC.up ?_
 refine qu rfl (fun d' vu=>by obtain rfl:=Option.some.inj vu;simpa using hn) h1 h2 ?_ (fun e=>by cases e)
 refine fun w S a r=>fF ?_ _ _ _ (qG w S a r)
 rintro e a' w' ⟨he,aK,S',⟨b,wk,q1,q2⟩,hh⟩
 exact ⟨he,aK,S',⟨b,wk,q1,fun d' vu=>by obtain rfl:=Option.some.inj vu;exact q2⟩,hh⟩
theorem AT.wY {Ti H1 Pi H2:Heap} (Fz:∀ β,sW tk i β=[[]]) (Js:∀ β,r7 tk i β=Ti) (Jt:∀ β,jk tk i β=Pi) (h1:ou Ti B=some H1) (h2:ou Pi B=some H2)
 (qG:ae P all [⟨none,op,ty,pos,af,none⟩] ⟨n,zt (looks all ⟨none,op,ty,pos,af,none⟩) tm,H1⟩ (fun aK=>∃ wk,aK=⟨n,wk,H2⟩))
 (k:AT P all n B tk dy (i+1) rest tm acc Q):AT P all n B tk dy i (⟨none,op,ty,pos,af,none⟩ :: rest) tm acc Q:=by
 refine AT.sto rfl (fun β X hX=>?_) k
 rw [Fz β] at hX
 obtain rfl:=List.mem_singleton.1 hX
 rw [List.nil_append,Js β,show (fun b=>jk tk i (nx β i b))=fun _=>Pi from funext fun b=>Jt _]
 refine nC.up ?_
 refine qu rfl (fun d' vu=>by cases vu) h1 (fun _=>h2) ?_ (fun _ b=>rfl)
 refine fun w S a r=>fF ?_ _ _ _ (qG w S a r)
 rintro e a' w' ⟨he,aK,S',⟨wk,q1⟩,hh⟩
 exact ⟨he,aK,S',⟨⟨none,0⟩,wk,q1,fun d' vu=>by cases vu⟩,hh⟩
theorem B4 (a b:List (Nat×AV)):lk (a++b)=x5 (lk a) (lk b):=by
 funext s
 induction a with
 | nil=>rfl
 | cons x a ih=>
   obtain ⟨k,v⟩:=x
   simp only [List.cons_append,lk,x5] at ih ⊢
   split
   ·rfl
   ·exact ih
theorem AT.rd {av:AV} {Rs H1:Heap} (hr:∀ β,sW tk i β=[Rs]) (h1:ou Rs B=some H1) (Js:∀ β,r7 tk i β=[]) (Jt:∀ β,jk tk i β=[])
 (q:QV P ⟨some d,op,ty,pos,af,none⟩ ⟨n,zt (looks all ⟨some d,op,ty,pos,af,none⟩) tm,H1⟩ av) (hn:Nat.blt d n=true)
 (k:AT P all n B tk dy (i+1) rest ((d,av) :: tm) acc Q):AT P all n B tk dy i (⟨some d,op,ty,pos,af,none⟩ :: rest) tm acc Q:=by
 refine AT.WH rfl (fun β X hX=>?_) k
 rw [hr β] at hX
 obtain rfl:=List.mem_singleton.1 hX
 rw [kp h1,Js β,show (fun b=>jk tk i (nx β i b))=fun _=>[] from funext fun b=>Jt _]
 refine nC.up ?_
 refine D6 (fun d' vu=>by obtain rfl:=Option.some.inj vu;simpa using hn) rfl (fun w S a s1 s2 s3 s4 K Q' hK=>?_)
 obtain ⟨v,g1,g2⟩:=q w S a (oP s1 s2 s3 s4)
 show Oper.upon P _ a K Q' _
 rw [g1 w (Ext.refl w)]
 exact hK v w S (Grow.refl s3.slt) g2
end rules
end Go.Eng
namespace Go.Eng
open Go
variable [bt]
theorem NA.zU {P:Program} {all:Array Oper} {n:Nat} {B:Heap} {tk:List Tok} {dy:List Nat} {i:Nat} {l:List Oper} {e e':Env} {c:(Nat→Bk)→Env} {D:List (Option AV×(Bk→AV))} (h:NA P all n B tk dy i l e c D e'):
 ∃ (en:Nat→Env) (cn:Nat→(Nat→Bk)→Env),en i=e∧cn i=c∧en (i+l.length)=e'∧D.length=l.length∧∀ j o x V,l[j]? =some o→D[j]? =some (x,V)→
   (∀ β,∀ X∈sW tk (i+j) β,nC P all n (X++B) o (x5 (en (i+j)) (cn (i+j) β)) (r7 tk (i+j) β) V (fun b=>jk tk (i+j) (nx β (i+j) b)))∧en (i+j+1)=gl (en (i+j)) o.dst x∧(∀ av,x=some av→∀ b,V b=av)∧(x=none→dy.contains (i+j)=true)∧cn (i+j+1)=HL x (cn (i+j)) o.dst V (i+j):=by
 induction h with
 | nil i e c=>exact ⟨fun _=>e,fun _=>c,rfl,rfl,rfl,rfl,fun j o x V h=>by simp at h⟩
 | @cons i o l e e' c D x V h hv hx k ih=>
   obtain ⟨en,cn,h0,LH,h1,h2,h3⟩:=ih
   refine ⟨fun k=>if k=i then e else en k,fun k=>if k=i then c else cn k,by simp,by simp,?_,by simp [h2],fun j o' x' V' ho hD=>?_⟩
   ·show (if i+(o :: l).length=i then e else en (i+(o :: l).length))=e'
    rw [if_neg (by simp),← h1]
    congr 1
    simp;omega
   ·match j with
    | 0=>
      simp at ho hD
      obtain ⟨rfl,rfl⟩:=hD
      subst ho
      simp only [Nat.add_zero,if_true]
      refine ⟨h,?_,hv,hx,?_⟩
      ·rw [if_neg (by omega),h0]
      ·rw [if_neg (by omega),LH]
    | j+1=>
      have:=h3 j o' x' V' (by simpa using ho) (by simpa using hD)
      rw [show i+1+j=i+(j+1) by omega] at this
      simp only
      rw [if_neg (show ¬ i+(j+1)=i by omega),if_neg (show ¬ i+(j+1)+1=i by omega),if_neg (show ¬ i+(j+1)=i by omega),if_neg (show ¬ i+(j+1)+1=i by omega)]
      exact this
def NB (l:List Oper) (dy:List Nat):Bool:=dy.all fun i=>(List.range l.length).all fun j=>Nat.beq i j||(match l[i]?,l[j]? with
 | some oi,some oj=>(match oi.dst,oj.dst with | some d,some d'=>!Nat.beq d d' | _,_=>true)
 | _,_=>true)
theorem FG {l:List Oper} {dy:List Nat} (h:NB l dy=true) {i j:Nat} {oi oj:Oper} {d:Nat} (hi:dy.contains i=true) (Ba:i≠j) (h1:l[i]? =some oi) (h2:l[j]? =some oj) (hd:oi.dst=some d):oj.dst≠some d:=by
 intro vu
 have hm:i∈dy:=by simpa using hi
 have hj:j < l.length:=(List.getElem?_eq_some_iff.1 h2).1
 have:=List.all_eq_true.1 (List.all_eq_true.1 h i hm) j (List.mem_range.2 hj)
 rw [h1,h2] at this
 simp only [hd,vu] at this
 have hb:Nat.beq i j=false:=ng Ba
 rw [hb] at this
 simp at this
def Ju (tk:List Tok):Heap:=(tk.filter (fun t=>t.prod.isNone)).map (fun t=>t.at (fun _=>⟨none,0⟩))
theorem Jv:∀ (a b:List (Nat×AV)) (s:Nat) (av:AV),lk (a++b) s=some av→lk a s=some av∨lk b s=some av
 | [],b,s,av,h=>.inr h
 | (k,v) :: a,b,s,av,h=>by
   simp only [List.cons_append,lk] at h ⊢
   split at h
   ·exact .inl h
   ·exact Jv a b s av h
theorem wZ (β:Nat→Bk):∀ (l:List Oper) (D:List (Option AV×(Bk→AV))) (i:Nat) (a:List (Nat×AV)) (s:Nat) (av:AV),lk (wX β i l D a) s=some av→lk a s=some av∨∃ (j:Nat) (o:Oper) (V:Bk→AV),l[j]? =some o∧D[j]? =some (none,V)∧o.dst=some s∧av=V (β (i+j))
 | [],D,i,a,s,av,h=>by
   have:wX β i [] D a=a:=by cases D<;>rfl
   rw [this] at h;exact .inl h
 | o :: l,[],i,a,s,av,h=>.inl h
 | o :: l,(some x,V) :: D,i,a,s,av,h=>by
   simp only [wX] at h
   rcases wZ β l D (i+1) a s av h with h | ⟨j,o',V',h1,h2,h3,h4⟩
   ·exact .inl h
   ·exact .inr ⟨j+1,o',V',by simpa using h1,by simpa using h2,h3,by rw [h4];congr 2;omega⟩
 | o :: l,(none,V) :: D,i,a,s,av,h=>by
   simp only [wX] at h
   cases hd:o.dst with
   | none=>
     rw [hd] at h
     rcases wZ β l D (i+1) a s av h with h | ⟨j,o',V',h1,h2,h3,h4⟩
     ·exact .inl h
     ·exact .inr ⟨j+1,o',V',by simpa using h1,by simpa using h2,h3,by rw [h4];congr 2;omega⟩
   | some d=>
     rw [hd] at h
     rcases wZ β l D (i+1) _ s av h with h5 | ⟨j,o',V',h1,h2,h3,h4⟩
     ·simp only [lk] at h5
      split at h5
      ·rename_i hb
       obtain rfl:d=s:=by simpa using hb
       exact .inr ⟨0,o,V,rfl,rfl,hd,by simpa using (Option.some.inj h5).symm⟩
      ·exact .inl h5
     ·exact .inr ⟨j+1,o',V',by simpa using h1,by simpa using h2,h3,by rw [h4];congr 2;omega⟩
theorem aa.ik {P:Program} {R:St→Prop} {k:List It} {id n:Nat} {tm:List (Nat×AV)} {hp:Heap} {l hd tl:List Oper} (m:Nat) (hm:P.follows .mixedOrders=true) (hs:Br m l=some (hd,tl)) {A:List Nat} (hA:Bq l.toArray=A) (Q5:BV l.toArray m A=true)
 (tk:List Tok) (dy:List Nat) (WI:(Ra A m tk&&Nz A m tk)=true) (hU0:NB hd dy=true) {B H0:Heap} (yC:Ju tk=H0) (Ui:zu hp H0 B) {HH:(Nat→Bk)→Heap} (Uj:∀ β,ou (tH tk β) B=some (HH β))
 (h:AT P l.toArray n B tk dy 0 hd tm (fun _=>[]) (fun β ln=>ae P l.toArray tl ⟨n,ln,HH β⟩ (aa P R k))):aa P R (.code (.region id l.toArray true) :: k) ⟨n,tm,hp⟩:=by
 have hB:rI l.toArray m:=⟨A,hA,Q5⟩
 have hT:z6 l.toArray m tk:=HG hA (Bool.and_eq_true_iff.1 WI).1
 intro w S a r
 obtain ⟨hl,HA⟩:=qt hs
 obtain ⟨D,ln,Uk,qG⟩:=h
 obtain ⟨en,cn,e0,ec0,e1,e2,e3⟩:=Uk.zU
 rw [Nat.zero_add,HA] at e1
 have eN:m≤l.toArray.size:=by simp [hl,HA]
 let ie:Nat→Option AV:=fun j=>(D[j]?).bind (·.1)
 let V:Nat→Bk→AV:=fun j=>match D[j]? with | some x=>x.2 | none=>fun _=>.nil
 have Bt:∀ j o,j < m→l.toArray[j]? =some o→hd[j]? =some o:=by
  intro j o hj ho
  have:l[j]? =some o:=by simpa using ho
  rw [hl,List.getElem?_append_left (by omega)] at this
  exact this
 have hD:∀ j,j < m→∃ x W,D[j]? =some (x,W)∧ie j=x∧V j=W:=by
  intro j hj
  have:j < D.length:=by rw [e2,HA];exact hj
  refine ⟨D[j].1,D[j].2,by simp [this],?_,?_⟩
  ·simp [ie,this]
  ·simp [V,this]
 refine wp_region_any hm ?_
 have ui:Ext w {w with drawn:=w.drawn+1}:=Ext.BO w _ (Nat.le_succ _)
 let SN:Nat→Bk:=fun _=>⟨none,0⟩
 have hf:∀ k,(Array.replicate l.toArray.size false).getD k false=false:=by
  intro k
  rcases Nat.lt_or_ge k l.toArray.size with h | h
  ·simp at h;simp [h]
  ·simp at h;simp [Nat.not_lt.2 h]
 have LH:∀ k,oQ l.toArray ie (lk tm) (Array.replicate l.toArray.size false) k=lk tm:=by
  intro k
  induction k with
  | zero=>rfl
  | succ k ih=>simp only [oQ,ih];rw [if_neg (by rw [hf k];simp)]
 have PB:pX tk (Array.replicate l.toArray.size false) SN=H0:=by
  rw [← yC]
  unfold pX Ju
  have e:tk.filter (wj (Array.replicate l.toArray.size false))=tk.filter (fun t=>t.prod.isNone):=by
   apply List.filter_congr
   intro t ht
   unfold wj
   cases t.prod with
   | none=>
     cases t.cons with
     | none=>rfl
     | some c=>simp only [hf c,Bool.not_false,Bool.and_self,Option.isNone]
   | some p=>simp only [hf p,Bool.false_and,Option.isNone]
  rw [e]
 have kO:=Ui.perm
 have hr0:ck {w with drawn:=w.drawn+1} S (pX tk (Array.replicate l.toArray.size false) SN++B):=by
  rw [PB];exact (r.hp.ext ui).perm kO
 have ev0:ic w S hp {w with drawn:=w.drawn+1} S (pX tk (Array.replicate l.toArray.size false) SN++B):=by
  rw [PB]
  have:=ic.ext (h:=hp) r.hp.slt ui
  exact {this with new:=fun k hk=>this.new k (by
   obtain ⟨x,hx,hb⟩:=hk
   exact ⟨x,kO.mem_iff.2 hx,hb⟩)}
 refine HK (P:=P) (all:=l.toArray) (n:=n) (m:=m) (ie:=ie) (en:=en) (cn:=cn) (e:=lk tm) (V:=V) (B:=B) (tk:=tk) hB hT (FD hA (Bool.and_eq_true_iff.1 WI).2) eN e0 (fun β s=>by rw [ec0];rfl) ?_ ?_ ?_ (w0:=w) (S0:=S) (SK:=hp) ?_ l.toArray.size (Array.replicate l.toArray.size false) a _ S SN
  ⟨by simp,(fun k hk=>by rw [hf k] at hk;cases hk),(fun k i o hk=>by rw [hf k] at hk;cases hk)⟩ (by simp [List.count_replicate]) r.size r.defers hr0 ev0 (by rw [LH];exact (r.ext ui).tm) (fun j o d hj=>by rw [hf j] at hj;cases hj)
 ·intro i o hi ho β
  obtain ⟨x,W,d1,d2,d3⟩:=hD i hi
  have:=e3 i o x W (Bt i o hi ho) d1
  rw [Nat.zero_add] at this
  rw [d2,d3,this.2.2.2.2];rfl
 ·intro i o hi ho
  obtain ⟨x,W,d1,d2,d3⟩:=hD i hi
  have:=e3 i o x W (Bt i o hi ho) d1
  rw [Nat.zero_add] at this
  rw [d2,d3]
  exact ⟨this.1,this.2.1,this.2.2.1⟩
 ·intro i j oi oj d hi hj Ba uZ IK ll LF
  obtain ⟨x,W,d1,d2,d3⟩:=hD i hi
  have:=e3 i oi x W (Bt i oi hi uZ) d1
  rw [Nat.zero_add] at this
  exact FG hU0 (this.2.2.2.1 (by rw [← d2];exact ll)) Ba (Bt i oi hi uZ) (Bt j oj hj IK) LF
 ·intro β a' w' S' h1 h2 h3 h4 h5 h6
  have Nx:l.toArray.toList.drop m=tl:=by
   simp only [hl,← HA]
   exact List.drop_left
  rw [Nx]
  rw [kp (Uj β)] at h3 h4
  rw [e1] at h5
  refine fF ?_ _ _ _ ((qG β).go (h:=hp) (w:=w) (S:=S) ⟨h1,h2,fun s av GL=>?_,h3⟩ h4)
  ·rintro ex a2 w2 ⟨rfl,Fo,S2,q1,q2,q3⟩
   exact ⟨Fo,S2,q1,q2,q3⟩
  ·rcases Jv _ _ _ _ GL with GL | GL
   ·rcases wZ β hd D 0 [] s av GL with GL | ⟨j,o,W,g1,g2,g3,g4⟩
    ·cases GL
    ·have hj:j < m:=by rw [← HA];exact (List.getElem?_eq_some_iff.1 g1).1
     obtain ⟨x,W',d1,d2,d3⟩:=hD j hj
     rw [g2] at d1
     obtain ⟨rfl,rfl⟩:=Prod.mk.inj (Option.some.inj d1)
     have IK:l.toArray[j]? =some o:=by
      have:l[j]? =some o:=by rw [hl,List.getElem?_append_left (by omega)];exact g1
      simpa using this
     obtain ⟨v,k1,k2⟩:=h6 j o s hj IK d2 g3
     rw [d3] at k2
     rw [g4,Nat.zero_add]
     exact ⟨v,k1,k2⟩
   ·exact h5 s av GL
def Jw {α:Type}:List α→List α→Option (List α)
 | [],r=>some r
 | x :: l,r=>match Jw l r with
   | some m=>some (x :: m)
   | none=>none
theorem GM {α:Type}:∀ {l r m:List α},Jw l r=some m→l++r=m
 | [],r,m,h=>by simpa [Jw] using h
 | x :: l,r,m,h=>by
   simp only [Jw] at h
   split at h
   ·rename_i m' hm
    obtain rfl:=Option.some.inj h
    rw [List.cons_append,GM hm]
   ·cases h
theorem AT.sZ {P:Program} {all:Array Oper} {n:Nat} {B:Heap} {tk:List Tok} {dy:List Nat} {i:Nat} {tm:List (Nat×AV)} {acc F:(Nat→Bk)→List (Nat×AV)} {Q:(Nat→Bk)→List (Nat×AV)→Prop} (hF:∀ β,Jw (acc β) tm=some (F β)) (h:∀ β,Q β (F β)):AT P all n B tk dy i [] tm acc Q:=
 AT.nil (fun β=>(GM (hF β)).symm) h
theorem B5 {w:World} {S:Nat→Prop} {hp bZ:Heap} {b:Bk} {cs lB:List AV} (r:ck w S hp) (u:iw hp b (.cells cs) b (.cells lB) bZ) (hl:lB.length=cs.length) (h1:∀ c∈lB,c.one=true) (mO:∀ (i:Nat) c c' v,cs[i]? =some c→lB[i]? =some c'→At w S c v→At w S c' v):ck w S bZ∧ic w S hp w S bZ:=by
 obtain ⟨pre,post,e1,e2⟩:=u.split
 subst e1;subst e2
 have hblk:∀ n,Has (pre++(b,Ob.cells lB) :: post) n↔Has (pre++(b,Ob.cells cs) :: post) n:=by
  intro n
  constructor<;>rintro ⟨x,hx,hb⟩<;>rcases bg.1 hx with rfl | hx
  ·exact ⟨(b,.cells cs),bg.2 (.inl rfl),hb⟩
  ·exact ⟨x,bg.2 (.inr hx),hb⟩
  ·exact ⟨(b,.cells lB),bg.2 (.inl rfl),hb⟩
  ·exact ⟨x,bg.2 (.inr hx),hb⟩
 refine ⟨⟨?_,?_,?_,r.slt,r.gq⟩,⟨rfl,rfl,rfl,Nat.le_refl _,fun n hn=>⟨hn,rfl⟩,fun n _ _=>⟨rfl,id⟩,fun n hn=>.inl ((hblk n).1 hn),fun _=>Nat.le_refl _⟩⟩
 ·have:=r.nodup
  simpa [List.flatMap_append,List.flatMap_cons,eb,Ob.more] using this
 ·intro x hx
  rcases bg.1 hx with rfl | hx
  ·obtain ⟨h0,n,vs,E,g1,g2,g3,g4⟩:=r.holds (b,.cells cs) (bg.2 (.inl rfl))
   refine ⟨h1,n,vs,E,g1,g2,by rw [hl];exact g3,fun i c v hc hv=>?_⟩
   have hi:i < cs.length:=by rw [← hl];exact (List.getElem?_eq_some_iff.1 hc).1
   have Lb:cs[i]? =some cs[i]:=by simp [hi]
   exact mO i cs[i] c v Lb hc (g4 i _ v Lb hv)
  ·exact r.holds x (bg.2 (.inr hx))
 ·intro x hx n hn
  rcases bg.1 hx with rfl | hx
  ·have:=r.sep (b,.cells cs) (bg.2 (.inl rfl)) n hn
   exact ⟨fun h=>(this.1 h).elim,fun h=>h.elim⟩
  ·exact r.sep x (bg.2 (.inr hx)) n hn
theorem aj.kP {n j:Nat} {tm:List (Nat×AV)} {hp bZ:Heap} {T:St→Prop} {b:Bk} {cs lB:List AV} {av dD:AV} (u:iw hp b (.cells cs) b (.cells lB) bZ) (hj:cs[j]? =some av) (c:Co hp av dD) (hc:pg (cs.set j dD)=some lB) (h1:jv lB=true) (k:aj ⟨n,tm,bZ⟩ T):aj ⟨n,tm,hp⟩ T:=by
 refine aj.step (zr:=⟨n,tm,bZ⟩) (fun w S a r=>?_) k
 have e:=kL hc
 obtain ⟨g1,g2⟩:=B5 r.hp u (by rw [← e];simp) (dc h1) (fun i c1 c2 v IP z7 mO=>by
  rw [← e] at z7
  by_cases Ba:j=i
  ·subst Ba
   rw [List.getElem?_set_self (List.getElem?_eq_some_iff.1 hj).1] at z7
   obtain rfl:=Option.some.inj z7
   rw [hj] at IP
   obtain rfl:=Option.some.inj IP
   exact c.at r.hp mO
  ·rw [List.getElem?_set_ne Ba,IP] at z7
   obtain rfl:=Option.some.inj z7
   exact mO)
 exact ⟨_,S,rfl,⟨r.size,r.defers,r.tm,g1⟩,g2⟩
theorem aj.x6 {n j:Nat} {tm:List (Nat×AV)} {hp bZ:Heap} {T:St→Prop} {b:Bk} {cs lB:List AV} (sz:Nat) (u:iw hp b (.cells cs) b (.cells lB) bZ) (hj:cs[j]? =some .nil) (hc:pg (cs.set j (.list sz []))=some lB) (h1:jv lB=true) (k:aj ⟨n,tm,bZ⟩ T):aj ⟨n,tm,hp⟩ T:=
 aj.kP u hj (.nil sz) hc h1 k
theorem aj.CQ {n j:Nat} {tm:List (Nat×AV)} {hp:Heap} {bZ:Bk→Heap} {T:St→Prop} {b:Bk} {cs:List AV} {lB:Bk→List AV} (sz:Nat) (u:∀ q,iw hp b (.cells cs) b (.cells (lB q)) (bZ q)) (hj:cs[j]? =some .nil) (hc:∀ q,pg (cs.set j (.sl sz q 0 0))=some (lB q)) (h1:∀ q,jv (lB q)=true)
 (k:∀ q,aj ⟨n,tm,(q,.arr sz []) :: bZ q⟩ T):aj ⟨n,tm,hp⟩ T:=by
 refine aj.step (zr:=⟨n,tm,(⟨none,0⟩,.arr sz []) :: bZ ⟨none,0⟩⟩) (fun w S a r=>?_) (k ⟨none,0⟩)
 have e:=kL (hc ⟨none,0⟩)
 obtain ⟨g1,g2⟩:=B5 r.hp (u ⟨none,0⟩) (by rw [← e];simp) (dc (h1 _)) (fun i c1 c2 v IP z7 mO=>by
  rw [← e] at z7
  by_cases Ba:j=i
  ·subst Ba
   rw [List.getElem?_set_self (List.getElem?_eq_some_iff.1 hj).1] at z7
   obtain rfl:=Option.some.inj z7
   rw [hj] at IP
   obtain rfl:=Option.some.inj IP
   cases mO
   exact .zI sz _ rfl
  ·rw [List.getElem?_set_ne Ba,IP] at z7
   obtain rfl:=Option.some.inj z7
   exact mO)
 obtain ⟨q1,q2,q3⟩:=o4 (b:=⟨none,0⟩) (o:=.arr sz []) g1 (Ext.refl w) id ⟨by simp,by simp,.inl ⟨rfl,rfl⟩⟩ (.inl rfl)
 exact ⟨_,S,rfl,⟨r.size,r.defers,r.tm,q1⟩,g2.trans q2⟩
section rules
variable {P:Program} {all:Array Oper} {rest:List Oper} {n:Nat} {tm:List (Nat×AV)} {hp:Heap} {Q:St→Prop} {d:Nat} {ty:TypeId} {pos:String} {af:Array Edge}
theorem GN {t e yt:TypeId} {x y:Operand} {sz:Nat} {xs:List AV} [ay P t (.slice e)] (hx:bY tm x=some (.list sz xs)) (hy:bY tm y=some .nil) (h0:Nat.blt 0 sz=true) (hn:Nat.blt d n=true)
 (kk:∀ c:Bool,(c=true→xs=[])→ae P all rest ⟨n,(d,.bool c) :: tm,hp⟩ Q):ae P all (⟨some d,.binOp .eql t x y yt,ty,pos,af,none⟩ :: rest) ⟨n,tm,hp⟩ Q:=by
 refine ae.Dz rfl fun w S a r=>?_
 obtain ⟨oa,cap,vs,e1,e2,e3,e4,e5,e6⟩:=(aN (σ:=⟨n,tm,hp⟩) r hx).tW
 have e7:=(aN (σ:=⟨n,tm,hp⟩) r hy).CB
 refine ⟨.bool oa.isNone,w,S,⟨n,(d,.bool oa.isNone) :: tm,hp⟩,?_,r.put hn (.bool _),ic.refl _ _ _,kk _ (fun hc=>?_)⟩
 ·have h2:(Op.equal t (.slice oa xs.length cap) (.slice none 0 0)).run P w=.ok oa.isNone w:=by
   show (Op.equalIn (9999+1) t _ _).run P w=_
   rw [Op.equalIn]
   cases oa with
   | none=>simp [run_underlying (ay.h (P:=P) (t:=t))]
   | some ad=>simp [run_underlying (ay.h (P:=P) (t:=t))]
  have h3:(binOp .eql t (.slice oa xs.length cap) (.slice none 0 0)).run P w=.ok (.bool oa.isNone) w:=by
   rw [show binOp .eql t (.slice oa xs.length cap) (.slice none 0 0)=(do pure (.bool (← Op.equal t (.slice oa xs.length cap) (.slice none 0 0)))) from rfl]
   simp [h2]
  simp [execOp,e1,e7,eqGuard_at_slice,h3]
 ·have hoa:oa=none:=by simpa using hc
  have SO:vs=[]:=by
   cases vs with
   | nil=>rfl
   | cons v vs=>
     obtain ⟨ad,h1,_⟩:=e5 0 v rfl
     rw [hoa] at h1;cases h1
  rw [SO,bA e2] at e3
  have h0':0 < sz:=by simpa using h0
  have:xs.length=0:=by
   rcases Nat.eq_zero_or_pos xs.length with h | h
   ·exact h
   ·have:=Nat.mul_pos h h0';simp at e3;omega
  exact List.length_eq_zero_iff.1 this
end rules
theorem w6 {α:Type} {p r:List α} (h:app [] p=some r) (hp:p=[]):r=[]:=by
 subst hp
 obtain ⟨_,e⟩:=DX h
 simpa using e
end Go.Eng
