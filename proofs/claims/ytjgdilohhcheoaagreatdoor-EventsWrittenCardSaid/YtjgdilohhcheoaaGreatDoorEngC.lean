/- The engine: abstract values, the symbolic heap, one rule for each operation. No program in sight. -/
import Derived.Test.YtjgdilohhcheoaaGreatDoorEngB
import Derived.Laws.StructEq
import Derived.Below
set_option linter.unusedVariables false
set_option linter.unusedSectionVars false
namespace Go.Eng
open Go
variable [bz]
abbrev ax:=List UInt8
section rules
variable {P:Program} {all:Array Oper} {rest:List Oper} {n:Nat} {tm:List (Nat×AV)} {hp:Heap} {Q:St→Prop} {d:Nat} {ty:TypeId} {pos:String} {af:Array Edge}
theorem eA {x:Operand} {t e:TypeId} {sz len:Nat} {b:Bk} [ay P t (.slice e)] (hx:bS tm x=some (.sl sz b 0 len)):QV P ⟨some d,.call {callee:=.builtin .len,args:=#[x],argTypes:=#[t]},ty,pos,af,none⟩ ⟨n,tm,hp⟩ (.int .i64 (len:Nat)):=HA hx
theorem bc {α:Type} {Xs:List α} {el:α} {t e:TypeId} {i:TypeInfo} {x y:Operand} {k:IntKind} {j:Int} {sz:Nat} {b:Bk} [ay P t (.slice e)] [aP P e i] (hx:bS tm x=some (.sl sz b 0 Xs.length)) (eF:Nat.beq i.size sz=true) (hy:bS tm y=some (.int k j))
 (hv:idx Xs j=some el):QV P ⟨some d,.indexAddr t x y,ty,pos,af,none⟩ ⟨n,tm,hp⟩ (.o1 sz b j.toNat 0):=by
 obtain ⟨h0,h1,_⟩:=ew hv
 have h:=Em (P:=P) (d:=d) (ty:=ty) (pos:=pos) (af:=af) (n:=n) (tm:=tm) (hp:=hp) (t:=t) (e:=e) hx eF hy ⟨h0,h1⟩
 rw [Nat.zero_add] at h
 exact h
theorem BI {α:Type} {g:α→AV} {Xs:List α} {el:α} {j:Int} (hv:idx Xs j=some el):(Xs.map g)[j.toNat]? =some (g el):=by
 rw [List.getElem?_map,(ew hv).2.2];rfl
theorem cw {α:Type} {g:α→AV} {Xs:List α} {el:α} {j:Int} {t:TypeId} {D:TypeDesc} {x:Operand} {b:Bk} {sz o:Nat} {av:AV} [ay P t D] (hD:TypeDesc.jf D=false) (hx:bS tm x=some (.o1 sz b j.toNat o)) (f:kR hp b (.arr sz (Xs.map g))∨kR hp b (.xR sz (Xs.map g)))
 (hv:idx Xs j=some el) (ho:(g el).cells[o]? =some av):QV P ⟨some d,.load t x,ty,pos,af,none⟩ ⟨n,tm,hp⟩ av:=
 CE hD hx f (BI hv) ho
theorem bK {α:Type} {g:α→AV} {Xs:List α} {el:α} {j:Int} {t:TypeId} {D:TypeDesc} {i:TypeInfo} {x:Operand} {b:Bk} {sz:Nat} {cs:List AV} [ay P t D] [aP P t i] (hD:TypeDesc.jf D=true) (hx:bS tm x=some (.o1 sz b j.toNat 0)) (f:kR hp b (.arr sz (Xs.map g))∨kR hp b (.xR sz (Xs.map g))) (eF:Nat.beq i.size sz=true)
 (hv:idx Xs j=some el) (hc:g el=.agg cs):QV P ⟨some d,.load t x,ty,pos,af,none⟩ ⟨n,tm,hp⟩ (.agg cs):=
 xT hD hx f eF (by rw [BI (g:=g) hv,hc])
theorem vA {α:Type} {g:α→AV} {Xs Zs:List α} {t e:TypeId} {i:TypeInfo} {x:Operand} {lo hi:Option Operand} {l h:Option Int} {sz:Nat} {L H:Int} [ay P t (.slice e)] [aP P e i] (hx:bS tm x=some (.list sz (Xs.map g))) (eF:Nat.beq i.size sz=true) (hl:Eb tm lo l) (hh:Eb tm hi h)
 (eL:eZ l=L) (eH:fU Xs.length h=H) (hv:yN Xs L H=some Zs):QV P ⟨some d,.slice t x lo hi none,ty,pos,af,none⟩ ⟨n,tm,hp⟩ (.list sz (Zs.map g)):=by
 obtain ⟨⟨h0,h1,h2⟩,rfl⟩:=qX hv
 subst eL;subst eH
 have:=BF (P:=P) (d:=d) (ty:=ty) (pos:=pos) (af:=af) (n:=n) (tm:=tm) (hp:=hp) (t:=t) (e:=e) (xs:=Xs.map g) hx eF hl hh h0 (by simpa using h1) (by simpa using h2)
 simpa [List.map_take,List.map_drop] using this
theorem xy {t:TypeId} {x:Operand} {lo hi:Option Operand} {l h:Option Int} {s zs:List UInt8} {L H:Int} [ay P t .string] (hx:bS tm x=some (.str s)) (hl:Eb tm lo l) (hh:Eb tm hi h) (eL:eZ l=L) (eH:fU s.length h=H) (hv:yN s L H=some zs):
 QV P ⟨some d,.slice t x lo hi none,ty,pos,af,none⟩ ⟨n,tm,hp⟩ (.str zs):=by
 obtain ⟨⟨h0,h1,h2⟩,rfl⟩:=qX hv
 subst eL;subst eH
 exact CM hx hl hh h0 h1 h2
def nK:Heap→Heap→Option Heap
 | [],r=>some r
 | x :: l,r=>match nK l r with
   | some m=>some (x :: m)
   | none=>none
theorem kO:∀ {l r m:Heap},nK l r=some m→l++r=m
 | [],r,m,h=>by simpa [nK] using h
 | x :: l,r,m,h=>by
   simp only [nK] at h
   split at h
   ·rename_i m' hm
    obtain rfl:=Option.some.inj h
    rw [List.cons_append,kO hm]
   ·cases h
def T0 (H:Heap) (V:AV):AV→Heap→Prop:=fun v h=>h=H∧v=V
def T1 {su:Type} (H:su→Heap) (V:su→AV):AV→Heap→Prop:=fun v h=>∃ b,h=H b∧v=V b
def T2 {su vB:Type} (H:su→vB→Heap) (V:su→vB→AV):AV→Heap→Prop:=fun v h=>∃ b c,h=H b c∧v=V b c
theorem aV {f:FuncId} {args:List Operand} {ts:Array TypeId} {l l':List AV} {h0 hr H H':Heap} {V:AV} [bf P f] (hl:wH tm args=some l) (c:aH P f l' h0 (T0 H V)) (co:uW hp l l') (hs:zT hp h0 hr) (ha:nK H hr=some H') (hn:Nat.blt d n=true)
 (kk:ah P all rest ⟨n,(d,V) :: tm,H'⟩ Q):ah P all (⟨some d,.call {callee:=.value (.func f),args:=args.toArray,argTypes:=ts},ty,pos,af,none⟩ :: rest) ⟨n,tm,hp⟩ Q:=
 va hl c co hs hn (fun r h' ⟨e1,e2⟩=>by subst e1;subst e2;rw [kO ha];exact kk)
theorem qm {su:Type} {f:FuncId} {args:List Operand} {ts:Array TypeId} {l l':List AV} {h0 hr:Heap} {H H':su→Heap} {V:su→AV} [bf P f] (hl:wH tm args=some l) (c:aH P f l' h0 (T1 H V)) (co:uW hp l l') (hs:zT hp h0 hr) (ha:∀ b,nK (H b) hr=some (H' b)) (hn:Nat.blt d n=true)
 (kk:∀ b,ah P all rest ⟨n,(d,V b) :: tm,H' b⟩ Q):ah P all (⟨some d,.call {callee:=.value (.func f),args:=args.toArray,argTypes:=ts},ty,pos,af,none⟩ :: rest) ⟨n,tm,hp⟩ Q:=
 va hl c co hs hn (fun r h' ⟨b,e1,e2⟩=>by subst e1;subst e2;rw [kO (ha b)];exact kk b)
theorem oe {su vB:Type} {f:FuncId} {args:List Operand} {ts:Array TypeId} {l l':List AV} {h0 hr:Heap} {H H':su→vB→Heap} {V:su→vB→AV} [bf P f] (hl:wH tm args=some l) (c:aH P f l' h0 (T2 H V)) (co:uW hp l l') (hs:zT hp h0 hr) (ha:∀ b c,nK (H b c) hr=some (H' b c)) (hn:Nat.blt d n=true)
 (kk:∀ b c,ah P all rest ⟨n,(d,V b c) :: tm,H' b c⟩ Q):ah P all (⟨some d,.call {callee:=.value (.func f),args:=args.toArray,argTypes:=ts},ty,pos,af,none⟩ :: rest) ⟨n,tm,hp⟩ Q:=
 va hl c co hs hn (fun r h' ⟨b,b2,e1,e2⟩=>by subst e1;subst e2;rw [kO (ha b b2)];exact kk b b2)
theorem lW {f:FuncId} {x:Operand} {args:List Operand} {ts:Array TypeId} {pZ l l' lc:List AV} {h0 hr H H':Heap} {V:AV} [bf P f] (hx:bS tm x=some (.func (.func f) pZ)) (hl:wH tm args=some l) (PC:oV (l++pZ)=some lc) (c:aH P f l' h0 (T0 H V)) (co:uW hp lc l') (hs:zT hp h0 hr) (ha:nK H hr=some H') (hn:Nat.blt d n=true)
 (kk:ah P all rest ⟨n,(d,V) :: tm,H'⟩ Q):ah P all (⟨some d,.call {callee:=.value x,args:=args.toArray,argTypes:=ts},ty,pos,af,none⟩ :: rest) ⟨n,tm,hp⟩ Q:=
 Ko hx hl PC c co hs hn (fun r h' ⟨e1,e2⟩=>by subst e1;subst e2;rw [kO ha];exact kk)
end rules
theorem Co.nL {hp:Heap} {α:Type} {g:α→AV} {Xs:List α} {sz:Nat} {b:Bk} (f:kR hp b (.xR sz (Xs.map g))):Co hp (.sl sz b 0 Xs.length) (.list sz (Xs.map g)):=.xR sz b _ _ f (by simp)
theorem sW.sD {hp:Heap} {α:Type} {g:α→AV} {Xs:List α} {sz:Nat} {b:Bk} (f:kR hp b (.arr sz (Xs.map g))):sW hp (.sl sz b 0 Xs.length) (.list sz (Xs.map g)):=.arr sz b _ _ f (by simp)
section rules
variable {P:Program} {all:Array Oper} {rest:List Oper} {n:Nat} {tm:List (Nat×AV)} {hp:Heap} {Q:St→Prop} {d:Nat} {ty:TypeId} {pos:String} {af:Array Edge}
theorem bg {x:Operand} {s:TypeId} {j off:Nat} {sz:Nat} {b:Bk} {q o o':Nat} [lN P s j off] (hx:bS tm x=some (.o1 sz b q o)) (ho:o+off=o'):QV P ⟨some d,.fieldAddr s x j,ty,pos,af,none⟩ ⟨n,tm,hp⟩ (.o1 sz b q o'):=by
 subst ho
 exact BA hx
theorem Ac {t:TypeId} {i:TypeInfo} {x y:Operand} {b:Bk} {sz q o:Nat} {xs:List AV} {av el vb:AV} {bY:Heap} [aP P t i] (hx:bS tm x=some (.o1 sz b q o)) (hy:bS tm y=some av) (h1:jr av.cells=true) (eF:Nat.beq av.cells.length i.size=true)
 (u:iE hp b (.arr sz xs) b (.arr sz (xs.set q vb)) bY) (hq:xs[q]? =some el) (J8:vb.cells=lO el.cells o av.cells) (ho:Nat.ble (o+av.cells.length) el.cells.length=true) (kk:ah P all rest ⟨n,tm,bY⟩ Q):ah P all (⟨none,.store t x y,ty,pos,af,none⟩ :: rest) ⟨n,tm,hp⟩ Q:=by
 refine ah.act rfl rfl (aI:=⟨n,tm,bY⟩) (fun w S a r=>?_) kk
 obtain ⟨m,e1,e2⟩:=(aN (σ:=⟨n,tm,hp⟩) r hx).sL
 obtain ⟨g0,g1,⟨g2,_⟩ | ⟨m',vs,E,g2,g3,g4,g5⟩⟩:=iO r.hp (.inl u.lp)
 ·rw [g2] at e1;cases e1
 obtain rfl:m'=m:=by rw [g2] at e1;exact Option.some.inj e1
 have hv:=aN (σ:=⟨n,tm,hp⟩) r hy
 obtain ⟨hl,lU⟩:=qP hv (cQ h1)
 have z6:=cQ h1
 have eF:=Nat.eq_of_beq_eq_true eF
 have ho:=Nat.le_of_ble_eq_true ho
 clear h1 hv hy
 generalize av.cells=nc at *
 generalize Kp:el.cells=cs at *
 have hle:o+nc.length≤cs.length:=ho
 have sB:=g0 el (List.mem_of_getElem? hq)
 have wA:cs.length=sz:=by rw [← Kp];exact sB.1
 have UO:q < xs.length:=(List.getElem?_eq_some_iff.1 hq).1
 have hmul:(q+1) * sz≤xs.length * sz:=Nat.mul_le_mul_right _ (by omega)
 have xz:xs.length * sz≤b.cap * sz:=Nat.mul_le_mul_right _ g1
 rw [Nat.add_mul,Nat.one_mul] at hmul
 have uT:=qQ hl lU z6
 have xp:=run_storeCells_at (P:=P) m' (q * sz+o) E (a.eval y).cells.toList 0 vs w g3 (by simp;omega) uT
 simp only [Nat.add_zero] at xp
 have HB:(a.eval y).cells.size=i.size:=by rw [← hl];exact eF
 have Fh:=bu g0
 have LX:El sz vb:=by
  refine ⟨by rw [J8];simp [lO];omega,fun c hc=>?_⟩
  rw [J8] at hc
  simp only [lO,List.mem_append] at hc
  rcases hc with (hc | hc) | hc
  ·exact sB.2 c (by rw [Kp];exact List.mem_of_mem_take hc)
  ·exact z6 c hc
  ·exact sB.2 c (by rw [Kp];exact List.mem_of_mem_drop hc)
 have CU:flat (xs.set q vb)=(flat xs).take (q * sz+o)++nc++(flat xs).drop (q * sz+o+nc.length):=by
  rw [CO g0 LX hq]
  rw [J8];simp only [lO]
  have Hi:cs=((flat xs).drop (q * sz)).take sz:=by
   apply List.ext_getElem?
   intro j
   by_cases hj:j < sz
   ·have:=pr g0 hq j hj
    rw [List.getElem?_take,if_pos hj,List.getElem?_drop,this,Kp]
   ·rw [List.getElem?_eq_none (by omega),List.getElem?_eq_none (by simp;omega)]
  have e1:cs.take o=((flat xs).drop (q * sz)).take o:=by rw [Hi,List.take_take,Nat.min_eq_left (by omega)]
  have e2:cs.drop (o+nc.length)=(((flat xs).drop (q * sz+o+nc.length)).take (sz - (o+nc.length))):=by
   rw [Hi,List.drop_take,List.drop_drop]
   rw [show q * sz+(o+nc.length)=q * sz+o+nc.length from by omega]
  rw [e1,e2]
  have e3:(flat xs).take (q * sz+o)=(flat xs).take (q * sz)++((flat xs).drop (q * sz)).take o:=by rw [List.take_add]
  rw [e3]
  have e4:(flat xs).drop (q * sz+o+nc.length)=((flat xs).drop (q * sz+o+nc.length)).take (sz - (o+nc.length))++(flat xs).drop (q * sz+sz):=by
   conv=>lhs;rw [← List.take_append_drop (sz - (o+nc.length)) ((flat xs).drop (q * sz+o+nc.length))]
   rw [List.drop_drop,show q * sz+o+nc.length+(sz - (o+nc.length))=q * sz+sz from by omega]
  conv=>rhs;rw [e4]
  simp only [List.append_assoc]
 have HU:=fun (w':World) (ha:gX w' S (flat xs) vs) (hb:gX w' S nc (a.eval y).cells)=>Fp (q * sz+o) (by rw [Fh,g4];exact xz) ha hl hb (by omega)
 have yO:(vs.toList.take (q * sz+o)++(a.eval y).cells.toList++vs.toList.drop (q * sz+o+(a.eval y).cells.toList.length)).toArray.size=b.cap * sz:=by
  simp;omega
 generalize (vs.toList.take (q * sz+o)++(a.eval y).cells.toList++vs.toList.drop (q * sz+o+(a.eval y).cells.toList.length)).toArray=uU at xp HU yO
 have c:GB w (w.setRow m' uU) b.cr:=⟨⟨rfl,rfl,rfl,by simp,fun k hk qN=>setRow_other w m' k _ (fun e=>qN (by rw [e1,e]))⟩,fun _=>Nat.le_refl _⟩
 have k1:∀ n,S n→S n∧(w.setRow m' uU).heap[n]? =w.heap[n]?:=by
  intro k hk
  refine ⟨hk,setRow_other w m' k _ (fun e=>?_)⟩
  subst e
  exact (r.hp.sep _ u.lp.mem k (jZ e1)).1 hk
 have hh:=kM r.hp u c id id ⟨?_,by simpa using g1,.inr ⟨m',uU,E,e1,setRow_heap w m' vs _ E _ g3,yO,by rw [CU];exact HU _ (g5.mono k1) (lU.mono k1)⟩⟩ (.inl rfl)
 ·refine ⟨w.setRow m' uU,S,?_,r.heap hh.2.2 hh.1,hh.2.1⟩
  simp [execOp,e2,Instr.storeAt,Instr.sureAddr,storeVar,sizeOf,typeInfo,aP.h (P:=P) (t:=t),HB,xp]
 ·intro z hz
  rcases List.mem_or_eq_of_mem_set hz with h | rfl
  ·exact g0 z h
  ·exact LX
theorem bA {α:Type} {g:α→AV} {Xs:List α} {el vb:α} {j:Int} {t:TypeId} {i:TypeInfo} {x y:Operand} {b:Bk} {sz o:Nat} {av:AV} {bY:Heap} [aP P t i] (hx:bS tm x=some (.o1 sz b j.toNat o)) (hy:bS tm y=some av) (h1:jr av.cells=true) (eF:Nat.beq av.cells.length i.size=true)
 (hv:idx Xs j=some el) (J8:(g vb).cells=lO (g el).cells o av.cells) (u:iE hp b (.arr sz (Xs.map g)) b (.arr sz ((Xs.set j.toNat vb).map g)) bY) (ho:Nat.ble (o+av.cells.length) (g el).cells.length=true) (kk:ah P all rest ⟨n,tm,bY⟩ Q):
 ah P all (⟨none,.store t x y,ty,pos,af,none⟩ :: rest) ⟨n,tm,hp⟩ Q:=by
 refine Ac (xs:=Xs.map g) (el:=g el) (vb:=g vb) hx hy h1 eF ?_ (BI hv) J8 ho kk
 rw [List.map_set] at u
 exact u
end rules
theorem fR {α:Type} {xs:List α} {i:Int} {el v:α} (h:idx xs i=some el):idx (xs.set i.toNat v) i=some v:=by
 obtain ⟨h0,h1,_⟩:=ew h
 unfold idx;rw [if_pos h0,List.getElem?_set_self (by omega)]
theorem bZ.hs {w:World} {S:Nat→Prop} {h h':Heap} (r:bZ w S h) (s:HS h h'):bZ w S h':=by
 obtain ⟨q,hq⟩:=s.perm
 exact (r.perm hq).sub (List.sublist_append_left _ _)
theorem Has.hs {h h':Heap} (s:HS h h') {n:Nat} (hh:Has h' n):Has h n:=by
 obtain ⟨q,hq⟩:=s.perm
 obtain ⟨e,he,hb⟩:=hh
 exact ⟨e,hq.mem_iff.2 (List.mem_append_left _ he),hb⟩
theorem aH.fg {P:Program} {f:FuncId} {args:List AV} {h:Heap} {Q:AV→Heap→Prop} (c:aH P f args h (fun r h1=>∃ h',HS h1 h'∧Q r h')):aH P f args h Q:=
 fun w S vs r hl ha=>(c w S vs r hl ha).mono fun _ _ ⟨v,r,_,S',h1,⟨h',hs,hq⟩,h3,h4,h5⟩=>⟨v,r,h',S',h1,hq,h3,h4.hs hs,h5.less fun _ hn=>hn.hs hs⟩
theorem aj.eqs {n s:Nat} {tm:List (Nat×AV)} {hp:Heap} {T:St→Prop} {av dt:AV} (hs:lk tm s=some av) (he:dt=av) (k:aj ⟨n,(s,dt) :: tm,hp⟩ T):aj ⟨n,tm,hp⟩ T:=by
 subst he
 exact aj.co hs (.refl _) k
theorem AP {hp bY:Heap} {b:Bk} {o:Ob} (u:iE hp b o b o bY):bY=hp:=by
 generalize hb:b=b',ho:o=o' at u
 have:∀ {h h':Heap} {b b':Bk} {o o':Ob},iE h b o b' o' h'→b=b'→o=o'→h'=h:=by
  intro h h' b b' o o' u
  induction u with
  | here=>rintro rfl rfl;rfl
  | next _ ih=>intro e1 e2;rw [ih e1 e2]
  | skip _ ih=>intro e1 e2;rw [ih e1 e2]
 subst hb ho
 exact this u rfl rfl
theorem aj.vC {n j:Nat} {tm:List (Nat×AV)} {hp bY:Heap} {T:St→Prop} {b:Bk} {cs lP:List AV} {av dt:AV} (u:iE hp b (.cells cs) b (.cells lP) bY) (hj:cs[j]? =some av) (he:dt=av) (hc:oV (cs.set j dt)=some lP) (k:aj ⟨n,tm,bY⟩ T):aj ⟨n,tm,hp⟩ T:=by
 subst he
 have Hi:cs.set j dt=cs:=by
  apply List.ext_getElem?
  intro i
  by_cases hi:j=i
  ·subst hi
   have gZ:=(List.getElem?_eq_some_iff.1 hj).1
   rw [List.getElem?_set_self gZ,hj]
  ·rw [List.getElem?_set_ne hi]
 rw [Hi] at hc
 obtain rfl:=j7 hc
 rw [AP u] at k
 exact k
theorem qY {p:Prop} [Decidable p] {x:Bool} (h:p):(decide p&&x)=x:=by simp [h]
theorem qZ {p:Prop} [Decidable p] {x:Bool} (h:¬ p):(decide p&&x)=false:=by simp [h]
theorem BJ {p:Prop} [Decidable p] {x:Bool} (h:p):(decide p||x)=true:=by simp [h]
theorem BK {p:Prop} [Decidable p] {x:Bool} (h:¬ p):(decide p||x)=x:=by simp [h]
theorem xA {b x:Bool} (h:b=true):(b&&x)=x:=by simp [h]
theorem xB {b x:Bool} (h:b=false):(b&&x)=false:=by simp [h]
theorem Es {b x:Bool} (h:b=true):(b||x)=true:=by simp [h]
theorem Et {b x:Bool} (h:b=false):(b||x)=x:=by simp [h]
def rV (P:Program) (k:Nat) (t:TypeId) (v u:Value) (b:Bool):Prop:=∀ d w,(Op.equalIn (d+k) t v u).run P w=.ok b w
theorem rV.up {P:Program} {k:Nat} {t:TypeId} {v u:Value} {b:Bool} (h:rV P k t v u b) (j:Nat):rV P (k+j) t v u b:=fun d w=>by
 rw [show d+(k+j)=(d+j)+k from by omega];exact h _ w
theorem rV.cast {P:Program} {k:Nat} {t:TypeId} {v u:Value} {b b':Bool} (h:rV P k t v u b) (e:b=b'):rV P k t v u b':=by rw [← e];exact h
inductive Gp (P:Program) (k:Nat) (xs ys:Array Value):List Field→Bool→Prop
 | nil:Gp P k xs ys [] true
 | cons {f:Field} {fs:List Field} {px py:Value} {b b':Bool} (hn:f.name≠"_") (hx:∀ w,(part f.type xs f.offset).run P w=.ok px w) (hy:∀ w,(part f.type ys f.offset).run P w=.ok py w) (he:rV P k f.type px py b) (kk:Gp P k xs ys fs b'):Gp P k xs ys (f :: fs) (b&&b')
theorem Gp.run {P:Program} {k:Nat} {xs ys:Array Value} {fs:List Field} {b:Bool} (h:Gp P k xs ys fs b) (d:Nat) (w:World):(Op.eqFields (d+k) xs ys fs).run P w=.ok b w:=by
 induction h with
 | nil=>simp [Op.eqFields]
 | @cons f fs px py b b' hn hx hy he kk ih=>
   simp only [Op.eqFields,hn,ne_eq,not_false_eq_true,if_true,Sem.run_bind,hx,hy,he d w,Result.andThen_ok]
   cases b
   ·simp
   ·simpa using ih
theorem rV.struct {P:Program} {k:Nat} {t:TypeId} {xs ys:Array Value} {fs:List Field} {b:Bool} (hu:P.underlying t=some (.struct fs.toArray)) (hp:P.stoodInHeld t=false) (h:Gp P k xs ys fs b):rV P (k+1) t (.agg xs) (.agg ys) b:=by
 intro d w
 have hf:P.fieldsOf t=fs.toArray:=by simp [Program.fieldsOf,hu]
 rw [show d+(k+1)=(d+k)+1 from rfl,run_equalIn_struct w (d+k) t xs ys (by rw [hf];exact hu) hp,hf]
 exact h.run d w
theorem bE {P:Program} {t:TypeId} {D:TypeDesc} [ay P t D] (hD:TypeDesc.jf D=false) {cs:Array Value} {off:Nat} {v:Value} (h:cs[off]? =some v) (w:World):(part t cs off).run P w=.ok v w:=by
 unfold part isAgg
 simp only [Sem.run_bind,run_underlying (ay.h (P:=P) (t:=t)),Result.andThen_ok]
 cases D<;>simp_all [TypeDesc.jf]
theorem CV {P:Program} {t:TypeId} {D:TypeDesc} {i:TypeInfo} [ay P t D] [aP P t i] (hD:TypeDesc.jf D=true) {cs:Array Value} {off n:Nat} (hn:i.size=n) (w:World):(part t cs off).run P w=.ok (.agg (cs.extract off (off+n))) w:=by
 subst hn
 unfold part isAgg
 simp only [Sem.run_bind,run_underlying (ay.h (P:=P) (t:=t)),Result.andThen_ok]
 cases D<;>simp_all [TypeDesc.jf,sizeOf,typeInfo,aP.h (P:=P) (t:=t)]
theorem gX.get {w:World} {S:Nat→Prop} {cs:List AV} {vs:Array Value} (hl:cs.length=vs.size) (ha:gX w S cs vs) {off:Nat} {c:AV} (hc:cs[off]? =some c):∃ v,vs[off]? =some v∧At w S c v:=by
 have gZ:=(List.getElem?_eq_some_iff.1 hc).1
 have:off < vs.size:=by omega
 exact ⟨vs[off],by simp [this],ha off c _ hc (by simp [this])⟩
theorem gX.sub {w:World} {S:Nat→Prop} {cs:List AV} {vs:Array Value} (hl:cs.length=vs.size) (ha:gX w S cs vs) (off n:Nat) (h:off+n≤cs.length):At w S (.agg ((cs.drop off).take n)) (.agg (vs.extract off (off+n))):=by
 refine .agg _ _ (by simp;omega) (fun i c v hc hv=>?_)
 simp only [List.getElem?_take,List.getElem?_drop] at hc
 split at hc
 ·rename_i hi
  refine ha (off+i) c v hc ?_
  rw [Array.getElem?_extract] at hv
  split at hv
  ·exact hv
  ·cases hv
 ·cases hc
class lr (P:Program) (t:TypeId) (k:outParam Nat) {α:Type} [DecidableEq α] (g:α→AV):Prop where
 h:∀ (x y:α) (w:World) (S:Nat→Prop) (v u:Value),At w S (g x) v→At w S (g y) u→rV P k t v u (decide (x=y))
class Eu (P:Program) (t:TypeId):Prop where
 h:P.eqGuardType P.depth t=false
instance PE {P:Program} {t:TypeId} {k:IntKind} [ay P t (.int k)]:lr P t 1 (AV.int k):=⟨fun x y w S v u hv hu d w'=>by
 rw [hv.bR,hu.bR,Op.equalIn]
 simp [run_underlying (ay.h (P:=P) (t:=t))]
 rw [Bool.eq_iff_iff];simp⟩
instance Q0 {P:Program} {t:TypeId} [ay P t (.int .i64)]:lr P t 1 I:=PE (k:=.i64)
instance eqStr {P:Program} {t:TypeId} [ay P t .string]:lr P t 1 AV.str:=⟨fun x y w S v u hv hu d w'=>by
 rw [hv.ct,hu.ct,Op.equalIn]
 simp [run_underlying (ay.h (P:=P) (t:=t))]
 rw [Bool.eq_iff_iff]
 rw [beq_toListBytes,ByteArray.toList_eq,ByteArray.toList_eq]
 simp⟩
def eJ (k:IntKind) (x y:Int):Int:=x.fdiv (2 ^ min y.toNat k.bits)
section rules
variable {P:Program} {all:Array Oper} {rest:List Oper} {n:Nat} {tm:List (Nat×AV)} {hp:Heap} {Q:St→Prop} {d:Nat} {ty:TypeId} {pos:String} {af:Array Edge}
theorem LY {α:Type} [DecidableEq α] {g:α→AV} {X Y:α} {k:Nat} {xt yt:TypeId} {x y:Operand} {cs ds:List AV} [lr P xt k g] [Eu P xt] (hk:Nat.ble k 10000=true) (hx:bS tm x=some (.agg cs)) (hy:bS tm y=some (.agg ds)) (eX:g X=.agg cs) (eY:g Y=.agg ds):
 QV P ⟨some d,.binOp .eql xt x y yt,ty,pos,af,none⟩ ⟨n,tm,hp⟩ (.bool (decide (X=Y))):=by
 intro w S a r
 have hv:=aN (σ:=⟨n,tm,hp⟩) r hx
 have hu:=aN (σ:=⟨n,tm,hp⟩) r hy
 have he:=lr.h (P:=P) (t:=xt) (g:=g) X Y w S _ _ (by rw [eX];exact hv) (by rw [eY];exact hu)
 obtain ⟨vs,e1,_,_⟩:=hv.jo
 obtain ⟨us,e2,_,_⟩:=hu.jo
 refine ⟨.bool (decide (X=Y)),fun w1 _=>?_,.bool _⟩
 have h1:=run_eqGuard_agg (P:=P) w1 .eql xt x y vs us Eu.h
 rw [e1,e2] at he
 have h2:(Op.equal xt (.agg vs) (.agg us)).run P w1=.ok (decide (X=Y)) w1:=by
  have:=he (10000 - k) w1
  rw [Nat.sub_add_cancel (Nat.le_of_ble_eq_true hk)] at this
  exact this
 have h3:(binOp .eql xt (.agg vs) (.agg us)).run P w1=.ok (.bool (decide (X=Y))) w1:=by
  rw [show binOp .eql xt (.agg vs) (.agg us)=(do pure (.bool (← Op.equal xt (.agg vs) (.agg us)))) from rfl]
  simp [h2]
 simp [execOp,e1,e2,h1,h3]
theorem Fv {α:Type} [DecidableEq α] {g:α→AV} {X Y:α} {k:Nat} {xt yt:TypeId} {x y:Operand} {cs ds:List AV} [lr P xt k g] [Eu P xt] (hk:Nat.ble k 10000=true) (hx:bS tm x=some (.agg cs)) (hy:bS tm y=some (.agg ds)) (eX:g X=.agg cs) (eY:g Y=.agg ds):
 QV P ⟨some d,.binOp .neq xt x y yt,ty,pos,af,none⟩ ⟨n,tm,hp⟩ (.bool (decide (X≠Y))):=by
 intro w S a r
 have hv:=aN (σ:=⟨n,tm,hp⟩) r hx
 have hu:=aN (σ:=⟨n,tm,hp⟩) r hy
 have he:=lr.h (P:=P) (t:=xt) (g:=g) X Y w S _ _ (by rw [eX];exact hv) (by rw [eY];exact hu)
 obtain ⟨vs,e1,_,_⟩:=hv.jo
 obtain ⟨us,e2,_,_⟩:=hu.jo
 refine ⟨.bool (decide (X≠Y)),fun w1 _=>?_,.bool _⟩
 have h1:=run_eqGuard_agg (P:=P) w1 .neq xt x y vs us Eu.h
 rw [e1,e2] at he
 have h2:(Op.equal xt (.agg vs) (.agg us)).run P w1=.ok (decide (X=Y)) w1:=by
  have:=he (10000 - k) w1
  rw [Nat.sub_add_cancel (Nat.le_of_ble_eq_true hk)] at this
  exact this
 have h3:(binOp .neq xt (.agg vs) (.agg us)).run P w1=.ok (.bool (decide (X≠Y))) w1:=by
  rw [show binOp .neq xt (.agg vs) (.agg us)=(do pure (.bool (!(← Op.equal xt (.agg vs) (.agg us))))) from rfl]
  simp [h2]
 simp [execOp,e1,e2,h1,h3]
theorem BL {xt yt:TypeId} {x y:Operand} {s t:List UInt8} (hx:bS tm x=some (.str s)) (hy:bS tm y=some (.str t)):QV P ⟨some d,.binOp .leq xt x y yt,ty,pos,af,none⟩ ⟨n,tm,hp⟩ (.bool (Op.bytesLess s t||s==t)):=by
 refine fun w S a r=>⟨.bool (Op.bytesLess s t||s==t),fun w1 _=>?_,.bool _⟩
 simp [execOp,(aN (σ:=⟨n,tm,hp⟩) r hx).ct,(aN (σ:=⟨n,tm,hp⟩) r hy).ct,eqGuard_at_string,binOp,Op.stringOp,ByteArray.toList_eq]
theorem CW {k k':IntKind} {xt yt:TypeId} {x y:Operand} {i j:Int} (hx:bS tm x=some (.int k i)) (hy:bS tm y=some (.int k' j)) (h0:¬ j < 0):QV P ⟨some d,.binOp .shr xt x y yt,ty,pos,af,none⟩ ⟨n,tm,hp⟩ (.int k (eJ k i j)):=by
 refine fun w S a r=>⟨.int k (eJ k i j),fun w1 _=>?_,.int _ _⟩
 simp [execOp,(aN (σ:=⟨n,tm,hp⟩) r hx).bR,(aN (σ:=⟨n,tm,hp⟩) r hy).bR,eqGuard_at_int,binOp,Op.shift,h0,eJ]
end rules
end Go.Eng
namespace Go.Eng
open Go Go.RowKit
variable [bz]
theorem AR (l:List Int):flat (l.map I)=l.map I:=by
 induction l with
 | nil=>rfl
 | cons x r ih=>rw [List.map_cons,ij,ih];rfl
theorem HV {P:Program} {f:FuncId} {a:Option Addr} {len cap:Nat} {zs:List Int} {w:World}
 (Gq:(a=none∧len=0∧cap=0∧zs=[])∨∃ x,a=some x∧len≤cap∧cap≤maxLen∧zs.length=cap∧(∀ i,i < zs.length→w.cell? (x.add i)=some (.int .i64 (zs.getD i 0)))∧∀ n∈zs,(Lit.int .i64 n).wf=true)
 (hG:∀ g o,bz.Pe g=some o→g < w.heap.size∧o (w.heap[g]?))
 (c:∀ l:List Int,Pu P f [.list 1 (l.map I)] (.bool true)):
 Calls P f #[.slice a len cap] w fun e w'=>e=.returned (.bool true)∧Below w.heap.size w w':=by
 let S:Nat→Prop:=fun n=>n < w.heap.size
 have lU:∃ l:List Int,At w S (.list 1 (l.map I)) (.slice a len cap):=by
  rcases Gq with ⟨rfl,rfl,rfl,rfl⟩ | ⟨x,rfl,h1,h2,h3,h4,h5⟩
  ·exact ⟨[],.list 1 [] none 0 [] (by simp) rfl (by simp [flat]) (by simp) (by simp)⟩
  ·refine ⟨zs.take len,?_⟩
   have hl:((zs.take len).map I).length=len:=by simp;omega
   have key:=At.list (w:=w) (S:=S) 1 ((zs.take len).map I) (some x) cap ((zs.take len).map (fun n=>Value.int .i64 n)) ?_ ?_ ?_ ?_ ?_
   ·rw [hl] at key;exact key
   ·intro y hy
    obtain ⟨n,_,rfl⟩:=List.mem_map.1 hy
    exact ⟨rfl,fun c hc=>by simp [AV.cells] at hc;subst hc;rfl⟩
   ·rw [AR];simp
   ·intro i c v hc hv
    rw [AR,List.getElem?_map] at hc
    rw [List.getElem?_map] at hv
    cases hn:(zs.take len)[i]? with
    | none=>rw [hn] at hc;cases hc
    | some n=>
      rw [hn] at hc hv
      obtain rfl:=Option.some.inj hc
      obtain rfl:=Option.some.inj hv
      exact .int _ _
   ·intro i v hv
    rw [List.getElem?_map] at hv
    cases hn:(zs.take len)[i]? with
    | none=>rw [hn] at hv;cases hv
    | some n=>
      rw [hn] at hv
      obtain rfl:=Option.some.inj hv
      have hi:i < zs.length:=by
       have:=(List.getElem?_eq_some_iff.1 hn).1
       simp at this;omega
      have hz:zs.getD i 0=n:=by
       rw [List.getElem?_take] at hn
       split at hn
       ·rw [List.getD_eq_getElem?_getD,hn];rfl
       ·cases hn
      have ta:=h4 i hi
      rw [hz] at ta
      obtain ⟨bk,of,sp⟩:=x
      have LK:sp=none:=by
       cases sp with
       | none=>rfl
       | some q=>
         have PF:=h4 0 (by omega)
         unfold World.cell? Addr.add at PF
         simp only [if_true] at PF
         split at PF
         ·simp at PF
         ·cases PF
      subst LK
      rw [je] at ta
      have hblk:bk < w.heap.size:=by
       rcases Nat.lt_or_ge bk w.heap.size with h | h
       ·exact h
       ·unfold World.cell? at ta
        simp only [Array.getElem?_eq_none h] at ta
        cases ta
      exact ⟨_,rfl,rfl,hblk,ta⟩
   ·rw [hl];exact h1
 obtain ⟨l,lU⟩:=lU
 refine (c l w S #[.slice a len cap] (sY (fun n hn=>hn) hG) rfl ?_).mono ?_
 ·intro i c' v hc hv
  match i with
  | 0=>simp at hc hv;subst hc;subst hv;exact lU
  | i+1=>simp at hc
 ·rintro e w' ⟨v,r,h',S',rfl,rfl,h1,h2,h3⟩
  refine ⟨by rw [h1.kS],h3.os,h3.tape,h3.output,h3.size,fun k hk=>(h3.iH k hk).2⟩
end Go.Eng
namespace Go.Eng
open Go
variable [bz]
def fQ (e:Env) (d:Option Nat) (o:Option AV):Env:=match d with
 | some d=>fun s=>if d=s then o else e s
 | none=>e
theorem gz {e:Env} {d:Option Nat} {o:Option AV} {s:Nat} (h:d≠some s):fQ e d o s=e s:=by
 cases d with
 | none=>rfl
 | some d=>simp only [fQ];rw [if_neg (fun e=>h (by rw [e]))]
theorem jt {e:Env} {o:Option AV} {s:Nat}:fQ e (some s) o s=o:=by simp [fQ]
section order
variable {P:Program} {all:Array Oper} {n m:Nat} {hp:Heap}
def nM (all:Array Oper) (gP:Nat→Option AV) (e:Env) (listed:Array Bool):Nat→Env
 | 0=>e
 | k+1=>if listed.getD k false then fQ (nM all gP e listed k) ((all[k]?).bind (·.dst)) (gP k) else nM all gP e listed k
variable {gP:Nat→Option AV} {en:Nat→Env} {e:Env}
theorem AS (hB:qj all m) {listed:Array Bool} (L:Ft all m listed) (h0:en 0=e) (hs:∀ i o,i < m→all[i]? =some o→en (i+1)=fQ (en i) o.dst (gP i)) (hm:m≤all.size)
 {i:Nat} {o:Oper} (ho:all[i]? =some o) (zS:i < m) (pe:listed.getD i false=false) (hr:∀ j,pw all i j→listed.getD j false=true) {s:Nat} (Hk:s∈looks all o):∀ k,k≤all.size→nM all gP e listed k s=en (min k i) s:=by
 intro k
 induction k with
 | zero=>intro _;simp [nM,h0]
 | succ k ih=>
   intro hk
   have sC:=ih (by omega)
   have qk:all[k]? =some all[k]:=by simp [show k < all.size by omega]
   simp only [nM,qk,Option.bind_some]
   rcases Nat.lt_trichotomy k i with gZ | heq | Fu
   ·rw [Nat.min_eq_left (by omega)] at sC
    rw [Nat.min_eq_left (by omega),hs k _ (by omega) qk]
    by_cases hd:(all[k]).dst=some s
    ·have hl:listed.getD k false=true:=hr k ((iy hB ho qk gZ).1 zS (uZ hd Hk))
     rw [if_pos hl,hd,jt,jt]
    ·rw [gz hd]
     split
     ·rw [gz hd];exact sC
     ·exact sC
   ·subst heq
    rw [pe]
    simp only [Bool.false_eq_true,if_false]
    rw [Nat.min_eq_right (by omega)]
    rw [Nat.min_eq_right (by omega)] at sC
    exact sC
   ·rw [Nat.min_eq_right (by omega)] at sC
    rw [Nat.min_eq_right (by omega)]
    by_cases hl:listed.getD k false=true
    ·by_cases hd:(all[k]).dst=some s
     ·exfalso
      have hw:=(iy hB qk ho Fu).1 (L.head k hl) (xw hd Hk)
      have:=gR.HJ L.closed hw hl
      rw [pe] at this;cases this
     ·rw [if_pos hl,gz hd];exact sC
    ·rw [if_neg hl];exact sC
theorem CX (hB:qj all m) {listed:Array Bool} (L:Ft all m listed) {i:Nat} {o:Oper} (ho:all[i]? =some o) (zS:i < m) (pe:listed.getD i false=false) (s:Nat):
 ∀ k,k≤all.size→nM all gP e (listed.setIfInBounds i true) k s=(if i < k then fQ (nM all gP e listed k) o.dst (gP i) s else nM all gP e listed k s):=by
 have hi:i < listed.size:=by rw [L.size];exact (Array.getElem?_eq_some_iff.1 ho).1
 intro k
 induction k with
 | zero=>intro _;simp [nM]
 | succ k ih=>
   intro hk
   have sC:=ih (by omega)
   have qk:all[k]? =some all[k]:=by simp [show k < all.size by omega]
   simp only [nM,qk,Option.bind_some,cK hi]
   rcases Nat.lt_trichotomy k i with gZ | heq | Fu
   ·rw [if_neg (by omega)] at sC
    have e1:(if k=i then true else listed.getD k false)=listed.getD k false:=if_neg (by omega)
    rw [e1,if_neg (show ¬ i < k+1 by omega)]
    by_cases hl:listed.getD k false=true
    ·rw [if_pos hl,if_pos hl]
     by_cases hd:(all[k]).dst=some s
     ·rw [hd,jt,jt]
     ·rw [gz hd,gz hd];exact sC
    ·rw [if_neg hl,if_neg hl];exact sC
   ·subst heq
    rw [if_neg (by omega)] at sC
    have e1:(if k=k then true else listed.getD k false)=true:=if_pos rfl
    rw [e1,if_pos (show k < k+1 by omega),if_pos rfl,pe,if_neg Bool.false_ne_true]
    obtain rfl:all[k]=o:=by rw [qk] at ho;exact Option.some.inj ho
    by_cases hd:(all[k]).dst=some s
    ·rw [hd,jt,jt]
    ·rw [gz hd,gz hd];exact sC
   ·rw [if_pos Fu] at sC
    have e1:(if k=i then true else listed.getD k false)=listed.getD k false:=if_neg (by omega)
    rw [e1,if_pos (show i < k+1 by omega)]
    by_cases hl:listed.getD k false=true
    ·rw [if_pos hl,if_pos hl]
     by_cases hd:(all[k]).dst=some s
     ·by_cases Gk:o.dst=some s
      ·exfalso
       have hw:=(iy hB qk ho Fu).1 (L.head k hl) (AO Gk hd)
       have:=gR.HJ L.closed hw hl
       rw [pe] at this;cases this
      ·rw [hd,jt,gz Gk,jt]
     ·by_cases Gk:o.dst=some s
      ·rw [gz hd,sC,Gk,jt,jt]
      ·rw [gz hd,sC,gz Gk,gz Gk,gz hd]
    ·rw [if_neg hl,if_neg hl];exact sC
structure Tok where
 prod:Option Nat
 cons:Option Nat
 R8:List Nat
 Yj:Bk→Bk×Ob
 Q1:Option Nat
 US:List Nat
def Tok.ix (t:Tok):Option Nat:=match t.Q1 with | some a=>some a | none=>t.prod
def Tok.at (t:Tok) (β:Nat→Bk):Bk×Ob:=t.Yj (match t.ix with | some i=>β i | none=>⟨none,0⟩)
def vc (listed:Array Bool) (t:Tok):Bool:=(match t.prod with | none=>true | some i=>listed.getD i false)&&(match t.cons with | none=>true | some i=>!listed.getD i false)
def xU (i:Nat) (t:Tok):Bool:=match t.cons with | some c=>Nat.beq c i | none=>false
def Kq (i:Nat) (t:Tok):Bool:=match t.prod with | some c=>Nat.beq c i | none=>false
def Fw (i:Nat) (t:Tok):Bool:=t.R8.contains i
def vD (tk:List Tok) (i:Nat) (β:Nat→Bk):Heap:=(tk.filter (Fw i)).map (·.at β)
def JK (i:Nat) (t:Tok):Bool:=t.US.contains i
def rW (tk:List Tok) (i:Nat) (β:Nat→Bk):List Heap:=match tk.filter (JK i) with
 | []=>[vD tk i β]
 | l=>l.map fun t=>t.at β :: vD tk i β
def oX (tk:List Tok) (listed:Array Bool) (β:Nat→Bk):Heap:=(tk.filter (vc listed)).map (·.at β)
def qB (tk:List Tok) (i:Nat) (β:Nat→Bk):Heap:=(tk.filter (xU i)).map (·.at β)
def iW (tk:List Tok) (i:Nat) (β:Nat→Bk):Heap:=(tk.filter (Kq i)).map (·.at β)
def mD (β:Nat→Bk) (i:Nat) (b:Bk):Nat→Bk:=fun k=>bif Nat.beq k i then b else β k
theorem Kr (β:Nat→Bk) (i:Nat) (b:Bk):mD β i b i=b:=by simp [mD]
theorem Fx {β:Nat→Bk} {i k:Nat} {b:Bk} (h:k≠i):mD β i b k=β k:=by simp [mD,mj h]
def sE (tk:List Tok) (β:Nat→Bk):Heap:=(tk.filter (fun t=>t.cons.isNone)).map (·.at β)
def PG (A:List Nat) (m:Nat) (tk:List Tok):Bool:=tk.all fun t=>
 (match t.prod with | some p=>Nat.blt p m | none=>true)&&(match t.cons with | some c=>Nat.blt c m&&(match t.prod with | some p=>(A.getD c 0).testBit p | none=>true) | none=>true)&&
 (match t.Q1 with | some a=>(match t.prod with | some p=>(A.getD p 0).testBit a | none=>false) | none=>true)&&
 t.R8.all fun i=>Nat.blt i m&&(match t.prod with | some p=>(A.getD i 0).testBit p | none=>true)&&(match t.cons with | some c=>(A.getD c 0).testBit i | none=>true)
def LZ (A:List Nat) (m:Nat) (tk:List Tok):Bool:=(List.range m).all fun i=>match tk.filter (JK i) with
 | []=>true
 | [t0,t1]=>(match t0.cons,t1.prod with | some j,some j'=>Nat.beq j j'&&!Nat.beq j i | _,_=>false)&&(match t0.prod with | some p=>(A.getD i 0).testBit p | none=>true)&&(match t1.cons with | some c=>(A.getD c 0).testBit i | none=>true)&&!Fw i t0&&!Fw i t1
 | _=>false
def Ev (all:Array Oper) (m:Nat) (tk:List Tok):Prop:=∀ i,i < m→tk.filter (JK i)=[]∨∃ t0 t1 j,tk.filter (JK i)=[t0,t1]∧t0.cons=some j∧t1.prod=some j∧j≠i∧(∀ p,t0.prod=some p→pw all i p)∧(∀ c,t1.cons=some c→pw all c i)∧Fw i t0=false∧Fw i t1=false
theorem Ew {A:List Nat} {tk:List Tok} (hA:Aa all=A) (h:LZ A m tk=true):Ev all m tk:=by
 intro i hi
 have:=List.all_eq_true.1 h i (List.mem_range.2 hi)
 split at this
 ·rename_i e;exact .inl e
 ·rename_i t0 t1 e
  simp only [Bool.and_eq_true,Bool.not_eq_true'] at this
  obtain ⟨⟨⟨⟨h1,h2⟩,h3⟩,h4⟩,h5⟩:=this
  split at h1
  ·rename_i j j' hj R9
   simp only [Bool.and_eq_true,Bool.not_eq_true'] at h1
   obtain ⟨h6,h7⟩:=h1
   obtain rfl:=Nat.eq_of_beq_eq_true h6
   refine .inr ⟨t0,t1,j,e,hj,R9,fun e=>by rw [e] at h7;simp at h7,fun p hp=>?_,fun c hc=>?_,h4,h5⟩
   ·rw [hp] at h2;subst hA;exact iP h2
   ·rw [hc] at h3;subst hA;exact iP h3
  ·cases h1
 ·cases this
def yP (all:Array Oper) (m:Nat) (tk:List Tok):Prop:=∀ t∈tk,(∀ p,t.prod=some p→p < m)∧(∀ c,t.cons=some c→c < m∧∀ p,t.prod=some p→pw all c p)∧(∀ i,Fw i t=true→i < m∧(∀ p,t.prod=some p→pw all i p)∧∀ c,t.cons=some c→pw all c i)∧∀ a,t.Q1=some a→∃ p,t.prod=some p∧pw all p a
theorem Gr {A:List Nat} {tk:List Tok} (hA:Aa all=A) (h:PG A m tk=true):yP all m tk:=by
 intro t ht
 have:=List.all_eq_true.1 h t ht
 rw [Bool.and_eq_true,Bool.and_eq_true,Bool.and_eq_true] at this
 obtain ⟨⟨⟨h1,h2⟩,h9⟩,h4⟩:=this
 subst hA
 refine ⟨fun p hp=>by rw [hp] at h1;simpa using h1,fun c hc=>?_,fun i hi=>?_,fun a ha=>?_⟩
 ·rw [hc] at h2
  simp only [Bool.and_eq_true] at h2
  refine ⟨by simpa using h2.1,fun p hp=>?_⟩
  have h3:=h2.2
  rw [hp] at h3
  exact iP h3
 ·have h5:=List.all_eq_true.1 h4 i (by simpa [Fw] using hi)
  rw [Bool.and_eq_true,Bool.and_eq_true] at h5
  obtain ⟨⟨h6,h7⟩,h8⟩:=h5
  exact ⟨by simpa using h6,fun p hp=>by rw [hp] at h7;exact iP h7,fun c hc=>by rw [hc] at h8;exact iP h8⟩
 ·rw [ha] at h9
  cases hp:t.prod with
  | none=>rw [hp] at h9;cases h9
  | some p=>rw [hp] at h9;exact ⟨p,rfl,iP h9⟩
theorem rZ {α:Type} (p q:α→Bool) (l:List α):(l.filter p).Perm (l.filter (fun x=>p x&&q x)++l.filter (fun x=>p x&&!q x)):=by
 induction l with
 | nil=>exact List.Perm.refl _
 | cons x l ih=>
   simp only [List.filter_cons]
   cases hp:p x<;>cases hq:q x
   ·simpa using ih
   ·simpa using ih
   ·simp only [Bool.true_and,Bool.not_false,Bool.false_eq_true,if_false,if_true]
    exact (List.Perm.cons x ih).trans List.perm_middle.symm
   ·simp only [Bool.true_and,Bool.not_true,Bool.false_eq_true,if_false,if_true,List.cons_append]
    exact List.Perm.cons x ih
theorem MY {tk:List Tok} (hT:yP all m tk) {listed:Array Bool} {i:Nat} (pe:listed.getD i false=false) (qC:∀ j,pw all i j→listed.getD j false=true) (β:Nat→Bk):
 (oX tk listed β).Perm (qB tk i β++(tk.filter (fun t=>vc listed t&&!xU i t)).map (·.at β)):=by
 unfold oX qB
 rw [← List.map_append]
 refine List.Perm.map _ ?_
 have e:tk.filter (xU i)=tk.filter (fun t=>vc listed t&&xU i t):=by
  apply List.filter_congr
  intro t ht
  cases hc:xU i t with
  | false=>simp
  | true=>
    unfold xU at hc
    split at hc
    ·rename_i c Gs
     obtain rfl:c=i:=Nat.eq_of_beq_eq_true hc
     have:=(hT t ht).2.1 c Gs
     have Px:vc listed t=true:=by
      unfold vc
      rw [Gs]
      simp only [pe,Bool.not_false,Bool.and_true]
      split
      ·rfl
      ·rename_i p hp;exact qC p (this.2 p hp)
     rw [Px];rfl
    ·cases hc
 rw [e]
 exact rZ _ _ _
theorem Ks {tk:List Tok} (hT:yP all m tk) {listed:Array Bool} (wA:gR all listed) {i:Nat} (hi:i < listed.size) (pe:listed.getD i false=false) (BM:∀ c,pw all c i→c≠i) (β:Nat→Bk) (b:Bk):
 (oX tk (listed.setIfInBounds i true) (mD β i b)).Perm (iW tk i (mD β i b)++(tk.filter (fun t=>vc listed t&&!xU i t)).map (·.at β)):=by
 unfold oX iW
 have e2:(tk.filter (fun t=>vc listed t&&!xU i t)).map (·.at β)=(tk.filter (fun t=>vc listed t&&!xU i t)).map (·.at (mD β i b)):=by
  apply List.map_congr_left
  intro t ht
  have h0:=(List.mem_filter.1 ht).1
  have h1:=(List.mem_filter.1 ht).2
  rw [Bool.and_eq_true] at h1
  have QW:∀ p,t.prod=some p→listed.getD p false=true:=by
   intro p hp
   have:=h1.1
   unfold vc at this
   rw [hp,Bool.and_eq_true] at this
   exact this.1
  unfold Tok.at
  cases hx:t.ix with
  | none=>rfl
  | some p=>
    have N8:listed.getD p false=true:=by
     unfold Tok.ix at hx
     cases ha:t.Q1 with
     | none=>rw [ha] at hx;exact QW p hx
     | some a=>
       rw [ha] at hx
       obtain rfl:=Option.some.inj hx
       obtain ⟨q,q1,q2⟩:=(hT t h0).2.2.2 a ha
       exact wA.HJ q2 (QW q q1)
    have:p≠i:=fun e=>by subst e;rw [pe] at N8;cases N8
    simp only [Fx this]
 rw [e2,← List.map_append]
 refine List.Perm.map _ ?_
 refine (rZ _ (Kq i) _).trans ?_
 have f1:tk.filter (fun t=>vc (listed.setIfInBounds i true) t&&Kq i t)=tk.filter (Kq i):=by
  apply List.filter_congr
  intro t ht
  cases hp:Kq i t with
  | false=>simp
  | true=>
    unfold Kq at hp
    split at hp
    ·rename_i p Hm
     obtain rfl:p=i:=Nat.eq_of_beq_eq_true hp
     have Px:vc (listed.setIfInBounds p true) t=true:=by
      unfold vc
      rw [Hm]
      simp only [cK hi,if_true,Bool.true_and]
      cases hc:t.cons with
      | none=>rfl
      | some c=>
        have qC:=((hT t ht).2.1 c hc).2 p Hm
        have qN:=BM c qC
        simp only [qN,if_false]
        cases hl:listed.getD c false with
        | false=>rfl
        | true=>have:=wA.HJ qC hl;rw [pe] at this;cases this
     rw [Px];rfl
    ·cases hp
 have f2:tk.filter (fun t=>vc (listed.setIfInBounds i true) t&&!Kq i t)=tk.filter (fun t=>vc listed t&&!xU i t):=by
  apply List.filter_congr
  intro t ht
  unfold vc Kq xU
  cases hp:t.prod with
  | none=>
    cases hc:t.cons with
    | none=>simp
    | some c=>
      simp only [cK hi]
      by_cases JN:c=i
      ·subst JN;simp
      ·have:Nat.beq c i=false:=mj JN
       simp [JN,this]
  | some p=>
    by_cases Q2:p=i
    ·subst Q2
     simp [pe]
    ·have hb:Nat.beq p i=false:=mj Q2
     cases hc:t.cons with
     | none=>simp [cK hi,Q2,hb]
     | some c=>
       simp only [cK hi,Q2,hb,if_false]
       by_cases JN:c=i
       ·subst JN;simp
       ·have:Nat.beq c i=false:=mj JN
        simp [JN,this]
 rw [f1,f2]
theorem HW {tk:List Tok} (hT:yP all m tk) {listed:Array Bool} (wA:gR all listed) {i:Nat} (pe:listed.getD i false=false) (qC:∀ j,pw all i j→listed.getD j false=true) (BM:∀ c,pw all c i→c≠i) (β:Nat→Bk):
 ((tk.filter (fun t=>vc listed t&&!xU i t)).map (·.at β)).Perm (vD tk i β++(tk.filter (fun t=>(vc listed t&&!xU i t)&&!Fw i t)).map (·.at β)):=by
 unfold vD
 rw [← List.map_append]
 refine List.Perm.map _ ?_
 have e:tk.filter (Fw i)=tk.filter (fun t=>(vc listed t&&!xU i t)&&Fw i t):=by
  apply List.filter_congr
  intro t ht
  cases hr:Fw i t with
  | false=>simp
  | true=>
    obtain ⟨_,q2,q3⟩:=(hT t ht).2.2.1 i hr
    have h1:vc listed t=true:=by
     unfold vc
     have e1:(match t.prod with | none=>true | some i=>listed.getD i false)=true:=by
      cases hp:t.prod with
      | none=>rfl
      | some p=>exact qC p (q2 p hp)
     have e2:(match t.cons with | none=>true | some i=>!listed.getD i false)=true:=by
      cases hc:t.cons with
      | none=>rfl
      | some c=>
        have:=q3 c hc
        show (!listed.getD c false)=true
        cases hl:listed.getD c false with
        | false=>rfl
        | true=>have:=wA.HJ this hl;rw [pe] at this;cases this
     rw [e1,e2];rfl
    have h2:xU i t=false:=by
     unfold xU
     cases hc:t.cons with
     | none=>rfl
     | some c=>exact mj (BM c (q3 c hc))
    rw [h1,h2];rfl
 rw [e]
 exact rZ _ _ _
theorem Gt {tk:List Tok} (hT:yP all m tk) (hS:Ev all m tk) {listed:Array Bool} (wA:gR all listed) {i:Nat} (zS:i < m) (pe:listed.getD i false=false) (qC:∀ j,pw all i j→listed.getD j false=true) (BM:∀ c,pw all c i→c≠i) (β:Nat→Bk):
 ∃ X∈rW tk i β,∃ rest,((tk.filter (fun t=>vc listed t&&!xU i t)).map (·.at β)).Perm (X++rest):=by
 have h0:=HW hT wA pe qC BM β
 rcases hS i zS with e | ⟨t0,t1,j,e,a1,a2,a3,a4,a5,a6,a7⟩
 ·exact ⟨vD tk i β,by unfold rW;rw [e];simp,_,h0⟩
 ·have m0:t0∈tk:=(List.mem_filter.1 (by rw [e];simp:t0∈tk.filter (JK i))).1
  have m1:t1∈tk:=(List.mem_filter.1 (by rw [e];simp:t1∈tk.filter (JK i))).1
  have go:∀ t,t∈tk→vc listed t=true→xU i t=false→Fw i t=false→∃ rest,((tk.filter (fun t=>vc listed t&&!xU i t)).map (·.at β)).Perm ((t.at β :: vD tk i β)++rest):=by
   intro t ht h1 h2 h3
   have hm:t∈tk.filter (fun t=>(vc listed t&&!xU i t)&&!Fw i t):=List.mem_filter.2 ⟨ht,by simp [h1,h2,h3]⟩
   obtain ⟨a,b,AU⟩:=List.append_of_mem hm
   rw [AU] at h0
   refine ⟨(a++b).map (·.at β),h0.trans ?_⟩
   rw [List.map_append,List.map_cons,List.map_append]
   refine (List.Perm.append_left _ List.perm_middle).trans ?_
   exact List.perm_middle
  have hX:∀ t,t∈[t0,t1]→(t.at β :: vD tk i β)∈rW tk i β:=by
   intro t ht
   unfold rW
   rw [e]
   exact List.mem_map.2 ⟨t,ht,rfl⟩
  cases hj:listed.getD j false with
  | false=>
    have h1:vc listed t0=true:=by
     unfold vc
     rw [a1]
     simp only [hj,Bool.not_false,Bool.and_true]
     split
     ·rfl
     ·rename_i p hp;exact qC p (a4 p hp)
    have h2:xU i t0=false:=by unfold xU;rw [a1];exact mj a3
    obtain ⟨rest,hr⟩:=go t0 m0 h1 h2 a6
    exact ⟨_,hX t0 (by simp),rest,hr⟩
  | true=>
    have h1:vc listed t1=true:=by
     unfold vc
     rw [a2]
     simp only [hj,Bool.true_and]
     split
     ·rfl
     ·rename_i c hc
      cases hl:listed.getD c false with
      | false=>rfl
      | true=>have:=wA.HJ (a5 c hc) hl;rw [pe] at this;cases this
    have h2:xU i t1=false:=by
     unfold xU
     split
     ·rename_i c hc;exact mj (BM c (a5 c hc))
     ·rfl
    obtain ⟨rest,hr⟩:=go t1 m1 h1 h2 a7
    exact ⟨_,hX t1 (by simp),rest,hr⟩
def TV (P:Program) (all:Array Oper) (n:Nat) (B:Heap) (o:Oper) (e:Env) (Ti:Heap) (V:Bk→AV) (Pi:Bk→Heap):Prop:=
 ∀ w S a,a.tmps.size=n→a.defers=[]→bZ w S (Ti++B)→wK w S (looks all o) e a→∀ (K:Act→World→Prop) (Q:Exit→Act→World→Prop),
   (∀ b v w' S',gY w S (Ti++B) w' S' (Pi b++B)→bZ w' S' (Pi b++B)→At w' S' (V b) v→K (a.put o.dst v) w')→o.wp P a w K Q
def mF (P:Program) (all:Array Oper) (n:Nat) (B:Heap) (o:Oper) (e:Env) (Ti:Heap) (V:Bk→AV) (Pi:Bk→Heap):Prop:=
 (∀ d,o.dst=some d→d < n)∧((mC all o e true∧TV P all n B o e Ti V Pi)∨(mC all o e false∧∀ b,Pi b=Ti∧V b=.raw undef))
def wM (e c:Env):Env:=fun s=>match e s with | some av=>some av | none=>c s
theorem HX {e c:Env} {s:Nat} {av:AV} (h:e s=some av):wM e c s=some av:=by simp [wM,h]
theorem mC.up {all:Array Oper} {o:Oper} {e c:Env} {b:Bool} (h:mC all o e b):mC all o (wM e c) b:=by
 unfold mC at *
 cases hg:o.guard with
 | none=>rw [hg] at h;exact h
 | some g=>
   rw [hg] at h
   obtain ⟨s,h1,h2⟩:=h
   refine ⟨s,h1,?_⟩
   rcases h2 with ⟨x,h3,h4⟩ | ⟨h3,h4⟩
   ·exact .inl ⟨x,HX h3,h4⟩
   ·exact .inr ⟨HX h3,h4⟩
theorem wK.down {w:World} {S:Nat→Prop} {ls:List Nat} {e c:Env} {a:Act} (h:wK w S ls (wM e c) a):wK w S ls e a:=fun s hs av kC=>h s hs av (HX kC)
theorem mF.up {P:Program} {all:Array Oper} {n:Nat} {B:Heap} {o:Oper} {e c:Env} {Ti:Heap} {V:Bk→AV} {Pi:Bk→Heap} (h:mF P all n B o e Ti V Pi):mF P all n B o (wM e c) Ti V Pi:=by
 refine ⟨h.1,h.2.imp (fun x=>⟨x.1.up,fun w S a h1 h2 h3 h4=>x.2 w S a h1 h2 h3 h4.down⟩) (fun x=>⟨x.1.up,x.2⟩)⟩
theorem HY {all:Array Oper} {gP:Nat→Option AV} {V:Nat→Bk→AV} {cn:Nat→(Nat→Bk)→Env} {m:Nat} (h0:∀ β s,cn 0 β s=none) (hc:∀ i o,i < m→all[i]? =some o→∀ β,cn (i+1) β=match gP i with | none=>fQ (cn i β) o.dst (some (V i (β i))) | some _=>cn i β) (hm:m≤all.size):
 ∀ i,i≤m→∀ β s av,cn i β s=some av→∃ k o,k < i∧all[k]? =some o∧o.dst=some s∧gP k=none∧av=V k (β k):=by
 intro i
 induction i with
 | zero=>intro _ β s av h;rw [h0] at h;cases h
 | succ i ih=>
   intro hi β s av h
   have qk:all[i]? =some all[i]:=by simp [show i < all.size by omega]
   rw [hc i _ (by omega) qk] at h
   cases kC:gP i with
   | some x=>
     rw [kC] at h
     obtain ⟨k,o,h1,h2⟩:=ih (by omega) β s av h
     exact ⟨k,o,by omega,h2⟩
   | none=>
     rw [kC] at h
     by_cases hd:(all[i]).dst=some s
     ·simp only [hd,jt] at h
      exact ⟨i,_,by omega,qk,hd,kC,(Option.some.inj h).symm⟩
     ·simp only [gz hd] at h
      obtain ⟨k,o,h1,h2⟩:=ih (by omega) β s av h
      exact ⟨k,o,by omega,h2⟩
theorem Gu {cn:Nat→(Nat→Bk)→Env} {B:Heap} {tk:List Tok} {V:Nat→Bk→AV} (hB:qj all m) (hT:yP all m tk) (Yk:Ev all m tk) (hm:m≤all.size) {Q:Exit→Act→World→Prop} (h0:en 0=e)
 (Kn:∀ β s,cn 0 β s=none) (Yl:∀ i o,i < m→all[i]? =some o→∀ β,cn (i+1) β=match gP i with | none=>fQ (cn i β) o.dst (some (V i (β i))) | some _=>cn i β)
 (hs:∀ i o,i < m→all[i]? =some o→(∀ β,∀ X∈rW tk i β,mF P all n (X++B) o (wM (en i) (cn i β)) (qB tk i β) (V i) (fun b=>iW tk i (mD β i b)))∧en (i+1)=fQ (en i) o.dst (gP i)∧(∀ av,gP i=some av→∀ b,V i b=av))
 (hU:∀ i j oi oj d,i < m→j < m→i≠j→all[i]? =some oi→all[j]? =some oj→gP i=none→oi.dst=some d→oj.dst≠some d) {w0:World} {S0:Nat→Prop} {Q3:Heap}
 (fin:∀ β a w S,a.tmps.size=n→a.defers=[]→bZ w S (sE tk β++B)→gY w0 S0 Q3 w S (sE tk β++B)→sZ w S (en m) a→(∀ j o d,j < m→all[j]? =some o→gP j=none→o.dst=some d→∃ v,a.tmps[d]? =some v∧At w S (V j (β j)) v)→wpList P all Q (all.toList.drop m) a w):
 ∀ (fuel:Nat) (listed:Array Bool) (a:Act) (w:World) (S:Nat→Prop) (β:Nat→Bk),Ft all m listed→(listed.toList.count true)+fuel=all.size→a.tmps.size=n→a.defers=[]→bZ w S (oX tk listed β++B)→gY w0 S0 Q3 w S (oX tk listed β++B)→sZ w S (nM all gP e listed all.size) a→
   (∀ j o d,listed.getD j false=true→all[j]? =some o→gP j=none→o.dst=some d→∃ v,a.tmps[d]? =some v∧At w S (V j (β j)) v)→
   wpAny P .any all Q fuel listed a w:=by
 have Hl:∀ i o,i < m→all[i]? =some o→en (i+1)=fQ (en i) o.dst (gP i):=fun i o h1 h2=>(hs i o h1 h2).2.1
 have BM:∀ c i,pw all c i→c≠i:=by
  have key:∀ c i,pw all c i→i < c:=by
   intro c i h
   have one:∀ {j i:Nat} {oj:Oper},all[j]? =some oj→waits oj i=true→i < j:=by
    intro j i oj hj hw
    simp only [waits,List.any_eq_true,Bool.and_eq_true] at hw
    obtain ⟨e',Gl,xo,MT⟩:=hw
    have:=uY hB hj (by simpa using Gl) xo
    obtain rfl:e'.on=i:=Nat.eq_of_beq_eq_true MT
    exact this
   induction h with
   | one hj hw=>exact one hj hw
   | step hj hw _ ih=>have:=one hj hw;omega
  intro c i h e;have:=key c i h;omega
 have done:∀ (fuel:Nat) (listed:Array Bool) (a:Act) (w:World) (S:Nat→Prop) (β:Nat→Bk),Ft all m listed→(listed.toList.count true)+fuel=all.size→a.tmps.size=n→a.defers=[]→bZ w S (oX tk listed β++B)→gY w0 S0 Q3 w S (oX tk listed β++B)→sZ w S (nM all gP e listed all.size) a→
  (∀ j o d,listed.getD j false=true→all[j]? =some o→gP j=none→o.dst=some d→∃ v,a.tmps[d]? =some v∧At w S (V j (β j)) v)→
  (∀ i,i < m→listed.getD i false=true)→wpAny P .any all Q fuel listed a w:=by
  intro fuel listed a w S β L hc eF tV hr hg qa Ex ga
  have Ec:∀ i,m≤i→listed.getD i false=false:=fun i hi=>by
   cases hv:listed.getD i false with
   | false=>rfl
   | true=>have:=L.head i hv;omega
  have HM:listed.toList.count true=m:=by
   have:listed.toList=List.replicate m true++List.replicate (all.size - m) false:=by
    apply List.ext_getElem?
    intro i
    rcases Nat.lt_or_ge i m with hi | hi
    ·have iV:i < listed.size:=by rw [L.size];omega
     rw [List.getElem?_append_left (by simpa using hi)]
     have:=ga i hi
     simp [iV] at this
     simp [iV,hi,this]
    ·rw [List.getElem?_append_right (by simpa using hi)]
     rcases Nat.lt_or_ge i listed.size with iV | iV
     ·have:=Ec i hi
      simp [iV] at this
      have h2:i - m < all.size - m:=by rw [L.size] at iV;omega
      simp [iV,h2,this]
     ·have h2:¬ i - m < all.size - m:=by rw [L.size] at iV;omega
      simp [List.getElem?_eq_none (l:=listed.toList) (by simpa using iV),h2]
   rw [this,List.count_append,List.count_replicate,List.count_replicate]
   simp
  have HN:nM all gP e listed all.size=en m:=by
   have key:∀ k,k≤all.size→nM all gP e listed k=en (min k m):=by
    intro k
    induction k with
    | zero=>intro _;simp [nM,h0]
    | succ k ih=>
      intro hk
      have qk:all[k]? =some all[k]:=by simp [show k < all.size by omega]
      simp only [nM,qk,Option.bind_some,ih (by omega)]
      rcases Nat.lt_or_ge k m with h | h
      ·rw [if_pos (ga k h),Nat.min_eq_left (by omega),Nat.min_eq_left (by omega),Hl k _ h qk]
      ·rw [if_neg (by rw [Ec k h];simp),Nat.min_eq_right (by omega),Nat.min_eq_right (by omega)]
   rw [key all.size (Nat.le_refl _),Nat.min_eq_right hm]
  have PH:oX tk listed β=sE tk β:=by
   unfold oX sE
   congr 1
   apply List.filter_congr
   intro t ht
   obtain ⟨q1,q2,_⟩:=hT t ht
   unfold vc
   cases hp:t.prod with
   | none=>
     cases hc:t.cons with
     | none=>rfl
     | some c=>simp [ga c (q2 c hc).1]
   | some p=>
     cases hc:t.cons with
     | none=>simp [ga p (q1 p hp)]
     | some c=>simp [ga c (q2 c hc).1]
  rw [HN] at qa
  rw [PH] at hr hg
  exact yK hB fuel m listed a w (Nat.le_refl _) (by omega) L.size ga Ec (fin β a w S eF tV hr hg qa (fun j o d hj ho kC hd=>Ex j o d (ga j hj) ho kC hd))
 intro fuel
 induction fuel with
 | zero=>
   intro listed a w S β L hc eF tV hr hg qa Ex
   refine done 0 listed a w S β L hc eF tV hr hg qa Ex (fun i hi=>?_)
   have wL:listed.toList.count true=listed.toList.length:=by rw [Array.length_toList,L.size];omega
   have ga:=List.count_eq_length.1 wL
   have iV:i < listed.size:=by rw [L.size];omega
   have:=ga listed[i] (by simp)
   simp [iV];exact this.symm
 | succ fuel ih=>
   intro listed a w S β L hc eF tV hr hg qa Ex
   by_cases ga:∀ i,i < m→listed.getD i false=true
   ·exact done _ listed a w S β L hc eF tV hr hg qa Ex ga
   ·refine ⟨fun Er=>(ga fun i hi=>tT hB L.size Er i (by omega)).elim,fun i hi=>?_⟩
    obtain ⟨CQ,Ep⟩:=qV hi
    have pe:=vy Ep
    have tU:all[i]? =some all[i]:=by simp [CQ]
    have zS:i < m:=by
     rcases Nat.lt_or_ge i m with h | h
     ·exact h
     ·refine (ga fun j hj=>?_).elim
      have Hj:all[j]? =some all[j]:=by simp [show j < all.size by omega]
      exact gR.ready L.closed ((iy hB tU Hj (by omega)).2 h) hi
    have iV:i < listed.size:=by rw [L.size];exact CQ
    obtain ⟨Sa,_,hV⟩:=hs i _ zS tU
    obtain ⟨X,hX,rest,UT⟩:=Gt hT Yk L.closed zS pe (fun j hj=>gR.ready L.closed hj hi) (fun c h=>BM c i h) β
    obtain ⟨Hh,xx⟩:=Sa β X hX
    have nJ:wK w S (looks all all[i]) (wM (en i) (cn i β)) a:=by
     intro s Hk av kC
     rw [wM] at kC
     cases MZ:en i s with
     | none=>
       rw [MZ] at kC
       obtain ⟨k,o,k1,k2,k3,k4,k5⟩:=HY Kn Yl hm i (by omega) β s av kC
       have Fy:listed.getD k false=true:=gR.ready L.closed ((iy hB tU k2 k1).1 zS (uZ k3 Hk)) hi
       rw [k5]
       exact Ex k o s Fy k2 k4 k3
     | some dt=>
     rw [MZ] at kC
     obtain rfl:=Option.some.inj kC
     have hc:=AS (gP:=gP) (en:=en) (e:=e) hB L h0 Hl hm tU zS pe (fun j hj=>gR.ready L.closed hj hi) Hk all.size (Nat.le_refl _)
     rw [Nat.min_eq_right (by omega)] at hc
     exact qa s dt (by rw [hc];exact MZ)
    have L':Ft all m (listed.setIfInBounds i true):=by
     refine ⟨by simpa using L.size,fun k hk=>?_,fun k j o hk qk hw=>?_⟩
     ·rw [cK iV] at hk
      split at hk
      ·omega
      ·exact L.head k hk
     ·rw [cK iV] at hk
      rw [cK iV]
      split
      ·rfl
      ·split at hk
       ·rename_i PA
        subst PA
        obtain rfl:all[k]=o:=by rw [tU] at qk;exact Option.some.inj qk
        exact oy tU hi hw
       ·exact L.closed k j o hk qk hw
    have wL:(listed.setIfInBounds i true).toList.count true+fuel=all.size:=by
     have CR:listed[i]=false:=by simpa [iV] using pe
     have:(listed.setIfInBounds i true).toList=listed.toList.set i true:=by simp
     rw [this,List.count_set (by simpa using iV)]
     have JJ:listed.toList[i]'(by simpa using iV)=false:=by simpa using CR
     rw [JJ]
     have e1:(if (false==true)=true then 1 else 0)=0:=rfl
     have e2:(if (true==true)=true then 1 else 0)=1:=rfl
     rw [e1,e2]
     omega
    have PI:∀ T:Heap,(T++(X++rest)++B).Perm ((T++(X++B))++rest):=fun T=>by
     rw [List.append_assoc,List.append_assoc,List.append_assoc,List.append_assoc]
     exact List.Perm.append_left _ (List.Perm.append_left _ List.perm_append_comm)
    have UU:(oX tk listed β++B).Perm ((qB tk i β++(X++B))++rest):=
     (((MY hT pe (fun j hj=>gR.ready L.closed hj hi) β).trans (List.Perm.append_left _ UT)).append_right B).trans (PI _)
    have PJ:∀ b,((iW tk i (mD β i b)++(X++B))++rest).Perm (oX tk (listed.setIfInBounds i true) (mD β i b)++B):=fun b=>
     List.Perm.symm ((((Ks hT L.closed iV pe (fun c h=>BM c i h) β b).trans (List.Perm.append_left _ UT)).append_right B).trans (PI _))
    have Sb:bZ w S ((qB tk i β++(X++B))++rest):=hr.perm UU
    have MU:∀ v,(a.put (all[i]).dst v).tmps.size=n:=fun v=>by cases (all[i]).dst<;>simp [Act.put,eF]
    have MW:∀ v,(a.put (all[i]).dst v).defers=[]:=fun v=>by cases (all[i]).dst<;>simp [Act.put,tV]
    have Sc:∀ {w1 w2:World} {S1 S2:Nat→Prop} {h1 h2 z6 Fl:Heap},gY w1 S1 h1 w2 S2 h2→h1.Perm z6→h2.Perm Fl→gY w1 S1 z6 w2 S2 Fl:=by
     intro w1 w2 S1 S2 h1 h2 z6 Fl ev p1 p2
     have has:∀ {g g':Heap} {k:Nat},g.Perm g'→(Has g k↔Has g' k):=fun p=>
      ⟨fun ⟨x,hx,hb⟩=>⟨x,p.mem_iff.1 hx,hb⟩,fun ⟨x,hx,hb⟩=>⟨x,p.mem_iff.2 hx,hb⟩⟩
     exact ⟨ev.os,ev.tape,ev.output,ev.size,ev.iH,fun k hk hh=>ev.other k hk (fun hc=>hh ((has p1).1 hc)),fun k hk=>((ev.new k ((has p2).2 hk)).imp (has p1).1 id),ev.drawn⟩
    have next:∀ (b:Bk) (v:Value) (w':World) (S':Nat→Prop),gY w S (qB tk i β++(X++B)) w' S' (iW tk i (mD β i b)++(X++B))→bZ w' S' (iW tk i (mD β i b)++(X++B))→At w' S' (V i b) v→wpAny P .any all Q fuel (listed.setIfInBounds i true) (a.put (all[i]).dst v) w':=by
     intro b v w' S' Kt Ku lU
     have LO:bZ w' S' ((iW tk i (mD β i b)++(X++B))++rest):=Sb.frame Kt Ku
     have Ym:=Kt.frame rest
     refine ih _ _ _ S' (mD β i b) L' wL (MU v) (MW v) (LO.perm (PJ b)) (hg.trans (Sc Ym UU.symm (PJ b))) ?_ ?_
     ·intro s av kC
      rw [CX (gP:=gP) (e:=e) hB L tU zS pe s all.size (Nat.le_refl _),if_pos (by omega)] at kC
      by_cases hd:(all[i]).dst=some s
      ·rw [hd,jt] at kC
       have Kl:=Hh s hd
       exact ⟨v,by rw [hd];simp [Act.put,eF,Kl],by rw [← hV av kC b];exact lU⟩
      ·rw [gz hd] at kC
       obtain ⟨u,h1,h2⟩:=qa s av kC
       refine ⟨u,?_,h2.mono Kt.iH⟩
       cases Km:(all[i]).dst with
       | none=>simpa [Act.put] using h1
       | some d'=>
         have qN:d'≠s:=fun e=>hd (by rw [Km,e])
         simp [Act.put,qN,h1]
     ·intro j o d hj ho kC hd
      by_cases Of:j=i
      ·subst Of
       rw [tU] at ho;obtain rfl:=Option.some.inj ho
       have Kl:=Hh d hd
       exact ⟨v,by rw [hd];simp [Act.put,eF,Kl],by rw [Kr];exact lU⟩
      ·have CD:listed.getD j false=true:=by rw [cK iV,if_neg Of] at hj;exact hj
       obtain ⟨u,h1,h2⟩:=Ex j o d CD ho kC hd
       refine ⟨u,?_,by rw [Fx Of];exact h2.mono Kt.iH⟩
       cases Km:(all[i]).dst with
       | none=>simpa [Act.put] using h1
       | some d'=>
         have qN:d'≠d:=fun e=>hU j i o all[i] d (L.head j CD) zS Of ho tU kC hd (by rw [Km,e])
         simp [Act.put,qN,h1]
    simp only [wpOp,tU]
    rcases xx with ⟨hw,JM⟩ | ⟨hw,kC⟩
    ·rw [if_pos (js hw nJ)]
     exact .inl (JM w S a eF tV (Sb.sub (List.sublist_append_left _ _)) nJ _ _ (fun b v w' S' Kt Ku lU=>next b v w' S' Kt Ku lU))
    ·rw [if_neg (by rw [js hw nJ];simp)]
     obtain ⟨e1,e2⟩:=kC ⟨none,0⟩
     replace e1:iW tk i (mD β i ⟨none,0⟩)=qB tk i β:=e1
     refine next ⟨none,0⟩ _ w S (by rw [e1];exact gY.refl _ _ _) (by rw [e1];exact Sb.sub (List.sublist_append_left _ _)) ?_
     rw [e2];exact .raw _
end order
end Go.Eng
namespace Go.Eng
open Go
variable [bz]
theorem HZ {P:Program} {o:Oper} {a:Act} {K0 K:Act→World→Prop} {G:Act→World→Prop} {Q':Exit→Act→World→Prop} (hK:∀ v w',K0 (a.put o.dst v) w'→K (a.put o.dst v) w') (hd:∀ a' w',K0 a' w'→a'.defers=[]):
 ∀ r,o.upon P a K0 (uS G) r→o.upon P a K Q' r:=by
 intro r h
 unfold Oper.upon at *
 split at h
 ·exact hK _ _ h
 ·exact hK _ _ h
 ·rename_i d w'
  have:=hd _ _ h
  cases CY:o.dst<;>simp [Act.put,CY] at this
 ·refine Calls.mono h ?_
  intro e w' he
  cases e with
  | returned v=>exact hK _ _ he
  | panicked c=>cases he.1
  | outgrown=>obtain ⟨a0,w0,h0⟩:=he;cases h0.1
 ·exact Rows.mono h fun v w' hv=>hK _ _ hv
 ·cases h.1
 ·exact h.elim
theorem Kv {P:Program} {all:Array Oper} {o:Oper} {σ:St} {Q:St→Prop} (hg:o.guard=none) (h:ah P all [o] σ Q) {w:World} {S:Nat→Prop} {a:Act} (r:dm w S σ a) {K:Act→World→Prop} {Q':Exit→Act→World→Prop}
 (hK:∀ v w',QT w S σ.hp Q (a.put o.dst v) w'→K (a.put o.dst v) w'):o.wp P a w K Q':=by
 have:=h w S a r
 unfold wpList at this
 rw [if_pos (by simp [Region.wanted,hg])] at this
 rcases this with h1 | ⟨_,a0,w0,h0,_⟩
 ·refine HZ (G:=QT w S σ.hp Q) (fun v w' hh=>hK v w' hh.2) (fun a' w' hh=>?_) _ h1
  obtain ⟨_,aI,S',_,hr,_⟩:=hh
  exact hr.defers
 ·cases h0
variable {P:Program} {all:Array Oper} {n:Nat} {B:Heap} {tk:List Tok}
def Gv (x:Option AV) (c:(Nat→Bk)→Env) (d:Option Nat) (V:Bk→AV) (i:Nat):(Nat→Bk)→Env:=fun β=>match x with | none=>fQ (c β) d (some (V (β i))) | some _=>c β
inductive L0 (P:Program) (all:Array Oper) (n:Nat) (B:Heap) (tk:List Tok) (dy:List Nat):Nat→List Oper→Env→((Nat→Bk)→Env)→List (Option AV×(Bk→AV))→Env→Prop
 | nil (i:Nat) (e:Env) (c:(Nat→Bk)→Env):L0 P all n B tk dy i [] e c [] e
 | cons {i:Nat} {o:Oper} {l:List Oper} {e e':Env} {c:(Nat→Bk)→Env} {D:List (Option AV×(Bk→AV))} {x:Option AV} {V:Bk→AV} (h:∀ β,∀ X∈rW tk i β,mF P all n (X++B) o (wM e (c β)) (qB tk i β) V (fun b=>iW tk i (mD β i b))) (hv:∀ av,x=some av→∀ b,V b=av) (hx:x=none→dy.contains i=true)
  (k:L0 P all n B tk dy (i+1) l (fQ e o.dst x) (Gv x c o.dst V i) D e'):L0 P all n B tk dy i (o :: l) e c ((x,V) :: D) e'
def vE (β:Nat→Bk):Nat→List Oper→List (Option AV×(Bk→AV))→List (Nat×AV)→List (Nat×AV)
 | i,o :: l,(none,V) :: D,a=>match o.dst with
   | some d=>vE β (i+1) l D ((d,V (β i)) :: a)
   | none=>vE β (i+1) l D a
 | i,_ :: l,(some _,_) :: D,a=>vE β (i+1) l D a
 | _,_,_,a=>a
def AT (P:Program) (all:Array Oper) (n:Nat) (B:Heap) (tk:List Tok) (dy:List Nat) (i:Nat) (l:List Oper) (tm:List (Nat×AV)) (acc:(Nat→Bk)→List (Nat×AV)) (Q:(Nat→Bk)→List (Nat×AV)→Prop):Prop:=
 ∃ D kD,L0 P all n B tk dy i l (lk tm) (fun β=>lk (acc β)) D (lk kD)∧∀ β,Q β (vE β i l D (acc β)++kD)
section rules
variable {dy:List Nat} {i:Nat} {rest:List Oper} {tm:List (Nat×AV)} {acc:(Nat→Bk)→List (Nat×AV)} {Q:(Nat→Bk)→List (Nat×AV)→Prop} {d:Nat} {ty:TypeId} {pos:String} {af:Array Edge} {op:Op}
theorem AT.nil {F:(Nat→Bk)→List (Nat×AV)} (hF:∀ β,F β=acc β++tm) (h:∀ β,Q β (F β)):AT P all n B tk dy i [] tm acc Q:=
 ⟨[],tm,.nil _ _ _,fun β=>by rw [show vE β i [] [] (acc β)=acc β from rfl,← hF];exact h β⟩
theorem AT.UW {o:Oper} {d:Nat} {av:AV} (hd:o.dst=some d) (h:∀ β,∀ X∈rW tk i β,mF P all n (X++B) o (wM (lk tm) (lk (acc β))) (qB tk i β) (fun _=>av) (fun b=>iW tk i (mD β i b))) (k:AT P all n B tk dy (i+1) rest ((d,av) :: tm) acc Q):AT P all n B tk dy i (o :: rest) tm acc Q:=by
 obtain ⟨D,kD,k1,k2⟩:=k
 refine ⟨(some av,fun _=>av) :: D,kD,.cons h (fun dt e b=>Option.some.inj e) (fun e=>by cases e) ?_,k2⟩
 have:fQ (lk tm) o.dst (some av)=lk ((d,av) :: tm):=by
  rw [rU,hd];rfl
 rw [this];exact k1
theorem AT.dyn {o:Oper} {d:Nat} {V:Bk→AV} (hd:o.dst=some d) (CA:lk tm d=none) (Kw:dy.contains i=true) (h:∀ β,∀ X∈rW tk i β,mF P all n (X++B) o (wM (lk tm) (lk (acc β))) (qB tk i β) V (fun b=>iW tk i (mD β i b))) (k:AT P all n B tk dy (i+1) rest tm (fun β=>(d,V (β i)) :: acc β) Q):AT P all n B tk dy i (o :: rest) tm acc Q:=by
 obtain ⟨D,kD,k1,k2⟩:=k
 refine ⟨(none,V) :: D,kD,.cons h (fun dt e b=>by cases e) (fun _=>Kw) ?_,fun β=>?_⟩
 ·have:fQ (lk tm) o.dst none=lk tm:=by
   funext s
   rw [hd]
   simp only [fQ]
   split
   ·rename_i e;subst e;exact CA.symm
   ·rfl
  rw [this]
  have e2:Gv none (fun β=>lk (acc β)) o.dst V i=fun β=>lk ((d,V (β i)) :: acc β):=by
   funext β
   simp only [Gv,hd]
   rw [rU];rfl
  rw [e2];exact k1
 ·have:=k2 β
  simp only [vE,hd]
  exact this
theorem AT.Yn {o:Oper} (hd:o.dst=none) (h:∀ β,∀ X∈rW tk i β,mF P all n (X++B) o (wM (lk tm) (lk (acc β))) (qB tk i β) (fun _=>.raw undef) (fun b=>iW tk i (mD β i b))) (k:AT P all n B tk dy (i+1) rest tm acc Q):AT P all n B tk dy i (o :: rest) tm acc Q:=by
 obtain ⟨D,kD,k1,k2⟩:=k
 refine ⟨(some (.raw undef),fun _=>.raw undef) :: D,kD,.cons h (fun dt e b=>Option.some.inj e) (fun e=>by cases e) ?_,k2⟩
 rw [hd];exact k1
def qD (tk:List Tok) (i j:Nat):Bool:=tk.all fun t=>(match t.prod with | some p=>Nat.blt p i||Nat.ble j p | none=>true)&&(match t.cons with | some p=>Nat.blt p i||Nat.ble j p | none=>true)&&((t.R8.all fun p=>Nat.blt p i||Nat.ble j p)&&t.US.all fun p=>Nat.blt p i||Nat.ble j p)
theorem CZ {i j:Nat} (h:qD tk i j=true) {k:Nat} (h1:i≤k) (h2:k < j) (β:Nat→Bk):qB tk k β=[]:=by
 unfold qB
 rw [List.map_eq_nil_iff,List.filter_eq_nil_iff]
 intro t ht hc
 have:=List.all_eq_true.1 h t ht
 rw [Bool.and_eq_true,Bool.and_eq_true] at this
 replace this:=this.1
 unfold xU at hc
 split at hc
 ·rename_i c Gs
  obtain rfl:c=k:=Nat.eq_of_beq_eq_true hc
  have:=this.2
  rw [Gs] at this
  simp at this;omega
 ·cases hc
theorem AW {i j:Nat} (h:qD tk i j=true) {k:Nat} (h1:i≤k) (h2:k < j) (β:Nat→Bk):iW tk k β=[]:=by
 unfold iW
 rw [List.map_eq_nil_iff,List.filter_eq_nil_iff]
 intro t ht hc
 have:=List.all_eq_true.1 h t ht
 rw [Bool.and_eq_true,Bool.and_eq_true] at this
 replace this:=this.1
 unfold Kq at hc
 split at hc
 ·rename_i c Gs
  obtain rfl:c=k:=Nat.eq_of_beq_eq_true hc
  have:=this.1
  rw [Gs] at this
  simp at this;omega
 ·cases hc
theorem H3 {i j:Nat} (h:qD tk i j=true) {k:Nat} (h1:i≤k) (h2:k < j) (β:Nat→Bk):vD tk k β=[]:=by
 unfold vD
 rw [List.map_eq_nil_iff,List.filter_eq_nil_iff]
 intro t ht hc
 have:=List.all_eq_true.1 h t ht
 rw [Bool.and_eq_true] at this
 have h3:=List.all_eq_true.1 (Bool.and_eq_true_iff.1 this.2).1 k (by simpa [Fw] using hc)
 simp at h3;omega
theorem AX {i j:Nat} (h:qD tk i j=true) {k:Nat} (h1:i≤k) (h2:k < j) (β:Nat→Bk):rW tk k β=[[]]:=by
 have e:tk.filter (JK k)=[]:=by
  rw [List.filter_eq_nil_iff]
  intro t ht hc
  have:=List.all_eq_true.1 h t ht
  rw [Bool.and_eq_true] at this
  have h3:=List.all_eq_true.1 (Bool.and_eq_true_iff.1 this.2).2 k (by simpa [JK] using hc)
  simp at h3;omega
 unfold rW
 rw [e,H3 h h1 h2 β]
theorem r5 (e:Env) (d:Option Nat) (av:AV):fQ e d (some av)=um e d av:=by
 cases d<;>rfl
theorem C0 {o:Oper} {e:Env} {av:AV} (hd:∀ d,o.dst=some d→d < n) (hg:mC all o e true) (h:MV P all n o e B av):mF P all n B o e [] (fun _=>av) (fun _=>[]):=by
 refine ⟨hd,.inl ⟨hg,fun w S a h1 h2 h3 h4 K Q hK=>?_⟩⟩
 exact h w S a h1 h2 h3 h4 K Q (fun v w' S' LV lU=>hK ⟨none,0⟩ v w' S' (LV.Oc h3.slt _) (h3.grow LV) lU)
theorem PK:∀ {l1:List Oper} {e e':Env} {i:Nat} (h:JL P all n B l1 e e') (hn:qD tk i (i+l1.length)=true) {l2:List Oper} {c:(Nat→Bk)→Env} {D:List (Option AV×(Bk→AV))} {e2:Env},L0 P all n B tk dy (i+l1.length) l2 e' c D e2→
 ∃ D1,L0 P all n B tk dy i (l1++l2) e c (D1++D) e2∧D1.length=l1.length∧∀ x∈D1,x.1.isSome=true:=by
 intro l1 e e' i h
 induction h generalizing i with
 | nil e=>intro hn l2 c D e2 k;exact ⟨[],by simpa using k,rfl,by simp⟩
 | @run o l e e' av hg hm hd k ih=>
   intro hn l2 c D e2 kk
   have Kx:qD tk (i+1) (i+1+l.length)=true:=by
    unfold qD at hn ⊢
    rw [List.all_eq_true] at hn ⊢
    intro t ht
    have:=hn t ht
    rw [Bool.and_eq_true,Bool.and_eq_true] at this ⊢
    refine ⟨⟨?_,?_⟩,?_⟩
    ·have h1:=this.1.1
     cases hp:t.prod<;>rw [hp] at h1<;>simp_all<;>omega
    ·have h1:=this.1.2
     cases hp:t.cons<;>rw [hp] at h1<;>simp_all<;>omega
    ·have h1:=this.2
     rw [Bool.and_eq_true,List.all_eq_true,List.all_eq_true] at h1 ⊢
     exact ⟨fun p hp=>by have:=h1.1 p hp;simp at this ⊢;omega,fun p hp=>by have:=h1.2 p hp;simp at this ⊢;omega⟩
   obtain ⟨D1,a1,a2,a3⟩:=ih Kx (l2:=l2) (D:=D) (e2:=e2) (by rw [show i+1+l.length=i+(o :: l).length by simp;omega];exact kk)
   refine ⟨(some av,fun _=>av) :: D1,?_,by simp [a2],?_⟩
   ·refine .cons (fun β X hX=>?_) (fun dt e b=>Option.some.inj e) (fun e=>by cases e) (by rw [r5];exact a1)
    rw [AX hn (Nat.le_refl _) (by simp)] at hX
    obtain rfl:=List.mem_singleton.1 hX
    rw [CZ hn (Nat.le_refl _) (by simp),show (fun b=>iW tk i (mD β i b))=fun _=>[] from funext fun b=>AW hn (Nat.le_refl _) (by simp) _]
    exact (C0 hd hg hm).up
   ·intro x hx
    rcases List.mem_cons.1 hx with rfl | hx
    ·rfl
    ·exact a3 x hx
 | @pass o l e e' hg hd k ih=>
   intro hn l2 c D e2 kk
   have Kx:qD tk (i+1) (i+1+l.length)=true:=by
    unfold qD at hn ⊢
    rw [List.all_eq_true] at hn ⊢
    intro t ht
    have:=hn t ht
    rw [Bool.and_eq_true,Bool.and_eq_true] at this ⊢
    refine ⟨⟨?_,?_⟩,?_⟩
    ·have h1:=this.1.1
     cases hp:t.prod<;>rw [hp] at h1<;>simp_all<;>omega
    ·have h1:=this.1.2
     cases hp:t.cons<;>rw [hp] at h1<;>simp_all<;>omega
    ·have h1:=this.2
     rw [Bool.and_eq_true,List.all_eq_true,List.all_eq_true] at h1 ⊢
     exact ⟨fun p hp=>by have:=h1.1 p hp;simp at this ⊢;omega,fun p hp=>by have:=h1.2 p hp;simp at this ⊢;omega⟩
   obtain ⟨D1,a1,a2,a3⟩:=ih Kx (l2:=l2) (D:=D) (e2:=e2) (by rw [show i+1+l.length=i+(o :: l).length by simp;omega];exact kk)
   refine ⟨(some (.raw undef),fun _=>.raw undef) :: D1,?_,by simp [a2],?_⟩
   ·refine .cons (fun β X hX=>?_) (fun dt e b=>Option.some.inj e) (fun e=>by cases e) (by rw [r5];exact a1)
    rw [AX hn (Nat.le_refl _) (by simp)] at hX
    obtain rfl:=List.mem_singleton.1 hX
    rw [CZ hn (Nat.le_refl _) (by simp),show (fun b=>iW tk i (mD β i b))=fun _=>[] from funext fun b=>AW hn (Nat.le_refl _) (by simp) _]
    exact ⟨hd,.inr ⟨hg.up,fun b=>⟨rfl,rfl⟩⟩⟩
   ·intro x hx
    rcases List.mem_cons.1 hx with rfl | hx
    ·rfl
    ·exact a3 x hx
theorem AY (β:Nat→Bk):∀ {l1:List Oper} {D1:List (Option AV×(Bk→AV))} (i:Nat) {l2:List Oper} {D:List (Option AV×(Bk→AV))} (a:List (Nat×AV)),D1.length=l1.length→(∀ x∈D1,x.1.isSome=true)→vE β i (l1++l2) (D1++D) a=vE β (i+l1.length) l2 D a
 | [],[],i,l2,D,a,_,_=>by simp
 | o :: l1,(some av,V) :: D1,i,l2,D,a,h,hs=>by
   simp only [List.cons_append,vE]
   rw [AY β (i+1) a (by simpa using h) (fun x hx=>hs x (by simp [hx]))]
   simp [Nat.add_assoc,Nat.add_comm 1]
 | o :: l1,(none,V) :: D1,i,l2,D,a,h,hs=>by have:=hs (none,V) (by simp);cases this
 | [],_ :: _,i,l2,D,a,h,hs=>by cases h
 | _ :: _,[],i,l2,D,a,h,hs=>by cases h
theorem AT.am {l l1 l2:List Oper} (m:Nat) (hs:Ab m l=some (l1,l2)) (hn:qD tk i (i+m)=true) (h:AM P all n B l1 tm (fun kD=>AT P all n B tk dy (i+m) l2 kD acc Q)):AT P all n B tk dy i l tm acc Q:=by
 obtain ⟨rfl,rfl⟩:=pg hs
 obtain ⟨vd,h1,D,kD,h2,h3⟩:=h
 obtain ⟨D1,a1,a2,a3⟩:=PK h1 hn h2
 refine ⟨D1++D,kD,a1,fun β=>?_⟩
 rw [AY β i (acc β) a2 a3]
 exact h3 β
theorem ph {o:Oper} {Ti H1:Heap} {V:Bk→AV} {Pi H2:Bk→Heap} (hg:o.guard=none) (hd:∀ d,o.dst=some d→d < n) (h1:nK Ti B=some H1) (h2:∀ b,nK (Pi b) B=some (H2 b))
 (pt:ah P all [o] ⟨n,yL (looks all o) tm,H1⟩ (fun aI=>∃ b vd,aI=⟨n,vd,H2 b⟩∧∀ d,o.dst=some d→lk vd d=some (V b)))
 (hv:o.dst=none→∀ b,V b=.raw undef):mF P all n B o (lk tm) Ti V Pi:=by
 refine ⟨hd,.inl ⟨by simp [mC,hg],fun w S a s1 s2 s3 s4 K Q hK=>?_⟩⟩
 have e1:=kO h1
 rw [e1] at s3 hK
 refine Kv hg pt (pf s1 s2 s3 s4) (fun v w' Sd=>?_)
 obtain ⟨aI,S',⟨b,vd,rfl,Fz⟩,hr,Kt⟩:=Sd
 have e2:=kO (h2 b)
 cases CY:o.dst with
 | some d=>
   have Hh:=hd d CY
   obtain ⟨u,g1,g2⟩:=hr.tm d _ (Fz d CY)
   have hu:u=v:=by
    rw [CY] at g1
    simp [Act.put,s1,Hh] at g1
    exact g1.symm
   rw [hu] at g2
   rw [← CY]
   exact hK b v w' S' (by rw [e2];exact Kt) (by rw [e2];exact hr.hp) g2
 | none=>
   have:a.put none v=a.put o.dst undef:=by rw [CY];rfl
   rw [this]
   exact hK b undef w' S' (by rw [e2];exact Kt) (by rw [e2];exact hr.hp) (by rw [hv CY b];exact .raw _)
theorem AT.xV {av:AV} {Ti H1 Pi H2:Heap} (Er:∀ β,rW tk i β=[[]]) (H4:∀ β,qB tk i β=Ti) (H5:∀ β,iW tk i β=Pi) (h1:nK Ti B=some H1) (h2:nK Pi B=some H2) (hn:Nat.blt d n=true)
 (pt:ah P all [⟨some d,op,ty,pos,af,none⟩] ⟨n,yL (looks all ⟨some d,op,ty,pos,af,none⟩) tm,H1⟩ (fun aI=>∃ vd,aI=⟨n,vd,H2⟩∧lk vd d=some av))
 (k:AT P all n B tk dy (i+1) rest ((d,av) :: tm) acc Q):AT P all n B tk dy i (⟨some d,op,ty,pos,af,none⟩ :: rest) tm acc Q:=by
 refine AT.UW rfl (fun β X hX=>?_) k
 rw [Er β] at hX
 obtain rfl:=List.mem_singleton.1 hX
 rw [List.nil_append,H4 β,show (fun b=>iW tk i (mD β i b))=fun _=>Pi from funext fun b=>H5 _]
 refine mF.up ?_
 refine ph rfl (fun d' uo=>by obtain rfl:=Option.some.inj uo;simpa using hn) h1 (fun _=>h2) ?_ (fun e=>by cases e)
 refine fun w S a r=>fy ?_ _ _ _ (pt w S a r)
 rintro e a' w' ⟨he,aI,S',⟨vd,q1,q2⟩,hh⟩
 exact ⟨he,aI,S',⟨⟨none,0⟩,vd,q1,fun d' uo=>by obtain rfl:=Option.some.inj uo;exact q2⟩,hh⟩
theorem AT.Ey {V:Bk→AV} {Ti H1:Heap} {Pi H2:Bk→Heap} (Er:∀ β,rW tk i β=[[]]) (H4:∀ β,qB tk i β=Ti) (H5:∀ β b,iW tk i (mD β i b)=Pi b) (h1:nK Ti B=some H1) (h2:∀ b,nK (Pi b) B=some (H2 b)) (hn:Nat.blt d n=true) (CA:lk tm d=none) (Kw:dy.contains i=true)
 (pt:ah P all [⟨some d,op,ty,pos,af,none⟩] ⟨n,yL (looks all ⟨some d,op,ty,pos,af,none⟩) tm,H1⟩ (fun aI=>∃ b vd,aI=⟨n,vd,H2 b⟩∧lk vd d=some (V b)))
 (k:AT P all n B tk dy (i+1) rest tm (fun β=>(d,V (β i)) :: acc β) Q):AT P all n B tk dy i (⟨some d,op,ty,pos,af,none⟩ :: rest) tm acc Q:=by
 refine AT.dyn rfl CA Kw (fun β X hX=>?_) k
 rw [Er β] at hX
 obtain rfl:=List.mem_singleton.1 hX
 rw [List.nil_append,H4 β,show (fun b=>iW tk i (mD β i b))=Pi from funext (H5 β)]
 refine mF.up ?_
 refine ph rfl (fun d' uo=>by obtain rfl:=Option.some.inj uo;simpa using hn) h1 h2 ?_ (fun e=>by cases e)
 refine fun w S a r=>fy ?_ _ _ _ (pt w S a r)
 rintro e a' w' ⟨he,aI,S',⟨b,vd,q1,q2⟩,hh⟩
 exact ⟨he,aI,S',⟨b,vd,q1,fun d' uo=>by obtain rfl:=Option.some.inj uo;exact q2⟩,hh⟩
theorem AT.vF {Ti H1 Pi H2:Heap} (Er:∀ β,rW tk i β=[[]]) (H4:∀ β,qB tk i β=Ti) (H5:∀ β,iW tk i β=Pi) (h1:nK Ti B=some H1) (h2:nK Pi B=some H2)
 (pt:ah P all [⟨none,op,ty,pos,af,none⟩] ⟨n,yL (looks all ⟨none,op,ty,pos,af,none⟩) tm,H1⟩ (fun aI=>∃ vd,aI=⟨n,vd,H2⟩))
 (k:AT P all n B tk dy (i+1) rest tm acc Q):AT P all n B tk dy i (⟨none,op,ty,pos,af,none⟩ :: rest) tm acc Q:=by
 refine AT.Yn rfl (fun β X hX=>?_) k
 rw [Er β] at hX
 obtain rfl:=List.mem_singleton.1 hX
 rw [List.nil_append,H4 β,show (fun b=>iW tk i (mD β i b))=fun _=>Pi from funext fun b=>H5 _]
 refine mF.up ?_
 refine ph rfl (fun d' uo=>by cases uo) h1 (fun _=>h2) ?_ (fun _ b=>rfl)
 refine fun w S a r=>fy ?_ _ _ _ (pt w S a r)
 rintro e a' w' ⟨he,aI,S',⟨vd,q1⟩,hh⟩
 exact ⟨he,aI,S',⟨⟨none,0⟩,vd,q1,fun d' uo=>by cases uo⟩,hh⟩
theorem AZ (a b:List (Nat×AV)):lk (a++b)=wM (lk a) (lk b):=by
 funext s
 induction a with
 | nil=>rfl
 | cons x a ih=>
   obtain ⟨k,v⟩:=x
   simp only [List.cons_append,lk,wM] at ih ⊢
   split
   ·rfl
   ·exact ih
theorem AT.rd {av:AV} {Rs H1:Heap} (hr:∀ β,rW tk i β=[Rs]) (h1:nK Rs B=some H1) (H4:∀ β,qB tk i β=[]) (H5:∀ β,iW tk i β=[])
 (q:QV P ⟨some d,op,ty,pos,af,none⟩ ⟨n,yL (looks all ⟨some d,op,ty,pos,af,none⟩) tm,H1⟩ av) (hn:Nat.blt d n=true)
 (k:AT P all n B tk dy (i+1) rest ((d,av) :: tm) acc Q):AT P all n B tk dy i (⟨some d,op,ty,pos,af,none⟩ :: rest) tm acc Q:=by
 refine AT.UW rfl (fun β X hX=>?_) k
 rw [hr β] at hX
 obtain rfl:=List.mem_singleton.1 hX
 rw [kO h1,H4 β,show (fun b=>iW tk i (mD β i b))=fun _=>[] from funext fun b=>H5 _]
 refine mF.up ?_
 refine C0 (fun d' uo=>by obtain rfl:=Option.some.inj uo;simpa using hn) rfl (fun w S a s1 s2 s3 s4 K Q' hK=>?_)
 obtain ⟨v,g1,g2⟩:=q w S a (pf s1 s2 s3 s4)
 show Oper.upon P _ a K Q' _
 rw [g1 w (Ext.refl w)]
 exact hK v w S (Grow.refl s3.slt) g2
end rules
end Go.Eng
namespace Go.Eng
open Go
variable [bz]
theorem L0.yI {P:Program} {all:Array Oper} {n:Nat} {B:Heap} {tk:List Tok} {dy:List Nat} {i:Nat} {l:List Oper} {e e':Env} {c:(Nat→Bk)→Env} {D:List (Option AV×(Bk→AV))} (h:L0 P all n B tk dy i l e c D e'):
 ∃ (en:Nat→Env) (cn:Nat→(Nat→Bk)→Env),en i=e∧cn i=c∧en (i+l.length)=e'∧D.length=l.length∧∀ j o x V,l[j]? =some o→D[j]? =some (x,V)→
   (∀ β,∀ X∈rW tk (i+j) β,mF P all n (X++B) o (wM (en (i+j)) (cn (i+j) β)) (qB tk (i+j) β) V (fun b=>iW tk (i+j) (mD β (i+j) b)))∧en (i+j+1)=fQ (en (i+j)) o.dst x∧(∀ av,x=some av→∀ b,V b=av)∧(x=none→dy.contains (i+j)=true)∧cn (i+j+1)=Gv x (cn (i+j)) o.dst V (i+j):=by
 induction h with
 | nil i e c=>exact ⟨fun _=>e,fun _=>c,rfl,rfl,rfl,rfl,fun j o x V h=>by simp at h⟩
 | @cons i o l e e' c D x V h hv hx k ih=>
   obtain ⟨en,cn,h0,Kn,h1,h2,h3⟩:=ih
   refine ⟨fun k=>if k=i then e else en k,fun k=>if k=i then c else cn k,by simp,by simp,?_,by simp [h2],fun j o' x' V' ho hD=>?_⟩
   ·show (if i+(o :: l).length=i then e else en (i+(o :: l).length))=e'
    rw [if_neg (by simp),← h1]
    congr 1
    simp;omega
   ·match j with
    | 0=>
      simp at ho hD
      obtain ⟨rfl,rfl⟩:=hD
      subst ho
      simp only [Nat.add_zero,if_true]
      refine ⟨h,?_,hv,hx,?_⟩
      ·rw [if_neg (by omega),h0]
      ·rw [if_neg (by omega),Kn]
    | j+1=>
      have:=h3 j o' x' V' (by simpa using ho) (by simpa using hD)
      rw [show i+1+j=i+(j+1) by omega] at this
      simp only
      rw [if_neg (show ¬ i+(j+1)=i by omega),if_neg (show ¬ i+(j+1)+1=i by omega),if_neg (show ¬ i+(j+1)=i by omega),if_neg (show ¬ i+(j+1)+1=i by omega)]
      exact this
def L4 (l:List Oper) (dy:List Nat):Bool:=dy.all fun i=>(List.range l.length).all fun j=>Nat.beq i j||(match l[i]?,l[j]? with
 | some oi,some oj=>(match oi.dst,oj.dst with | some d,some d'=>!Nat.beq d d' | _,_=>true)
 | _,_=>true)
theorem Ez {l:List Oper} {dy:List Nat} (h:L4 l dy=true) {i j:Nat} {oi oj:Oper} {d:Nat} (hi:dy.contains i=true) (zR:i≠j) (h1:l[i]? =some oi) (h2:l[j]? =some oj) (hd:oi.dst=some d):oj.dst≠some d:=by
 intro uo
 have hm:i∈dy:=by simpa using hi
 have hj:j < l.length:=(List.getElem?_eq_some_iff.1 h2).1
 have:=List.all_eq_true.1 (List.all_eq_true.1 h i hm) j (List.mem_range.2 hj)
 rw [h1,h2] at this
 simp only [hd,uo] at this
 have hb:Nat.beq i j=false:=mj zR
 rw [hb] at this
 simp at this
def H6 (tk:List Tok):Heap:=(tk.filter (fun t=>t.prod.isNone)).map (fun t=>t.at (fun _=>⟨none,0⟩))
theorem H7:∀ (a b:List (Nat×AV)) (s:Nat) (av:AV),lk (a++b) s=some av→lk a s=some av∨lk b s=some av
 | [],b,s,av,h=>.inr h
 | (k,v) :: a,b,s,av,h=>by
   simp only [List.cons_append,lk] at h ⊢
   split at h
   ·exact .inl h
   ·exact H7 a b s av h
theorem vG (β:Nat→Bk):∀ (l:List Oper) (D:List (Option AV×(Bk→AV))) (i:Nat) (a:List (Nat×AV)) (s:Nat) (av:AV),lk (vE β i l D a) s=some av→lk a s=some av∨∃ (j:Nat) (o:Oper) (V:Bk→AV),l[j]? =some o∧D[j]? =some (none,V)∧o.dst=some s∧av=V (β (i+j))
 | [],D,i,a,s,av,h=>by
   have:vE β i [] D a=a:=by cases D<;>rfl
   rw [this] at h;exact .inl h
 | o :: l,[],i,a,s,av,h=>.inl h
 | o :: l,(some x,V) :: D,i,a,s,av,h=>by
   simp only [vE] at h
   rcases vG β l D (i+1) a s av h with h | ⟨j,o',V',h1,h2,h3,h4⟩
   ·exact .inl h
   ·exact .inr ⟨j+1,o',V',by simpa using h1,by simpa using h2,h3,by rw [h4];congr 2;omega⟩
 | o :: l,(none,V) :: D,i,a,s,av,h=>by
   simp only [vE] at h
   cases hd:o.dst with
   | none=>
     rw [hd] at h
     rcases vG β l D (i+1) a s av h with h | ⟨j,o',V',h1,h2,h3,h4⟩
     ·exact .inl h
     ·exact .inr ⟨j+1,o',V',by simpa using h1,by simpa using h2,h3,by rw [h4];congr 2;omega⟩
   | some d=>
     rw [hd] at h
     rcases vG β l D (i+1) _ s av h with h5 | ⟨j,o',V',h1,h2,h3,h4⟩
     ·simp only [lk] at h5
      split at h5
      ·rename_i hb
       obtain rfl:d=s:=by simpa using hb
       exact .inr ⟨0,o,V,rfl,rfl,hd,by simpa using (Option.some.inj h5).symm⟩
      ·exact .inl h5
     ·exact .inr ⟨j+1,o',V',by simpa using h1,by simpa using h2,h3,by rw [h4];congr 2;omega⟩
theorem aa.gg {P:Program} {R:St→Prop} {k:List It} {id n:Nat} {tm:List (Nat×AV)} {hp:Heap} {l hd tl:List Oper} (m:Nat) (hm:P.follows .mixedOrders=true) (hs:Ab m l=some (hd,tl)) {A:List Nat} (hA:Aa l.toArray=A) (PB:AN l.toArray m A=true)
 (tk:List Tok) (dy:List Nat) (UX:(PG A m tk&&LZ A m tk)=true) (Yo:L4 hd dy=true) {B H0:Heap} (xp:H6 tk=H0) (Se:zT hp H0 B) {HH:(Nat→Bk)→Heap} (Sf:∀ β,nK (sE tk β) B=some (HH β))
 (h:AT P l.toArray n B tk dy 0 hd tm (fun _=>[]) (fun β kD=>ah P l.toArray tl ⟨n,kD,HH β⟩ (aa P R k))):aa P R (.code (.region id l.toArray true) :: k) ⟨n,tm,hp⟩:=by
 have hB:qj l.toArray m:=⟨A,hA,PB⟩
 have hT:yP l.toArray m tk:=Gr hA (Bool.and_eq_true_iff.1 UX).1
 intro w S a r
 obtain ⟨hl,Gm⟩:=pg hs
 obtain ⟨D,kD,Sg,pt⟩:=h
 obtain ⟨en,cn,e0,Yp,e1,e2,e3⟩:=Sg.yI
 rw [Nat.zero_add,Gm] at e1
 have eF:m≤l.toArray.size:=by simp [hl,Gm]
 let gP:Nat→Option AV:=fun j=>(D[j]?).bind (·.1)
 let V:Nat→Bk→AV:=fun j=>match D[j]? with | some x=>x.2 | none=>fun _=>.nil
 have Ad:∀ j o,j < m→l.toArray[j]? =some o→hd[j]? =some o:=by
  intro j o hj ho
  have:l[j]? =some o:=by simpa using ho
  rw [hl,List.getElem?_append_left (by omega)] at this
  exact this
 have hD:∀ j,j < m→∃ x W,D[j]? =some (x,W)∧gP j=x∧V j=W:=by
  intro j hj
  have:j < D.length:=by rw [e2,Gm];exact hj
  refine ⟨D[j].1,D[j].2,by simp [this],?_,?_⟩
  ·simp [gP,this]
  ·simp [V,this]
 refine wp_region_any hm ?_
 have s9:Ext w {w with drawn:=w.drawn+1}:=Ext.AE w _ (Nat.le_succ _)
 let Q4:Nat→Bk:=fun _=>⟨none,0⟩
 have hf:∀ k,(Array.replicate l.toArray.size false).getD k false=false:=by
  intro k
  rcases Nat.lt_or_ge k l.toArray.size with h | h
  ·simp at h;simp [h]
  ·simp at h;simp [Nat.not_lt.2 h]
 have Kn:∀ k,nM l.toArray gP (lk tm) (Array.replicate l.toArray.size false) k=lk tm:=by
  intro k
  induction k with
  | zero=>rfl
  | succ k ih=>simp only [nM,ih];rw [if_neg (by rw [hf k];simp)]
 have Oa:oX tk (Array.replicate l.toArray.size false) Q4=H0:=by
  rw [← xp]
  unfold oX H6
  have e:tk.filter (vc (Array.replicate l.toArray.size false))=tk.filter (fun t=>t.prod.isNone):=by
   apply List.filter_congr
   intro t ht
   unfold vc
   cases t.prod with
   | none=>
     cases t.cons with
     | none=>rfl
     | some c=>simp only [hf c,Bool.not_false,Bool.and_self,Option.isNone]
   | some p=>simp only [hf p,Bool.false_and,Option.isNone]
  rw [e]
 have j8:=Se.perm
 have Yq:bZ {w with drawn:=w.drawn+1} S (oX tk (Array.replicate l.toArray.size false) Q4++B):=by
  rw [Oa];exact (r.hp.ext s9).perm j8
 have Yr:gY w S hp {w with drawn:=w.drawn+1} S (oX tk (Array.replicate l.toArray.size false) Q4++B):=by
  rw [Oa]
  have:=gY.ext (h:=hp) r.hp.slt s9
  exact {this with new:=fun k hk=>this.new k (by
   obtain ⟨x,hx,hb⟩:=hk
   exact ⟨x,j8.mem_iff.2 hx,hb⟩)}
 refine Gu (P:=P) (all:=l.toArray) (n:=n) (m:=m) (gP:=gP) (en:=en) (cn:=cn) (e:=lk tm) (V:=V) (B:=B) (tk:=tk) hB hT (Ew hA (Bool.and_eq_true_iff.1 UX).2) eF e0 (fun β s=>by rw [Yp];rfl) ?_ ?_ ?_ (w0:=w) (S0:=S) (Q3:=hp) ?_ l.toArray.size (Array.replicate l.toArray.size false) a _ S Q4
  ⟨by simp,(fun k hk=>by rw [hf k] at hk;cases hk),(fun k i o hk=>by rw [hf k] at hk;cases hk)⟩ (by simp [List.count_replicate]) r.size r.defers Yq Yr (by rw [Kn];exact (r.ext s9).tm) (fun j o d hj=>by rw [hf j] at hj;cases hj)
 ·intro i o hi ho β
  obtain ⟨x,W,d1,d2,d3⟩:=hD i hi
  have:=e3 i o x W (Ad i o hi ho) d1
  rw [Nat.zero_add] at this
  rw [d2,d3,this.2.2.2.2];rfl
 ·intro i o hi ho
  obtain ⟨x,W,d1,d2,d3⟩:=hD i hi
  have:=e3 i o x W (Ad i o hi ho) d1
  rw [Nat.zero_add] at this
  rw [d2,d3]
  exact ⟨this.1,this.2.1,this.2.2.1⟩
 ·intro i j oi oj d hi hj zR tU Hj kC Km
  obtain ⟨x,W,d1,d2,d3⟩:=hD i hi
  have:=e3 i oi x W (Ad i oi hi tU) d1
  rw [Nat.zero_add] at this
  exact Ez Yo (this.2.2.2.1 (by rw [← d2];exact kC)) zR (Ad i oi hi tU) (Ad j oj hj Hj) Km
 ·intro β a' w' S' h1 h2 h3 h4 h5 h6
  have LW:l.toArray.toList.drop m=tl:=by
   simp only [hl,← Gm]
   exact List.drop_left
  rw [LW]
  rw [kO (Sf β)] at h3 h4
  rw [e1] at h5
  refine fy ?_ _ _ _ ((pt β).go (h:=hp) (w:=w) (S:=S) ⟨h1,h2,fun s av Fz=>?_,h3⟩ h4)
  ·rintro ex a2 w2 ⟨rfl,D9,S2,q1,q2,q3⟩
   exact ⟨D9,S2,q1,q2,q3⟩
  ·rcases H7 _ _ _ _ Fz with Fz | Fz
   ·rcases vG β hd D 0 [] s av Fz with Fz | ⟨j,o,W,g1,g2,g3,g4⟩
    ·cases Fz
    ·have hj:j < m:=by rw [← Gm];exact (List.getElem?_eq_some_iff.1 g1).1
     obtain ⟨x,W',d1,d2,d3⟩:=hD j hj
     rw [g2] at d1
     obtain ⟨rfl,rfl⟩:=Prod.mk.inj (Option.some.inj d1)
     have Hj:l.toArray[j]? =some o:=by
      have:l[j]? =some o:=by rw [hl,List.getElem?_append_left (by omega)];exact g1
      simpa using this
     obtain ⟨v,k1,k2⟩:=h6 j o s hj Hj d2 g3
     rw [d3] at k2
     rw [g4,Nat.zero_add]
     exact ⟨v,k1,k2⟩
   ·exact h5 s av Fz
def H8 {α:Type}:List α→List α→Option (List α)
 | [],r=>some r
 | x :: l,r=>match H8 l r with
   | some m=>some (x :: m)
   | none=>none
theorem FA {α:Type}:∀ {l r m:List α},H8 l r=some m→l++r=m
 | [],r,m,h=>by simpa [H8] using h
 | x :: l,r,m,h=>by
   simp only [H8] at h
   split at h
   ·rename_i m' hm
    obtain rfl:=Option.some.inj h
    rw [List.cons_append,FA hm]
   ·cases h
theorem AT.ra {P:Program} {all:Array Oper} {n:Nat} {B:Heap} {tk:List Tok} {dy:List Nat} {i:Nat} {tm:List (Nat×AV)} {acc F:(Nat→Bk)→List (Nat×AV)} {Q:(Nat→Bk)→List (Nat×AV)→Prop} (hF:∀ β,H8 (acc β) tm=some (F β)) (h:∀ β,Q β (F β)):AT P all n B tk dy i [] tm acc Q:=
 AT.nil (fun β=>(FA (hF β)).symm) h
theorem A0 {w:World} {S:Nat→Prop} {hp bY:Heap} {b:Bk} {cs lP:List AV} (r:bZ w S hp) (u:iE hp b (.cells cs) b (.cells lP) bY) (hl:lP.length=cs.length) (h1:∀ c∈lP,c.one=true) (lU:∀ (i:Nat) c c' v,cs[i]? =some c→lP[i]? =some c'→At w S c v→At w S c' v):bZ w S bY∧gY w S hp w S bY:=by
 obtain ⟨pre,post,e1,e2⟩:=u.split
 subst e1;subst e2
 have hblk:∀ n,Has (pre++(b,Ob.cells lP) :: post) n↔Has (pre++(b,Ob.cells cs) :: post) n:=by
  intro n
  constructor<;>rintro ⟨x,hx,hb⟩<;>rcases bb.1 hx with rfl | hx
  ·exact ⟨(b,.cells cs),bb.2 (.inl rfl),hb⟩
  ·exact ⟨x,bb.2 (.inr hx),hb⟩
  ·exact ⟨(b,.cells lP),bb.2 (.inl rfl),hb⟩
  ·exact ⟨x,bb.2 (.inr hx),hb⟩
 refine ⟨⟨?_,?_,?_,r.slt,r.gQ⟩,⟨rfl,rfl,rfl,Nat.le_refl _,fun n hn=>⟨hn,rfl⟩,fun n _ _=>⟨rfl,id⟩,fun n hn=>.inl ((hblk n).1 hn),fun _=>Nat.le_refl _⟩⟩
 ·have:=r.nodup
  simpa [List.flatMap_append,List.flatMap_cons,eb,Ob.more] using this
 ·intro x hx
  rcases bb.1 hx with rfl | hx
  ·obtain ⟨h0,n,vs,E,g1,g2,g3,g4⟩:=r.holds (b,.cells cs) (bb.2 (.inl rfl))
   refine ⟨h1,n,vs,E,g1,g2,by rw [hl];exact g3,fun i c v hc hv=>?_⟩
   have hi:i < cs.length:=by rw [← hl];exact (List.getElem?_eq_some_iff.1 hc).1
   have JN:cs[i]? =some cs[i]:=by simp [hi]
   exact lU i cs[i] c v JN hc (g4 i _ v JN hv)
  ·exact r.holds x (bb.2 (.inr hx))
 ·intro x hx n hn
  rcases bb.1 hx with rfl | hx
  ·have:=r.sep (b,.cells cs) (bb.2 (.inl rfl)) n hn
   exact ⟨fun h=>(this.1 h).elim,fun h=>h.elim⟩
  ·exact r.sep x (bb.2 (.inr hx)) n hn
theorem aj.lM {n j:Nat} {tm:List (Nat×AV)} {hp bY:Heap} {T:St→Prop} {b:Bk} {cs lP:List AV} {av dt:AV} (u:iE hp b (.cells cs) b (.cells lP) bY) (hj:cs[j]? =some av) (c:Co hp av dt) (hc:oV (cs.set j dt)=some lP) (h1:jr lP=true) (k:aj ⟨n,tm,bY⟩ T):aj ⟨n,tm,hp⟩ T:=by
 refine aj.step (yy:=⟨n,tm,bY⟩) (fun w S a r=>?_) k
 have e:=j7 hc
 obtain ⟨g1,g2⟩:=A0 r.hp u (by rw [← e];simp) (cQ h1) (fun i c1 c2 v Hn yQ lU=>by
  rw [← e] at yQ
  by_cases zR:j=i
  ·subst zR
   rw [List.getElem?_set_self (List.getElem?_eq_some_iff.1 hj).1] at yQ
   obtain rfl:=Option.some.inj yQ
   rw [hj] at Hn
   obtain rfl:=Option.some.inj Hn
   exact c.at r.hp lU
  ·rw [List.getElem?_set_ne zR,Hn] at yQ
   obtain rfl:=Option.some.inj yQ
   exact lU)
 exact ⟨_,S,rfl,⟨r.size,r.defers,r.tm,g1⟩,g2⟩
theorem aj.BN {n j:Nat} {tm:List (Nat×AV)} {hp:Heap} {bY:Bk→Heap} {T:St→Prop} {b:Bk} {cs:List AV} {lP:Bk→List AV} (sz:Nat) (u:∀ q,iE hp b (.cells cs) b (.cells (lP q)) (bY q)) (hj:cs[j]? =some .nil) (hc:∀ q,oV (cs.set j (.sl sz q 0 0))=some (lP q)) (h1:∀ q,jr (lP q)=true)
 (k:∀ q,aj ⟨n,tm,(q,.arr sz []) :: bY q⟩ T):aj ⟨n,tm,hp⟩ T:=by
 refine aj.step (yy:=⟨n,tm,(⟨none,0⟩,.arr sz []) :: bY ⟨none,0⟩⟩) (fun w S a r=>?_) (k ⟨none,0⟩)
 have e:=j7 (hc ⟨none,0⟩)
 obtain ⟨g1,g2⟩:=A0 r.hp (u ⟨none,0⟩) (by rw [← e];simp) (cQ (h1 _)) (fun i c1 c2 v Hn yQ lU=>by
  rw [← e] at yQ
  by_cases zR:j=i
  ·subst zR
   rw [List.getElem?_set_self (List.getElem?_eq_some_iff.1 hj).1] at yQ
   obtain rfl:=Option.some.inj yQ
   rw [hj] at Hn
   obtain rfl:=Option.some.inj Hn
   cases lU
   exact .yv sz _ rfl
  ·rw [List.getElem?_set_ne zR,Hn] at yQ
   obtain rfl:=Option.some.inj yQ
   exact lU)
 obtain ⟨q1,q2,q3⟩:=oc (b:=⟨none,0⟩) (o:=.arr sz []) g1 (Ext.refl w) id ⟨by simp,by simp,.inl ⟨rfl,rfl⟩⟩ (.inl rfl)
 exact ⟨_,S,rfl,⟨r.size,r.defers,r.tm,q1⟩,g2.trans q2⟩
section rules
variable {P:Program} {all:Array Oper} {rest:List Oper} {n:Nat} {tm:List (Nat×AV)} {hp:Heap} {Q:St→Prop} {d:Nat} {ty:TypeId} {pos:String} {af:Array Edge}
theorem FB {t e yt:TypeId} {x y:Operand} {sz:Nat} {xs:List AV} [ay P t (.slice e)] (hx:bS tm x=some (.list sz xs)) (hy:bS tm y=some .nil) (h0:Nat.blt 0 sz=true) (hn:Nat.blt d n=true)
 (kk:∀ c:Bool,(c=true→xs=[])→ah P all rest ⟨n,(d,.bool c) :: tm,hp⟩ Q):ah P all (⟨some d,.binOp .eql t x y yt,ty,pos,af,none⟩ :: rest) ⟨n,tm,hp⟩ Q:=by
 refine ah.Cv rfl fun w S a r=>?_
 obtain ⟨oa,cap,vs,e1,e2,e3,e4,e5,e6⟩:=(aN (σ:=⟨n,tm,hp⟩) r hx).sM
 have e7:=(aN (σ:=⟨n,tm,hp⟩) r hy).By
 refine ⟨.bool oa.isNone,w,S,⟨n,(d,.bool oa.isNone) :: tm,hp⟩,?_,r.put hn (.bool _),gY.refl _ _ _,kk _ (fun hc=>?_)⟩
 ·have h2:(Op.equal t (.slice oa xs.length cap) (.slice none 0 0)).run P w=.ok oa.isNone w:=by
   show (Op.equalIn (9999+1) t _ _).run P w=_
   rw [Op.equalIn]
   cases oa with
   | none=>simp [run_underlying (ay.h (P:=P) (t:=t))]
   | some ad=>simp [run_underlying (ay.h (P:=P) (t:=t))]
  have h3:(binOp .eql t (.slice oa xs.length cap) (.slice none 0 0)).run P w=.ok (.bool oa.isNone) w:=by
   rw [show binOp .eql t (.slice oa xs.length cap) (.slice none 0 0)=(do pure (.bool (← Op.equal t (.slice oa xs.length cap) (.slice none 0 0)))) from rfl]
   simp [h2]
  simp [execOp,e1,e7,eqGuard_at_slice,h3]
 ·have Yt:oa=none:=by simpa using hc
  have Yu:vs=[]:=by
   cases vs with
   | nil=>rfl
   | cons v vs=>
     obtain ⟨ad,h1,_⟩:=e5 0 v rfl
     rw [Yt] at h1;cases h1
  rw [Yu,bu e2] at e3
  have Yv:0 < sz:=by simpa using h0
  have:xs.length=0:=by
   rcases Nat.eq_zero_or_pos xs.length with h | h
   ·exact h
   ·have:=Nat.mul_pos h Yv;simp at e3;omega
  exact List.length_eq_zero_iff.1 this
end rules
theorem vH {α:Type} {p r:List α} (h:app [] p=some r) (hp:p=[]):r=[]:=by
 subst hp
 obtain ⟨_,e⟩:=CT h
 simpa using e
end Go.Eng
